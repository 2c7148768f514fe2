/- Words and laws on which the row of 'TableOwn' hangs (its '..UptoSaid': bulk at most 1048576). -/
import Derived.Test.YtoaldfpngihhcaaHTableOwnA
import Derived.WalkSpells
namespace Go.Proofs.Ytoaldfpngihhcaa.G
open Go Go.RowKit
set_option linter.unusedVariables false
set_option linter.unusedSimpArgs false
section
variable {P : Program} {w w' : World} {c : Nat → Nat} {j j2 i : Nat} {own own2 : Bool} {A B : Option Addr} {cap cap2 : Nat} {t e ty : TypeId} {bytes : Nat} {z : Value} {α : Type} {k : K α} {xs ys : List α}
theorem run_appendT (T : ET P t e k.sz bytes z) (h1 : SL true k j i c w A cap xs) (h2 : SL own2 k j2 i c w B cap2 ys) (hb : (xs.length + ys.length) * bytes ≤ 140737488355328) (hm : xs.length + ys.length ≤ maxLen) (hij : i ≠ j) :
  ∃ A' cap' w', (Builtin.append_ #[t, t] ty #[.slice A xs.length cap, .slice B ys.length cap2]).run P w = .ok (.slice A' (xs ++ ys).length cap') w' ∧
   ∃ c', Ev (fun x => x = j) c w c' w' ∧ SL true k j i c' w' A' cap' (xs ++ ys) ∧ (∀ m, CB m c w → j < m → CB m c' w') ∧ ((A' = A ∧ cap' = cap) ∨ (Ev No c w c' w' ∧ w'.heap.size = w.heap.size + 1 ∧ ∃ q, A' = some q ∧ q.block = w.heap.size)) := by
 obtain ⟨cs, a1, a2, a3, a4, a5⟩ := h1
 obtain ⟨ds, b1, b2, b3, b4, b5⟩ := h2
 obtain ⟨inf, hi, hz, hs, hby⟩ := T.hi
 subst hby
 have hp := k.pos
 have xl : xs.length * k.sz ≤ cs.length := by rw [a3]; exact Nat.mul_le_mul_right _ a1
 have yl : ys.length * k.sz ≤ ds.length := by rw [b3]; exact Nat.mul_le_mul_right _ b1
 have hlen : (xs ++ ys).length = xs.length + ys.length := by simp
 have reps : ∀ (c' : Nat → Nat) (w' : World) (r : List Value), Ev (fun x => x = j) c w c' w' → ∀ n (h : n < (xs ++ ys).length), k.rep i c' w' (((cs.take (xs.length * k.sz) ++ (ds.take (ys.length * k.sz) ++ r)).drop (n * k.sz)).take k.sz) (xs ++ ys)[n] := by
  intro c' w' r E n hn
  by_cases q : n < xs.length
  ·rw [blk_old q xl, List.getElem_append_left q]; exact k.ev (a5 n q) E hij
  ·obtain ⟨q', rfl⟩ : ∃ q', n = xs.length + q' := ⟨n - xs.length, by omega⟩
   have hq' : q' < ys.length := by simp at hn; omega
   rw [blk_new (by simp; omega) hq' yl, List.getElem_append_right (by omega)]
   simp only [Nat.add_sub_cancel_left]
   exact k.ev (b5 q' hq') E hij
 have f2 := fun w1 hw => run_first (P := P) (len := ys.length) (n := ys.length) b4 b3 b1 w1 hw
 by_cases room : xs.length + ys.length ≤ cap
 ·rcases a4 with a4 | ⟨a, rfl, a4⟩
  ·have hc0 : cap = 0 := by
    subst a4
    have h : cap * k.sz = 0 := a3.symm
    rcases Nat.mul_eq_zero.1 h with h | h
    ·exact h
    ·omega
   have x0 : xs = [] := List.eq_nil_of_length_eq_zero (by omega)
   have y0 : ys = [] := List.eq_nil_of_length_eq_zero (by omega)
   subst x0 y0 hc0
   refine ⟨A, 0, w, ?_, c, Ev.refl, ⟨cs, by simp, by simp, a3, .inl a4, fun n hn => by simp at hn⟩, fun m hm _ => hm, .inl ⟨rfl, rfl⟩⟩
   have f3 := f2 w rfl
   simp at f3
   cases A <;> simp [Builtin.append_, run_underlying T.ht, sizeOf, typeInfo, hi, hs, Builtin.lenOf, f3, storeCells]
  ·obtain ⟨w1, hr, E, hat, hsz⟩ := run_lay (P := P) (n := xs.length * k.sz) (us := ds.take (ys.length * k.sz)) a4 (by
     have : (xs.length + ys.length) * k.sz ≤ cap * k.sz := Nat.mul_le_mul_right _ room
     rw [Nat.add_mul] at this
     simp; omega) (fun u hu => by
     obtain ⟨q, hq, rfl⟩ := List.getElem_of_mem hu
     simp at hq
     have hlt : q / k.sz < ys.length := Nat.div_lt_of_lt_mul (by rw [Nat.mul_comm]; omega)
     have hone := k.one (b5 (q / k.sz) hlt)
     apply hone
     rw [List.getElem_take]
     have e1 : ((ds.drop (q / k.sz * k.sz)).take k.sz)[q % k.sz]? = some ds[q] := by
      rw [List.getElem?_take_of_lt (Nat.mod_lt _ hp), List.getElem?_drop, Nat.div_add_mod' q k.sz, List.getElem?_eq_getElem]
     exact List.mem_of_getElem? e1)
   refine ⟨some a, cap, w1, ?_, c, E, ⟨lay cs (xs.length * k.sz) (ds.take (ys.length * k.sz)), by rw [hlen]; exact room, a2, ?_, .inr ⟨a, rfl, hat⟩, fun n hn => ?_⟩, fun m hm _ => hm.size hsz, .inl ⟨rfl, rfl⟩⟩
   ·have f3 := f2 w rfl
    simp only [Builtin.append_, Sem.run_bind]
    simp [run_underlying T.ht, sizeOf, typeInfo, hi, hs, Builtin.lenOf, room, f3, hr]
   ·rw [lay_length]
    ·exact a3
    ·have : (xs.length + ys.length) * k.sz ≤ cap * k.sz := Nat.mul_le_mul_right _ room
     rw [Nat.add_mul] at this
     simp; omega
   ·have := reps c w1 (cs.drop (xs.length * k.sz + (ds.take (ys.length * k.sz)).length)) E n hn
    unfold lay
    rw [List.append_assoc]; exact this
 ·have f1 := fun w1 hw => run_first (P := P) (len := xs.length) (n := xs.length) a4 a3 a1 w1 hw
  have hg : cap < xs.length + ys.length := by omega
  have h63' : ¬ (9223372036854775807 < ((xs.length : Int) + (ys.length : Int))) := by simp only [maxLen] at hm; omega
  have h48' : ¬ (281474976710656 < Builtin.nextslicecap (xs.length + ys.length) cap * inf.bytes) := by have := growslice_fits hg hb; omega
  have g1 := grownCap_ge w (xs.length + ys.length) cap e
  have g2 := grownCap_le_maxLen w (xs.length + ys.length) cap e hm
  have e1 := f1 w.drew rfl
  have e2 := f2 w.drew rfl
  obtain ⟨n1, n2, n3⟩ := alloc_new (M := fun x => x = j) c w.drew ((cs.take (xs.length * k.sz)).toArray ++ (ds.take (ys.length * k.sz)).toArray ++ Builtin.zeroCells z.cells (grownCap w (xs.length + ys.length) cap e - (xs.length + ys.length))) e (0, 0) j true (fun _ k _ => by simp)
  refine ⟨some ⟨w.heap.size, 0, none⟩, grownCap w (xs.length + ys.length) cap e, _, ?_, _, ⟨n1.os, n1.tape, n1.out, n1.size, n1.col, n1.blk⟩, ⟨_, by rw [hlen]; exact g1, g2, ?_, .inr ⟨_, rfl, n2⟩, fun n hn => ?_⟩, fun m hm hj => n3 m (fun k hk => hm k hk) hj, .inr ⟨⟨n1.os, n1.tape, n1.out, n1.size, fun k hk _ => (alloc_new (M := No) c w.drew #[] e (0, 0) j false (fun q => by cases q)).1.col k hk (fun q => q), fun k hk _ => (alloc_new (M := No) c w.drew _ e (0, 0) j false (fun q => by cases q)).1.blk k hk (fun q => q)⟩, World.size_alloc .., _, rfl, rfl⟩⟩
  ·rw [hlen]
   simp [Builtin.append_, run_underlying T.ht, sizeOf, typeInfo, zeroValue, hi, hz, hs, Builtin.lenOf, room, h63', h48', Question.forced, e1, e2, newRow, grownCap]
   congr 2
   apply Array.ext'
   simp [List.append_assoc]
  ·have hzz : (Builtin.zeroCells z.cells (grownCap w (xs.length + ys.length) cap e - (xs.length + ys.length))).size = (grownCap w (xs.length + ys.length) cap e - (xs.length + ys.length)) * k.sz := by rw [← T.hz]; simp [Builtin.zeroCells]
   simp [hzz]
   rw [Nat.min_eq_left xl, Nat.min_eq_left yl, ← Nat.add_mul, ← Nat.add_mul]
   congr 1; omega
  ·have := reps _ _ (Builtin.zeroCells z.cells (grownCap w (xs.length + ys.length) cap e - (xs.length + ys.length))).toList (⟨n1.os, n1.tape, n1.out, n1.size, n1.col, n1.blk⟩ : Ev (fun x => x = j) c w _ _) n hn
   simpa [List.append_assoc] using this
end
def Kval : K Value where
 sz := 1
 pos := by decide
 rep := fun _ _ _ cs v => cs = [v] ∧ v.oneCell' = true
 ev := fun h _ _ => h
 rc := fun h _ => h
 len := fun h => by rw [h.1]; rfl
 one := fun h v hv => by rw [h.1] at hv; simp at hv; subst hv; exact h.2
section
variable {α : Type} {e : KO α} {i : Nat} {c : Nat → Nat} {w : World} {css : List (List Value)} {xs : List α} {hole : Nat → Prop}
theorem GRh.weak {hole' : Nat → Prop} (h : GRh e i c w css xs hole) (hh : ∀ k, hole k → hole' k) : GRh e i c w css xs hole' := by
 obtain ⟨h1, h2, d, h3⟩ := h
 exact ⟨h1, h2, d, fun k a b hk => h3 k a b fun q => hk (hh k q)⟩
theorem GRh.borrow (h : GRh e i c w css xs hole) {n : Nat} (hn : n < xs.length) (hnh : ¬ hole n) (ξ : Nat → Nat) (hξ : ∀ q, q < e.np → ξ q ≠ i ∧ 0 < ξ q) :
  ∃ c', (∀ b, c b ≠ i → c' b = c b) ∧ (∀ b, c' b = c b ∨ (c b = i ∧ ∃ q, q < e.np ∧ c' b = ξ q)) ∧ (∃ h' : n < css.length, e.rep ξ c' w css[n] xs[n]) ∧ GRh e i c' w css xs (fun k => hole k ∨ k = n) := by
 obtain ⟨h1, h2, d, h3⟩ := h
 have hn' : n < css.length := by omega
 let P : Nat → Prop := fun b => c b = i ∧ ∃ q, q < e.np ∧ d b = n * e.np + q
 have hdec : ∀ b, Decidable (P b) := fun b => Classical.propDecidable _
 let c' : Nat → Nat := fun b => @ite _ (P b) (hdec b) (ξ (d b - n * e.np)) (c b)
 have hc : ∀ b q, q < e.np → c b = i → d b = n * e.np + q → c' b = ξ q := fun b q hq hi hd => by
  show @ite _ (P b) (hdec b) _ _ = _
  rw [if_pos (show P b from ⟨hi, q, hq, hd⟩), hd]
  congr 1; omega
 have ho : ∀ b, ¬ P b → c' b = c b := fun b hp => if_neg hp
 refine ⟨c', fun b hb => ho b fun p => hb p.1, fun b => ?_, ⟨hn', e.rc (h3 n hn hn' hnh) (fun q hq b hb => ?_) (fun b hb => ?_) (fun q hq => (hξ q hq).2)⟩, h1, h2, d, fun k a b hk => e.rc (h3 k a b (fun q => hk (.inl q))) (fun q hq b hb => ?_) (fun b hb => ?_) (fun _ _ => Nat.succ_pos _)⟩
 ·by_cases p : P b
  ·obtain ⟨p1, q, hq, p2⟩ := p
   exact .inr ⟨p1, q, hq, hc b q hq p1 p2⟩
  ·exact .inl (ho b p)
 ·obtain ⟨e1, e2⟩ := sub_eq hb
  exact hc b q hq e1 e2
 ·obtain ⟨e1, e2⟩ := sub_zero hb
  rw [ho b fun p => e2 p.1]; exact e1
 ·obtain ⟨e1, e2⟩ := sub_eq hb
  have hnp : ¬ P b := fun ⟨_, q', hq', hd⟩ => hk (.inr (idx_inj hq hq' (by omega)).1)
  exact sub_mk ((ho b hnp).trans e1) e2
 ·obtain ⟨e1, e2⟩ := sub_zero hb
  exact sub_zero' ((ho b fun p => e2 p.1).trans e1) h1
theorem GRh.fillH {n : Nat} (h : GRh e i c w css xs (fun k => hole k ∨ k = n)) {ξ : Nat → Nat} {ds : List Value} {y : α} (hy : e.rep ξ c w ds y) (hξ : ∀ q, q < e.np → ξ q ≠ i ∧ 0 < ξ q) (hinj : ∀ q q', q < e.np → q' < e.np → ξ q = ξ q' → q = q') :
  ∃ c', (∀ b, (∀ q, q < e.np → c b ≠ ξ q) → c' b = c b) ∧ (∀ b, c' b = c b ∨ c' b = i) ∧ GRh e i c' w (css.set n ds) (xs.set n y) hole := by
 obtain ⟨h1, h2, d, h3⟩ := h
 let P : Nat → Prop := fun b => ∃ q, q < e.np ∧ c b = ξ q
 have hdec : ∀ b, Decidable (P b) := fun b => Classical.propDecidable _
 let c' : Nat → Nat := fun b => @ite _ (P b) (hdec b) i (c b)
 let d' : Nat → Nat := fun b => @dite _ (P b) (hdec b) (fun p => n * e.np + Classical.choose p) (fun _ => d b)
 have hc : ∀ b, P b → c' b = i := fun b p => if_pos p
 have ho : ∀ b, ¬ P b → c' b = c b := fun b p => if_neg p
 have hd : ∀ b q, q < e.np → c b = ξ q → d' b = n * e.np + q := fun b q hq hb => by
  have p : P b := ⟨q, hq, hb⟩
  show @dite _ (P b) (hdec b) _ _ = _
  rw [dif_pos p]
  have hs := Classical.choose_spec p
  rw [hinj _ _ hs.1 hq (hs.2.symm.trans hb)]
 have hdo : ∀ b, ¬ P b → d' b = d b := fun b p => dif_neg p
 refine ⟨c', fun b hb => ho b fun ⟨q, hq, p⟩ => hb q hq p, fun b => ?_, h1, by simpa using h2, d', fun k a b hnk => ?_⟩
 ·by_cases p : P b
  ·exact .inr (hc b p)
  ·exact .inl (ho b p)
 ·rw [List.length_set] at a b
  by_cases hk : k = n
  ·subst hk
   simp only [List.getElem_set_self]
   refine e.rc hy (fun q hq b hb => sub_mk (hc b ⟨q, hq, hb⟩) (hd b q hq hb)) (fun b hb => sub_zero' ?_ h1) (fun _ _ => Nat.succ_pos _)
   rw [ho b fun ⟨q, hq, p⟩ => by have := (hξ q hq).2; omega]; exact hb
  ·rw [List.getElem_set_ne (fun e => hk e.symm), List.getElem_set_ne (fun e => hk e.symm)]
   refine e.rc (h3 k a b fun q => q.elim hnk hk) (fun q hq b hb => ?_) (fun b hb => ?_) (fun _ _ => Nat.succ_pos _)
   ·obtain ⟨e1, e2⟩ := sub_eq hb
    have hp : ¬ P b := fun ⟨q', hq', p⟩ => (hξ q' hq').1 (p.symm.trans e1)
    exact sub_mk ((ho b hp).trans e1) ((hdo b hp).trans e2)
   ·obtain ⟨e1, e2⟩ := sub_zero hb
    have hp : ¬ P b := fun ⟨q', hq', p⟩ => by have := (hξ q' hq').2; omega
    exact sub_zero' ((ho b hp).trans e1) h1
end
section
variable {α : Type} {e : K α} {i i' j j' y y' z X n cap C0 C D : Nat} {c c' : Nat → Nat} {w w' : World} {A A0 B : Option Addr} {xss : List (List α)} {xs ys : List α} {M : Nat → Prop} {hole : Nat → Prop} {Hs : List Value} {own : Bool}
def one1 (v : Value) : List Value := [v]
def SP (e : K α) (j y : Nat) (c : Nat → Nat) (w : World) (A : Option Addr) (cap : Nat) (xss : List (List α)) (X : Nat) (hole : Nat → Prop := noHole) : Prop :=
 ∃ Hs : List Value, SL true Kval j 0 c w A cap Hs ∧ GRh (KOsl e) y c w (Hs.map one1) xss (fun k => k < X ∨ hole k) ∧ ∀ k (h : k < xss.length), k < X → ∃ B D, Hs[k]? = some (.slice B (xss[k]).length D) ∧ SL false e 0 0 c w B D xss[k]
theorem GRh.hl (h : GRh (KOsl e) y c w (Hs.map one1) xss hole) : Hs.length = xss.length := by have := h.2.1; simpa using this
theorem SP.lenB (h : SP e j y c w A cap xss X hole) : xss.length ≤ maxLen := by
 obtain ⟨Hs, h1, h2, _⟩ := h
 have := h1.lenB; rw [h2.hl] at this; exact this
theorem SP.ev (h : SP e j y c w A cap xss X hole) (E : Ev M c w c' w') (hj : ¬ M j := by first | exact nq | exact ne_zm | exact mm) (hy : ¬ M y := by first | exact nq | exact ne_zm | exact mm) (h0 : ¬ M 0 := by first | exact nq | exact ne_zm | exact mm) : SP e j y c' w' A cap xss X hole := by
 obtain ⟨Hs, h1, h2, h3⟩ := h
 exact ⟨Hs, h1.ev E hj h0, h2.ev E hy h0, fun k a b => by obtain ⟨B, D, g1, g2⟩ := h3 k a b; exact ⟨B, D, g1, g2.ev E h0 h0⟩⟩
theorem SP.rc (h : SP e j y c w A cap xss X hole) (hj : ∀ k, c k = j → c' k = j') (hy : ∀ k, c k = y → c' k = y') (h0 : ∀ k, c k = 0 → c' k = 0) (hp : 0 < y') : SP e j' y' c' w A cap xss X hole := by
 obtain ⟨Hs, h1, h2, h3⟩ := h
 exact ⟨Hs, h1.rc hj h0, h2.rc hy h0 hp, fun k a b => by obtain ⟨B, D, g1, g2⟩ := h3 k a b; exact ⟨B, D, g1, g2.rc h0 h0⟩⟩
theorem SP.nil (hy : 0 < y) : SP e j y c w none 0 [] 0 := ⟨[], SL.nil, (GR.nil hy).weak fun k h => h.elim, fun k h => absurd h (by simp)⟩
theorem SP.mk (h : SL true Kval j 0 c w A cap Hs) (g : GR (KOsl e) y c w (Hs.map one1) xss) : SP e j y c w A cap xss 0 := ⟨Hs, h, GRh.weak g fun k h => h.elim, fun k _ h => absurd h (Nat.not_lt_zero k)⟩
theorem SP.open (h : SP e j y c w A cap xss 0) : ∃ Hs, Hs.length = xss.length ∧ SL true Kval j 0 c w A cap Hs ∧ GR (KOsl e) y c w (Hs.map one1) xss := by
 obtain ⟨Hs, h1, h2, _⟩ := h
 exact ⟨Hs, h2.hl, h1, h2.weak fun k h => h.elim (fun q => absurd q (Nat.not_lt_zero k)) id⟩
theorem GP.push (h : GR (KOsl e) y c w (Hs.map one1) xss) (hs : SL true e z 0 c w B D ys) (hz : z ≠ y ∧ 0 < z) :
  ∃ c', (∀ b, c b ≠ z → c' b = c b) ∧ (∀ b, c' b = c b ∨ c' b = y) ∧ GR (KOsl e) y c' w ((Hs ++ [Value.slice B ys.length D]).map one1) (xss ++ [ys]) := by
 obtain ⟨c', a1, a2, a3⟩ := GR.push (e := KOsl e) h (ξ := fun _ => z) (ds := [Value.slice B ys.length D]) ⟨B, D, rfl, hs⟩ (fun q _ => hz) (fun q q' hq hq' _ => by have : (KOsl e).np = 1 := rfl; omega)
 exact ⟨c', fun b hb => a1 b (fun q _ => hb), a2, by rw [List.map_append]; exact a3⟩
theorem SP.view (h : SP e j y c w A cap xss 0) (hf : ∀ {c w cs x}, e.rep 0 c w cs x → e.rep y c w cs x) : SL false (Kslice e) j y c w A cap xss := by
 obtain ⟨Hs, hl, ⟨cs, g1, g2, g3, g4, g5⟩, h2⟩ := h.open
 refine ⟨cs, by omega, g2, g3, g4.imp id (fun ⟨a, q, r⟩ => ⟨a, q, r.r⟩), fun n hn => ?_⟩
 have hn' : n < Hs.length := by omega
 obtain ⟨B, D, q1, q2⟩ := GRh.read h2 hn (by simpa using hn') (fun q => q)
 have h5 := (g5 n hn').1
 refine ⟨B, D, ?_, ?_⟩
 ·have e1 : (Kslice e).sz = 1 := rfl
  have e2 : Kval.sz = 1 := rfl
  rw [e1]; rw [e2] at h5
  rw [h5]
  simpa [one1] using q1
 ·obtain ⟨cs, a1, a2, a3, a4, a5⟩ := q2.r
  exact ⟨cs, a1, a2, a3, a4, fun n hn => hf (a5 n hn)⟩
theorem SP.cell (h : SL own Kval j 0 c w A cap Hs) {k : Nat} (hk : k < Hs.length) : ∃ ad, A = some ad ∧ AT own j c w (ad.add (k * 1)) [Hs[k]] := by
 obtain ⟨cs, g1, g2, g3, g4, g5⟩ := h
 have e2 : Kval.sz = 1 := rfl
 rw [e2, Nat.mul_one] at g3
 rcases g4 with rfl | ⟨ad, rfl, hat⟩
 ·simp at g3; omega
 ·refine ⟨ad, rfl, ?_⟩
  have := hat.sub (k * 1) 1 (by omega)
  have h5 := (g5 k hk).1
  rw [e2] at h5
  rwa [h5] at this
theorem SP.lend [Inhabited (List α)] (h : SP e j y c w A cap xss X) (k : Int) (h0 : 0 ≤ k) (h1 : k < xss.length) (hX : X ≤ k.toNat) (hz : z ≠ y ∧ 0 < z) (hjy : j ≠ y) :
  ∃ c', (∀ b, c b ≠ y → c' b = c b) ∧ (∀ b, c' b = c b ∨ c' b = z) ∧ ∃ ad B D, A = some ad ∧ AT true j c' w (ad.add (k.toNat * 1)) [Value.slice B (rd xss k).length D] ∧ SL true e z 0 c' w B D (rd xss k) ∧ SP e j y c' w A cap xss X (fun q => q = k.toNat) := by
 obtain ⟨Hs, g1, g2, g3⟩ := h
 have hk : k.toNat < xss.length := by omega
 have hl := g2.hl
 have hk' : k.toNat < Hs.length := by omega
 have hy := g2.1
 obtain ⟨c', a1, a2, ⟨hq, B, D, a3, a4⟩, a5⟩ := GRh.borrow g2 hk (by rintro (q | q); exact absurd q (by omega); exact q) (fun _ => z) (fun q _ => hz)
 have hj : ∀ b, c b = j → c' b = j := fun b hb => (a1 b (by rw [hb]; exact hjy)).trans hb
 have h00 : ∀ b, c b = 0 → c' b = 0 := fun b hb => (a1 b (by rw [hb]; omega)).trans hb
 obtain ⟨ad, rfl, hat⟩ := SP.cell g1 hk'
 have er : rd xss k = xss[k.toNat] := by unfold rd; rw [List.getD_eq_getElem?_getD, List.getElem?_eq_getElem hk]; rfl
 have eh : Hs[k.toNat] = Value.slice B (xss[k.toNat]).length D := by simpa [one1] using a3
 refine ⟨c', a1, fun b => (a2 b).imp id (fun ⟨_, _, _, q⟩ => q), ad, B, D, rfl, ?_, ?_, Hs, g1.rc hj h00, a5.weak ?_, fun q a b => by obtain ⟨B, D, r1, r2⟩ := g3 q a b; exact ⟨B, D, r1, r2.rc h00 h00⟩⟩
 ·rw [er, ← eh]; exact hat.rc hj
 ·rw [er]; exact a4
 ·rintro q ((r | r) | r)
  ·exact .inl r
  ·exact r.elim
  ·exact .inr r
theorem AT.cell_eq {own' : Bool} {p : Addr} {u v : Value} (h1 : AT own j c w p [u]) (h2 : AT own' j' c' w p [v]) : u = v := by
 have a := h1.cell0 (v := u) rfl
 have b := h2.cell0 (v := v) rfl
 exact Option.some.inj (a.symm.trans b)
theorem SP.back [Inhabited (List α)] {k : Int} {ad : Addr} (h : SP e j y c w A cap xss X (fun q => q = k.toNat)) (h0 : 0 ≤ k) (h1 : k < xss.length) (hX : X ≤ k.toNat) (hA : A = some ad) (hat : AT own i c w (ad.add (k.toNat * 1)) [Value.slice B ys.length D]) (hs : SL true e z 0 c w B D ys) (hz : z ≠ y ∧ 0 < z) (hjz : j ≠ z) :
  ∃ c', (∀ b, c b ≠ z → c' b = c b) ∧ (∀ b, c' b = c b ∨ c' b = y) ∧ SP e j y c' w A cap (xss.set k.toNat ys) X := by
 obtain ⟨Hs, g1, g2, g3⟩ := h
 have hl := g2.hl
 have hk : k.toNat < xss.length := by omega
 have hk' : k.toNat < Hs.length := by omega
 obtain ⟨c', a1, a2, a3⟩ := GRh.fillH (hole := fun q => q < X ∨ noHole q) (n := k.toNat) (g2.weak (by rintro q (r | r); exact .inl (.inl r); exact .inr r)) (ξ := fun _ => z) (ds := [Value.slice B ys.length D]) ⟨B, D, rfl, hs⟩ (fun q _ => hz) (fun q q' hq hq' _ => by have : (KOsl e).np = 1 := rfl; omega)
 have a1 : ∀ b, c b ≠ z → c' b = c b := fun b hb => a1 b (fun q _ => hb)
 have hj : ∀ b, c b = j → c' b = j := fun b hb => (a1 b (by rw [hb]; exact hjz)).trans hb
 have h00 : ∀ b, c b = 0 → c' b = 0 := fun b hb => (a1 b (by rw [hb]; omega)).trans hb
 obtain ⟨ad', q1, hat'⟩ := SP.cell g1 hk'
 rw [hA] at q1
 obtain rfl := Option.some.inj q1
 have eh := hat'.cell_eq hat
 have es : (Hs.map one1).set k.toNat [Value.slice B ys.length D] = Hs.map one1 := by
  rw [← eh]
  have : Hs.set k.toNat Hs[k.toNat] = Hs := List.set_getElem_self hk'
  have h2 := congrArg (List.map one1) this
  rw [List.map_set] at h2
  exact h2
 rw [es] at a3
 refine ⟨c', a1, a2, Hs, g1.rc hj h00, a3, fun q a b => ?_⟩
 have a' : q < xss.length := by simpa using a
 obtain ⟨B, D, r1, r2⟩ := g3 q a' b
 have hne : k.toNat ≠ q := by omega
 rw [List.getElem_set_ne hne]
 exact ⟨B, D, r1, r2.rc h00 h00⟩
def SPT (e : K α) (j y : Nat) (c : Nat → Nat) (w : World) (A : Option Addr) (cap : Nat) (xss : List (List α)) (X : Nat) (B : Option Addr) (D : Nat) (xs : List α) : Prop :=
 ∃ Hs : List Value, SL true Kval j 0 c w A cap Hs ∧ GRh (KOsl e) y c w (Hs.map one1) xss (fun k => k < X + 1) ∧ (∀ k (h : k < xss.length), k < X → ∃ B D, Hs[k]? = some (.slice B (xss[k]).length D) ∧ SL false e 0 0 c w B D xss[k]) ∧ Hs[X]? = some (.slice B xs.length D) ∧ xss[X]? = some xs
theorem SPT.ev (h : SPT e j y c w A cap xss X B D xs) (E : Ev M c w c' w') (hj : ¬ M j := by first | exact nq | exact ne_zm | exact mm) (hy : ¬ M y := by first | exact nq | exact ne_zm | exact mm) (h0 : ¬ M 0 := by first | exact nq | exact ne_zm | exact mm) : SPT e j y c' w' A cap xss X B D xs := by
 obtain ⟨Hs, h1, h2, h3, h4⟩ := h
 exact ⟨Hs, h1.ev E hj h0, h2.ev E hy h0, fun k a b => (by obtain ⟨B, D, g1, g2⟩ := h3 k a b; exact ⟨B, D, g1, g2.ev E h0 h0⟩), h4⟩
theorem SPT.rc (h : SPT e j y c w A cap xss X B D xs) (hj : ∀ k, c k = j → c' k = j') (hy : ∀ k, c k = y → c' k = y') (h0 : ∀ k, c k = 0 → c' k = 0) (hp : 0 < y') : SPT e j' y' c' w A cap xss X B D xs := by
 obtain ⟨Hs, h1, h2, h3, h4⟩ := h
 exact ⟨Hs, h1.rc hj h0, h2.rc hy h0 hp, fun k a b => (by obtain ⟨B, D, g1, g2⟩ := h3 k a b; exact ⟨B, D, g1, g2.rc h0 h0⟩), h4⟩
def TW (e : K α) (z : Nat) (c : Nat → Nat) (w : World) (A0 : Option Addr) (C0 : Nat) (xs : List α) (A : Option Addr) (C : Nat) (ys : List α) : Prop :=
 SL true e z 0 c w A C ys ∧ ((A0 = A ∧ C0 = C ∧ xs.length ≤ ys.length ∧ ys.take xs.length = xs) ∨ SL false e 0 0 c w A0 C0 xs)
theorem TW.ev (h : TW e z c w A0 C0 xs A C ys) (E : Ev M c w c' w') (hz : ¬ M z := by first | exact nq | exact ne_zm | exact mm) (h0 : ¬ M 0 := by first | exact nq | exact ne_zm | exact mm) : TW e z c' w' A0 C0 xs A C ys := ⟨h.1.ev E hz h0, h.2.imp id fun q => q.ev E h0 h0⟩
theorem TW.rc (h : TW e z c w A0 C0 xs A C ys) (hz : ∀ k, c k = z → c' k = i') (h0 : ∀ k, c k = 0 → c' k = 0) : TW e i' c' w A0 C0 xs A C ys := ⟨h.1.rc hz h0, h.2.imp id fun q => q.rc h0 h0⟩
theorem SP.take [Inhabited (List α)] (h : SP e j y c w A cap xss X) (k : Int) (h0 : 0 ≤ k) (h1 : k < xss.length) (hX : X = k.toNat) (hz : z ≠ y ∧ 0 < z) (hjy : j ≠ y) :
  ∃ c', (∀ b, c b ≠ y → c' b = c b) ∧ (∀ b, c' b = c b ∨ c' b = z) ∧ ∃ ad B D, A = some ad ∧ AT true j c' w (ad.add (k.toNat * 1)) [Value.slice B (rd xss k).length D] ∧ TW e z c' w B D (rd xss k) B D (rd xss k) ∧ SPT e j y c' w A cap xss X B D (rd xss k) := by
 subst hX
 obtain ⟨c', a1, a2, ad, B, D, a3, a4, a5, Hs, b1, b2, b3⟩ := SP.lend h k h0 h1 (Nat.le_refl _) hz hjy
 have hl := b2.hl
 have hk : k.toNat < xss.length := by omega
 have hk' : k.toNat < Hs.length := by omega
 obtain ⟨ad', q1, hat'⟩ := SP.cell b1 hk'
 rw [a3] at q1
 obtain rfl := Option.some.inj q1
 have eh := hat'.cell_eq a4
 have er : rd xss k = xss[k.toNat] := by unfold rd; rw [List.getD_eq_getElem?_getD, List.getElem?_eq_getElem hk]; rfl
 exact ⟨c', a1, a2, ad, B, D, a3, a4, ⟨a5, .inl ⟨rfl, rfl, Nat.le_refl _, List.take_length⟩⟩, Hs, b1, b2.weak (by rintro q (r | r) <;> omega), b3, by rw [List.getElem?_eq_getElem hk', eh], by rw [List.getElem?_eq_getElem hk, er]⟩
theorem SL.takeL (h : SL own e j i c w A C ys) (hn : n ≤ ys.length) : SL own e j i c w A C (ys.take n) := by
 obtain ⟨cs, a1, a2, a3, a4, a5⟩ := h
 refine ⟨cs, by rw [List.length_take]; omega, a2, a3, a4, fun q hq => ?_⟩
 rw [List.length_take] at hq
 rw [List.getElem_take]
 exact a5 q (by omega)
theorem TW.fr (h : TW e z c w A0 C0 xs A C ys) (hz : ∀ k, c k = z → c' k = 0) (h0 : ∀ k, c k = 0 → c' k = 0) : SL false e 0 0 c' w A0 C0 xs ∧ SL false e 0 0 c' w A C ys := by
 obtain ⟨h1, h2⟩ := h
 have g := (h1.rc (j' := 0) (i' := 0) hz h0).r
 refine ⟨?_, g⟩
 rcases h2 with ⟨rfl, rfl, h3, h4⟩ | h2
 ·rw [← h4]; exact g.takeL h3
 ·exact h2.rc h0 h0
theorem SPT.put (h : SPT e j y c w A cap xss X B D xs) (hs : SL false e 0 0 c w B D xs) : SP e j y c w A cap xss (X + 1) := by
 obtain ⟨Hs, h1, h2, h3, h4, h5⟩ := h
 refine ⟨Hs, h1, h2.weak fun k q => .inl q, fun k a b => ?_⟩
 by_cases c : k = X
 ·subst c
  rw [List.getElem?_eq_getElem a] at h5
  obtain rfl := Option.some.inj h5
  exact ⟨B, D, h4, hs⟩
 ·exact h3 k a (by omega)
theorem SP.done (h : SP e j y c w A cap xss X) (hX : xss.length ≤ X) : SL true (Kslice e) j 0 c w A cap xss := by
 obtain ⟨Hs, ⟨cs, g1, g2, g3, g4, g5⟩, h2, h3⟩ := h
 have hl := h2.hl
 refine ⟨cs, by omega, g2, g3, g4, fun n hn => ?_⟩
 obtain ⟨B, D, q1, q2⟩ := h3 n hn (by omega)
 have hn' : n < Hs.length := by omega
 have h5 := (g5 n hn').1
 have e1 : (Kslice e).sz = 1 := rfl
 have e2 : Kval.sz = 1 := rfl
 refine ⟨B, D, ?_, q2⟩
 rw [e1]; rw [e2] at h5
 rw [h5]
 rw [List.getElem?_eq_getElem hn'] at q1
 rw [Option.some.inj q1]
theorem SP.cast {X' : Nat} (h : SP e j y c w A cap xss X) (hX : X = X') : SP e j y c w A cap xss X' := hX ▸ h
theorem SP.next {k : Int} (h : SP e j y c w A cap xss (X + 1)) (h0 : 0 ≤ k) (hX : X = k.toNat) (h1 : X < xss.length) : SP e j y c w A cap xss (IntKind.i64.wrap (k + 1)).toNat := by
 have hb := h.lenB
 refine h.cast ?_
 unfold maxLen at hb
 rw [IntKind.wrap_i64]; omega
end
section
variable {P : Program} {a : Act} {N : Nat} {L : List (Nat × Value)} {D : List Deferred} {w w' : World} {x y : Operand} {d : Option Tmp} {t el ty : TypeId} {pos : String} {af : Array Edge} {gd : Option (Nat × Bool)} {c : Nat → Nat} {z j2 : Nat} {own2 : Bool} {A A0 B : Option Addr} {C C0 cap2 bytes : Nat} {zz : Value} {α : Type} {e : K α} {xs ys vs : List α}
theorem e_build0 {tt ee : TypeId} (F : Fr a N L D) (hb : ∀ w, (Instr.buildSlice tt 0 #[]).run P w = .ok (.slice (some ⟨w.heap.size, 0, none⟩) 0 0) (w.alloc (.cells #[] ee (0, 0)))) (c : Nat → Nat) (j : Nat) :
  ∃ v' w', (execOp a.eval { dst := d, op := .buildSlice tt 0 #[], type := ty, pos := pos, after := af, guard := gd }).run P w = .ok (.value v') w' ∧ ∃ c' A, v' = .slice A 0 0 ∧ Ev No c w c' w' ∧ ∀ m, CB m c w → j < m → CB m c' w' := by
 obtain ⟨h1, h2, h3⟩ := alloc_new (M := No) c w #[] ee (0, 0) j true (fun _ k _ => by simp)
 refine ⟨.slice (some ⟨w.heap.size, 0, none⟩) 0 0, w.alloc (.cells #[] ee (0, 0)), ?_, _, some ⟨w.heap.size, 0, none⟩, rfl, h1, h3⟩
 simp [execOp, hb]
theorem e_append0 {j : Nat} (F : Fr a N L D) (T : ET P t el e.sz bytes zz) (hx : ev L x = some (.slice A 0 0)) (hy : ev L y = some (.slice B vs.length cap2)) (h2 : SL own2 e j2 0 c w B cap2 vs) (hb : vs.length * bytes ≤ 140737488355328) (hm : vs.length ≤ maxLen) :
  ∃ v w', (execOp a.eval { dst := d, op := .call { callee := .builtin .append, args := #[x, y], argTypes := #[t, t] }, type := ty, pos := pos, after := af, guard := gd }).run P w = .ok (.value v) w' ∧
   ∃ c' A' C', v = .slice A' vs.length C' ∧ Ev No c w c' w' ∧ SL true e j 0 c' w' A' C' vs ∧ ∀ m, CB m c w → j < m → CB m c' w' := by
 rcases Nat.eq_zero_or_pos vs.length with h0 | h0
 ·obtain rfl : vs = [] := List.eq_nil_of_length_eq_zero h0
  obtain ⟨ds, b1, b2, b3, b4, b5⟩ := h2
  obtain ⟨inf, hi, hz, hs, hby⟩ := T.hi
  have f3 := run_first (P := P) (len := 0) (n := 0) b4 b3 (Nat.zero_le _) w rfl
  refine ⟨.slice A 0 0, w, ?_, c, A, 0, rfl, Ev.refl, ⟨[], Nat.le_refl _, Nat.zero_le _, by simp, .inl rfl, fun n hn => absurd hn (by simp)⟩, fun m hm _ => hm⟩
  simp at f3
  have : (Builtin.append_ #[t, t] ty #[.slice A 0 0, .slice B 0 cap2]).run P w = .ok (.slice A 0 0) w := by
   cases A <;> simp [Builtin.append_, run_underlying T.ht, sizeOf, typeInfo, hi, hs, Builtin.lenOf, f3, storeCells]
  have hy' : ev L y = some (.slice B 0 cap2) := hy
  simp [execOp, resolve, invoke, builtin, F.ev hx, F.ev hy', this]
 ·have h1 : SL true e (j + 1) 0 c w A 0 ([] : List α) := ⟨[], Nat.le_refl _, Nat.zero_le _, by simp, .inl rfl, fun n hn => absurd hn (by simp)⟩
  obtain ⟨A', cap', w1, hr, c1, E, hS, hB, hT⟩ := run_appendT (ty := ty) T h1 h2 (by simpa using hb) (by simpa using hm) (by omega)
  rw [List.nil_append] at hr hS
  rcases hT with ⟨rfl, rfl⟩ | ⟨EN, hsz, q, rfl, hq⟩
  ·obtain ⟨cs, a1, _⟩ := hS; omega
  ·have hr' : (Builtin.append_ #[t, t] ty #[.slice A 0 0, .slice B vs.length cap2]).run P w = .ok (.slice (some q) vs.length cap') w1 := hr
   obtain ⟨cs, a1, a2, a3, a4, a5⟩ := hS
   refine ⟨_, w1, by simp [execOp, resolve, invoke, builtin, F.ev hx, F.ev hy, hr', Result.andThen], fun b => if b = w.heap.size then j else c1 b, some q, cap', rfl, ⟨EN.os, EN.tape, EN.out, EN.size, fun k hk _ => ?_, EN.blk⟩, ⟨cs, a1, a2, a3, a4.imp id ?_, fun n hn => ?_⟩, fun m hm hj k hk => ?_⟩
   ·show (if k = w.heap.size then j else c1 k) = c k
    rw [if_neg (by omega)]; exact EN.col k hk (fun q => q)
   ·rintro ⟨ad, e1, b, off, cur, tt, fz, e2, b1, b2, b3, b4⟩
    obtain rfl := Option.some.inj e1
    subst e2
    have hbz : b = w.heap.size := hq
    exact ⟨_, rfl, b, off, cur, tt, fz, rfl, b1, (if_pos hbz : (if b = w.heap.size then j else c1 b) = j), b3, b4⟩
   ·refine e.rc (a5 n hn) fun k hk => ?_
    show (if k = w.heap.size then j else c1 k) = 0
    by_cases h : k = w.heap.size
    ·rcases a4 with rfl | ⟨ad, e1, b, off, cur, tt, fz, e2, b1, b2, b3, b4⟩
     ·have hp := e.pos
      have : cap' * e.sz = 0 := by simpa using a3.symm
      rcases Nat.mul_eq_zero.1 this with q | q <;> omega
     ·obtain rfl := Option.some.inj e1
      subst e2
      have hbz : b = w.heap.size := hq
      rw [h, ← hbz, b2] at hk; omega
    ·rw [if_neg h]; exact hk
   ·show (if k = w.heap.size then j else c1 k) < m
    by_cases h : k = w.heap.size
    ·rw [if_pos h]; exact hj
    ·rw [if_neg h, EN.col k (by omega) (fun q => q)]; exact hm k (by omega)
theorem e_appendS {cap j y0 y2 : Nat} {xss yss : List (List α)} (F : Fr a N L D) (T : ET P t el Kval.sz bytes zz) (hx : ev L x = some (.slice A xss.length cap)) (hy : ev L y = some (.slice B yss.length cap2)) (h1 : SP e j y0 c w A cap xss 0) (h2 : SP e j2 y2 c w B cap2 yss 0) (hb : (xss.length + yss.length) * bytes ≤ 140737488355328) (hm : xss.length + yss.length ≤ maxLen) (hj : 0 < j) (hyj : y0 ≠ j) (hy2j : y2 ≠ j) (hne : y2 ≠ y0) :
  ∃ v w', (execOp a.eval { dst := d, op := .call { callee := .builtin .append, args := #[x, y], argTypes := #[t, t] }, type := ty, pos := pos, after := af, guard := gd }).run P w = .ok (.value v) w' ∧
   ∃ c1 A' C', v = .slice A' (xss ++ yss).length C' ∧ Ev (fun x => x = j) c w c1 w' ∧ (∀ m, CB m c w → j < m → CB m c1 w') ∧ ∃ c2, (∀ b, c1 b ≠ y2 → c2 b = c1 b) ∧ (∀ b, c2 b = c1 b ∨ c2 b = y0) ∧ SP e j y0 c2 w' A' C' (xss ++ yss) 0 := by
 obtain ⟨Hs, l1, g1, g2⟩ := h1.open
 obtain ⟨Hs2, l2, k1, k2⟩ := h2.open
 rw [← l1] at hx hb hm
 rw [← l2] at hy hb hm
 obtain ⟨v, w', hr, c1, A', C', rfl, E, hS, hB⟩ := e_append (d := d) (ty := ty) (pos := pos) (af := af) (gd := gd) F T hx hy g1 k1 hb hm (by omega)
 have hy2 := k2.1
 have n0 : ¬ (0 : Nat) = j := by omega
 have q1 := GRh.ev g2 E hyj n0
 have q2 := GRh.ev k2 E hy2j n0
 have q3 := GR.append q1 q2 hne
 refine ⟨_, w', hr, c1, A', C', by rw [List.length_append, List.length_append, l1, l2], E, hB, fun b => if c1 b = y2 then y0 else c1 b, fun b hb => if_neg hb, fun b => ?_, ?_⟩
 ·by_cases h : c1 b = y2
  ·exact .inr (if_pos h)
  ·exact .inl (if_neg h)
 ·rw [← List.map_append] at q3
  refine SP.mk (hS.rc (fun k hk => ?_) (fun k hk => ?_)) q3
  ·show (if c1 k = y2 then y0 else c1 k) = j
   rw [if_neg (by rw [hk]; exact fun q => hy2j q.symm)]; exact hk
  ·show (if c1 k = y2 then y0 else c1 k) = 0
   rw [if_neg (by omega)]; exact hk
theorem e_appendT (F : Fr a N L D) (T : ET P t el e.sz bytes zz) (hx : ev L x = some (.slice A ys.length C)) (hy : ev L y = some (.slice B vs.length cap2)) (h1 : TW e z c w A0 C0 xs A C ys) (h2 : SL own2 e j2 0 c w B cap2 vs) (hb : (ys.length + vs.length) * bytes ≤ 140737488355328) (hm : ys.length + vs.length ≤ maxLen) (hz : 0 < z) :
  ∃ v w', (execOp a.eval { dst := d, op := .call { callee := .builtin .append, args := #[x, y], argTypes := #[t, t] }, type := ty, pos := pos, after := af, guard := gd }).run P w = .ok (.value v) w' ∧
   ∃ c1 A' C', v = .slice A' (ys ++ vs).length C' ∧ Ev (fun x => x = z) c w c1 w' ∧ (∀ m, CB m c w → z < m → CB m c1 w') ∧ ∃ c2, (∀ b, c1 b ≠ z → c2 b = c1 b) ∧ (∀ b, c2 b = c1 b ∨ c2 b = 0) ∧ TW e z c2 w' A0 C0 xs A' C' (ys ++ vs) := by
 obtain ⟨A', cap', w1, hr, c1, E, hS, hB, hT⟩ := run_appendT (ty := ty) T h1.1 h2 hb hm (by omega)
 refine ⟨_, w1, by simp [execOp, resolve, invoke, builtin, F.ev hx, F.ev hy, hr], c1, A', cap', rfl, E, hB, ?_⟩
 rcases hT with ⟨rfl, rfl⟩ | ⟨EN, hsz, q, rfl, hq⟩
 ·refine ⟨c1, fun _ _ => rfl, fun _ => .inl rfl, hS, h1.2.imp (fun ⟨g1, g2, g3, g4⟩ => ⟨g1, g2, by rw [List.length_append]; omega, ?_⟩) fun g => g.ev E (by show ¬ (0 = z); omega) (by show ¬ (0 = z); omega)⟩
  rw [List.take_append_of_le_length g3, g4]
 ·let c2 : Nat → Nat := fun b => if b < w.heap.size ∧ c1 b = z then 0 else c1 b
  have ho : ∀ b, c1 b ≠ z → c2 b = c1 b := fun b hb => if_neg fun q => hb q.2
  have h00 : ∀ b, c1 b = 0 → c2 b = 0 := fun b hb => (ho b (by rw [hb]; omega)).trans hb
  refine ⟨c2, ho, fun b => ?_, ?_, .inr ?_⟩
  ·by_cases h : b < w.heap.size ∧ c1 b = z
   ·exact .inr (if_pos h)
   ·exact .inl (if_neg h)
  ·obtain ⟨cs, a1, a2, a3, a4, a5⟩ := hS
   refine ⟨cs, a1, a2, a3, a4.imp id ?_, fun n hn => e.rc (a5 n hn) h00⟩
   rintro ⟨ad, e1, b, off, cur, tt, fz, e2, b1, b2, b3, b4⟩
   obtain rfl := Option.some.inj e1
   subst e2
   have hbz : b = w.heap.size := hq
   exact ⟨_, rfl, b, off, cur, tt, fz, rfl, b1, (if_neg fun q => by omega : c2 b = c1 b).trans b2, b3, b4⟩
  ·rcases h1.2 with ⟨rfl, rfl, g3, g4⟩ | g
   ·rw [← g4]
    refine SL.takeL ?_ g3
    obtain ⟨cs, a1, a2, a3, a4, a5⟩ := h1.1
    refine ⟨cs, a1, a2, a3, a4.imp id ?_, fun n hn => e.rc (e.ev (a5 n hn) EN (fun q => q)) h00⟩
    rintro ⟨ad, rfl, hat⟩
    refine ⟨ad, rfl, ?_⟩
    have hat1 := hat.ev EN (fun q => q)
    obtain ⟨b, off, cur, tt, fz, rfl, b1, b2, b3, b4⟩ := hat
    obtain ⟨b', off', cur', tt', fz', e2, d1, d2, d3, d4⟩ := hat1
    have hbb : b' = b := by injection e2 with e3; exact e3.symm
    have hoo : off' = off := by injection e2 with _ e3; exact e3.symm
    subst hbb hoo
    exact ⟨b', off', cur', tt', fz', rfl, d1, if_pos ⟨lt_of_get b1, d2⟩, d3, fun q => by cases q⟩
   ·exact (g.ev EN (fun q => q) (fun q => q)).rc h00 h00
end
def Kraw (n : Nat) (hn : 0 < n) : K (List Value) where
 sz := n
 pos := hn
 rep := fun _ _ _ cs v => cs = v ∧ v.length = n ∧ ∀ u ∈ v, u.oneCell' = true
 ev := fun h _ _ => h
 rc := fun h _ => h
 len := fun h => by rw [h.1]; exact h.2.1
 one := fun h v hv => h.2.2 v (by rw [← h.1]; exact hv)
def xiL (zs : List Nat) : Nat → Nat := fun q => zs.getD q 0
def AllZ (y : Nat) : List Nat → Prop
 | [] => True
 | z :: l => (z ≠ y ∧ 0 < z) ∧ AllZ y l
def NeAll (x : Nat) : List Nat → Prop
 | [] => True
 | z :: l => x ≠ z ∧ NeAll x l
def LtAll (m : Nat) : List Nat → Prop
 | [] => True
 | z :: l => z < m ∧ LtAll m l
def Apart : List Nat → Prop
 | [] => True
 | z :: l => NeAll z l ∧ Apart l
theorem AllZ.get {y : Nat} : ∀ {zs : List Nat}, AllZ y zs → ∀ q, q < zs.length → xiL zs q ≠ y ∧ 0 < xiL zs q
 | [], _, q, h => absurd h (by simp)
 | z :: l, h, 0, _ => h.1
 | z :: l, h, q + 1, hq => h.2.get q (by simp at hq; omega)
theorem NeAll.get {x : Nat} : ∀ {zs : List Nat}, NeAll x zs → ∀ q, q < zs.length → x ≠ xiL zs q
 | [], _, q, h => absurd h (by simp)
 | z :: l, h, 0, _ => h.1
 | z :: l, h, q + 1, hq => h.2.get q (by simp at hq; omega)
theorem LtAll.get {m : Nat} : ∀ {zs : List Nat}, LtAll m zs → ∀ q, q < zs.length → xiL zs q < m
 | [], _, q, h => absurd h (by simp)
 | z :: l, h, 0, _ => h.1
 | z :: l, h, q + 1, hq => h.2.get q (by simp at hq; omega)
theorem Apart.inj : ∀ {zs : List Nat}, Apart zs → ∀ q q', q < zs.length → q' < zs.length → xiL zs q = xiL zs q' → q = q'
 | [], _, q, _, h, _, _ => absurd h (by simp)
 | z :: l, h, 0, 0, _, _, _ => rfl
 | z :: l, h, 0, q' + 1, _, hq', e => absurd e (h.1.get q' (by simp at hq'; omega))
 | z :: l, h, q + 1, 0, hq, _, e => absurd e.symm (h.1.get q (by simp at hq; omega))
 | z :: l, h, q + 1, q' + 1, hq, hq', e => by rw [h.2.inj q q' (by simp at hq; omega) (by simp at hq'; omega) e]
theorem NeAll.of {x : Nat} : ∀ {zs : List Nat}, (∀ q, q < zs.length → x ≠ xiL zs q) → NeAll x zs
 | [], _ => trivial
 | z :: l, h => ⟨h 0 (by simp), NeAll.of fun q hq => h (q + 1) (by simp; omega)⟩
section
variable {α : Type} {e : KO α} {i i' j j' y y' z n cap C D : Nat} {c c' : Nat → Nat} {w w' : World} {A B : Option Addr} {xs ys : List α} {M : Nat → Prop} {hole : Nat → Prop} {css : List (List Value)} {own : Bool} {zs : List Nat}
def OL (e : KO α) (j y : Nat) (c : Nat → Nat) (w : World) (A : Option Addr) (cap : Nat) (xs : List α) (hole : Nat → Prop := noHole) : Prop :=
 ∃ css : List (List Value), SL true (Kraw e.sz e.pos) j 0 c w A cap css ∧ GRh e y c w css xs hole
theorem OL.lenB (h : OL e j y c w A cap xs hole) : xs.length ≤ maxLen := by
 obtain ⟨css, h1, h2⟩ := h
 have := h1.lenB; rw [h2.2.1] at this; exact this
theorem OL.ev (h : OL e j y c w A cap xs hole) (E : Ev M c w c' w') (hj : ¬ M j := by first | exact nq | exact ne_zm | exact mm) (hy : ¬ M y := by first | exact nq | exact ne_zm | exact mm) (h0 : ¬ M 0 := by first | exact nq | exact ne_zm | exact mm) : OL e j y c' w' A cap xs hole := by
 obtain ⟨css, h1, h2⟩ := h
 exact ⟨css, h1.ev E hj h0, h2.ev E hy h0⟩
theorem OL.rc (h : OL e j y c w A cap xs hole) (hj : ∀ k, c k = j → c' k = j') (hy : ∀ k, c k = y → c' k = y') (h0 : ∀ k, c k = 0 → c' k = 0) (hp : 0 < y') : OL e j' y' c' w A cap xs hole := by
 obtain ⟨css, h1, h2⟩ := h
 exact ⟨css, h1.rc hj h0, h2.rc hy h0 hp⟩
theorem OL.nil (hy : 0 < y) : OL e j y c w none 0 [] := ⟨[], SL.nil, GR.nil hy⟩
theorem OL.mk (h : SL true (Kraw e.sz e.pos) j 0 c w A cap css) (g : GR e y c w css xs) : OL e j y c w A cap xs := ⟨css, h, g⟩
theorem OL.len (h : OL e j y c w A cap xs hole) : ∃ css : List (List Value), css.length = xs.length ∧ SL true (Kraw e.sz e.pos) j 0 c w A cap css ∧ GRh e y c w css xs hole := by
 obtain ⟨css, h1, h2⟩ := h
 exact ⟨css, h2.2.1, h1, h2⟩
theorem GRL.push (h : GR e y c w css xs) {ds : List Value} {x : α} (hx : e.rep (xiL zs) c w ds x) (hnp : e.np = zs.length) (hz : AllZ y zs) (hn : Apart zs) :
  ∃ c', (∀ b, NeAll (c b) zs → c' b = c b) ∧ (∀ b, c' b = c b ∨ c' b = y) ∧ GR e y c' w (css ++ [ds]) (xs ++ [x]) := by
 obtain ⟨c', a1, a2, a3⟩ := GR.push h hx (fun q hq => hz.get q (by omega)) (fun q q' hq hq' => hn.inj q q' (by omega) (by omega))
 exact ⟨c', fun b hb => a1 b (fun q hq => hb.get q (by omega)), a2, a3⟩
theorem OL.view {k : K α} (h : OL e j y c w A cap xs) (hs : k.sz = e.sz) (hf : ∀ {c w cs x}, e.rep (fun _ => y) c w cs x → k.rep y c w cs x) : SL false k j y c w A cap xs := by
 obtain ⟨css, hl, ⟨cs, g1, g2, g3, g4, g5⟩, h2⟩ := h.len
 have e0 : (Kraw e.sz e.pos).sz = e.sz := rfl
 refine ⟨cs, by omega, g2, by rw [hs]; exact g3, g4.imp id (fun ⟨a, q, r⟩ => ⟨a, q, r.r⟩), fun n hn => ?_⟩
 have hn' : n < css.length := by omega
 have h5 := (g5 n hn').1
 rw [e0] at h5
 rw [hs, h5]
 exact hf (GRh.read h2 hn hn' (fun q => q))
theorem OL.fr {k : K α} (h : OL e j y c w A cap xs) (hs : k.sz = e.sz) (hf : ∀ {c w cs x}, e.rep (fun _ => y) c w cs x → k.rep y c w cs x) (hj : ∀ k, c k = j → c' k = j') (hy : ∀ k, c k = y → c' k = 0) (h0 : ∀ k, c k = 0 → c' k = 0) : SL true k j' 0 c' w A cap xs := by
 obtain ⟨css, hl, ⟨cs, g1, g2, g3, g4, g5⟩, h2⟩ := h.len
 have e0 : (Kraw e.sz e.pos).sz = e.sz := rfl
 refine ⟨cs, by omega, g2, by rw [hs]; exact g3, g4.imp id (fun ⟨a, q, r⟩ => ⟨a, q, r.rc hj⟩), fun n hn => ?_⟩
 have hn' : n < css.length := by omega
 have h5 := (g5 n hn').1
 rw [e0] at h5
 rw [hs, h5]
 exact k.rc (hf (GRh.read h2 hn hn' (fun q => q))) hy
theorem rn {zs : List Nat} {c c' : Nat → Nat} {j : Nat} (e : ∀ b, NeAll (c b) zs → c' b = c b) (x : NeAll j zs) : ∀ k, c k = j → c' k = j := fun k hk => (e k (by rw [hk]; exact x)).trans hk
theorem Ev.rn {M : Nat → Prop} {m : Nat} {zs : List Nat} {c0 c c' : Nat → Nat} {w0 w : World} (h : Ev (fun k => M k ∨ m ≤ k) c0 w0 c w) (hB : CB m c0 w0) (e : ∀ b, NeAll (c b) zs → c' b = c b) (hz : ∀ x, x < m → NeAll x zs := by first | exact fun x hx => ⟨by omega, trivial⟩ | exact fun x hx => ⟨by omega, by omega, trivial⟩ | exact fun x hx => ⟨by omega, by omega, by omega, trivial⟩) : Ev (fun k => M k ∨ m ≤ k) c0 w0 c' w := h.recol hB (fun b hb => e b (hz _ hb))
theorem Ev.recolR {M : Nat → Prop} {m : Nat} {cb : Nat → Nat} {wb : World} (h : Ev (fun k => M k ∨ m ≤ k) cb wb c w) (hz : ∀ b, b < wb.heap.size → NeAll (cb b) zs) (hr : ∀ b, NeAll (c b) zs → c' b = c b) : Ev (fun k => M k ∨ m ≤ k) cb wb c' w :=
 ⟨h.os, h.tape, h.out, h.size, fun k hk hm => by have e := h.col k hk hm; rw [hr k (by rw [e]; exact hz k hk), e], h.blk⟩
theorem OBJ.rcz {b : Nat} {o : Obj} (h : OBJ j c w b o) (hr : ∀ b, NeAll (c b) zs → c' b = c b) (hj : NeAll j zs) : OBJ j c' w b o := ⟨h.1, (hr b (by rw [h.2]; exact hj)).trans h.2⟩
theorem OL.cell (h : SL own (Kraw e.sz e.pos) j 0 c w A cap css) {k : Nat} (hk : k < css.length) : ∃ ad, A = some ad ∧ AT own j c w (ad.add (k * e.sz)) css[k] := by
 obtain ⟨cs, g1, g2, g3, g4, g5⟩ := h
 have e2 : (Kraw e.sz e.pos).sz = e.sz := rfl
 rw [e2] at g3 g5
 have hp := e.pos
 have hle : (k + 1) * e.sz ≤ cap * e.sz := Nat.mul_le_mul_right _ (by omega)
 rw [Nat.add_mul, Nat.one_mul] at hle
 rcases g4 with rfl | ⟨ad, rfl, hat⟩
 ·simp at g3; omega
 ·refine ⟨ad, rfl, ?_⟩
  have := hat.sub (k * e.sz) e.sz (by omega)
  rwa [(g5 k hk).1] at this
theorem OL.csl (h : SL own (Kraw e.sz e.pos) j 0 c w A cap css) {k : Nat} (hk : k < css.length) : (css[k]).length = e.sz ∧ ∀ u ∈ css[k], u.oneCell' = true := by
 obtain ⟨cs, g1, g2, g3, g4, g5⟩ := h
 exact (g5 k hk).2
theorem rd_at [Inhabited α] {k : Int} (h0 : 0 ≤ k) (hk : k.toNat < xs.length) : rd xs k = xs[k.toNat] := by unfold rd; rw [List.getD_eq_getElem?_getD, List.getElem?_eq_getElem hk]; rfl
theorem OL.lend [Inhabited α] (h : OL e j y c w A cap xs) (zs : List Nat) (k : Int) (h0 : 0 ≤ k) (h1 : k < xs.length) (hnp : e.np = zs.length) (hz : AllZ y zs) (hjy : j ≠ y) :
  ∃ c', (∀ b, c b ≠ y → c' b = c b) ∧ (∀ m, LtAll m zs → CB m c w → CB m c' w) ∧ ∃ ad cs, A = some ad ∧ AT true j c' w (ad.add (k.toNat * e.sz)) cs ∧ e.rep (xiL zs) c' w cs (rd xs k) ∧ OL e j y c' w A cap xs (fun q => q = k.toNat) := by
 obtain ⟨css, g1, g2⟩ := h
 have hk : k.toNat < xs.length := by omega
 have hl := g2.2.1
 have hk' : k.toNat < css.length := by omega
 have hy := g2.1
 obtain ⟨c', a1, a2, ⟨hq, a3⟩, a5⟩ := GR.borrow g2 hk (xiL zs) (fun q hq => hz.get q (by omega))
 have hj : ∀ b, c b = j → c' b = j := fun b hb => (a1 b (by rw [hb]; exact hjy)).trans hb
 have h00 : ∀ b, c b = 0 → c' b = 0 := fun b hb => (a1 b (by rw [hb]; omega)).trans hb
 obtain ⟨ad, rfl, hat⟩ := OL.cell g1 hk'
 refine ⟨c', a1, fun m hm hB b hb => ?_, ad, css[k.toNat], rfl, hat.rc hj, ?_, css, g1.rc hj h00, a5⟩
 ·rcases a2 b with q | ⟨_, q, hq, q2⟩
  ·rw [q]; exact hB b hb
  ·rw [q2]; exact hm.get q (by omega)
 ·rw [rd_at h0 hk]; exact a3
theorem OL.lendH [Inhabited α] (h : OL e j y c w A cap xs hole) (zs : List Nat) (k : Int) (h0 : 0 ≤ k) (h1 : k < xs.length) (hnh : ¬ hole k.toNat) (hnp : e.np = zs.length) (hz : AllZ y zs) (hjy : j ≠ y) :
  ∃ c', (∀ b, c b ≠ y → c' b = c b) ∧ (∀ m, LtAll m zs → CB m c w → CB m c' w) ∧ ∃ ad cs, A = some ad ∧ AT true j c' w (ad.add (k.toNat * e.sz)) cs ∧ e.rep (xiL zs) c' w cs (rd xs k) ∧ OL e j y c' w A cap xs (fun q => hole q ∨ q = k.toNat) := by
 obtain ⟨css, g1, g2⟩ := h
 have hk : k.toNat < xs.length := by omega
 have hl := g2.2.1
 have hk' : k.toNat < css.length := by omega
 have hy := g2.1
 obtain ⟨c', a1, a2, ⟨hq, a3⟩, a5⟩ := GRh.borrow g2 hk hnh (xiL zs) (fun q hq => hz.get q (by omega))
 have hj : ∀ b, c b = j → c' b = j := fun b hb => (a1 b (by rw [hb]; exact hjy)).trans hb
 have h00 : ∀ b, c b = 0 → c' b = 0 := fun b hb => (a1 b (by rw [hb]; omega)).trans hb
 obtain ⟨ad, rfl, hat⟩ := OL.cell g1 hk'
 refine ⟨c', a1, fun m hm hB b hb => ?_, ad, css[k.toNat], rfl, hat.rc hj, ?_, css, g1.rc hj h00, a5⟩
 ·rcases a2 b with q | ⟨_, q, hq, q2⟩
  ·rw [q]; exact hB b hb
  ·rw [q2]; exact hm.get q (by omega)
 ·rw [rd_at h0 hk]; exact a3
theorem OL.back {k : Int} {ad : Addr} {cs : List Value} {x : α} (h : OL e j y c w A cap xs (fun q => q = k.toNat)) (h0 : 0 ≤ k) (h1 : k < xs.length) (hA : A = some ad) (hat : AT own j c w (ad.add (k.toNat * e.sz)) cs) (hx : e.rep (xiL zs) c w cs x) (hnp : e.np = zs.length) (hz : AllZ y zs) (hn : Apart zs) (hjz : NeAll j zs) (h0z : NeAll 0 zs) :
  ∃ c', (∀ b, NeAll (c b) zs → c' b = c b) ∧ (∀ b, c' b = c b ∨ c' b = y) ∧ OL e j y c' w A cap (xs.set k.toNat x) := by
 obtain ⟨css, g1, g2⟩ := h
 have hl := g2.2.1
 have hk : k.toNat < xs.length := by omega
 have hk' : k.toNat < css.length := by omega
 obtain ⟨c', a1, a2, a3⟩ := GRh.fill g2 hx (fun q hq => hz.get q (by omega)) (fun q q' hq hq' => hn.inj q q' (by omega) (by omega))
 have a1 : ∀ b, NeAll (c b) zs → c' b = c b := fun b hb => a1 b (fun q hq => hb.get q (by omega))
 have hj : ∀ b, c b = j → c' b = j := fun b hb => (a1 b (by rw [hb]; exact hjz)).trans hb
 have h00 : ∀ b, c b = 0 → c' b = 0 := fun b hb => (a1 b (by rw [hb]; exact h0z)).trans hb
 obtain ⟨ad', q1, hat'⟩ := OL.cell g1 hk'
 rw [hA] at q1
 obtain rfl := Option.some.inj q1
 have ec : css[k.toNat] = cs := AT.inj hat' hat (by rw [(OL.csl g1 hk').1, e.len hx])
 have es : css.set k.toNat cs = css := by rw [← ec]; exact List.set_getElem_self hk'
 rw [es] at a3
 exact ⟨c', a1, a2, css, g1.rc hj h00, a3⟩
theorem GRh.mapAt (h : GRh e y c w css xs hole) {n : Nat} {ds : List Value} {x : α} (hr : ∀ (hn : n < xs.length) (hn' : n < css.length) γ, ¬ hole n → e.rep γ (sub c (Classical.choose h.2.2) y) w css[n] xs[n] → e.rep γ (sub c (Classical.choose h.2.2) y) w ds x) : GRh e y c w (css.set n ds) (xs.set n x) hole := by
 have hs := Classical.choose_spec h.2.2
 refine ⟨h.1, by simpa using h.2.1, Classical.choose h.2.2, fun k a b hk => ?_⟩
 have a' : k < xs.length := by simpa using a
 have b' : k < css.length := by simpa using b
 by_cases q : k = n
 ·subst q
  simp only [List.getElem_set_self]
  exact hr a' b' _ hk (hs k a' b' hk)
 ·rw [List.getElem_set_ne (fun e => q e.symm), List.getElem_set_ne (fun e => q e.symm)]
  exact hs k a' b' hk
theorem OL.lay {P : Program} [Inhabited α] (h : OL e j y c w A cap xs) {n : Int} (h0 : 0 ≤ n) (h1 : n < xs.length) {a0 : Addr} (hA : A = some a0) {off : Nat} {us cs : List Value} (hat : AT own j c w (a0.add (n.toNat * e.sz)) cs) (hcl : cs.length = e.sz) (ho : off + us.length ≤ cs.length) (hu : ∀ u ∈ us, u.oneCell' = true) (x' : α) (hr : ∀ {γ c w}, e.rep γ c w cs (rd xs n) → e.rep γ c w (G.lay cs off us) x') (hyj : y ≠ j) (hj0 : 0 < j) :
  ∃ w', (storeCells ((a0.add (n.toNat * e.sz)).add off) us).run P w = .ok () w' ∧ Ev (fun x => x = j) c w c w' ∧ OL e j y c w' A cap (xs.set n.toNat x') ∧ w'.heap.size = w.heap.size := by
 obtain ⟨css, g1, g2⟩ := h
 have hl := g2.2.1
 have hk : n.toNat < xs.length := by omega
 have hk' : n.toNat < css.length := by omega
 obtain ⟨ad', q1, hat'⟩ := OL.cell g1 hk'
 rw [hA] at q1
 obtain rfl := Option.some.inj q1
 have ec : css[n.toNat] = cs := AT.inj hat' hat (by rw [(OL.csl g1 hk').1, hcl])
 have e0 : (Kraw e.sz e.pos).sz = e.sz := rfl
 have hco := (OL.csl g1 hk').2
 obtain ⟨w', hrun, E, hS, hz⟩ := SL.lay (P := P) g1 hk' hA (cs := cs) (off := off) (us := us) (by rw [e0, ← ec]; exact hat') hcl ho hu (G.lay cs off us) ⟨rfl, by rw [lay_length ho]; exact hcl, fun u hu' => by
  unfold G.lay at hu'
  rcases List.mem_append.1 hu' with q | q
  ·rcases List.mem_append.1 q with q | q
   ·exact hco u (by rw [ec]; exact List.mem_of_mem_take q)
   ·exact hu u q
  ·exact hco u (by rw [ec]; exact List.mem_of_mem_drop q)⟩ (by omega)
 refine ⟨w', hrun, E, ⟨_, hS, ?_⟩, hz⟩
 refine GRh.mapAt (GRh.ev g2 E hyj (by omega)) fun a b γ _ hrep => ?_
 rw [← rd_at h0 hk, ec] at hrep
 exact hr hrep
end
section
variable {P : Program} {a : Act} {N : Nat} {L : List (Nat × Value)} {D : List Deferred} {w w' : World} {u : Value} {x y : Operand} {d : Option Tmp} {t el ty : TypeId} {pos : String} {af : Array Edge} {gd : Option (Nat × Bool)} {c : Nat → Nat} {j j2 y0 y2 : Nat} {own : Bool} {A B : Option Addr} {cap cap2 bytes : Nat} {zz : Value} {α : Type} {e : KO α} {xs ys : List α}
theorem e_appendR {css dss : List (List Value)} (F : Fr a N L D) (T : ET P t el e.sz bytes zz) (hx : ev L x = some (.slice A xs.length cap)) (hy : ev L y = some (.slice B ys.length cap2)) (h1 : SL true (Kraw e.sz e.pos) j 0 c w A cap css) (h2 : SL own (Kraw e.sz e.pos) j2 0 c w B cap2 dss) (l1 : css.length = xs.length) (l2 : dss.length = ys.length) (hb : (xs.length + ys.length) * bytes ≤ 140737488355328) (hm : xs.length + ys.length ≤ maxLen) (hj : 0 < j) :
  ∃ v w', (execOp a.eval { dst := d, op := .call { callee := .builtin .append, args := #[x, y], argTypes := #[t, t] }, type := ty, pos := pos, after := af, guard := gd }).run P w = .ok (.value v) w' ∧
   ∃ c1 A' C', v = .slice A' (xs ++ ys).length C' ∧ Ev (fun x => x = j) c w c1 w' ∧ SL true (Kraw e.sz e.pos) j 0 c1 w' A' C' (css ++ dss) ∧ ∀ m, CB m c w → j < m → CB m c1 w' := by
 rw [← l1] at hx hb hm
 rw [← l2] at hy hb hm
 have T' : ET P t el (Kraw e.sz e.pos).sz bytes zz := T
 obtain ⟨v, w', hr, c1, A', C', rfl, E, hS, hB⟩ := e_append (d := d) (ty := ty) (pos := pos) (af := af) (gd := gd) F T' hx hy h1 h2 hb hm (by omega)
 exact ⟨_, w', hr, c1, A', C', by rw [List.length_append, List.length_append, l1, l2], E, hS, hB⟩
variable [Inhabited α] {n : Int} {a0 q : Addr} {off : Nat} {us cs : List Value}
theorem SL.take {α : Type} {e : K α} {own : Bool} {j i : Nat} {c : Nat → Nat} {w : World} {A : Option Addr} {cap : Nat} {xs : List α} (h : SL own e j i c w A cap xs) (n : Nat) : SL own e j i c w A cap (xs.take n) := by
 obtain ⟨cs, h2, h3, h4, h5, h6⟩ := h
 refine ⟨cs, by rw [List.length_take]; omega, h3, h4, h5, fun m hm => ?_⟩
 rw [List.length_take] at hm
 have := h6 m (by omega)
 rw [List.getElem_take]
 exact this
end
section
variable {P : Program} {α : Type} {k : K α} {own : Bool} {j i : Nat} {c : Nat → Nat} {w : World} {A : Option Addr} {cap : Nat} {X ms : List α} {t e : TypeId}
theorem SLM.v (h : SL own k j i c w A cap (X ++ ms)) : SL own k j i c w A cap X := by
 have := h.take X.length
 rwa [List.take_left'] at this
 rfl
theorem cut_hM {kh : IntKind} {h : Int} (hu : P.underlying t = some (.slice e)) (hs : ∀ w, (sizeOf e).run P w = .ok k.sz w) (hx : SL own k j i c w A cap (X ++ ms)) (g : h = (X.length : Int)) :
  ∃ A' cap', (∀ w, (Instr.sliceAt t (.slice A (X ++ ms).length cap) none (some (.int kh h)) none).run P w = .ok (.slice A' X.length cap') w) ∧ SL own k j i c w A' cap' (X ++ ms) := by
 have hc : (X ++ ms).length ≤ cap := by obtain ⟨cs, h2, _⟩ := hx; exact h2
 have hl : (X ++ ms).length = X.length + ms.length := List.length_append
 have hcut := hx.cut 0 (X ++ ms).length cap (by omega) (by omega) (Nat.le_refl _) (by omega)
 rw [List.drop_zero, List.take_length] at hcut
 refine ⟨_, _, fun w => ?_, hcut⟩
 rw [run_cut hu hs _ _ _ (sb_h (n := (X ++ ms).length) (h := h) (by omega) (by omega)) w]
 congr 2
 omega
end
def Krw (n : Nat) (hn : 0 < n) : K (Option (List Value)) where
 sz := n
 pos := hn
 rep := fun _ _ _ cs v => cs.length = n ∧ (∀ u ∈ cs, u.oneCell' = true) ∧ ∀ x, v = some x → cs = x
 ev := fun h _ _ => h
 rc := fun h _ => h
 len := fun h => h.1
 one := fun h => h.2.1
theorem Krw.mk {n : Nat} {hn : 0 < n} {i : Nat} {c : Nat → Nat} {w : World} {cs : List Value} (hl : cs.length = n) (h1 : cs.all Value.oneCell' = true) : (Krw n hn).rep i c w cs (some cs) := ⟨hl, fun u hu => List.all_eq_true.1 h1 u hu, fun x hx => Option.some.inj hx⟩
section
variable {α : Type} {e : KO α} {i j y z n cap C m : Nat} {c c' : Nat → Nat} {w w' : World} {A : Option Addr} {xs : List α} {M M' : Nat → Prop} {hole hole' : Nat → Prop}
theorem OL.weak (h : OL e j y c w A cap xs hole) (hh : ∀ k, hole k → hole' k) : OL e j y c w A cap xs hole' := by
 obtain ⟨css, h1, h2⟩ := h
 exact ⟨css, h1, h2.weak hh⟩
theorem OL.next {k : Int} (h : OL e j y c w A cap xs (fun q => (fun q_ => q_ < k.toNat) q ∨ q = k.toNat)) (h0 : 0 ≤ k) (h1 : k < xs.length) : OL e j y c w A cap xs (fun q_ => q_ < (IntKind.i64.wrap (k + 1)).toNat) := by
 have hb := h.lenB
 refine h.weak fun q hq => ?_
 unfold maxLen at hb
 show q < (IntKind.i64.wrap (k + 1)).toNat
 have hq : q < k.toNat ∨ q = k.toNat := hq
 rw [IntKind.wrap_i64]; omega
theorem OL.raw (h : OL e j y c w A cap xs hole) : SL true (Krw e.sz e.pos) j 0 c w A cap (List.replicate xs.length none) := by
 obtain ⟨css, ⟨cs, h2, h3, h4, h5, h6⟩, g⟩ := h
 have hl := g.2.1
 refine ⟨cs, by rw [List.length_replicate]; omega, h3, h4, h5, fun n hn => ?_⟩
 rw [List.length_replicate] at hn
 have hr := h6 n (by omega)
 have e0 : (Kraw e.sz e.pos).sz = e.sz := rfl
 have e1 : (Krw e.sz e.pos).sz = e.sz := rfl
 rw [e0] at hr
 rw [e1]
 refine ⟨by rw [hr.1]; exact hr.2.1, fun u hu => hr.2.2 u (by rw [← hr.1]; exact hu), fun x hx => ?_⟩
 rw [List.getElem_replicate] at hx
 cases hx
theorem Ev.rkM (h : Ev M' c w c' w') {c2 : Nat → Nat} (e : ∀ b, c' b ≠ z → c2 b = c' b) (hz : M' z) : Ev M' c w c2 w' :=
 h.trans (M' := fun k => k = z) ⟨rfl, rfl, rfl, Nat.le_refl _, fun k _ hm => e k hm, fun _ _ _ => rfl⟩ (fun k hk => by rw [hk]; exact hz)
end
section
variable {α : Type} {e : K α} {i j y z n cap C C0 m : Nat} {c c' : Nat → Nat} {w w' : World} {A A0 : Option Addr} {xs ys : List α} {M M' : Nat → Prop}
theorem TW.start (h : SL true e z 0 c w A cap xs) : TW e z c w A cap xs A cap xs := ⟨h, .inl ⟨rfl, rfl, Nat.le_refl _, List.take_length⟩⟩
end
section
variable {α : Type} {e : K α} {j j' y y' z n cap D : Nat} {c c' : Nat → Nat} {w w' : World} {A B : Option Addr} {xss ps : List (List α)} {ds : List Value} {p : List α} {M : Nat → Prop}
def SPp (e : K α) (j y : Nat) (c : Nat → Nat) (w : World) (A : Option Addr) (cap : Nat) (xss : List (List α)) (ds : List Value) : Prop :=
 ∃ Hs : List Value, SL true Kval j 0 c w A cap (Hs ++ ds) ∧ GR (KOsl e) y c w (Hs.map one1) xss
theorem SPp.ev (h : SPp e j y c w A cap xss ds) (E : Ev M c w c' w') (hj : ¬ M j := by first | exact nq | exact ne_zm | exact mm) (hy : ¬ M y := by first | exact nq | exact ne_zm | exact mm) (h0 : ¬ M 0 := by first | exact nq | exact ne_zm | exact mm) : SPp e j y c' w' A cap xss ds := by
 obtain ⟨Hs, h1, h2⟩ := h
 exact ⟨Hs, h1.ev E hj h0, GRh.ev h2 E hy h0⟩
theorem SPp.rc (h : SPp e j y c w A cap xss ds) (hj : ∀ k, c k = j → c' k = j') (hy : ∀ k, c k = y → c' k = y') (h0 : ∀ k, c k = 0 → c' k = 0) (hp : 0 < y') : SPp e j' y' c' w A cap xss ds := by
 obtain ⟨Hs, h1, h2⟩ := h
 exact ⟨Hs, h1.rc hj h0, GRh.rc h2 hy h0 hp⟩
theorem SPp.push (h : SPp e j y c w A cap xss (.slice B p.length D :: ds)) (hs : SL true e z 0 c w B D p) (hz : z ≠ y ∧ 0 < z) (hjz : j ≠ z) :
  ∃ c', (∀ b, c b ≠ z → c' b = c b) ∧ (∀ b, c' b = c b ∨ c' b = y) ∧ SPp e j y c' w A cap (xss ++ [p]) ds := by
 obtain ⟨Hs, h1, h2⟩ := h
 obtain ⟨c', a1, a2, a3⟩ := GP.push h2 hs hz
 refine ⟨c', a1, a2, Hs ++ [.slice B p.length D], ?_, a3⟩
 rw [List.append_assoc]
 exact h1.rc (fun k hk => (a1 k (by rw [hk]; exact hjz)).trans hk) (fun k hk => (a1 k (by rw [hk]; omega)).trans hk)
theorem SPp.push' {l : Nat} (h : SPp e j y c w A cap xss (.slice B l D :: ds)) (hs : SL true e z 0 c w B D p) (hl : p.length = l) (hz : z ≠ y ∧ 0 < z) (hjz : j ≠ z) :
  ∃ c', (∀ b, c b ≠ z → c' b = c b) ∧ (∀ b, c' b = c b ∨ c' b = y) ∧ SPp e j y c' w A cap (xss ++ [p]) ds := by
 subst hl; exact h.push hs hz hjz
theorem SPp.fin (h : SPp e j y c w A cap xss []) : SP e j y c w A cap xss 0 := by
 obtain ⟨Hs, h1, h2⟩ := h
 rw [List.append_nil] at h1
 exact SP.mk h1 h2
end
section
variable {P : Program} {a : Act} {N : Nat} {L : List (Nat × Value)} {D : List Deferred} {w w' : World} {x y : Operand} {d : Option Tmp} {t el ty : TypeId} {pos : String} {af : Array Edge} {gd : Option (Nat × Bool)} {c : Nat → Nat} {j j2 y0 : Nat} {own : Bool} {A B : Option Addr} {cap cap2 bytes : Nat} {zz : Value} {α : Type} {e : K α} {xss ps : List (List α)} {ds : List Value}
theorem e_appendPS (F : Fr a N L D) (T : ET P t el 1 bytes zz) (hx : ev L x = some (.slice A xss.length cap)) (hy : ev L y = some (.slice B ds.length cap2)) (h1 : SP e j y0 c w A cap xss 0) (h2 : SL own Kval j2 0 c w B cap2 ds) (hl : ps.length = ds.length) (hb : (xss.length + ps.length) * bytes ≤ 140737488355328) (hm : xss.length + ps.length ≤ maxLen) (hj : 0 < j) (hyj : y0 ≠ j) :
  ∃ v w', (execOp a.eval { dst := d, op := .call { callee := .builtin .append, args := #[x, y], argTypes := #[t, t] }, type := ty, pos := pos, after := af, guard := gd }).run P w = .ok (.value v) w' ∧
   ∃ c1 A' C', v = .slice A' (xss ++ ps).length C' ∧ Ev (fun x => x = j) c w c1 w' ∧ SPp e j y0 c1 w' A' C' xss ds ∧ ∀ m, CB m c w → j < m → CB m c1 w' := by
 obtain ⟨Hs, l1, g1, g2⟩ := h1.open
 rw [← l1] at hx hb hm
 rw [hl] at hb hm
 have T' : ET P t el Kval.sz bytes zz := T
 obtain ⟨v, w', hr, c1, A', C', rfl, E, hS, hB⟩ := e_append (d := d) (ty := ty) (pos := pos) (af := af) (gd := gd) F T' hx hy g1 h2 hb hm (by omega)
 exact ⟨_, w', hr, c1, A', C', by rw [List.length_append, List.length_append, l1, hl], E, ⟨Hs, hS, GRh.ev g2 E hyj (by omega)⟩, hB⟩
end
section
variable {α : Type} {e : KO α} {j j' y y' z n cap D : Nat} {c c' : Nat → Nat} {w w' : World} {A B : Option Addr} {xs ps : List α} {ds : List (List Value)} {p : α} {M : Nat → Prop} {zs : List Nat}
def OLp (e : KO α) (j y : Nat) (c : Nat → Nat) (w : World) (A : Option Addr) (cap : Nat) (xs : List α) (ds : List (List Value)) : Prop :=
 ∃ css : List (List Value), SL true (Kraw e.sz e.pos) j 0 c w A cap (css ++ ds) ∧ GR e y c w css xs
theorem OLp.ev (h : OLp e j y c w A cap xs ds) (E : Ev M c w c' w') (hj : ¬ M j := by first | exact nq | exact ne_zm | exact mm) (hy : ¬ M y := by first | exact nq | exact ne_zm | exact mm) (h0 : ¬ M 0 := by first | exact nq | exact ne_zm | exact mm) : OLp e j y c' w' A cap xs ds := by
 obtain ⟨css, h1, h2⟩ := h
 exact ⟨css, h1.ev E hj h0, GRh.ev h2 E hy h0⟩
theorem OLp.rc (h : OLp e j y c w A cap xs ds) (hj : ∀ k, c k = j → c' k = j') (hy : ∀ k, c k = y → c' k = y') (h0 : ∀ k, c k = 0 → c' k = 0) (hp : 0 < y') : OLp e j' y' c' w A cap xs ds := by
 obtain ⟨css, h1, h2⟩ := h
 exact ⟨css, h1.rc hj h0, GRh.rc h2 hy h0 hp⟩
theorem OLp.push {cs : List Value} (h : OLp e j y c w A cap xs (cs :: ds)) (hx : e.rep (xiL zs) c w cs p) (hnp : e.np = zs.length) (hz : AllZ y zs) (hn : Apart zs) (hjz : NeAll j zs) (h0z : NeAll 0 zs) :
  ∃ c', (∀ b, NeAll (c b) zs → c' b = c b) ∧ (∀ b, c' b = c b ∨ c' b = y) ∧ OLp e j y c' w A cap (xs ++ [p]) ds := by
 obtain ⟨css, h1, h2⟩ := h
 obtain ⟨c', a1, a2, a3⟩ := GRL.push h2 hx hnp hz hn
 refine ⟨c', a1, a2, css ++ [cs], ?_, a3⟩
 rw [List.append_assoc]
 exact h1.rc (rn a1 hjz) (rn a1 h0z)
theorem OLp.fin (h : OLp e j y c w A cap xs []) : OL e j y c w A cap xs := by
 obtain ⟨css, h1, h2⟩ := h
 rw [List.append_nil] at h1
 exact OL.mk h1 h2
end
section
variable {P : Program} {a : Act} {N : Nat} {L : List (Nat × Value)} {D : List Deferred} {w w' : World} {x y : Operand} {d : Option Tmp} {t el ty : TypeId} {pos : String} {af : Array Edge} {gd : Option (Nat × Bool)} {c : Nat → Nat} {j j2 y0 : Nat} {own : Bool} {A B : Option Addr} {cap cap2 bytes : Nat} {zz : Value} {α : Type} {e : KO α} {xs ps : List α} {ds : List (List Value)}
theorem e_appendPO (F : Fr a N L D) (T : ET P t el e.sz bytes zz) (hx : ev L x = some (.slice A xs.length cap)) (hy : ev L y = some (.slice B ds.length cap2)) (h1 : OL e j y0 c w A cap xs) (h2 : SL own (Kraw e.sz e.pos) j2 0 c w B cap2 ds) (hl : ps.length = ds.length) (hb : (xs.length + ps.length) * bytes ≤ 140737488355328) (hm : xs.length + ps.length ≤ maxLen) (hj : 0 < j) (hyj : y0 ≠ j) :
  ∃ v w', (execOp a.eval { dst := d, op := .call { callee := .builtin .append, args := #[x, y], argTypes := #[t, t] }, type := ty, pos := pos, after := af, guard := gd }).run P w = .ok (.value v) w' ∧
   ∃ c1 A' C', v = .slice A' (xs ++ ps).length C' ∧ Ev (fun x => x = j) c w c1 w' ∧ OLp e j y0 c1 w' A' C' xs ds ∧ ∀ m, CB m c w → j < m → CB m c1 w' := by
 obtain ⟨css, l1, g1, g2⟩ := h1.len
 rw [← l1] at hx hb hm
 rw [hl] at hb hm
 have T' : ET P t el (Kraw e.sz e.pos).sz bytes zz := T
 obtain ⟨v, w', hr, c1, A', C', rfl, E, hS, hB⟩ := e_append (d := d) (ty := ty) (pos := pos) (af := af) (gd := gd) F T' hx hy g1 h2 hb hm (by omega)
 exact ⟨_, w', hr, c1, A', C', by rw [List.length_append, List.length_append, l1, hl], E, ⟨css, hS, GRh.ev g2 E hyj (by omega)⟩, hB⟩
end
abbrev AGA (t : TypeId) (b : Bool) : Prop := ∀ w, (isAgg t).run Try.prog w = .ok b w
abbrev SZA (t : TypeId) (n : Nat) : Prop := ∀ w, (sizeOf t).run Try.prog w = .ok n w
abbrev FFA (t : TypeId) (f off : Nat) : Prop := ∀ q w, (Instr.fieldAt t (.pointer (some q)) f).run Try.prog w = .ok (.pointer (some (q.add off))) w
def K_api_Op : K api_Op where
 sz := 4
 pos := by decide
 rep := fun i c w cs x => ∃ (A1 : Option Addr) (C2 : Nat) (A4 : Option Addr) (C5 : Nat), cs = [.int .i64 x.Kind, .slice A1 x.Key.length C2, .slice A4 x.Value.length C5, .int .i64 x.Rev] ∧ SL false (Kint .u8) i i c w A1 C2 x.Key ∧ SL false (Kint .u8) i i c w A4 C5 x.Value
 ev := fun ⟨A1, C2, A4, C5, h_, h3, h6⟩ E hi => ⟨A1, C2, A4, C5, h_, h3.ev E hi hi, h6.ev E hi hi⟩
 rc := fun ⟨A1, C2, A4, C5, h_, h3, h6⟩ hr => ⟨A1, C2, A4, C5, h_, h3.rc hr hr, h6.rc hr hr⟩
 len := fun ⟨A1, C2, A4, C5, h_, h3, h6⟩ => by rw [h_]; rfl
 one := @fun i c w cs x ⟨A1, C2, A4, C5, h_, h3, h6⟩ u hu => by rw [h_] at hu; exact one_all (us := [.int .i64 x.Kind, .slice A1 x.Key.length C2, .slice A4 x.Value.length C5, .int .i64 x.Rev]) rfl u hu
def K_api_Answer : K api_Answer where
 sz := 5
 pos := by decide
 rep := fun i c w cs x => ∃ (A1 : Option Addr) (C2 : Nat) (A4 : Option Addr) (C5 : Nat), cs = [.bool x.Done, .slice A1 x.Key.length C2, .slice A4 x.Value.length C5, .int .i64 x.Rev, .int .i64 x.At] ∧ SL false (Kint .u8) i i c w A1 C2 x.Key ∧ SL false (Kint .u8) i i c w A4 C5 x.Value
 ev := fun ⟨A1, C2, A4, C5, h_, h3, h6⟩ E hi => ⟨A1, C2, A4, C5, h_, h3.ev E hi hi, h6.ev E hi hi⟩
 rc := fun ⟨A1, C2, A4, C5, h_, h3, h6⟩ hr => ⟨A1, C2, A4, C5, h_, h3.rc hr hr, h6.rc hr hr⟩
 len := fun ⟨A1, C2, A4, C5, h_, h3, h6⟩ => by rw [h_]; rfl
 one := @fun i c w cs x ⟨A1, C2, A4, C5, h_, h3, h6⟩ u hu => by rw [h_] at hu; exact one_all (us := [.bool x.Done, .slice A1 x.Key.length C2, .slice A4 x.Value.length C5, .int .i64 x.Rev, .int .i64 x.At]) rfl u hu
def K_api_Row : K api_Row where
 sz := 3
 pos := by decide
 rep := fun i c w cs x => ∃ (A1 : Option Addr) (C2 : Nat) (A4 : Option Addr) (C5 : Nat), cs = [.slice A1 x.Key.length C2, .slice A4 x.Value.length C5, .int .i64 x.Rev] ∧ SL false (Kint .u8) i i c w A1 C2 x.Key ∧ SL false (Kint .u8) i i c w A4 C5 x.Value
 ev := fun ⟨A1, C2, A4, C5, h_, h3, h6⟩ E hi => ⟨A1, C2, A4, C5, h_, h3.ev E hi hi, h6.ev E hi hi⟩
 rc := fun ⟨A1, C2, A4, C5, h_, h3, h6⟩ hr => ⟨A1, C2, A4, C5, h_, h3.rc hr hr, h6.rc hr hr⟩
 len := fun ⟨A1, C2, A4, C5, h_, h3, h6⟩ => by rw [h_]; rfl
 one := @fun i c w cs x ⟨A1, C2, A4, C5, h_, h3, h6⟩ u hu => by rw [h_] at hu; exact one_all (us := [.slice A1 x.Key.length C2, .slice A4 x.Value.length C5, .int .i64 x.Rev]) rfl u hu
def TR (j : Nat) (c : Nat → Nat) (w : World) : Option Addr → Tr → Prop
 | p, .nil => p = none
 | p, .node l r k v s d => ∃ (a : Addr) (lp rp : Option Addr) (A1 : Option Addr) (C2 : Nat), p = some a ∧ AT false 0 c w a [.pointer lp, .pointer rp, .string k, .slice A1 v.value.length C2, .int .i64 v.rev, .int .i64 s, .int .i64 d] ∧ SL false (Kint .u8) 0 0 c w A1 C2 v.value ∧ TR j c w lp l ∧ TR j c w rp r
theorem TR.nil {j : Nat} {c : Nat → Nat} {w : World} : TR j c w none .nil := rfl
theorem TR.isNil {j : Nat} {c : Nat → Nat} {w : World} {p : Option Addr} {t : Tr} (h : TR j c w p t) : p.isNone = t.isNil := by
 cases t with
 | nil => have h : p = none := h; rw [h]; rfl
 | node l r k v s d => obtain ⟨a, lp, rp, A1, C2, e, _⟩ := h; rw [e]; rfl
theorem TR.node {c : Nat → Nat} {w : World} {p : Option Addr} {l r : Tr} {k : ByteArray} {v : table_cell} {s d : Int} (h : TR 0 c w p (.node l r k v s d)) : ∃ (a : Addr) (lp rp : Option Addr) (A1 : Option Addr) (C2 : Nat), p = some a ∧ AT false 0 c w a [.pointer lp, .pointer rp, .string k, .slice A1 v.value.length C2, .int .i64 v.rev, .int .i64 s, .int .i64 d] ∧ SL false (Kint .u8) 0 0 c w A1 C2 v.value ∧ TR 0 c w lp l ∧ TR 0 c w rp r := h
theorem TR.mk {c : Nat → Nat} {w : World} {a : Addr} {lp rp : Option Addr} {l r : Tr} {k : ByteArray} {v : table_cell} {s d : Int} {A1 : Option Addr} {C2 : Nat} (hat : AT false 0 c w a [.pointer lp, .pointer rp, .string k, .slice A1 v.value.length C2, .int .i64 v.rev, .int .i64 s, .int .i64 d]) (h3 : SL false (Kint .u8) 0 0 c w A1 C2 v.value) (hl : TR 0 c w lp l) (hr : TR 0 c w rp r) : TR 0 c w (some a) (.node l r k v s d) := ⟨a, lp, rp, A1, C2, rfl, hat, h3, hl, hr⟩
theorem TR.evr {M : Nat → Prop} {j : Nat} {c c' : Nat → Nat} {w w' : World} : ∀ {t : Tr} {p : Option Addr}, TR j c w p t → Ev M c w c' w' → ¬ M j → ¬ M 0 → TR j c' w' p t
 | .nil, _, h, _, _, _ => h
 | .node l r k v s d, _, ⟨a, lp, rp, A1, C2, e, hat, h3, hl, hr⟩, E, hj, h0 => ⟨a, lp, rp, A1, C2, e, hat.ev E h0, h3.ev E h0 h0, TR.evr hl E hj h0, TR.evr hr E hj h0⟩
theorem TR.ev {M : Nat → Prop} {j : Nat} {c c' : Nat → Nat} {w w' : World} {t : Tr} {p : Option Addr} (h : TR j c w p t) (E : Ev M c w c' w') (hj : ¬ M j := by first | exact nq | exact ne_zm | exact mm) (h0 : ¬ M 0 := by first | exact nq | exact ne_zm | exact mm) : TR j c' w' p t := TR.evr h E hj h0
theorem TR.rc {j j' : Nat} {c c' : Nat → Nat} {w : World} : ∀ {t : Tr} {p : Option Addr}, TR j c w p t → (∀ k, c k = j → c' k = j') → (∀ k, c k = 0 → c' k = 0) → TR j' c' w p t
 | .nil, _, h, _, _ => h
 | .node l r k v s d, _, ⟨a, lp, rp, A1, C2, e, hat, h3, hl, hr⟩, q, h0 => ⟨a, lp, rp, A1, C2, e, hat.rc h0, h3.rc h0 h0, TR.rc hl q h0, TR.rc hr q h0⟩
def ITR (j : Nat) (c : Nat → Nat) (w : World) (v : Value) : It → Prop
 | .all t => ∃ (q : Addr) (p : Option Addr), v = .func (.func 51) #[] #[.pointer (some q)] ∧ AT true j c w q [.pointer p] ∧ TR 0 c w p t
 | .from t k => ∃ (q0 q1 : Addr) (p : Option Addr), v = .func (.func 61) #[] #[.pointer (some q0), .pointer (some q1)] ∧ AT true j c w q0 [.pointer p] ∧ AT true j c w q1 [.string k] ∧ TR 0 c w p t
theorem ITR.ev {M : Nat → Prop} {j : Nat} {c c' : Nat → Nat} {w w' : World} {v : Value} : ∀ {i : It}, ITR j c w v i → Ev M c w c' w' → ¬ M j → ¬ M 0 → ITR j c' w' v i
 | .all t, ⟨q, p, e, h, ht⟩, E, hj, h0 => ⟨q, p, e, h.ev E hj, ht.ev E h0 h0⟩
 | .from t k, ⟨q, q1, p, e, h, h1, ht⟩, E, hj, h0 => ⟨q, q1, p, e, h.ev E hj, h1.ev E hj, ht.ev E h0 h0⟩
theorem ITR.rc {j j' : Nat} {c c' : Nat → Nat} {w : World} {v : Value} : ∀ {i : It}, ITR j c w v i → (∀ k, c k = j → c' k = j') → (∀ k, c k = 0 → c' k = 0) → ITR j' c' w v i
 | .all t, ⟨q, p, e, h, ht⟩, hr, h0 => ⟨q, p, e, h.rc hr, ht.rc h0 h0⟩
 | .from t k, ⟨q, q1, p, e, h, h1, ht⟩, hr, h0 => ⟨q, q1, p, e, h.rc hr, h1.rc hr, ht.rc h0 h0⟩
def WR (j i : Nat) (c : Nat → Nat) (w : World) (p : Option Addr) : Option Wri → Prop
 | none => p = none
 | some t => ∃ (a : Addr) (A1 : Option Addr) (C2 : Nat) (A4 : Option Addr) (C5 : Nat), p = some a ∧ AT true j c w a [.int .i64 t.room, .slice A1 t.b.length C2, .slice A4 t.open_.length C5, .int .i64 t.fault] ∧ SL true (Kint .u8) i 0 c w A1 C2 t.b ∧ SL false (Kint .i64) 0 0 c w A4 C5 t.open_
theorem WR.nil {j i : Nat} {c : Nat → Nat} {w : World} : WR j i c w none none := rfl
theorem WR.some {j i : Nat} {c : Nat → Nat} {w : World} {p : Option Addr} {t : Wri} (h : WR j i c w p (some t)) : ∃ (a : Addr) (A1 : Option Addr) (C2 : Nat) (A4 : Option Addr) (C5 : Nat), p = some a ∧ AT true j c w a [.int .i64 t.room, .slice A1 t.b.length C2, .slice A4 t.open_.length C5, .int .i64 t.fault] ∧ SL true (Kint .u8) i 0 c w A1 C2 t.b ∧ SL false (Kint .i64) 0 0 c w A4 C5 t.open_ := h
theorem WR.isNone {j i : Nat} {c : Nat → Nat} {w : World} {p : Option Addr} {o : Option Wri} (h : WR j i c w p o) : p.isNone = o.isNone := by
 cases o with
 | none => have h : p = none := h; rw [h]; rfl
 | some t => obtain ⟨a, A1, C2, A4, C5, e, _⟩ := h; rw [e]; rfl
theorem WR.ev {M : Nat → Prop} {j i : Nat} {c c' : Nat → Nat} {w w' : World} {p : Option Addr} {o : Option Wri} (h : WR j i c w p o) (E : Ev M c w c' w') (hj : ¬ M j := by first | exact nq | exact ne_zm | exact mm) (hi : ¬ M i := by first | exact nq | exact ne_zm | exact mm) (h0 : ¬ M 0 := by first | exact nq | exact ne_zm | exact mm) : WR j i c' w' p o := by
 cases o with
 | none => exact h
 | some t => obtain ⟨a, A1, C2, A4, C5, e, hat, h3, h6⟩ := h; exact ⟨a, A1, C2, A4, C5, e, hat.ev E hj, h3.ev E hi h0, h6.ev E h0 h0⟩
theorem WR.rc {j j' i i' : Nat} {c c' : Nat → Nat} {w : World} {p : Option Addr} {o : Option Wri} (h : WR j i c w p o) (hr : ∀ k, c k = j → c' k = j') (hi : ∀ k, c k = i → c' k = i') (h0 : ∀ k, c k = 0 → c' k = 0) : WR j' i' c' w p o := by
 cases o with
 | none => exact h
 | some t => obtain ⟨a, A1, C2, A4, C5, e, hat, h3, h6⟩ := h; exact ⟨a, A1, C2, A4, C5, e, hat.rc hr, h3.rc hi h0, h6.rc h0 h0⟩
theorem WR.mk {j i : Nat} {c : Nat → Nat} {w : World} {a : Addr} {t : Wri} {A1 : Option Addr} {C2 : Nat} {A4 : Option Addr} {C5 : Nat} (hat : AT true j c w a [.int .i64 t.room, .slice A1 t.b.length C2, .slice A4 t.open_.length C5, .int .i64 t.fault]) (h3 : SL true (Kint .u8) i 0 c w A1 C2 t.b) (h6 : SL false (Kint .i64) 0 0 c w A4 C5 t.open_) : WR j i c w (Option.some a) (Option.some t) := ⟨a, A1, C2, A4, C5, rfl, hat, h3, h6⟩
def TB (j : Nat) (c : Nat → Nat) (w : World) (p : Option Addr) : Option Tab → Prop
 | none => p = none
 | some t => ∃ (a : Addr) (p1 : Option Addr), p = some a ∧ AT true j c w a [.pointer p1, .int .i64 t.rev, .int .i64 t.size] ∧ TR 0 c w p1 t.rows
theorem TB.nil {j : Nat} {c : Nat → Nat} {w : World} : TB j c w none none := rfl
theorem TB.some {j : Nat} {c : Nat → Nat} {w : World} {p : Option Addr} {t : Tab} (h : TB j c w p (some t)) : ∃ (a : Addr) (p1 : Option Addr), p = some a ∧ AT true j c w a [.pointer p1, .int .i64 t.rev, .int .i64 t.size] ∧ TR 0 c w p1 t.rows := h
theorem TB.isNone {j : Nat} {c : Nat → Nat} {w : World} {p : Option Addr} {o : Option Tab} (h : TB j c w p o) : p.isNone = o.isNone := by
 cases o with
 | none => have h : p = none := h; rw [h]; rfl
 | some t => obtain ⟨a, p1, e, _⟩ := h; rw [e]; rfl
theorem TB.ev {M : Nat → Prop} {j : Nat} {c c' : Nat → Nat} {w w' : World} {p : Option Addr} {o : Option Tab} (h : TB j c w p o) (E : Ev M c w c' w') (hj : ¬ M j := by first | exact nq | exact ne_zm | exact mm) (h0 : ¬ M 0 := by first | exact nq | exact ne_zm | exact mm) : TB j c' w' p o := by
 cases o with
 | none => exact h
 | some t => obtain ⟨a, p1, e, hat, h2⟩ := h; exact ⟨a, p1, e, hat.ev E hj, h2.ev E h0 h0⟩
theorem TB.rc {j j' : Nat} {c c' : Nat → Nat} {w : World} {p : Option Addr} {o : Option Tab} (h : TB j c w p o) (hr : ∀ k, c k = j → c' k = j') (h0 : ∀ k, c k = 0 → c' k = 0) : TB j' c' w p o := by
 cases o with
 | none => exact h
 | some t => obtain ⟨a, p1, e, hat, h2⟩ := h; exact ⟨a, p1, e, hat.rc hr, h2.rc h0 h0⟩
theorem TB.mk {j : Nat} {c : Nat → Nat} {w : World} {a : Addr} {t : Tab} {p1 : Option Addr} (hat : AT true j c w a [.pointer p1, .int .i64 t.rev, .int .i64 t.size]) (h2 : TR 0 c w p1 t.rows) : TB j c w (Option.some a) (Option.some t) := ⟨a, p1, rfl, hat, h2⟩
def MU81 (j : Nat) (c : Nat → Nat) (w : World) (p : Option Addr) (o : MpV Bool) : Prop := MP .u64 71 Value.bool Try.prog j c w p o
theorem MU81.ev {M : Nat → Prop} {j : Nat} {c c' : Nat → Nat} {w w' : World} {p : Option Addr} {o : MpV Bool} (h : MU81 j c w p o) (E : Ev M c w c' w') (hj : ¬ M j := by first | exact nq | exact ne_zm | exact mm) (h0 : ¬ M 0 := by first | exact nq | exact ne_zm | exact mm) : MU81 j c' w' p o := MP.ev h E hj
theorem MU81.rc {j j' : Nat} {c c' : Nat → Nat} {w : World} {p : Option Addr} {o : MpV Bool} (h : MU81 j c w p o) (hr : ∀ k, c k = j → c' k = j') (h0 : ∀ k, c k = 0 → c' k = 0) : MU81 j' c' w p o := MP.rc h hr
def RD (j : Nat) (c : Nat → Nat) (w : World) (p : Option Addr) : Option Rdr → Prop
 | none => p = none
 | some t => ∃ (a : Addr) (A1 : Option Addr) (C2 : Nat) (A4 : Option Addr) (C5 : Nat), p = some a ∧ AT true j c w a [.slice A1 t.left.length C2, .slice A4 t.outer.length C5, .int .i64 t.fault] ∧ SL false (Kint .u8) 0 0 c w A1 C2 t.left ∧ SL false (Kslice (Kint .u8)) 0 0 c w A4 C5 t.outer
theorem RD.nil {j : Nat} {c : Nat → Nat} {w : World} : RD j c w none none := rfl
theorem RD.some {j : Nat} {c : Nat → Nat} {w : World} {p : Option Addr} {t : Rdr} (h : RD j c w p (some t)) : ∃ (a : Addr) (A1 : Option Addr) (C2 : Nat) (A4 : Option Addr) (C5 : Nat), p = some a ∧ AT true j c w a [.slice A1 t.left.length C2, .slice A4 t.outer.length C5, .int .i64 t.fault] ∧ SL false (Kint .u8) 0 0 c w A1 C2 t.left ∧ SL false (Kslice (Kint .u8)) 0 0 c w A4 C5 t.outer := h
theorem RD.isNone {j : Nat} {c : Nat → Nat} {w : World} {p : Option Addr} {o : Option Rdr} (h : RD j c w p o) : p.isNone = o.isNone := by
 cases o with
 | none => have h : p = none := h; rw [h]; rfl
 | some t => obtain ⟨a, A1, C2, A4, C5, e, _⟩ := h; rw [e]; rfl
theorem RD.ev {M : Nat → Prop} {j : Nat} {c c' : Nat → Nat} {w w' : World} {p : Option Addr} {o : Option Rdr} (h : RD j c w p o) (E : Ev M c w c' w') (hj : ¬ M j := by first | exact nq | exact ne_zm | exact mm) (h0 : ¬ M 0 := by first | exact nq | exact ne_zm | exact mm) : RD j c' w' p o := by
 cases o with
 | none => exact h
 | some t => obtain ⟨a, A1, C2, A4, C5, e, hat, h3, h6⟩ := h; exact ⟨a, A1, C2, A4, C5, e, hat.ev E hj, h3.ev E h0 h0, h6.ev E h0 h0⟩
theorem RD.rc {j j' : Nat} {c c' : Nat → Nat} {w : World} {p : Option Addr} {o : Option Rdr} (h : RD j c w p o) (hr : ∀ k, c k = j → c' k = j') (h0 : ∀ k, c k = 0 → c' k = 0) : RD j' c' w p o := by
 cases o with
 | none => exact h
 | some t => obtain ⟨a, A1, C2, A4, C5, e, hat, h3, h6⟩ := h; exact ⟨a, A1, C2, A4, C5, e, hat.rc hr, h3.rc h0 h0, h6.rc h0 h0⟩
theorem RD.mk {j : Nat} {c : Nat → Nat} {w : World} {a : Addr} {t : Rdr} {A1 : Option Addr} {C2 : Nat} {A4 : Option Addr} {C5 : Nat} (hat : AT true j c w a [.slice A1 t.left.length C2, .slice A4 t.outer.length C5, .int .i64 t.fault]) (h3 : SL false (Kint .u8) 0 0 c w A1 C2 t.left) (h6 : SL false (Kslice (Kint .u8)) 0 0 c w A4 C5 t.outer) : RD j c w (Option.some a) (Option.some t) := ⟨a, A1, C2, A4, C5, rfl, hat, h3, h6⟩
def KO_api_Row : KO api_Row where
 sz := 3
 pos := by decide
 np := 2
 rep := fun γ c w cs x => ∃ (A0 : Option Addr) (C0 : Nat) (A1 : Option Addr) (C1 : Nat), cs = [.slice A0 x.Key.length C0, .slice A1 x.Value.length C1, .int .i64 x.Rev] ∧ SL true (Kint .u8) (γ 0) 0 c w A0 C0 x.Key ∧ SL true (Kint .u8) (γ 1) 0 c w A1 C1 x.Value
 ev := fun ⟨A0, C0, A1, C1, h_, g0_, g1_⟩ E hi h0 => ⟨A0, C0, A1, C1, h_, g0_.ev E (hi 0 (by decide)) h0, g1_.ev E (hi 1 (by decide)) h0⟩
 rc := fun ⟨A0, C0, A1, C1, h_, g0_, g1_⟩ hr h0 hp => ⟨A0, C0, A1, C1, h_, g0_.rc (hr 0 (by decide)) h0, g1_.rc (hr 1 (by decide)) h0⟩
 len := fun ⟨A0, C0, A1, C1, h_, g0_, g1_⟩ => by rw [h_]; rfl
 one := @fun γ c w cs x ⟨A0, C0, A1, C1, h_, g0_, g1_⟩ u hu => by rw [h_] at hu; exact one_all (us := [.slice A0 x.Key.length C0, .slice A1 x.Value.length C1, .int .i64 x.Rev]) rfl u hu
theorem KO_api_Row.v {y : Nat} {c : Nat → Nat} {w : World} {cs : List Value} {x : api_Row} (h : KO_api_Row.rep (fun _ => y) c w cs x) : K_api_Row.rep y c w cs x := by
 obtain ⟨A0, C0, A1, C1, h_, g0_, g1_⟩ := h
 exact ⟨A0, C0, A1, C1, h_, SL.fl (i' := y) g0_.r (fun q => q), SL.fl (i' := y) g1_.r (fun q => q)⟩
def KO_api_Answer : KO api_Answer where
 sz := 5
 pos := by decide
 np := 2
 rep := fun γ c w cs x => ∃ (A0 : Option Addr) (C0 : Nat) (A1 : Option Addr) (C1 : Nat), cs = [.bool x.Done, .slice A0 x.Key.length C0, .slice A1 x.Value.length C1, .int .i64 x.Rev, .int .i64 x.At] ∧ SL true (Kint .u8) (γ 0) 0 c w A0 C0 x.Key ∧ SL true (Kint .u8) (γ 1) 0 c w A1 C1 x.Value
 ev := fun ⟨A0, C0, A1, C1, h_, g0_, g1_⟩ E hi h0 => ⟨A0, C0, A1, C1, h_, g0_.ev E (hi 0 (by decide)) h0, g1_.ev E (hi 1 (by decide)) h0⟩
 rc := fun ⟨A0, C0, A1, C1, h_, g0_, g1_⟩ hr h0 hp => ⟨A0, C0, A1, C1, h_, g0_.rc (hr 0 (by decide)) h0, g1_.rc (hr 1 (by decide)) h0⟩
 len := fun ⟨A0, C0, A1, C1, h_, g0_, g1_⟩ => by rw [h_]; rfl
 one := @fun γ c w cs x ⟨A0, C0, A1, C1, h_, g0_, g1_⟩ u hu => by rw [h_] at hu; exact one_all (us := [.bool x.Done, .slice A0 x.Key.length C0, .slice A1 x.Value.length C1, .int .i64 x.Rev, .int .i64 x.At]) rfl u hu
theorem KO_api_Answer.v {y : Nat} {c : Nat → Nat} {w : World} {cs : List Value} {x : api_Answer} (h : KO_api_Answer.rep (fun _ => y) c w cs x) : K_api_Answer.rep y c w cs x := by
 obtain ⟨A0, C0, A1, C1, h_, g0_, g1_⟩ := h
 exact ⟨A0, C0, A1, C1, h_, SL.fl (i' := y) g0_.r (fun q => q), SL.fl (i' := y) g1_.r (fun q => q)⟩
theorem Try_hm : Try.prog.follows .mixedOrders = true := by kernel_rfl
theorem ff_103_0 : FFA 103 0 0 := fun _ _ => by kernel_rfl
theorem ff_103_1 : FFA 103 1 1 := fun _ _ => by kernel_rfl
theorem ff_103_2 : FFA 103 2 2 := fun _ _ => by kernel_rfl
theorem sz_34 : SZA 34 1 := fun _ => by kernel_rfl
theorem sz_23 : SZA 23 1 := fun _ => by kernel_rfl
theorem ag_34 : AGA 34 false := fun _ => by kernel_rfl
theorem ag_23 : AGA 23 false := fun _ => by kernel_rfl
theorem ag_5 : AGA 5 false := fun _ => by kernel_rfl
theorem ff_88_4 : FFA 88 4 5 := fun _ _ => by kernel_rfl
theorem ag_3 : AGA 3 false := fun _ => by kernel_rfl
theorem ff_88_5 : FFA 88 5 6 := fun _ _ => by kernel_rfl
theorem ag_57 : AGA 57 true := fun _ => by kernel_rfl
theorem sz_57 : SZA 57 2 := fun _ => by kernel_rfl
theorem ff_88_1 : FFA 88 1 1 := fun _ _ => by kernel_rfl
theorem ag_54 : AGA 54 false := fun _ => by kernel_rfl
theorem ff_88_0 : FFA 88 0 0 := fun _ _ => by kernel_rfl
theorem ff_88_2 : FFA 88 2 2 := fun _ _ => by kernel_rfl
theorem ag_9 : AGA 9 false := fun _ => by kernel_rfl
theorem ff_88_3 : FFA 88 3 3 := fun _ _ => by kernel_rfl
theorem zv_57 : ∀ w, (zeroValue 57).run Try.prog w = .ok (.agg #[.slice none 0 0, .int .i64 0]) w := fun _ => by kernel_rfl
theorem ff_57_0 : FFA 57 0 0 := fun _ _ => by kernel_rfl
theorem ff_57_1 : FFA 57 1 1 := fun _ _ => by kernel_rfl
theorem ff_30_0 : FFA 30 0 0 := fun _ _ => by kernel_rfl
theorem ff_30_1 : FFA 30 1 1 := fun _ _ => by kernel_rfl
theorem ff_30_2 : FFA 30 2 2 := fun _ _ => by kernel_rfl
theorem ff_30_3 : FFA 30 3 3 := fun _ _ => by kernel_rfl
theorem zv_9 : ∀ w, (zeroValue 9).run Try.prog w = .ok (.string .empty) w := fun _ => by kernel_rfl
theorem zv_4 : ∀ w, (zeroValue 4).run Try.prog w = .ok (.bool false) w := fun _ => by kernel_rfl
theorem sz_9 : SZA 9 1 := fun _ => by kernel_rfl
theorem sz_4 : SZA 4 1 := fun _ => by kernel_rfl
theorem ag_4 : AGA 4 false := fun _ => by kernel_rfl
theorem ff_59_0 : FFA 59 0 0 := fun _ _ => by kernel_rfl
theorem ff_59_2 : FFA 59 2 2 := fun _ _ => by kernel_rfl
theorem sz_3 : SZA 3 1 := fun _ => by kernel_rfl
theorem sz_54 : SZA 54 1 := fun _ => by kernel_rfl
theorem zv_33 : ∀ w, (zeroValue 33).run Try.prog w = .ok (.agg #[.bool false, .slice none 0 0, .slice none 0 0, .int .i64 0, .int .i64 0]) w := fun _ => by kernel_rfl
theorem ff_59_1 : FFA 59 1 1 := fun _ _ => by kernel_rfl
theorem sz_33 : SZA 33 5 := fun _ => by kernel_rfl
theorem ff_33_1 : FFA 33 1 1 := fun _ _ => by kernel_rfl
theorem ff_33_2 : FFA 33 2 2 := fun _ _ => by kernel_rfl
theorem ff_33_3 : FFA 33 3 3 := fun _ _ => by kernel_rfl
theorem ag_33 : AGA 33 true := fun _ => by kernel_rfl
theorem ag_30 : AGA 30 true := fun _ => by kernel_rfl
theorem sz_30 : SZA 30 4 := fun _ => by kernel_rfl
theorem ff_33_0 : FFA 33 0 0 := fun _ _ => by kernel_rfl
theorem zv_39 : ∀ w, (zeroValue 39).run Try.prog w = .ok (.slice none 0 0) w := fun _ => by kernel_rfl
theorem ag_39 : AGA 39 false := fun _ => by kernel_rfl
theorem et_39 : ET Try.prog 39 51 3 56 (.agg #[.slice none 0 0, .slice none 0 0, .int .i64 0]) := ⟨Try.underlying39, info_parts' (by kernel_rfl), rfl⟩
theorem sz_39 : SZA 39 1 := fun _ => by kernel_rfl
theorem et_23 : ET Try.prog 23 5 1 1 (.int .u8 0) := ⟨Try.underlying23, info_parts' (by kernel_rfl), rfl⟩
theorem ff_95_3 : FFA 95 3 3 := fun _ _ => by kernel_rfl
theorem ff_95_0 : FFA 95 0 0 := fun _ _ => by kernel_rfl
theorem ff_95_1 : FFA 95 1 1 := fun _ _ => by kernel_rfl
theorem ff_95_2 : FFA 95 2 2 := fun _ _ => by kernel_rfl
theorem ag_93 : AGA 93 false := fun _ => by kernel_rfl
theorem zv_68 : ∀ w, (zeroValue 68).run Try.prog w = .ok (.pointer none) w := fun _ => by kernel_rfl
theorem sz_68 : SZA 68 1 := fun _ => by kernel_rfl
theorem ag_68 : AGA 68 false := fun _ => by kernel_rfl
theorem ag_28 : AGA 28 false := fun _ => by kernel_rfl
theorem sz_5 : SZA 5 1 := fun _ => by kernel_rfl
theorem ff_51_0 : FFA 51 0 0 := fun _ _ => by kernel_rfl
theorem ff_51_1 : FFA 51 1 1 := fun _ _ => by kernel_rfl
theorem ff_51_2 : FFA 51 2 2 := fun _ _ => by kernel_rfl
theorem sz_51 : SZA 51 3 := fun _ => by kernel_rfl
theorem ag_51 : AGA 51 true := fun _ => by kernel_rfl
theorem ff_33_4 : FFA 33 4 4 := fun _ _ => by kernel_rfl
theorem zv_30 : ∀ w, (zeroValue 30).run Try.prog w = .ok (.agg #[.int .i64 0, .slice none 0 0, .slice none 0 0, .int .i64 0]) w := fun _ => by kernel_rfl
theorem et_28 : ET Try.prog 28 23 1 24 (.slice none 0 0) := ⟨Try.underlying28, info_parts' (by kernel_rfl), rfl⟩
theorem cells_n3 {cs : List Value} (h : cs.length = 3) : ∃ u0 u1 u2, cs = [u0, u1, u2] := by match cs, h with | [u0, u1, u2], _ => exact ⟨u0, u1, u2, rfl⟩
theorem et_27 : ET Try.prog 27 33 5 72 (.agg #[.bool false, .slice none 0 0, .slice none 0 0, .int .i64 0, .int .i64 0]) := ⟨Try.underlying27, info_parts' (by kernel_rfl), rfl⟩
theorem bS_28_8_23 (A0 : Option Addr) (l0 C0 : Nat) (A1 : Option Addr) (l1 C1 : Nat) (A2 : Option Addr) (l2 C2 : Nat) (A3 : Option Addr) (l3 C3 : Nat) (A4 : Option Addr) (l4 C4 : Nat) (A5 : Option Addr) (l5 C5 : Nat) (A6 : Option Addr) (l6 C6 : Nat) (A7 : Option Addr) (l7 C7 : Nat) (w : World) : (Instr.buildSlice 28 8 ([(0, .slice A0 l0 C0), (1, .slice A1 l1 C1), (2, .slice A2 l2 C2), (3, .slice A3 l3 C3), (4, .slice A4 l4 C4), (5, .slice A5 l5 C5), (6, .slice A6 l6 C6), (7, .slice A7 l7 C7)] : List (Nat × Value)).toArray).run Try.prog w = .ok (.slice (some ⟨w.heap.size, 0, none⟩) 8 8) (w.alloc (.cells ([.slice A0 l0 C0, .slice A1 l1 C1, .slice A2 l2 C2, .slice A3 l3 C3, .slice A4 l4 C4, .slice A5 l5 C5, .slice A6 l6 C6, .slice A7 l7 C7] : List Value).toArray 23 (0, 0))) := by kernel_rfl
end Go.Proofs.Ytoaldfpngihhcaa.G
namespace Go.Proofs.Ytoaldfpngihhcaa.G
open Go Go.RowKit
set_option linter.unusedVariables false
set_option linter.unusedSimpArgs false
set_option maxRecDepth 100000
set_option maxHeartbeats 40000000
theorem haulagelaw13_apart.calls (k : Nat) {m : Nat} {c0 : Nat → Nat} {w0 : World} {j5 : Nat} {j6 : Nat} {A2 : Option Addr} {C3 : Nat} {a1 : List (List Int)} (hm0 : 0 < m) (B0 : CB m c0 w0) (h4 : SP (Kint .u8) j5 j6 c0 w0 A2 C3 a1 0) (bj5 : 0 < j5 ∧ j5 < m) (bj6 : 0 < j6 ∧ j6 < m ∧ j6 ≠ j5) (r : Bool) (H : haulagelaw13_apart.f k a1 = some r) : Calls Try.prog 20 #[.slice A2 a1.length C3] w0 (fun e w_ => ∃ (c_ : Nat → Nat), e = .returned (.bool r) ∧ Ev (fun x => (x = j5 ∨ x = j6)) c0 w0 c_ w_ ∧ CB m c_ w_) := by
 unfold haulagelaw13_apart.f at H; have B := B0.mono (show m ≤ m + 4 by omega); have E : Ev (fun x => (x = j5 ∨ x = j6) ∨ m ≤ x) c0 w0 c0 w0 := Ev.refl; refine enter (N := 121) (l := [.slice A2 a1.length C3]) Try.func20 rfl rfl (nb rfl) fun a F => ?_; refine sr fun K7 hK7 => qa F fun a F => nil (hK7 _ _ ?_); refine sq fun K8 hK8 => ?_; refine sr fun K9 hK9 => qa F fun a F => nil (hK9 _ _ ?_); refine wp_block ?_; obtain ⟨x166, HL, HR165⟩ := bind_some H; have J307 : ∀ (c308 : Nat → Nat) (w309 : World) (a : Act) (l304 : List (List Int)) (A305 : Option Addr) (C306 : Nat), Fr a 121 [(0, .slice A305 l304.length C306)] → Ev (fun x => (x = j5 ∨ x = j6) ∨ m ≤ x) c0 w0 c308 w309 → CB (m + 4) c308 w309 → SP (Kint .u8) j5 j6 c308 w309 A305 C306 l304 0 → haulagelaw13_apart.j6 k l304 = some r → K8 a w309 := by
  intro c308 w309 a l304 A305 C306 F E B h303 H; unfold haulagelaw13_apart.j6 at H; refine hK8 _ _ ?_; refine sr fun K310 hK310 => qa F fun a F => nil (hK310 _ _ ?_); refine sq fun K311 hK311 => ?_; refine sr fun K312 hK312 => qa F fun a F => nil (hK312 _ _ ?_); refine wp_block ?_; obtain ⟨x425, HL, HR424⟩ := bind_some H; have J520 : ∀ (c521 : Nat → Nat) (w522 : World) (a : Act) (l517 : List (List Int)) (A518 : Option Addr) (C519 : Nat), Fr a 121 [(0, .slice A305 l304.length C306), (5, .slice A518 l517.length C519)] → Ev (fun x => (x = j5 ∨ x = j6) ∨ m ≤ x) c0 w0 c521 w522 → CB (m + 4) c521 w522 → SL true (Kslice (Kint .u8)) j5 0 c521 w522 A305 C306 l304 → SL true (Kslice (Kint .u8)) (m + 3) 0 c521 w522 A518 C519 l517 → haulagelaw13_apart.j12 k l304 l517 = some r → K311 a w522 := by
   intro c521 w522 a l517 A518 C519 F E B h303 h516 H; unfold haulagelaw13_apart.j12 at H
   as_aux_lemma =>
   refine hK311 _ _ ?_; refine sq fun K523 hK523 => ?_; refine sr fun K524 hK524 => qa F fun a F => nil (hK524 _ _ ?_); refine wp_block ?_; obtain ⟨x535, HL, HR534⟩ := bind_some H; have J638 : ∀ (c639 : Nat → Nat) (w640 : World) (a : Act), Fr a 121 [] → Ev (fun x => (x = j5 ∨ x = j6) ∨ m ≤ x) c0 w0 c639 w640 → CB (m + 4) c639 w640 → haulagelaw13_apart.j18 = some r → K523 a w640 := by
    intro c639 w640 a  F E B  H; unfold haulagelaw13_apart.j18 at H; refine hK523 _ _ ?_; refine sr fun K641 hK641 => qa F fun a F => nil (hK641 _ _ ?_); refine wp_ret ?_; obtain rfl := si H; refine out1 F rfl rfl ?_; exact ⟨cf (ct m) c639, rfl, E.lv B0, cfb⟩
   refine loop_fuel (I := fun n a w => ∃ (i525 : Int) (c : Nat → Nat), Fr a 121 [(0, .slice A305 l304.length C306), (5, .slice A518 l517.length C519), (9, .int .i64 i525)] ∧ Ev (fun x => (x = j5 ∨ x = j6) ∨ m ≤ x) c0 w0 c w ∧ CB (m + 4) c w ∧ SL true (Kslice (Kint .u8)) j5 0 c w A305 C306 l304 ∧ SL true (Kslice (Kint .u8)) (m + 3) 0 c w A518 C519 l517 ∧ loop (fun (s_ : Int) => haulagelaw13_apart.b17 k l304 l517 s_) n i525 = some x535) (k := k) ⟨0, c521, F.sub ⟨rfl, rfl, rfl, trivial⟩, E, B, h303, h516, HL⟩ ?_; clear HL H E F B; intro n532 X528 hX528 a w527 ⟨i525, c526, F, E, B, h303, h516, HL⟩; obtain ⟨n533, ctl531, rfl, HB, HN529, HD530⟩ := loop_some HL; have H : haulagelaw13_apart.b17 k l304 l517 i525 = some ctl531 := HB; clear HB HL; unfold haulagelaw13_apart.b17 at H; refine sq fun K536 hK536 => ?_
   as_aux_lemma =>
   refine sr fun K537 hK537 => qm F fun a F => qm F fun a F => ?_; refine qv F (r_lensl F Try.underlying28 rfl) fun a F => ?_; refine qv F (r_lss F rfl rfl) fun a F => ?_; refine nil (hK537 _ _ ?_)
   by_cases hb538 : i525 < (l304.length : Int)
   ·replace H := ip hb538 H; refine wct (fb F (dt hb538)) (wp_skip (hK536 _ _ ?_)); refine sq fun K539 hK539 => ?_; refine wp_block ?_; refine sr fun K540 hK540 => qm F fun a F => qm F fun a F => ?_; replace H := ifN H; obtain ⟨g541, H⟩ := H; obtain ⟨ad542, cs543, e544, h545, r546⟩ := SL.at h303 i525 g541.1 g541.2; obtain ⟨A547, C548, rfl, h549⟩ := r546; obtain ⟨qa550, qqa550⟩ : ∃ q, q = (ad542.add (i525.toNat * 1)) := ⟨_, rfl⟩; have h545 : AT true j5 c526 w527 qa550 [.slice A547 (rd l304 i525).length C548] := by rw [qqa550]; exact h545
    refine qv F (r_indexAddr' F Try.underlying28 sz_23 rfl rfl g541.1 g541.2 e544 qqa550) fun a F => ?_; refine qv F (r_load F rfl ag_23 (AT.cell0 h545 rfl)) fun a F => ?_; refine qv F (r_lensl F Try.underlying23 rfl) fun a F => ?_; refine qa F fun a F => nil (hK540 _ _ ?_); replace F : Fr a 121 [(0, .slice A305 l304.length C306), (5, .slice A518 l517.length C519), (9, .int .i64 i525), (10, .int .i64 ((rd l304 i525).length : Int))] := F.sub ⟨rfl, rfl, rfl, rfl, trivial⟩; refine sq fun K552 hK552 => ?_; refine sr fun K553 hK553 => qa F fun a F => nil (hK553 _ _ ?_)
    as_aux_lemma =>
    refine wp_block ?_; obtain ⟨x564, HL, HR563⟩ := bind_some H; have J592 : ∀ (c593 : Nat → Nat) (w594 : World) (a : Act), Fr a 121 [(0, .slice A305 l304.length C306), (5, .slice A518 l517.length C519), (9, .int .i64 i525), (10, .int .i64 ((rd l304 i525).length : Int))] → Ev (fun x => (x = j5 ∨ x = j6) ∨ m ≤ x) c0 w0 c593 w594 → CB (m + 4) c593 w594 → SL true (Kslice (Kint .u8)) j5 0 c593 w594 A305 C306 l304 → SL true (Kslice (Kint .u8)) (m + 3) 0 c593 w594 A518 C519 l517 → haulagelaw13_apart.j14 k l304 l517 i525 = some ctl531 → K552 a w594 := by
     intro c593 w594 a  F E B h303 h516 H; unfold haulagelaw13_apart.j14 at H; refine hK552 _ _ ?_; refine sr fun K595 hK595 => qa F fun a F => nil (hK595 _ _ ?_); refine wp_block ?_; obtain ⟨x606, HL, HR605⟩ := bind_some H; have J634 : ∀ (c635 : Nat → Nat) (w636 : World) (a : Act), Fr a 121 [(0, .slice A305 l304.length C306), (5, .slice A518 l517.length C519), (9, .int .i64 i525)] → Ev (fun x => (x = j5 ∨ x = j6) ∨ m ≤ x) c0 w0 c635 w636 → CB (m + 4) c635 w636 → SL true (Kslice (Kint .u8)) j5 0 c635 w636 A305 C306 l304 → SL true (Kslice (Kint .u8)) (m + 3) 0 c635 w636 A518 C519 l517 → haulagelaw13_apart.j16 i525 = some ctl531 → K539 a w636 := by
      intro c635 w636 a  F E B h303 h516 H; unfold haulagelaw13_apart.j16 at H; refine hK539 _ _ ?_; refine reg ?_; refine qm F fun a F => ?_; refine qv F (r_add F rfl rfl) fun a F => ?_; refine qa F fun a F => nil ?_; replace H := HN529 _ (si H).symm; exact hX528 _ _ _ (Nat.lt_succ_self _) ⟨(IntKind.i64.wrap (i525 + 1)), c635, F.sub ⟨rfl, rfl, rfl, trivial⟩, E, B, h303, h516, H⟩
     refine loop_fuel (I := fun n a w => ∃ (i596 : Int) (c : Nat → Nat), Fr a 121 [(0, .slice A305 l304.length C306), (5, .slice A518 l517.length C519), (9, .int .i64 i525), (10, .int .i64 ((rd l304 i525).length : Int)), (12, .int .i64 i596)] ∧ Ev (fun x => (x = j5 ∨ x = j6) ∨ m ≤ x) c0 w0 c w ∧ CB (m + 4) c w ∧ SL true (Kslice (Kint .u8)) j5 0 c w A305 C306 l304 ∧ SL true (Kslice (Kint .u8)) (m + 3) 0 c w A518 C519 l517 ∧ loop (fun (s_ : Int) => haulagelaw13_apart.b15 l304 l517 i525 s_) n i596 = some x606) (k := k) ⟨0, c593, F.sub ⟨rfl, rfl, rfl, rfl, rfl, trivial⟩, E, B, h303, h516, HL⟩ ?_; clear HL H E F B; intro n603 X599 hX599 a w598 ⟨i596, c597, F, E, B, h303, h516, HL⟩; obtain ⟨n604, ctl602, rfl, HB, HN600, HD601⟩ := loop_some HL; have H : haulagelaw13_apart.b15 l304 l517 i525 i596 = some ctl602 := HB; clear HB HL; unfold haulagelaw13_apart.b15 at H
     as_aux_lemma =>
     refine sq fun K607 hK607 => ?_; refine sr fun K608 hK608 => qm F fun a F => ?_; refine qv F (r_lss F rfl rfl) fun a F => ?_; refine nil (hK608 _ _ ?_)
     by_cases hb609 : i596 < 80
     ·replace H := ip hb609 H; refine wct (fb F (dt hb609)) (wp_skip (hK607 _ _ ?_)); refine sq fun K610 hK610 => ?_; refine wp_block ?_; refine sr fun K611 hK611 => qm F fun a F => qm F fun a F => ?_; replace H := ifN H; obtain ⟨g612, H⟩ := H; obtain ⟨ad613, cs614, e615, h616, r617⟩ := SL.at h516 i525 g612.1 g612.2; obtain ⟨A618, C619, rfl, h620⟩ := r617; replace h620 := SL.fl (i' := 0) h620 (fun q => q); obtain ⟨qa621, qqa621⟩ : ∃ q, q = (ad613.add (i525.toNat * 1)) := ⟨_, rfl⟩; have h616 : AT true (m + 3) c597 w598 qa621 [.slice A618 (rd l517 i525).length C619] := by rw [qqa621]; exact h616
      refine qv F (r_indexAddr' F Try.underlying28 sz_23 rfl rfl g612.1 g612.2 e615 qqa621) fun a F => ?_; refine qv F (r_load F rfl ag_23 (AT.cell0 h616 rfl)) fun a F => ?_; refine qm F fun a F => qm F fun a F => ?_; refine qv F (r_add F rfl rfl) fun a F => ?_; replace H := ifN H; obtain ⟨g623, H⟩ := H; obtain ⟨ad624, cs625, e626, h627, r628⟩ := SL.at h620 (IntKind.i64.wrap (((rd l304 i525).length : Int) + i596)) g623.1 g623.2; obtain rfl : cs625 = [.int .u8 (rd (rd l517 i525) (IntKind.i64.wrap (((rd l304 i525).length : Int) + i596)))] := r628; obtain ⟨qa629, qqa629⟩ : ∃ q, q = (ad624.add ((IntKind.i64.wrap (((rd l304 i525).length : Int) + i596)).toNat * 1)) := ⟨_, rfl⟩; have h627 : AT false 0 c597 w598 qa629 [.int .u8 (rd (rd l517 i525) (IntKind.i64.wrap (((rd l304 i525).length : Int) + i596)))] := by rw [qqa629]; exact h627
      as_aux_lemma =>
      refine qv F (r_indexAddr' F Try.underlying23 sz_5 rfl rfl g623.1 g623.2 e626 qqa629) fun a F => ?_; refine qv F (r_load F rfl ag_5 (AT.cell0 h627 rfl)) fun a F => ?_; refine qm F fun a F => ?_; refine qv F (r_mul F rfl rfl) fun a F => ?_; refine qm F fun a F => ?_; refine qv F (r_mul F rfl rfl) fun a F => ?_; refine qv F (r_add F rfl rfl) fun a F => ?_; refine qv F (r_add F rfl rfl) fun a F => ?_; refine qv F (r_convi F Try.underlying5 rfl rfl) fun a F => ?_; refine qv F (r_neq F rfl rfl) fun a F => ?_; refine nil (hK611 _ _ ?_); replace F : Fr a 121 [(0, .slice A305 l304.length C306), (5, .slice A518 l517.length C519), (9, .int .i64 i525), (10, .int .i64 ((rd l304 i525).length : Int)), (12, .int .i64 i596), (120, .bool (!decide ((rd (rd l517 i525) (IntKind.i64.wrap (((rd l304 i525).length : Int) + i596))) = (IntKind.u8.wrap (IntKind.i64.wrap ((IntKind.i64.wrap ((IntKind.i64.wrap (101 * i525)) + (IntKind.i64.wrap (3 * i596)))) + 60))))))] := F.sub ⟨rfl, rfl, rfl, rfl, rfl, rfl, trivial⟩
      by_cases hb631 : (rd (rd l517 i525) (IntKind.i64.wrap (((rd l304 i525).length : Int) + i596))) = (IntKind.u8.wrap (IntKind.i64.wrap ((IntKind.i64.wrap ((IntKind.i64.wrap (101 * i525)) + (IntKind.i64.wrap (3 * i596)))) + 60)))
      ·replace H := ip hb631 H; refine wcf (fb F (congrArg not (dt hb631))) (wp_skip (hK610 _ _ ?_)); refine reg ?_; refine qm F fun a F => ?_; refine qv F (r_add F rfl rfl) fun a F => ?_; refine qa F fun a F => nil ?_; replace H := HN600 _ (si H).symm; exact hX599 _ _ _ (Nat.lt_succ_self _) ⟨(IntKind.i64.wrap (i596 + 1)), c597, F.sub ⟨rfl, rfl, rfl, rfl, rfl, trivial⟩, E, B, h303, h516, H⟩
      replace H := im hb631 H; refine wct (fb F (congrArg not (dz hb631))) ?_
      as_aux_lemma =>
      refine sr fun K632 hK632 => qa F fun a F => nil (hK632 _ _ ?_); refine wp_ret ?_; refine inbR ?_; refine thenR ?_; refine thenR ?_; refine inbR ?_; refine inbR ?_; refine thenR ?_; refine thenR ?_; refine inbR ?_; refine thenR ?_; have hx_ := HD601 _ (si H).symm; have H := HR605; rw [← hx_] at H; replace H : some (.done (.inr false)) = some ctl531 := H; have hx_ := HD530 _ (si H).symm; have H := HR534; rw [← hx_] at H; replace H : some false = some r := H; obtain rfl := si H; refine out1 F rfl rfl ?_; exact ⟨cf (ct m) c597, rfl, E.lv B0, cfb⟩
     as_aux_lemma =>
     replace H := im hb609 H; refine wcf (fb F (dz hb609)) ?_; refine wp_exit ?_; refine thenE ?_; refine thenE ?_; refine inbE ?_; have hx_ := HD601 _ (si H).symm; have H := HR605; rw [← hx_] at H; exact J634 c597 w598 a  (F.sub ⟨rfl, rfl, rfl, trivial⟩) E B h303 h516 H
    refine loop_fuel (I := fun n a w => ∃ (i554 : Int) (c : Nat → Nat), Fr a 121 [(0, .slice A305 l304.length C306), (5, .slice A518 l517.length C519), (9, .int .i64 i525), (10, .int .i64 ((rd l304 i525).length : Int)), (11, .int .i64 i554)] ∧ Ev (fun x => (x = j5 ∨ x = j6) ∨ m ≤ x) c0 w0 c w ∧ CB (m + 4) c w ∧ SL true (Kslice (Kint .u8)) j5 0 c w A305 C306 l304 ∧ SL true (Kslice (Kint .u8)) (m + 3) 0 c w A518 C519 l517 ∧ loop (fun (s_ : Int) => haulagelaw13_apart.b13 l304 i525 s_) n i554 = some x564) (k := k) ⟨0, c526, F.sub ⟨rfl, rfl, rfl, rfl, rfl, trivial⟩, E, B, h303, h516, HL⟩ ?_; clear HL H E F B; intro n561 X557 hX557 a w556 ⟨i554, c555, F, E, B, h303, h516, HL⟩; obtain ⟨n562, ctl560, rfl, HB, HN558, HD559⟩ := loop_some HL; have H : haulagelaw13_apart.b13 l304 i525 i554 = some ctl560 := HB; clear HB HL; unfold haulagelaw13_apart.b13 at H; refine sq fun K565 hK565 => ?_; refine sr fun K566 hK566 => qm F fun a F => qm F fun a F => ?_; refine qv F (r_lss F rfl rfl) fun a F => ?_; refine nil (hK566 _ _ ?_)
    by_cases hb567 : i554 < ((rd l304 i525).length : Int)
    ·replace H := ip hb567 H
     as_aux_lemma =>
     refine wct (fb F (dt hb567)) (wp_skip (hK565 _ _ ?_)); refine sq fun K568 hK568 => ?_; refine wp_block ?_; refine sr fun K569 hK569 => qm F fun a F => qm F fun a F => ?_; replace H := ifN H; obtain ⟨g570, H⟩ := H; obtain ⟨ad571, cs572, e573, h574, r575⟩ := SL.at h303 i525 g570.1 g570.2; obtain ⟨A576, C577, rfl, h578⟩ := r575; replace h578 := SL.fl (i' := 0) h578 (fun q => q); obtain ⟨qa579, qqa579⟩ : ∃ q, q = (ad571.add (i525.toNat * 1)) := ⟨_, rfl⟩; have h574 : AT true j5 c555 w556 qa579 [.slice A576 (rd l304 i525).length C577] := by rw [qqa579]; exact h574
     refine qv F (r_indexAddr' F Try.underlying28 sz_23 rfl rfl g570.1 g570.2 e573 qqa579) fun a F => ?_; refine qv F (r_load F rfl ag_23 (AT.cell0 h574 rfl)) fun a F => ?_; refine qm F fun a F => ?_; replace H := ifN H; obtain ⟨g581, H⟩ := H; obtain ⟨ad582, cs583, e584, h585, r586⟩ := SL.at h578 i554 g581.1 g581.2; obtain rfl : cs583 = [.int .u8 (rd (rd l304 i525) i554)] := r586; obtain ⟨qa587, qqa587⟩ : ∃ q, q = (ad582.add (i554.toNat * 1)) := ⟨_, rfl⟩; have h585 : AT false 0 c555 w556 qa587 [.int .u8 (rd (rd l304 i525) i554)] := by rw [qqa587]; exact h585
     refine qv F (r_indexAddr' F Try.underlying23 sz_5 rfl rfl g581.1 g581.2 e584 qqa587) fun a F => ?_; refine qv F (r_load F rfl ag_5 (AT.cell0 h585 rfl)) fun a F => ?_
     as_aux_lemma =>
     refine qm F fun a F => ?_; refine qv F (r_mul F rfl rfl) fun a F => ?_; refine qm F fun a F => ?_; refine qv F (r_mul F rfl rfl) fun a F => ?_; refine qv F (r_add F rfl rfl) fun a F => ?_; refine qv F (r_add F rfl rfl) fun a F => ?_; refine qv F (r_convi F Try.underlying5 rfl rfl) fun a F => ?_; refine qv F (r_neq F rfl rfl) fun a F => ?_; refine nil (hK569 _ _ ?_); replace F : Fr a 121 [(0, .slice A305 l304.length C306), (5, .slice A518 l517.length C519), (9, .int .i64 i525), (10, .int .i64 ((rd l304 i525).length : Int)), (11, .int .i64 i554), (99, .bool (!decide ((rd (rd l304 i525) i554) = (IntKind.u8.wrap (IntKind.i64.wrap ((IntKind.i64.wrap ((IntKind.i64.wrap (37 * i525)) + (IntKind.i64.wrap (5 * i554)))) + 11))))))] := F.sub ⟨rfl, rfl, rfl, rfl, rfl, rfl, trivial⟩
     by_cases hb589 : (rd (rd l304 i525) i554) = (IntKind.u8.wrap (IntKind.i64.wrap ((IntKind.i64.wrap ((IntKind.i64.wrap (37 * i525)) + (IntKind.i64.wrap (5 * i554)))) + 11)))
     ·replace H := ip hb589 H; refine wcf (fb F (congrArg not (dt hb589))) (wp_skip (hK568 _ _ ?_)); refine reg ?_; refine qm F fun a F => ?_; refine qv F (r_add F rfl rfl) fun a F => ?_; refine qa F fun a F => nil ?_; replace H := HN558 _ (si H).symm; exact hX557 _ _ _ (Nat.lt_succ_self _) ⟨(IntKind.i64.wrap (i554 + 1)), c555, F.sub ⟨rfl, rfl, rfl, rfl, rfl, trivial⟩, E, B, h303, h516, H⟩
     replace H := im hb589 H; refine wct (fb F (congrArg not (dz hb589))) ?_; refine sr fun K590 hK590 => qa F fun a F => nil (hK590 _ _ ?_); refine wp_ret ?_
     as_aux_lemma =>
     refine inbR ?_; refine thenR ?_; refine thenR ?_; refine inbR ?_; refine thenR ?_; refine inbR ?_; refine thenR ?_; refine thenR ?_; refine inbR ?_; refine thenR ?_; have hx_ := HD559 _ (si H).symm; have H := HR563; rw [← hx_] at H; replace H : some (.done (.inr false)) = some ctl531 := H; have hx_ := HD530 _ (si H).symm; have H := HR534; rw [← hx_] at H; replace H : some false = some r := H; obtain rfl := si H; refine out1 F rfl rfl ?_; exact ⟨cf (ct m) c555, rfl, E.lv B0, cfb⟩
    replace H := im hb567 H
    as_aux_lemma =>
    refine wcf (fb F (dz hb567)) ?_; refine wp_exit ?_; refine thenE ?_; refine thenE ?_; refine inbE ?_; have hx_ := HD559 _ (si H).symm; have H := HR563; rw [← hx_] at H; exact J592 c555 w556 a  (F.sub ⟨rfl, rfl, rfl, rfl, trivial⟩) E B h303 h516 H
   replace H := im hb538 H; refine wcf (fb F (dz hb538)) ?_; refine wp_exit ?_; refine thenE ?_; refine thenE ?_; refine inbE ?_; have hx_ := HD530 _ (si H).symm; have H := HR534; rw [← hx_] at H; exact J638 c526 w527 a  (F.sub trivial) E B  H
  refine loop_fuel (I := fun n a w => ∃ (l411 : List (List Int)) (A412 : Option Addr) (C413 : Nat) (i415 : Int) (c : Nat → Nat), Fr a 121 [(0, .slice A305 l304.length C306), (5, .slice A412 l411.length C413), (6, .int .i64 i415)] ∧ Ev (fun x => (x = j5 ∨ x = j6) ∨ m ≤ x) c0 w0 c w ∧ CB (m + 4) c w ∧ SP (Kint .u8) j5 j6 c w A305 C306 l304 i415.toNat ∧ SL true (Kslice (Kint .u8)) (m + 3) 0 c w A412 C413 l411 ∧ loop (fun (s_ : (List (List Int)) × Int) => haulagelaw13_apart.b11 k l304 s_.1 s_.2) n (l411, i415) = some x425) (k := k) ⟨[], none, 0, 0, c308, F.sub ⟨rfl, rfl, rfl, trivial⟩, E, B, h303, SL.nil, HL⟩ ?_; clear HL H E F B; intro n422 X418 hX418 a w417 ⟨l411, A412, C413, i415, c416, F, E, B, h303, h414, HL⟩; obtain ⟨n423, ctl421, rfl, HB, HN419, HD420⟩ := loop_some HL; have H : haulagelaw13_apart.b11 k l304 l411 i415 = some ctl421 := HB; clear HB HL; unfold haulagelaw13_apart.b11 at H
  as_aux_lemma =>
  refine sq fun K426 hK426 => ?_; refine sr fun K427 hK427 => qm F fun a F => qm F fun a F => ?_; refine qv F (r_lensl F Try.underlying28 rfl) fun a F => ?_; refine qv F (r_lss F rfl rfl) fun a F => ?_; refine nil (hK427 _ _ ?_)
  by_cases hb428 : i415 < (l304.length : Int)
  ·replace H := ip hb428 H; refine wct (fb F (dt hb428)) (wp_skip (hK426 _ _ ?_)); refine sq fun K430 hK430 => ?_; refine wp_block ?_; refine sr fun K431 hK431 => qm F fun a F => qm F fun a F => ?_; replace H := ifN H; obtain ⟨g432, H⟩ := H; obtain ⟨c433, e434, e435, ad436, A437, C438, e439, h440, h441, h303⟩ := SP.take (z := m + 2) h303 i415 g432.1 g432.2 rfl ⟨(ne_mp bj6.2.1), (pl hm0)⟩ (Ne.symm bj6.2.2); replace h414 := SL.rc h414 (rk e434 (ne_mp bj6.2.1)) (rk e434 (ne_z bj6.1)); obtain ⟨qa442, qqa442⟩ : ∃ q, q = (ad436.add (i415.toNat * 1)) := ⟨_, rfl⟩; have h440 : AT true j5 c433 w417 qa442 [.slice A437 (rd l304 i415).length C438] := by rw [qqa442]; exact h440
   replace E : Ev (fun x => (x = j5 ∨ x = j6) ∨ m ≤ x) c0 w0 c433 w417 := E.rkM e434 (by simp); replace B := B.rk e435 lm; refine qv F (r_indexAddr' F Try.underlying28 sz_23 rfl rfl g432.1 g432.2 e439 qqa442) fun a F => ?_; refine qv F (r_load F rfl ag_23 (AT.cell0 h440 rfl)) fun a F => ?_; refine qa F fun a F => nil (hK431 _ _ ?_); replace F : Fr a 121 [(0, .slice A305 l304.length C306), (5, .slice A412 l411.length C413), (6, .int .i64 i415), (7, .slice A437 (rd l304 i415).length C438)] := F.sub ⟨rfl, rfl, rfl, rfl, trivial⟩
   as_aux_lemma =>
   refine sq fun K444 hK444 => ?_; refine sr fun K445 hK445 => qa F fun a F => nil (hK445 _ _ ?_); refine wp_block ?_; obtain ⟨x460, HL, HR459⟩ := bind_some H; have J491 : ∀ (c492 : Nat → Nat) (w493 : World) (a : Act) (l488 : List Int) (A489 : Option Addr) (C490 : Nat), Fr a 121 [(0, .slice A305 l304.length C306), (5, .slice A412 l411.length C413), (6, .int .i64 i415), (7, .slice A489 l488.length C490)] → Ev (fun x => (x = j5 ∨ x = j6) ∨ m ≤ x) c0 w0 c492 w493 → CB (m + 4) c492 w493 → SPT (Kint .u8) j5 j6 c492 w493 A305 C306 l304 i415.toNat A437 C438 (rd l304 i415) → SL true (Kslice (Kint .u8)) (m + 3) 0 c492 w493 A412 C413 l411 → TW (Kint .u8) (m + 2) c492 w493 A437 C438 (rd l304 i415) A489 C490 l488 → haulagelaw13_apart.j10 l411 i415 l488 = some ctl421 → K444 a w493 := by
    intro c492 w493 a l488 A489 C490 F E B h303 h414 h487 H; unfold haulagelaw13_apart.j10 at H; refine hK444 _ _ ?_; refine reg ?_; refine qm F fun a F => qm F fun a F => ?_; obtain ⟨c494, hc494⟩ : ∃ c', c' = fun k => if c492 k = m + 2 then 0 else c492 k := ⟨_, rfl⟩; have e495 : ∀ b, c492 b ≠ m + 2 → c494 b = c492 b := fun b hb => by rw [hc494]; exact if_neg hb
    replace h303 := SPT.rc h303 (rk e495 (ne_pm bj5.2)) (rk e495 (ne_pm bj6.2.1)) (rk e495 ne_zm) bj6.1; replace h414 := SL.rc h414 (rk e495 mm) (rk e495 ne_zm); obtain ⟨h496, h487⟩ := TW.fr (c' := c494) h487 (fun k_ hk_ => by rw [hc494]; exact if_pos hk_) (rk e495 ne_zm); replace h303 := SP.next (k := i415) (SPT.put h303 h496) g432.1 rfl (by have g_ := g432.2; have g0_ := g432.1; omega); have E : Ev (fun x => (x = j5 ∨ x = j6) ∨ m ≤ x) c0 w0 c494 w493 := by rw [hc494]; exact E.freeze B0 (by omega)
    have B : CB (m + 4) c494 w493 := by rw [hc494]; exact B.freeze (by omega)
    refine q_eff F rfl rfl (by decide) (e_buildSlice (n := 1) (e := 23) (c := c494) (k := (Kslice (Kint .u8))) (i := 0) F [(0, .slice A489 l488.length C490)] [.slice A489 l488.length C490] ([l488] : List (List Int)) (by exact ⟨rfl, rfl, trivial⟩) (fun w => by kernel_rfl) rfl (by decide) rfl ⟨⟨A489, C490, rfl, (SL.fl h487 (fun q => q))⟩, trivial⟩ (fun q => q) 0) ?_; rintro v w498 a ⟨c497, A499, C500, rfl, E501, h502, B503⟩ F; replace B := B503 _ B (pl hm0); replace h303 := h303.ev E501
    as_aux_lemma =>
    replace h414 := h414.ev E501; replace E := E.n E501; replace H := ifN H; obtain ⟨g403, H⟩ := H; refine q_eff F rfl rfl (by decide) (e_append (k := (Kslice (Kint .u8))) (xs := l411) (ys := [l488]) (c := c497) (j := (m + 3)) (i := 0) F et_28 rfl rfl h414 h502 g403 (len_ok g403) ne_zm) ?_; rintro v w505 a ⟨c504, A506, C507, rfl, E508, h509, B510⟩ F; replace B := B510 _ B lm; replace h303 := h303.ev E508 (ne_pm bj5.2) (ne_pm bj6.2.1) ne_zm; replace E := E.trans E508 lc1; refine qa F fun a F => nil (hK430 _ _ ?_); refine reg ?_; refine qm F fun a F => ?_; refine qv F (r_add F rfl rfl) fun a F => ?_; refine qa F fun a F => nil ?_; replace H := HN419 _ (si H).symm; exact hX418 _ _ _ (Nat.lt_succ_self _) ⟨(l411 ++ [l488]), A506, C507, (IntKind.i64.wrap (i415 + 1)), c504, F.sub ⟨rfl, rfl, rfl, trivial⟩, E, B, h303, h509, H⟩
   refine loop_fuel (I := fun n a w => ∃ (l446 : List Int) (A447 : Option Addr) (C448 : Nat) (i450 : Int) (c : Nat → Nat), Fr a 121 [(0, .slice A305 l304.length C306), (5, .slice A412 l411.length C413), (6, .int .i64 i415), (7, .slice A447 l446.length C448), (8, .int .i64 i450)] ∧ Ev (fun x => (x = j5 ∨ x = j6) ∨ m ≤ x) c0 w0 c w ∧ CB (m + 4) c w ∧ SPT (Kint .u8) j5 j6 c w A305 C306 l304 i415.toNat A437 C438 (rd l304 i415) ∧ SL true (Kslice (Kint .u8)) (m + 3) 0 c w A412 C413 l411 ∧ TW (Kint .u8) (m + 2) c w A437 C438 (rd l304 i415) A447 C448 l446 ∧ loop (fun (s_ : (List Int) × Int) => haulagelaw13_apart.b9 i415 s_.1 s_.2) n (l446, i450) = some x460) (k := k) ⟨(rd l304 i415), A437, C438, 0, c433, F.sub ⟨rfl, rfl, rfl, rfl, rfl, trivial⟩, E, B, h303, h414, h441, HL⟩ ?_; clear HL H E F B; intro n457 X453 hX453 a w452 ⟨l446, A447, C448, i450, c451, F, E, B, h303, h414, h449, HL⟩; obtain ⟨n458, ctl456, rfl, HB, HN454, HD455⟩ := loop_some HL; have H : haulagelaw13_apart.b9 i415 l446 i450 = some ctl456 := HB; clear HB HL; unfold haulagelaw13_apart.b9 at H
   as_aux_lemma =>
   refine sq fun K461 hK461 => ?_; refine sr fun K462 hK462 => qm F fun a F => ?_; refine qv F (r_lss F rfl rfl) fun a F => ?_; refine nil (hK462 _ _ ?_)
   by_cases hb463 : i450 < 80
   ·replace H := ip hb463 H; refine wct (fb F (dt hb463)) (wp_skip (hK461 _ _ ?_)); refine sq fun K464 hK464 => ?_; refine wp_block ?_; refine reg ?_; refine qm F fun a F => qm F fun a F => ?_; refine qv F (r_mul F rfl rfl) fun a F => ?_; refine qm F fun a F => ?_; refine qv F (r_mul F rfl rfl) fun a F => ?_; refine qv F (r_add F rfl rfl) fun a F => ?_; refine qv F (r_add F rfl rfl) fun a F => ?_; refine qv F (r_convi F Try.underlying5 rfl rfl) fun a F => ?_; refine q_eff F rfl rfl (by decide) (e_buildSlice (n := 1) (e := 5) (c := c451) (k := (Kint .u8)) (i := 0) F [(0, .int .u8 (IntKind.u8.wrap (IntKind.i64.wrap ((IntKind.i64.wrap ((IntKind.i64.wrap (101 * i415)) + (IntKind.i64.wrap (3 * i450)))) + 60))))] [.int .u8 (IntKind.u8.wrap (IntKind.i64.wrap ((IntKind.i64.wrap ((IntKind.i64.wrap (101 * i415)) + (IntKind.i64.wrap (3 * i450)))) + 60)))] ([IntKind.u8.wrap (IntKind.i64.wrap ((IntKind.i64.wrap ((IntKind.i64.wrap (101 * i415)) + (IntKind.i64.wrap (3 * i450)))) + 60))] : List Int) (by exact ⟨rfl, rfl, trivial⟩) (fun w => by kernel_rfl) rfl (by decide) rfl ⟨rfl, trivial⟩ (fun q => q) 0) ?_; rintro v w466 a ⟨c465, A467, C468, rfl, E469, h470, B471⟩ F; replace B := B471 _ B (pl hm0); replace h303 := h303.ev E469; replace h449 := h449.ev E469; replace E := E.n E469
    as_aux_lemma =>
    replace H := ifN H; obtain ⟨g370, H⟩ := H; refine q_eff F rfl rfl (by decide) (e_appendT (e := (Kint .u8)) (ys := l446) (vs := [IntKind.u8.wrap (IntKind.i64.wrap ((IntKind.i64.wrap ((IntKind.i64.wrap (101 * i415)) + (IntKind.i64.wrap (3 * i450)))) + 60))]) (c := c465) F et_23 rfl rfl h449 h470 g370 (len_ok g370) (pl hm0)) ?_; rintro v w476 a ⟨c472, A477, C478, rfl, E479, B481, c473, e474, e475, h480⟩ F; replace B := B481 _ B lm; replace h303 := h303.ev E479 (ne_pm bj5.2) (ne_pm bj6.2.1) ne_zm; replace h414 := (h414.ev E469).ev E479; replace E := E.trans E479 lc1; replace h303 := SPT.rc h303 (rk e474 (ne_pm bj5.2)) (rk e474 (ne_pm bj6.2.1)) (rk e474 ne_zm) bj6.1; replace h414 := SL.rc h414 (rk e474 mm) (rk e474 ne_zm); replace E : Ev (fun x => (x = j5 ∨ x = j6) ∨ m ≤ x) c0 w0 c473 w476 := E.recol B0 (fun b_ hb_ => e474 b_ (by omega)); replace B := B.rk e475 (pl hm0); refine qa F fun a F => nil (hK464 _ _ ?_); replace F : Fr a 121 [(0, .slice A305 l304.length C306), (5, .slice A412 l411.length C413), (6, .int .i64 i415), (7, .slice A477 (l446 ++ [IntKind.u8.wrap (IntKind.i64.wrap ((IntKind.i64.wrap ((IntKind.i64.wrap (101 * i415)) + (IntKind.i64.wrap (3 * i450)))) + 60))]).length C478), (8, .int .i64 i450)] := F.sub ⟨rfl, rfl, rfl, rfl, rfl, trivial⟩; refine reg ?_; refine qm F fun a F => ?_; refine qv F (r_add F rfl rfl) fun a F => ?_; refine qa F fun a F => nil ?_; replace H := HN454 _ (si H).symm; exact hX453 _ _ _ (Nat.lt_succ_self _) ⟨(l446 ++ [IntKind.u8.wrap (IntKind.i64.wrap ((IntKind.i64.wrap ((IntKind.i64.wrap (101 * i415)) + (IntKind.i64.wrap (3 * i450)))) + 60))]), A477, C478, (IntKind.i64.wrap (i450 + 1)), c473, F.sub ⟨rfl, rfl, rfl, rfl, rfl, trivial⟩, E, B, h303, h414, h480, H⟩
   replace H := im hb463 H; refine wcf (fb F (dz hb463)) ?_
   as_aux_lemma =>
   refine wp_exit ?_; refine thenE ?_; refine thenE ?_; refine inbE ?_; have hx_ := HD455 _ (si H).symm; have H := HR459; rw [← hx_] at H; exact J491 c451 w452 a l446 A447 C448 (F.sub ⟨rfl, rfl, rfl, rfl, trivial⟩) E B h303 h414 h449 H
  replace H := im hb428 H; refine wcf (fb F (dz hb428)) ?_; refine wp_exit ?_; refine thenE ?_; refine thenE ?_; refine inbE ?_; replace H := ifN H; obtain ⟨g429, H⟩ := H; replace h303 := SP.done h303 g429; have hx_ := HD420 _ (si H).symm; have H := HR424; rw [← hx_] at H; exact J520 c416 w417 a l411 A412 C413 (F.sub ⟨rfl, rfl, trivial⟩) E B h303 h414 H
 refine loop_fuel (I := fun n a w => ∃ (l155 : List (List Int)) (A152 : Option Addr) (C153 : Nat) (i156 : Int) (c : Nat → Nat), Fr a 121 [(0, .slice A152 l155.length C153), (3, .int .i64 i156)] ∧ Ev (fun x => (x = j5 ∨ x = j6) ∨ m ≤ x) c0 w0 c w ∧ CB (m + 4) c w ∧ SP (Kint .u8) j5 j6 c w A152 C153 l155 0 ∧ loop (fun (s_ : (List (List Int)) × Int) => haulagelaw13_apart.b5 k s_.1 s_.2) n (l155, i156) = some x166) (k := k) ⟨a1, A2, C3, 0, c0, F.sub ⟨rfl, rfl, trivial⟩, E, B, h4, HL⟩ ?_; clear HL H E F B; intro n163 X159 hX159 a w158 ⟨l155, A152, C153, i156, c157, F, E, B, h154, HL⟩; obtain ⟨n164, ctl162, rfl, HB, HN160, HD161⟩ := loop_some HL; have H : haulagelaw13_apart.b5 k l155 i156 = some ctl162 := HB; clear HB HL; unfold haulagelaw13_apart.b5 at H
 as_aux_lemma =>
 refine sq fun K167 hK167 => ?_; refine sr fun K168 hK168 => qm F fun a F => qm F fun a F => ?_; refine qv F (r_lensl F Try.underlying28 rfl) fun a F => ?_; refine qv F (r_lss F rfl rfl) fun a F => ?_; refine nil (hK168 _ _ ?_)
 by_cases hb169 : i156 < (l155.length : Int)
 ·replace H := ip hb169 H; refine wct (fb F (dt hb169)) (wp_skip (hK167 _ _ ?_)); refine sq fun K170 hK170 => ?_; refine wp_block ?_; refine sr fun K171 hK171 => qa F fun a F => nil (hK171 _ _ ?_); refine wp_block ?_; obtain ⟨x241, HL, HR240⟩ := bind_some H; have J295 : ∀ (c296 : Nat → Nat) (w297 : World) (a : Act) (l292 : List (List Int)) (A293 : Option Addr) (C294 : Nat), Fr a 121 [(0, .slice A293 l292.length C294), (3, .int .i64 i156)] → Ev (fun x => (x = j5 ∨ x = j6) ∨ m ≤ x) c0 w0 c296 w297 → CB (m + 4) c296 w297 → SP (Kint .u8) j5 j6 c296 w297 A293 C294 l292 0 → haulagelaw13_apart.j4 i156 l292 = some ctl162 → K170 a w297 := by
   intro c296 w297 a l292 A293 C294 F E B h291 H; unfold haulagelaw13_apart.j4 at H; refine hK170 _ _ ?_; refine reg ?_; refine qm F fun a F => ?_; refine qv F (r_add F rfl rfl) fun a F => ?_; refine qa F fun a F => nil ?_; replace H := HN160 _ (si H).symm; exact hX159 _ _ _ (Nat.lt_succ_self _) ⟨l292, A293, C294, (IntKind.i64.wrap (i156 + 1)), c296, F.sub ⟨rfl, rfl, trivial⟩, E, B, h291, H⟩
  refine loop_fuel (I := fun n a w => ∃ (l230 : List (List Int)) (A227 : Option Addr) (C228 : Nat) (i231 : Int) (c : Nat → Nat), Fr a 121 [(0, .slice A227 l230.length C228), (3, .int .i64 i156), (4, .int .i64 i231)] ∧ Ev (fun x => (x = j5 ∨ x = j6) ∨ m ≤ x) c0 w0 c w ∧ CB (m + 4) c w ∧ SP (Kint .u8) j5 j6 c w A227 C228 l230 0 ∧ loop (fun (s_ : (List (List Int)) × Int) => haulagelaw13_apart.b3 i156 s_.1 s_.2) n (l230, i231) = some x241) (k := k) ⟨l155, A152, C153, 0, c157, F.sub ⟨rfl, rfl, rfl, trivial⟩, E, B, h154, HL⟩ ?_; clear HL H E F B; intro n238 X234 hX234 a w233 ⟨l230, A227, C228, i231, c232, F, E, B, h229, HL⟩; obtain ⟨n239, ctl237, rfl, HB, HN235, HD236⟩ := loop_some HL; have H : haulagelaw13_apart.b3 i156 l230 i231 = some ctl237 := HB; clear HB HL; unfold haulagelaw13_apart.b3 at H
  as_aux_lemma =>
  refine sq fun K242 hK242 => ?_; refine sr fun K243 hK243 => qm F fun a F => qm F fun a F => qm F fun a F => ?_; have h244 : SL false (Kslice (Kint .u8)) j5 j6 c232 w233 A227 C228 l230 := SP.view h229 (fun q_ => q_); replace H := ifN H; obtain ⟨g245, H⟩ := H; obtain ⟨ad246, cs247, e248, h249, r250⟩ := SL.at h244 i156 g245.1 g245.2; obtain ⟨A251, C252, rfl, h253⟩ := r250; obtain ⟨qa254, qqa254⟩ : ∃ q, q = (ad246.add (i156.toNat * 1)) := ⟨_, rfl⟩; have h249 : AT false j5 c232 w233 qa254 [.slice A251 (rd l230 i156).length C252] := by rw [qqa254]; exact h249
  refine qv F (r_indexAddr' F Try.underlying28 sz_23 rfl rfl g245.1 g245.2 e248 qqa254) fun a F => ?_; refine qv F (r_load F rfl ag_23 (AT.cell0 h249 rfl)) fun a F => ?_; refine qv F (r_lensl F Try.underlying23 rfl) fun a F => ?_; refine qv F (r_lss F rfl rfl) fun a F => ?_; refine nil (hK243 _ _ ?_)
  by_cases hb256 : i231 < ((rd l230 i156).length : Int)
  ·replace H := ip hb256 H; refine wct (fb F (dt hb256)) (wp_skip (hK242 _ _ ?_)); refine sq fun K257 hK257 => ?_; refine wp_block ?_; refine reg ?_; refine qm F fun a F => qm F fun a F => ?_; replace H := ifN H; obtain ⟨g258, H⟩ := H; obtain ⟨c259, e260, e261, ad262, A263, C264, e265, h266, h267, h229⟩ := SP.lend (z := m + 1) h229 i156 g258.1 g258.2 (Nat.zero_le _) ⟨(ne_mp bj6.2.1), (pl hm0)⟩ (Ne.symm bj6.2.2); obtain ⟨qa268, qqa268⟩ : ∃ q, q = (ad262.add (i156.toNat * 1)) := ⟨_, rfl⟩; have h266 : AT true j5 c259 w233 qa268 [.slice A263 (rd l230 i156).length C264] := by rw [qqa268]; exact h266
   as_aux_lemma =>
   replace E : Ev (fun x => (x = j5 ∨ x = j6) ∨ m ≤ x) c0 w0 c259 w233 := E.rkM e260 (by simp); replace B := B.rk e261 lm; refine qv F (r_indexAddr' F Try.underlying28 sz_23 rfl rfl g258.1 g258.2 e265 qqa268) fun a F => ?_; refine qv F (r_load F rfl ag_23 (AT.cell0 h266 rfl)) fun a F => ?_; refine qm F fun a F => qm F fun a F => ?_; refine qv F (r_mul F rfl rfl) fun a F => ?_; refine qm F fun a F => ?_; refine qv F (r_mul F rfl rfl) fun a F => ?_; refine qv F (r_add F rfl rfl) fun a F => ?_; refine qv F (r_add F rfl rfl) fun a F => ?_; refine qv F (r_convi F Try.underlying5 rfl rfl) fun a F => ?_; replace H := ifN H; obtain ⟨g270, H⟩ := H; obtain ⟨ad271, cs272, e273, h274, r275⟩ := SL.at h267 i231 g270.1 g270.2; obtain rfl : cs272 = [.int .u8 (rd (rd l230 i156) i231)] := r275; obtain ⟨qa276, qqa276⟩ : ∃ q, q = (ad271.add (i231.toNat * 1)) := ⟨_, rfl⟩; have h274 : AT true (m + 1) c259 w233 qa276 [.int .u8 (rd (rd l230 i156) i231)] := by rw [qqa276]; exact h274
   refine qv F (r_indexAddr' F Try.underlying23 sz_5 rfl rfl g270.1 g270.2 e273 qqa276) fun a F => ?_; refine q_eff0 F rfl rfl (e_storeel0 (k := (Kint .u8)) F rfl rfl sz_5 h267 g270.1 g270.2 e273 qqa276 h274 rfl (nb rfl) rfl (IntKind.u8.wrap (IntKind.i64.wrap ((IntKind.i64.wrap ((IntKind.i64.wrap (37 * i156)) + (IntKind.i64.wrap (5 * i231)))) + 11))) rfl ne_zm) ?_; rintro w278 a ⟨E279, h267, Z280⟩ F; replace B := B.size Z280; replace h229 := h229.ev E279 (ne_pm bj5.2) (ne_pm bj6.2.1) ne_zm
   as_aux_lemma =>
   replace h266 := h266.ev E279 (ne_pm bj5.2); replace E := E.trans E279 lc1; have hl281 : (rd l230 i156).length = ((rd l230 i156).set i231.toNat (IntKind.u8.wrap (IntKind.i64.wrap ((IntKind.i64.wrap ((IntKind.i64.wrap (37 * i156)) + (IntKind.i64.wrap (5 * i231)))) + 11)))).length := by simp
   have h266 : AT true j5 c259 w278 qa268 [.slice A263 ((rd l230 i156).set i231.toNat (IntKind.u8.wrap (IntKind.i64.wrap ((IntKind.i64.wrap ((IntKind.i64.wrap (37 * i156)) + (IntKind.i64.wrap (5 * i231)))) + 11)))).length C264] := by rw [← hl281]; exact h266
   replace F := F.sub (L' := [(0, .slice A227 l230.length C228), (3, .int .i64 i156), (4, .int .i64 i231), (39, .int .u8 (IntKind.u8.wrap (IntKind.i64.wrap ((IntKind.i64.wrap ((IntKind.i64.wrap (37 * i156)) + (IntKind.i64.wrap (5 * i231)))) + 11))))]) ⟨rfl, rfl, rfl, rfl, trivial⟩; obtain ⟨c282, e283, e284, h229⟩ := SP.back (z := m + 1) (k := i156) (ad := ad262) h229 g258.1 g258.2 (Nat.zero_le _) e265 (by rw [← qqa268]; exact h266) h267 ⟨(ne_mp bj6.2.1), (pl hm0)⟩ (ne_pm bj5.2); replace E : Ev (fun x => (x = j5 ∨ x = j6) ∨ m ≤ x) c0 w0 c282 w278 := E.recol B0 (fun b_ hb_ => e283 b_ (by omega)); replace B := B.rk e284 (Nat.lt_add_right _ bj6.2.1); have hl285 : l230.length = (l230.set i156.toNat ((rd l230 i156).set i231.toNat (IntKind.u8.wrap (IntKind.i64.wrap ((IntKind.i64.wrap ((IntKind.i64.wrap (37 * i156)) + (IntKind.i64.wrap (5 * i231)))) + 11))))).length := by simp
   replace F := F.sub (L' := [(0, .slice A227 (l230.set i156.toNat ((rd l230 i156).set i231.toNat (IntKind.u8.wrap (IntKind.i64.wrap ((IntKind.i64.wrap ((IntKind.i64.wrap (37 * i156)) + (IntKind.i64.wrap (5 * i231)))) + 11))))).length C228), (3, .int .i64 i156), (4, .int .i64 i231), (39, .int .u8 (IntKind.u8.wrap (IntKind.i64.wrap ((IntKind.i64.wrap ((IntKind.i64.wrap (37 * i156)) + (IntKind.i64.wrap (5 * i231)))) + 11))))]) ⟨(by rw [← hl285]; rfl), rfl, rfl, rfl, trivial⟩; refine nil (hK257 _ _ ?_); refine reg ?_; refine qm F fun a F => ?_; refine qv F (r_add F rfl rfl) fun a F => ?_; refine qa F fun a F => nil ?_; replace H := HN235 _ (si H).symm; exact hX234 _ _ _ (Nat.lt_succ_self _) ⟨(l230.set i156.toNat ((rd l230 i156).set i231.toNat (IntKind.u8.wrap (IntKind.i64.wrap ((IntKind.i64.wrap ((IntKind.i64.wrap (37 * i156)) + (IntKind.i64.wrap (5 * i231)))) + 11))))), A227, C228, (IntKind.i64.wrap (i231 + 1)), c282, F.sub ⟨rfl, rfl, rfl, trivial⟩, E, B, h229, H⟩
  replace H := im hb256 H; refine wcf (fb F (dz hb256)) ?_; refine wp_exit ?_; refine thenE ?_; refine thenE ?_
  as_aux_lemma =>
  refine inbE ?_; have hx_ := HD236 _ (si H).symm; have H := HR240; rw [← hx_] at H; exact J295 c232 w233 a l230 A227 C228 (F.sub ⟨rfl, rfl, trivial⟩) E B h229 H
 replace H := im hb169 H; refine wcf (fb F (dz hb169)) ?_; refine wp_exit ?_; refine thenE ?_; refine thenE ?_; refine inbE ?_; have hx_ := HD161 _ (si H).symm; have H := HR165; rw [← hx_] at H; exact J307 c157 w158 a l155 A152 C153 (F.sub ⟨rfl, trivial⟩) E B h154 H
theorem haulagelaw13_get.calls {m : Nat} {c0 : Nat → Nat} {w0 : World} {j5 : Nat} {A2 : Option Addr} {C3 : Nat} {a1 : List Int} (hm0 : 0 < m) (B0 : CB m c0 w0) (h4 : SL false (Kint .u8) j5 0 c0 w0 A2 C3 a1) (bj5 : j5 < m) (jr18 : Nat) (bjr18 : jr18 < m) (r : api_Op) (H : haulagelaw13_get.f a1 = some r) : Calls Try.prog 15 #[.slice A2 a1.length C3] w0 (fun e w_ => ∃ (c_ : Nat → Nat) (A0_ : Option Addr) (C0_ : Nat) (A2_ : Option Addr) (C2_ : Nat), e = .returned (.agg #[.int .i64 r.Kind, .slice A0_ r.Key.length C0_, .slice A2_ r.Value.length C2_, .int .i64 r.Rev]) ∧ Ev (fun x => False) c0 w0 c_ w_ ∧ CB m c_ w_ ∧ SL false (Kint .u8) j5 0 c_ w_ A0_ C0_ r.Key ∧ SL true (Kint .u8) jr18 0 c_ w_ A2_ C2_ r.Value) := by
 unfold haulagelaw13_get.f at H; have B := B0.mono (show m ≤ m + 2 by omega); have E : Ev (fun x => False ∨ m ≤ x) c0 w0 c0 w0 := Ev.refl; refine enter (N := 5) (l := [.slice A2 a1.length C3]) Try.func15 rfl rfl (nb rfl) fun a F => ?_; refine sr fun K6 hK6 => ?_; refine q_eff F rfl rfl (by decide) (e_alloc F zv_30 c0 (m + 1)) ?_; rintro v w8 a ⟨c7, qa9, rfl, E10, h11, B12⟩ F; replace B := B12 _ B lm; replace h4 := h4.ev E10; replace E := E.n E10; replace h11 : AT _ _ _ _ _ [.int .i64 0, .slice none 0 0, .slice none 0 0, .int .i64 0] := h11; refine nil (hK6 _ _ ?_); refine sr fun K14 hK14 => qm F fun a F => ?_; refine qv F (r_build (v := .agg #[.int .i64 1, .slice A2 a1.length C3, .slice none 0 0, .int .i64 0]) F [(0, .int .i64 1), (1, .slice A2 a1.length C3)] (by exact ⟨rfl, rfl, rfl, rfl, trivial⟩) (fun w => by kernel_rfl)) fun a F => ?_; refine q_eff0 F rfl rfl (e_storeN0 (us := [.int .i64 1, .slice A2 a1.length C3, .slice none 0 0, .int .i64 0]) F rfl rfl sz_30 h11 (nb rfl) (one_all rfl)) ?_; rintro w15 a ⟨E16, h11, Z17⟩ F; replace h4 := h4.ev E16 (ne_pm bj5) ne_zm; replace E := E.trans E16 lc1; replace h11 : AT _ _ _ _ _ [.int .i64 1, .slice A2 a1.length C3, .slice none 0 0, .int .i64 0] := h11; refine nil (hK14 _ _ ?_); refine wp_ret ?_; obtain rfl := si H; refine outR1 F rfl ⟨_, rfl, lv_agg (cs := [.int .i64 1, .slice A2 a1.length C3, .slice none 0 0, .int .i64 0]) ag_30 sz_30 h11⟩ ?_; exact ⟨cf (ct m) c7, A2, C3, none, 0, rfl, E.lv B0, cfb, SL.rc h4 cfk cfk, SL.nil⟩
theorem haulagelaw13_put.calls {m : Nat} {c0 : Nat → Nat} {w0 : World} {j5 : Nat} {j10 : Nat} {A2 : Option Addr} {C3 : Nat} {A7 : Option Addr} {C8 : Nat} {a1 : List Int} {a6 : List Int} (hm0 : 0 < m) (B0 : CB m c0 w0) (h4 : SL true (Kint .u8) j5 0 c0 w0 A2 C3 a1) (h9 : SL true (Kint .u8) j10 0 c0 w0 A7 C8 a6) (bj5 : 0 < j5 ∧ j5 < m) (bj10 : 0 < j10 ∧ j10 < m ∧ j10 ≠ j5) (r : api_Op) (H : haulagelaw13_put.f a1 a6 = some r) : Calls Try.prog 19 #[.slice A2 a1.length C3, .slice A7 a6.length C8] w0 (fun e w_ => ∃ (c_ : Nat → Nat) (A0_ : Option Addr) (C0_ : Nat) (A2_ : Option Addr) (C2_ : Nat), e = .returned (.agg #[.int .i64 r.Kind, .slice A0_ r.Key.length C0_, .slice A2_ r.Value.length C2_, .int .i64 r.Rev]) ∧ Ev (fun x => (x = j5 ∨ x = j10)) c0 w0 c_ w_ ∧ CB m c_ w_ ∧ SL true (Kint .u8) j5 0 c_ w_ A0_ C0_ r.Key ∧ SL true (Kint .u8) j10 0 c_ w_ A2_ C2_ r.Value) := by
 unfold haulagelaw13_put.f at H; have B := B0.mono (show m ≤ m + 2 by omega); have E : Ev (fun x => (x = j5 ∨ x = j10) ∨ m ≤ x) c0 w0 c0 w0 := Ev.refl; refine enter (N := 8) (l := [.slice A2 a1.length C3, .slice A7 a6.length C8]) Try.func19 rfl rfl (nb rfl) fun a F => ?_; refine sr fun K11 hK11 => ?_; refine q_eff F rfl rfl (by decide) (e_alloc F zv_30 c0 (m + 1)) ?_; rintro v w13 a ⟨c12, qa14, rfl, E15, h16, B17⟩ F; replace B := B17 _ B lm; replace h4 := h4.ev E15; replace h9 := h9.ev E15; replace E := E.n E15; replace h16 : AT _ _ _ _ _ [.int .i64 0, .slice none 0 0, .slice none 0 0, .int .i64 0] := h16; refine nil (hK11 _ _ ?_); refine sr fun K19 hK19 => qm F fun a F => qm F fun a F => ?_; refine qv F (r_build (v := .agg #[.int .i64 2, .slice A2 a1.length C3, .slice A7 a6.length C8, .int .i64 0]) F [(0, .int .i64 2), (1, .slice A2 a1.length C3), (2, .slice A7 a6.length C8)] (by exact ⟨rfl, rfl, rfl, rfl, rfl, rfl, trivial⟩) (fun w => by kernel_rfl)) fun a F => ?_; refine q_eff0 F rfl rfl (e_storeN0 (us := [.int .i64 2, .slice A2 a1.length C3, .slice A7 a6.length C8, .int .i64 0]) F rfl rfl sz_30 h16 (nb rfl) (one_all rfl)) ?_; rintro w20 a ⟨E21, h16, Z22⟩ F; replace h4 := h4.ev E21 (ne_pm bj5.2) ne_zm; replace h9 := h9.ev E21 (ne_pm bj10.2.1) ne_zm; replace E := E.trans E21 lc1; replace h16 : AT _ _ _ _ _ [.int .i64 2, .slice A2 a1.length C3, .slice A7 a6.length C8, .int .i64 0] := h16; refine nil (hK19 _ _ ?_); refine wp_ret ?_; obtain rfl := si H; refine outR1 F rfl ⟨_, rfl, lv_agg (cs := [.int .i64 2, .slice A2 a1.length C3, .slice A7 a6.length C8, .int .i64 0]) ag_30 sz_30 h16⟩ ?_; exact ⟨cf (ct m) c12, A2, C3, A7, C8, rfl, E.lv B0, cfb, SL.rc h4 cfk cfk, SL.rc h9 cfk cfk⟩
theorem haulagelaw13_same.calls (k : Nat) {m : Nat} {c0 : Nat → Nat} {w0 : World} {j5 : Nat} {j10 : Nat} {A2 : Option Addr} {C3 : Nat} {A7 : Option Addr} {C8 : Nat} {a1 : List Int} {a6 : List Int} (hm0 : 0 < m) (B0 : CB m c0 w0) (h4 : SL false (Kint .u8) j5 0 c0 w0 A2 C3 a1) (h9 : SL false (Kint .u8) j10 0 c0 w0 A7 C8 a6) (bj5 : j5 < m) (bj10 : j10 < m) (r : Bool) (H : haulagelaw13_same.f k a1 a6 = some r) : Calls Try.prog 12 #[.slice A2 a1.length C3, .slice A7 a6.length C8] w0 (fun e w_ => ∃ (c_ : Nat → Nat), e = .returned (.bool r) ∧ Ev (fun x => False) c0 w0 c_ w_ ∧ CB m c_ w_) := by
 unfold haulagelaw13_same.f at H; have B := B0.mono (show m ≤ m + 1 by omega); have E : Ev (fun x => False ∨ m ≤ x) c0 w0 c0 w0 := Ev.refl; refine enter (N := 26) (l := [.slice A2 a1.length C3, .slice A7 a6.length C8]) Try.func12 rfl rfl (nb rfl) fun a F => ?_; refine sr fun K11 hK11 => qa F fun a F => nil (hK11 _ _ ?_); refine sq fun K12 hK12 => ?_; refine sr fun K13 hK13 => qm F fun a F => ?_; refine qv F (r_lensl F Try.underlying23 rfl) fun a F => ?_; refine qm F fun a F => ?_; refine qv F (r_lensl F Try.underlying23 rfl) fun a F => ?_; refine qv F (r_neq F rfl rfl) fun a F => ?_; refine nil (hK13 _ _ ?_)
 by_cases hb14 : (a1.length : Int) = (a6.length : Int)
 ·replace H := ip hb14 H; refine wcf (fb F (congrArg not (dt hb14))) (wp_skip (hK12 _ _ ?_)); refine sq fun K16 hK16 => ?_; refine sr fun K17 hK17 => qa F fun a F => nil (hK17 _ _ ?_); refine wp_block ?_; obtain ⟨x28, HL, HR27⟩ := bind_some H; have J55 : ∀ (c56 : Nat → Nat) (w57 : World) (a : Act), Fr a 26 [] → Ev (fun x => False ∨ m ≤ x) c0 w0 c56 w57 → CB (m + 1) c56 w57 → haulagelaw13_same.j2 = some r → K16 a w57 := by
   intro c56 w57 a  F E B  H; unfold haulagelaw13_same.j2 at H; refine hK16 _ _ ?_; refine sr fun K58 hK58 => qa F fun a F => nil (hK58 _ _ ?_); refine wp_ret ?_; obtain rfl := si H; refine out1 F rfl rfl ?_; exact ⟨cf (ct m) c56, rfl, E.lv B0, cfb⟩
  refine loop_fuel (I := fun n a w => ∃ (i18 : Int) (c : Nat → Nat), Fr a 26 [(0, .slice A2 a1.length C3), (1, .slice A7 a6.length C8), (5, .int .i64 i18)] ∧ Ev (fun x => False ∨ m ≤ x) c0 w0 c w ∧ CB (m + 1) c w ∧ SL false (Kint .u8) j5 0 c w A2 C3 a1 ∧ SL false (Kint .u8) j10 0 c w A7 C8 a6 ∧ loop (fun (s_ : Int) => haulagelaw13_same.b1 a1 a6 s_) n i18 = some x28) (k := k) ⟨0, c0, F.sub ⟨rfl, rfl, rfl, trivial⟩, E, B, h4, h9, HL⟩ ?_; clear HL H E F B; intro n25 X21 hX21 a w20 ⟨i18, c19, F, E, B, h4, h9, HL⟩; obtain ⟨n26, ctl24, rfl, HB, HN22, HD23⟩ := loop_some HL; have H : haulagelaw13_same.b1 a1 a6 i18 = some ctl24 := HB; clear HB HL; unfold haulagelaw13_same.b1 at H; refine sq fun K29 hK29 => ?_; refine sr fun K30 hK30 => qm F fun a F => qm F fun a F => ?_; refine qv F (r_lensl F Try.underlying23 rfl) fun a F => ?_; refine qv F (r_lss F rfl rfl) fun a F => ?_; refine nil (hK30 _ _ ?_)
  by_cases hb31 : i18 < (a1.length : Int)
  ·replace H := ip hb31 H; refine wct (fb F (dt hb31)) (wp_skip (hK29 _ _ ?_)); refine sq fun K32 hK32 => ?_; refine wp_block ?_; refine sq fun K33 hK33 => ?_; refine regD (SB No c19 w20) 9 (.q 0 (.q 1 (.q 2 (.q 3 (.q 4 (.q 5 (.q 6 (.q 7 (.q 8 .nil))))))))) Try_hm (by decide +kernel) ?_; intro w34 w1_ w2_ w3_ w4_; have E35 : Ev No c19 w20 c19 w34 := Ev.same w1_ w2_ w3_ w4_; replace B := B.same w1_; have zh4 := h4; have zh9 := h9; have ER : Ev No c19 w20 c19 w34 := Ev.same w1_ w2_ w3_ w4_; replace h4 := h4.ev E35; replace h9 := h9.ev E35; replace E := E.n E35; refine dm F ER.sb fun a F => ?_; refine dm F ER.sb fun a F => ?_; replace H := ifN H; obtain ⟨g36, H⟩ := H; obtain ⟨ad37, cs38, e39, h40, r41⟩ := SL.at zh4 i18 g36.1 g36.2; obtain rfl : cs38 = [.int .u8 (rd a1 i18)] := r41; obtain ⟨qa42, qqa42⟩ : ∃ q, q = (ad37.add (i18.toNat * 1)) := ⟨_, rfl⟩; have h40 : AT false j5 c19 w20 qa42 [.int .u8 (rd a1 i18)] := by rw [qqa42]; exact h40
   have zh40 := h40; refine dq F (fun wq hS => r_indexAddr' F Try.underlying23 sz_5 rfl rfl g36.1 g36.2 e39 qqa42) ER.sb fun a F => ?_; refine dq F (fun wq hS => r_load F rfl ag_5 (AT.cell0 (AT.sb zh40 hS nq) rfl)) ER.sb fun a F => ?_; refine dm F ER.sb fun a F => ?_; refine dm F ER.sb fun a F => ?_; replace H := ifN H; obtain ⟨g44, H⟩ := H; obtain ⟨ad45, cs46, e47, h48, r49⟩ := SL.at zh9 i18 g44.1 g44.2; obtain rfl : cs46 = [.int .u8 (rd a6 i18)] := r49; obtain ⟨qa50, qqa50⟩ : ∃ q, q = (ad45.add (i18.toNat * 1)) := ⟨_, rfl⟩; have h48 : AT false j10 c19 w20 qa50 [.int .u8 (rd a6 i18)] := by rw [qqa50]; exact h48
   have zh48 := h48; refine dq F (fun wq hS => r_indexAddr' F Try.underlying23 sz_5 rfl rfl g44.1 g44.2 e47 qqa50) ER.sb fun a F => ?_; refine dq F (fun wq hS => r_load F rfl ag_5 (AT.cell0 (AT.sb zh48 hS nq) rfl)) ER.sb fun a F => ?_; refine dq F (fun wq hS => r_neq F rfl rfl) ER.sb fun a F => ?_; refine d_nil ?_; refine hK33 _ _ ?_; replace F : Fr a 26 [(0, .slice A2 a1.length C3), (1, .slice A7 a6.length C8), (5, .int .i64 i18), (25, .bool (!decide ((rd a1 i18) = (rd a6 i18))))] := F.sub ⟨rfl, rfl, rfl, rfl, trivial⟩
   by_cases hb52 : (rd a1 i18) = (rd a6 i18)
   ·replace H := ip hb52 H; refine wcf (fb F (congrArg not (dt hb52))) (wp_skip (hK32 _ _ ?_)); refine reg ?_; refine qm F fun a F => ?_; refine qv F (r_add F rfl rfl) fun a F => ?_; refine qa F fun a F => nil ?_; replace H := HN22 _ (si H).symm; exact hX21 _ _ _ (Nat.lt_succ_self _) ⟨(IntKind.i64.wrap (i18 + 1)), c19, F.sub ⟨rfl, rfl, rfl, trivial⟩, E, B, h4, h9, H⟩
   replace H := im hb52 H; refine wct (fb F (congrArg not (dz hb52))) ?_; refine sr fun K53 hK53 => qa F fun a F => nil (hK53 _ _ ?_); refine wp_ret ?_; refine inbR ?_; refine thenR ?_; refine thenR ?_; refine inbR ?_; refine thenR ?_; have hx_ := HD23 _ (si H).symm; have H := HR27; rw [← hx_] at H; replace H : some false = some r := H; obtain rfl := si H; refine out1 F rfl rfl ?_; exact ⟨cf (ct m) c19, rfl, E.lv B0, cfb⟩
  replace H := im hb31 H; refine wcf (fb F (dz hb31)) ?_; refine wp_exit ?_; refine thenE ?_; refine thenE ?_; refine inbE ?_; have hx_ := HD23 _ (si H).symm; have H := HR27; rw [← hx_] at H; exact J55 c19 w20 a  (F.sub trivial) E B  H
 replace H := im hb14 H; refine wct (fb F (congrArg not (dz hb14))) ?_; refine sr fun K15 hK15 => qa F fun a F => nil (hK15 _ _ ?_); refine wp_ret ?_; refine thenR ?_; obtain rfl := si H; refine out1 F rfl rfl ?_; exact ⟨cf (ct m) c0, rfl, E.lv B0, cfb⟩
theorem tree_New.calls {m : Nat} {c0 : Nat → Nat} {w0 : World} (hm0 : 0 < m) (B0 : CB m c0 w0) (r : Tr) (H : tree_New.f = some r) : Calls Try.prog 22 #[] w0 (fun e w_ => ∃ (c_ : Nat → Nat) (P0_ : Option Addr), e = .returned (.pointer P0_) ∧ Ev (fun x => False) c0 w0 c_ w_ ∧ CB m c_ w_ ∧ TR 0 c_ w_ P0_ r) := by
 unfold tree_New.f at H; have B := B0.mono (show m ≤ m + 1 by omega); have E : Ev (fun x => False ∨ m ≤ x) c0 w0 c0 w0 := Ev.refl; refine enter (N := 1) (l := []) Try.func22 rfl rfl (nb rfl) fun a F => ?_; refine sr fun K1 hK1 => qa F fun a F => nil (hK1 _ _ ?_); refine sr fun K2 hK2 => qa F fun a F => nil (hK2 _ _ ?_); refine wp_ret ?_; obtain rfl := si H; refine out1 F rfl rfl ?_; exact ⟨cf (ct m) c0, none, rfl, E.lv B0, cfb, TR.nil⟩
theorem table_New.calls {m : Nat} {c0 : Nat → Nat} {w0 : World} (hm0 : 0 < m) (B0 : CB m c0 w0) (jr20 : Nat) (bjr20 : jr20 < m) (r : (Option Tab)) (H : table_New.f = some r) : Calls Try.prog 5 #[] w0 (fun e w_ => ∃ (c_ : Nat → Nat) (P0_ : Option Addr), e = .returned (.pointer P0_) ∧ Ev (fun x => False) c0 w0 c_ w_ ∧ CB m c_ w_ ∧ TB jr20 c_ w_ P0_ r) := by
 unfold table_New.f at H; have B := B0.mono (show m ≤ m + 2 by omega); have E : Ev (fun x => False ∨ m ≤ x) c0 w0 c0 w0 := Ev.refl; refine enter (N := 4) (l := []) Try.func5 rfl rfl (nb rfl) fun a F => ?_; refine sr fun K1 hK1 => qa F fun a F => nil (hK1 _ _ ?_); refine sr fun K2 hK2 => ?_; obtain ⟨t3, q4, H⟩ := bind_some H; refine qc F Try.func22 (tree_New.calls (m := m + 2) (pl hm0) B _ q4) ?_; rintro e w6 ⟨c5, p9, rfl, E7, B, h10⟩; refine rt fun a F => ?_; replace E := E.n E7; refine qv F (r_build (v := .agg #[.pointer p9, .int .i64 0, .int .i64 0]) F [(0, .pointer p9)] (by exact ⟨rfl, rfl, trivial⟩) (fun w => by kernel_rfl)) fun a F => ?_; refine q_eff F rfl rfl (by decide) (e_box F (v := .agg #[.pointer p9, .int .i64 0, .int .i64 0]) rfl c5 (m + 1)) ?_; rintro v w13 a ⟨c12, qa14, rfl, E15, h16, B17⟩ F; replace B := B17 _ B lm; replace h10 := h10.ev E15; replace E := E.n E15; replace h16 : AT _ _ _ _ _ [.pointer p9, .int .i64 0, .int .i64 0] := h16; refine qa F fun a F => nil (hK2 _ _ ?_); refine wp_ret ?_; have h19 : TB (m + 1) c12 w13 (some qa14) (some (Tab.mk t3 0 0)) := TB.mk h16 h10; obtain rfl := si H; refine out1 F rfl rfl ?_; exact ⟨cf (fun x_ => if x_ = m + 1 then jr20 else if x_ < m then x_ else 0) c12, (some qa14), rfl, E.lv B0, cfb, TB.rc h19 cfk cfk⟩
theorem tree_Tree_up.calls {σ X : Type} {m : Nat} {M : Nat → Prop} {cR : Nat → Nat} {wR : World} {l : Nat} (hm0 : 0 < m) (HM : ¬ M 0) {g : σ → ByteArray → table_cell → Option (Ctl σ X)} {J : σ → (Nat → Nat) → World → Prop} {JX : X → (Nat → Nat) → World → Prop} (HE : ∀ s c w, J s c w → Ev M cR wR c w) (HX : ∀ x c w, JX x c w → Ev M cR wR c w) (HY : ∀ s k (v : table_cell) c w (A20 : Option Addr) (C21 : Nat) r, JS m (J s) c w → SL false (Kint .u8) 0 0 c w A20 C21 v.value → g s k v = some r → YieldAt Fence.wide 0 Try.prog l #[.string k, .agg #[.slice A20 v.value.length C21, .int .i64 v.rev]] w (IP (fun s => JS m (J s)) JX r)) (t : Tr) : ∀ (p : Option Addr) (s : σ) (c : Nat → Nat) (w : World), TR 0 cR wR p t → JS m (J s) c w → ∀ (r : Ctl σ X), Tr.up g t s = some r → Calls Try.prog 52 #[.pointer p, yv l] w (IP (fun s => JS m (J s)) JX r) := by
 induction t with
 | nil =>
  intro p s0 c w ht hJ r H; have ht : p = none := ht; subst ht; have H : some (Ctl.next s0) = some r := H; refine enter (N := 35) (l := [.pointer none, yv l]) Try.func52 rfl rfl (nb rfl) fun a F => ?_; have ER := hJ.ev (HE _); refine sr fun K1 hK1 => qa F fun a F => nil (hK1 _ _ ?_); refine sq fun K2 hK2 => ?_; refine regD (SB M cR wR) 31 (.q 0 (.q 1 (.q 2 (.q 3 (.q 4 (.q 5 (.q 6 (.q 7 (.e 8 (.q 9 (.q 10 (.q 11 (.q 12 (.q 13 (.q 14 (.q 15 (.q 16 (.q 17 (.q 18 (.e 19 (.q 20 (.q 21 (.q 22 (.q 23 (.q 24 (.q 25 (.q 26 (.e 27 (.q 28 (.q 29 (.q 30 .nil))))))))))))))))))))))))))))))) Try_hm (by decide +kernel) ?_; intro w3 w1_ w2_ w3_ w4_; have hJ := hJ.step (Ev.same w1_ w2_ w3_ w4_) (hJ.1.same w1_); have ER := hJ.ev (HE _); refine dm F ER.sb fun a F => ?_; refine dq F (fun wq hS => r_peql F Try.underlying54 rfl rfl) ER.sb fun a F => ?_; refine dm F ER.sb fun a F => ?_; refine dn F rfl ER.sb fun a F => ?_; refine dn F rfl ER.sb fun a F => ?_; refine dn F rfl ER.sb fun a F => ?_; refine dn F rfl ER.sb fun a F => ?_; refine dn F rfl ER.sb fun a F => ?_; refine d_e ?_; refine o_no F rfl rfl rfl (by decide) rfl rfl rfl (by decide) fun a F => ?_; refine ⟨fun _ => ER.sb, ?_⟩; refine dn F rfl ER.sb fun a F => ?_; refine du F ER.sb fun a F => ?_; refine du F ER.sb fun a F => ?_; refine du F ER.sb fun a F => ?_; refine du F ER.sb fun a F => ?_; refine du F ER.sb fun a F => ?_; refine du F ER.sb fun a F => ?_; refine du F ER.sb fun a F => ?_; refine du F ER.sb fun a F => ?_; refine du F ER.sb fun a F => ?_; refine d_e ?_; refine o_nu F rfl rfl rfl (by decide) rfl rfl (by decide) fun a F => ?_; refine ⟨fun _ => ER.sb, ?_⟩; refine dn F rfl ER.sb fun a F => ?_; refine dn F rfl ER.sb fun a F => ?_; refine du F ER.sb fun a F => ?_; refine du F ER.sb fun a F => ?_; refine du F ER.sb fun a F => ?_; refine du F ER.sb fun a F => ?_; refine du F ER.sb fun a F => ?_; refine d_e ?_; refine o_nu F rfl rfl rfl (by decide) rfl rfl (by decide) fun a F => ?_; refine ⟨fun _ => ER.sb, ?_⟩; refine dn F rfl ER.sb fun a F => ?_; refine dq F (fun wq hS => r_pick_t F rfl rfl rfl) ER.sb fun a F => ?_; refine da F ER.sb fun a F => ?_; refine d_nil ?_; refine hK2 _ _ ?_; have F : Fr a 35 [(4, .bool true)] := F.sub ⟨rfl, trivial⟩; refine wp_ret ?_; have H := si H; subst H; refine out1 F rfl rfl ?_; exact ⟨rfl, _, hJ⟩
 | node tl tr k v s d ihhl ihhr =>
  intro p s0 c w ht hJ r H; obtain ⟨ad, lp, rp, A1, C2, rfl, hat, h3, hl, hr⟩ := TR.node ht; have H : (thenC (Tr.up g tl s0) fun s => thenC (g s k v) fun s => Tr.up g tr s) = some r := H; refine enter (N := 35) (l := [.pointer (some ad), yv l]) Try.func52 rfl rfl (nb rfl) fun a F => ?_; have ER := hJ.ev (HE _); refine sr fun K4 hK4 => qa F fun a F => nil (hK4 _ _ ?_); refine sq fun K5 hK5 => ?_; refine regD (SB M cR wR) 31 (.q 0 (.q 1 (.q 2 (.q 3 (.q 4 (.q 5 (.q 6 (.q 7 (.e 8 (.q 9 (.q 10 (.q 11 (.q 12 (.q 13 (.q 14 (.q 15 (.q 16 (.q 17 (.q 18 (.e 19 (.q 20 (.q 21 (.q 22 (.q 23 (.q 24 (.q 25 (.q 26 (.e 27 (.q 28 (.q 29 (.q 30 .nil))))))))))))))))))))))))))))))) Try_hm (by decide +kernel) ?_; intro w6 w1_ w2_ w3_ w4_; have hJ := hJ.step (Ev.same w1_ w2_ w3_ w4_) (hJ.1.same w1_); have ER := hJ.ev (HE _); refine dm F ER.sb fun a F => ?_; refine dq F (fun wq hS => r_peql F Try.underlying54 rfl rfl) ER.sb fun a F => ?_; refine dm F ER.sb fun a F => ?_; refine dy F rfl (fun wq hS => r_move F rfl) ER.sb fun a F => ?_; refine dy F rfl (fun wq hS => r_nil F rfl) ER.sb fun a F => ?_; refine dy F rfl (fun wq hS => r_fieldAddr F rfl ff_88_0) ER.sb fun a F => ?_; refine dy F rfl (fun wq hS => r_load F rfl ag_54 (AT.cell (AT.sb hat hS HM) rfl)) ER.sb fun a F => ?_; refine dy F rfl (fun wq hS => r_move F rfl) ER.sb fun a F => ?_; refine d_e ?_; obtain ⟨t7, q8, H⟩ := thenC_some H; refine o_call F rfl (wanted_yes F rfl rfl (by decide) rfl rfl) rfl (by decide) (r_call F Try.func52 rfl (by kernel_rfl) rfl) (ihhl _ _ _ _ hl hJ _ q8) ?_; rintro e w10 h11
  cases t7 with
  | next s_ =>
   obtain ⟨rfl, c9, hJ⟩ := h11; refine rt fun a F => ?_; have ER := hJ.ev (HE _); have H : _ = some r := H; refine ⟨fun _ => ER.sb, ?_⟩; refine dy F rfl (fun wq hS => r_move F rfl) ER.sb fun a F => ?_; refine dy F rfl (fun wq hS => r_move F rfl) ER.sb fun a F => ?_; refine dy F rfl (fun wq hS => r_move F rfl) ER.sb fun a F => ?_; refine dy F rfl (fun wq hS => r_nil F rfl) ER.sb fun a F => ?_; refine dy F rfl (fun wq hS => r_fieldAddr F rfl ff_88_2) ER.sb fun a F => ?_; refine dy F rfl (fun wq hS => r_load F rfl ag_9 (AT.cell (AT.sb hat hS HM) rfl)) ER.sb fun a F => ?_; refine dy F rfl (fun wq hS => r_move F rfl) ER.sb fun a F => ?_; refine dy F rfl (fun wq hS => r_nil F rfl) ER.sb fun a F => ?_; refine dy F rfl (fun wq hS => r_fieldAddr F rfl ff_88_3) ER.sb fun a F => ?_; refine dy F rfl (fun wq hS => r_loads (cs := [.slice A1 v.value.length C2, .int .i64 v.rev]) F rfl ag_57 sz_57 (AT.sub (AT.sb hat hS HM) 3 2 (nb rfl))) ER.sb fun a F => ?_; refine d_e ?_; obtain ⟨t12, q13, H⟩ := thenC_some H; refine o_yield F rfl (wanted_yes F rfl rfl (by decide) rfl rfl) rfl (by decide) (r_yield F rfl (vs := [.string k, .agg #[.slice A1 v.value.length C2, .int .i64 v.rev]]) rfl) (HY _ _ _ _ _ _ _ _ hJ (SL.ev h3 ER HM HM) q13) ?_; rintro e w15 h16
   cases t12 with
   | next s_ =>
    obtain ⟨rfl, c14, hJ⟩ := h16; refine rt fun a F => ?_; have ER := hJ.ev (HE _); have H : _ = some r := H; refine ⟨fun _ => ER.sb, ?_⟩; refine dy F rfl (fun wq hS => r_pick_t F rfl rfl rfl) ER.sb fun a F => ?_; refine dy F rfl (fun wq hS => r_move F rfl) ER.sb fun a F => ?_; refine dy F rfl (fun wq hS => r_move F rfl) ER.sb fun a F => ?_; refine dy F rfl (fun wq hS => r_nil F rfl) ER.sb fun a F => ?_; refine dy F rfl (fun wq hS => r_fieldAddr F rfl ff_88_1) ER.sb fun a F => ?_; refine dy F rfl (fun wq hS => r_load F rfl ag_54 (AT.cell (AT.sb hat hS HM) rfl)) ER.sb fun a F => ?_; refine dy F rfl (fun wq hS => r_move F rfl) ER.sb fun a F => ?_; refine d_e ?_; refine o_call F rfl (wanted_yes F rfl rfl (by decide) rfl rfl) rfl (by decide) (r_call F Try.func52 rfl (by kernel_rfl) rfl) (ihhr _ _ _ _ hr hJ _ H) ?_; rintro e w18 h19
    cases r with
    | next s_ =>
     obtain ⟨rfl, c17, hJ⟩ := h19; refine rt fun a F => ?_; have ER := hJ.ev (HE _); refine ⟨fun _ => ER.sb, ?_⟩; refine dy F rfl (fun wq hS => r_pick_t F rfl rfl rfl) ER.sb fun a F => ?_; refine dq F (fun wq hS => r_pick_f F rfl rfl rfl) ER.sb fun a F => ?_; refine da F ER.sb fun a F => ?_; refine d_nil ?_; refine hK5 _ _ ?_; have F : Fr a 35 [(4, .bool true)] := F.sub ⟨rfl, trivial⟩; refine wp_ret ?_; refine out1 F rfl rfl ?_; exact ⟨rfl, _, hJ⟩
    | done x_ =>
     obtain ⟨rfl, c17, hX⟩ := h19; refine rt fun a F => ?_; have ER := HX _ _ _ hX; refine ⟨fun _ => ER.sb, ?_⟩; refine dy F rfl (fun wq hS => r_pick_t F rfl rfl rfl) ER.sb fun a F => ?_; refine dq F (fun wq hS => r_pick_f F rfl rfl rfl) ER.sb fun a F => ?_; refine da F ER.sb fun a F => ?_; refine d_nil ?_; refine hK5 _ _ ?_; have F : Fr a 35 [(4, .bool false)] := F.sub ⟨rfl, trivial⟩; refine wp_ret ?_; refine out1 F rfl rfl ?_; exact ⟨rfl, _, hX⟩
   | done x_ =>
    obtain ⟨rfl, c14, hX⟩ := h16; refine rt fun a F => ?_; have ER := HX _ _ _ hX; have H : Ctl.done _ = r := H; subst H; refine ⟨fun _ => ER.sb, ?_⟩; refine dy F rfl (fun wq hS => r_pick_t F rfl rfl rfl) ER.sb fun a F => ?_; refine dy F rfl (fun wq hS => r_move F rfl) ER.sb fun a F => ?_; refine dn F rfl ER.sb fun a F => ?_; refine dn F rfl ER.sb fun a F => ?_; refine dn F rfl ER.sb fun a F => ?_; refine dn F rfl ER.sb fun a F => ?_; refine dn F rfl ER.sb fun a F => ?_; refine d_e ?_; refine o_no F rfl rfl rfl (by decide) rfl rfl rfl (by decide) fun a F => ?_; refine ⟨fun _ => ER.sb, ?_⟩; refine dy F rfl (fun wq hS => r_pick_f F rfl rfl rfl) ER.sb fun a F => ?_; refine dq F (fun wq hS => r_pick_f F rfl rfl rfl) ER.sb fun a F => ?_; refine da F ER.sb fun a F => ?_; refine d_nil ?_; refine hK5 _ _ ?_; have F : Fr a 35 [(4, .bool false)] := F.sub ⟨rfl, trivial⟩; refine wp_ret ?_; refine out1 F rfl rfl ?_; exact ⟨rfl, _, hX⟩
  | done x_ =>
   obtain ⟨rfl, c9, hX⟩ := h11; refine rt fun a F => ?_; have ER := HX _ _ _ hX; have H : Ctl.done _ = r := H; subst H; refine ⟨fun _ => ER.sb, ?_⟩; refine dy F rfl (fun wq hS => r_move F rfl) ER.sb fun a F => ?_; refine dn F rfl ER.sb fun a F => ?_; refine dn F rfl ER.sb fun a F => ?_; refine dn F rfl ER.sb fun a F => ?_; refine dn F rfl ER.sb fun a F => ?_; refine dn F rfl ER.sb fun a F => ?_; refine dn F rfl ER.sb fun a F => ?_; refine dn F rfl ER.sb fun a F => ?_; refine dn F rfl ER.sb fun a F => ?_; refine dn F rfl ER.sb fun a F => ?_; refine d_e ?_; refine o_no F rfl rfl rfl (by decide) rfl rfl rfl (by decide) fun a F => ?_; refine ⟨fun _ => ER.sb, ?_⟩; refine dy F rfl (fun wq hS => r_pick_f F rfl rfl rfl) ER.sb fun a F => ?_; refine dy F rfl (fun wq hS => r_move F rfl) ER.sb fun a F => ?_; refine dn F rfl ER.sb fun a F => ?_; refine dn F rfl ER.sb fun a F => ?_; refine dn F rfl ER.sb fun a F => ?_; refine dn F rfl ER.sb fun a F => ?_; refine dn F rfl ER.sb fun a F => ?_; refine d_e ?_; refine o_no F rfl rfl rfl (by decide) rfl rfl rfl (by decide) fun a F => ?_; refine ⟨fun _ => ER.sb, ?_⟩; refine dy F rfl (fun wq hS => r_pick_f F rfl rfl rfl) ER.sb fun a F => ?_; refine dq F (fun wq hS => r_pick_f F rfl rfl rfl) ER.sb fun a F => ?_; refine da F ER.sb fun a F => ?_; refine d_nil ?_; refine hK5 _ _ ?_; have F : Fr a 35 [(4, .bool false)] := F.sub ⟨rfl, trivial⟩; refine wp_ret ?_; refine out1 F rfl rfl ?_; exact ⟨rfl, _, hX⟩
theorem tree_Tree_All_1.calls {σ X : Type} {m : Nat} {M : Nat → Prop} {cR : Nat → Nat} {wR : World} {l : Nat} (hm0 : 0 < m) (HM : ¬ M 0) {g : σ → ByteArray → table_cell → Option (Ctl σ X)} {J : σ → (Nat → Nat) → World → Prop} {JX : X → (Nat → Nat) → World → Prop} (HE : ∀ s c w, J s c w → Ev M cR wR c w) (HX : ∀ x c w, JX x c w → Ev M cR wR c w) (HY : ∀ s k (v : table_cell) c w (A4 : Option Addr) (C5 : Nat) r, JS m (J s) c w → SL false (Kint .u8) 0 0 c w A4 C5 v.value → g s k v = some r → YieldAt Fence.wide 0 Try.prog l #[.string k, .agg #[.slice A4 v.value.length C5, .int .i64 v.rev]] w (IP (fun s => JS m (J s)) JX r)) (t : Tr) (p : Option Addr) (s : σ) (c : Nat → Nat) (w : World) {own0 : Bool} {jq0 : Nat} {q0 : Addr} (hq0 : AT own0 jq0 c w q0 [.pointer p]) (ht : TR 0 cR wR p t) (hJ : JS m (J s) c w) (r : Ctl σ X) (H : Tr.up g t s = some r) : Calls Try.prog 51 #[yv l, .pointer (some q0)] w (IT (fun s => JS m (J s)) JX r) := by
 refine enter (N := 6) (l := [yv l, .pointer (some q0)]) Try.func51 rfl rfl (nb rfl) fun a F => ?_; have ER := hJ.ev (HE _); refine reg ?_; refine qv F (r_load F rfl ag_54 (AT.cell0 hq0 rfl)) fun a F => ?_; refine qm F fun a F => ?_; refine qc F Try.func52 (tree_Tree_up.calls hm0 HM HE HX HY _ _ _ _ _ ht hJ _ H) ?_; rintro e w2 h3
 cases r with
 | next s_ =>
  obtain ⟨rfl, c1, hJ⟩ := h3; refine rt fun a F => ?_; have ER := hJ.ev (HE _); refine nil ?_; refine out0n F rfl ?_; exact ⟨⟨_, rfl⟩, _, hJ⟩
 | done x_ =>
  obtain ⟨rfl, c1, hX⟩ := h3; refine rt fun a F => ?_; have ER := HX _ _ _ hX; refine nil ?_; refine out0n F rfl ?_; exact ⟨⟨_, rfl⟩, _, hX⟩
theorem cmp_isNaN.calls {m : Nat} {c0 : Nat → Nat} {w0 : World} {a1 : ByteArray} (hm0 : 0 < m) (B0 : CB m c0 w0) (r : Bool) (H : cmp_isNaN.f a1 = some r) : Calls Try.prog 63 #[.string a1] w0 (fun e w_ => ∃ (c_ : Nat → Nat), e = .returned (.bool r) ∧ Ev (fun x => False) c0 w0 c_ w_ ∧ CB m c_ w_) := by
 unfold cmp_isNaN.f at H; have B := B0.mono (show m ≤ m + 1 by omega); have E : Ev (fun x => False ∨ m ≤ x) c0 w0 c0 w0 := Ev.refl; refine enter (N := 6) (l := [.string a1]) Try.func63 rfl rfl (nb rfl) fun a F => ?_; refine sr fun K2 hK2 => qa F fun a F => nil (hK2 _ _ ?_); refine sr fun K3 hK3 => qm F fun a F => qm F fun a F => ?_; refine qv F (r_sneq F rfl rfl) fun a F => ?_; refine qa F fun a F => nil (hK3 _ _ ?_); refine wp_ret ?_; obtain rfl := si H; refine out1 F rfl rfl ?_; exact ⟨cf (ct m) c0, rfl, E.lv B0, cfb⟩
theorem cmp_Less.calls {m : Nat} {c0 : Nat → Nat} {w0 : World} {a1 : ByteArray} {a2 : ByteArray} (hm0 : 0 < m) (B0 : CB m c0 w0) (r : Bool) (H : cmp_Less.f a1 a2 = some r) : Calls Try.prog 71 #[.string a1, .string a2] w0 (fun e w_ => ∃ (c_ : Nat → Nat), e = .returned (.bool r) ∧ Ev (fun x => False) c0 w0 c_ w_ ∧ CB m c_ w_) := by
 unfold cmp_Less.f at H; have B := B0.mono (show m ≤ m + 1 by omega); have E : Ev (fun x => False ∨ m ≤ x) c0 w0 c0 w0 := Ev.refl; refine enter (N := 17) (l := [.string a1, .string a2]) Try.func71 rfl rfl (nb rfl) fun a F => ?_; refine sr fun K3 hK3 => qa F fun a F => nil (hK3 _ _ ?_); refine sr fun K4 hK4 => qm F fun a F => ?_; obtain ⟨t5, q6, H⟩ := bind_some H; refine qc F Try.func63 (cmp_isNaN.calls (m := m + 1) (pl hm0) B _ q6) ?_; rintro e w8 ⟨c7, rfl, E9, B⟩; refine rt fun a F => ?_; replace E := E.n E9; refine qm F fun a F => ?_
 by_cases hb12 : t5 = true
 ·replace H := ip hb12 H; refine qy F hb12 ?_; refine qm F fun a F => ?_; obtain ⟨t13, q14, H⟩ := bind_some H; refine qy F hb12 ?_; refine qc F Try.func63 (cmp_isNaN.calls (m := m + 1) (pl hm0) B _ q14) ?_; rintro e w16 ⟨c15, rfl, E17, B⟩; refine rt fun a F => ?_; replace E := E.n E17; refine qy F hb12 ?_; refine qv F (r_not F rfl) fun a F => ?_; refine qv F (r_pick_t F rfl hb12 rfl) fun a F => ?_; refine qm F fun a F => ?_
  by_cases hb20 : t13 = true
  ·replace H := ip hb20 H; refine qy F (congrArg not hb20) ?_; refine qm F fun a F => ?_; refine qy F (congrArg not hb20) ?_; refine qm F fun a F => ?_; refine qy F (congrArg not hb20) ?_; refine qv F (r_slss F rfl rfl) fun a F => ?_; refine qv F (r_pick_f F rfl (congrArg not hb20) rfl) fun a F => ?_; refine qa F fun a F => nil (hK4 _ _ ?_); replace F : Fr a 17 [(4, .bool (Op.bytesLess a1.toList a2.toList))] := F.sub ⟨rfl, trivial⟩; refine wp_ret ?_; obtain rfl := si H; refine out1 F rfl rfl ?_; exact ⟨cf (ct m) c15, rfl, E.lv B0, cfb⟩
  replace H := im hb20 H; refine qn F (congrArg not (bfalse hb20)) fun a F => qn F (congrArg not (bfalse hb20)) fun a F => qn F (congrArg not (bfalse hb20)) fun a F => ?_; refine qv F (r_pick_t F rfl (congrArg not (bfalse hb20)) rfl) fun a F => ?_; refine qa F fun a F => nil (hK4 _ _ ?_); replace F : Fr a 17 [(4, .bool true)] := F.sub ⟨rfl, trivial⟩; refine wp_ret ?_; obtain rfl := si H; refine out1 F rfl rfl ?_; exact ⟨cf (ct m) c15, rfl, E.lv B0, cfb⟩
 replace H := im hb12 H; refine qn F (bfalse hb12) fun a F => qn F (bfalse hb12) fun a F => qn F (bfalse hb12) fun a F => ?_; refine qv F (r_pick_f F rfl (bfalse hb12) rfl) fun a F => ?_; refine qm F fun a F => ?_; refine qy F rfl ?_; refine qm F fun a F => ?_; refine qy F rfl ?_; refine qm F fun a F => ?_; refine qy F rfl ?_; refine qv F (r_slss F rfl rfl) fun a F => ?_; refine qp F fun a F => ?_; refine qa F fun a F => nil (hK4 _ _ ?_); replace F : Fr a 17 [(4, .bool (Op.bytesLess a1.toList a2.toList))] := F.sub ⟨rfl, trivial⟩; refine wp_ret ?_; obtain rfl := si H; refine out1 F rfl rfl ?_; exact ⟨cf (ct m) c7, rfl, E.lv B0, cfb⟩
theorem tree_Tree_from.calls {σ X : Type} {m : Nat} {M : Nat → Prop} {cR : Nat → Nat} {wR : World} {l : Nat} (hm0 : 0 < m) (HM : ¬ M 0) {g : σ → ByteArray → table_cell → Option (Ctl σ X)} {J : σ → (Nat → Nat) → World → Prop} {JX : X → (Nat → Nat) → World → Prop} (HE : ∀ s c w, J s c w → Ev M cR wR c w) (HX : ∀ x c w, JX x c w → Ev M cR wR c w) (HY : ∀ s k (v : table_cell) c w (A35 : Option Addr) (C36 : Nat) r, JS m (J s) c w → SL false (Kint .u8) 0 0 c w A35 C36 v.value → g s k v = some r → YieldAt Fence.wide 0 Try.prog l #[.string k, .agg #[.slice A35 v.value.length C36, .int .i64 v.rev]] w (IP (fun s => JS m (J s)) JX r)) (key : ByteArray) (t : Tr) : ∀ (p : Option Addr) (s : σ) (c : Nat → Nat) (w : World), TR 0 cR wR p t → JS m (J s) c w → ∀ (r : Ctl σ X), Tr.from key g t s = some r → Calls Try.prog 62 #[.pointer p, .string key, yv l] w (IP (fun s => JS m (J s)) JX r) := by
 induction t with
 | nil =>
  intro p s0 c w ht hJ r H; have ht : p = none := ht; subst ht; have H : some (Ctl.next s0) = some r := H; refine enter (N := 49) (l := [.pointer none, .string key, yv l]) Try.func62 rfl rfl (nb rfl) fun a F => ?_; have ER := hJ.ev (HE _); refine sr fun K1 hK1 => qa F fun a F => nil (hK1 _ _ ?_); refine sq fun K2 hK2 => ?_; refine sr fun K3 hK3 => qm F fun a F => ?_; refine qv F (r_peql F Try.underlying54 rfl rfl) fun a F => ?_; refine nil (hK3 _ _ ?_); refine wct (F.ev rfl) ?_; refine sr fun K4 hK4 => qa F fun a F => nil (hK4 _ _ ?_); refine wp_ret ?_; refine thenR ?_; have H := si H; subst H; refine out1 F rfl rfl ?_; exact ⟨rfl, _, hJ⟩
 | node tl tr k v s d ihhl ihhr =>
  intro p s0 c w ht hJ r H; obtain ⟨ad, lp, rp, A1, C2, rfl, hat, h3, hl, hr⟩ := TR.node ht; have H : ((cmp_Less.f k key).bind fun b => if b = true then Tr.from key g tr s0 else thenC (Tr.from key g tl s0) fun s => thenC (g s k v) fun s => Tr.up g tr s) = some r := H; refine enter (N := 49) (l := [.pointer (some ad), .string key, yv l]) Try.func62 rfl rfl (nb rfl) fun a F => ?_; have ER := hJ.ev (HE _); refine sr fun K4 hK4 => qa F fun a F => nil (hK4 _ _ ?_); refine sq fun K5 hK5 => ?_; refine sr fun K6 hK6 => qm F fun a F => ?_; refine qv F (r_peql F Try.underlying54 rfl rfl) fun a F => ?_; refine nil (hK6 _ _ ?_); refine wcf (F.ev rfl) (wp_skip (hK5 _ _ ?_)); refine sq fun K7 hK7 => ?_; refine sr fun K8 hK8 => qm F fun a F => ?_; refine qi F fun a F => ?_; refine qf F ff_88_2 fun a F => ?_; refine qv F (r_load F rfl ag_9 (AT.cell (AT.sb hat ER.sb HM) rfl)) fun a F => ?_; refine qm F fun a F => ?_; obtain ⟨t9, q10, H⟩ := bind_some H; refine qc F Try.func71 (cmp_Less.calls (m := m) hm0 hJ.1 _ q10) ?_; rintro e w12 ⟨c11, rfl, E13, B14⟩; refine rt fun a F => ?_; have hJ := hJ.step E13 B14; have ER := hJ.ev (HE _); refine nil (hK8 _ _ ?_)
  by_cases hb15 : t9 = true
  ·have H := (if_pos hb15).symm.trans H; refine wct (fb F hb15) ?_; refine sr fun K16 hK16 => qm F fun a F => ?_; refine qi F fun a F => ?_; refine qf F ff_88_1 fun a F => ?_; refine qv F (r_load F rfl ag_54 (AT.cell (AT.sb hat ER.sb HM) rfl)) fun a F => ?_; refine qm F fun a F => qm F fun a F => ?_; refine qc F Try.func62 (ihhr _ _ _ _ hr hJ _ H) ?_; rintro e w18 h19
   cases r with
   | next s_ =>
    obtain ⟨rfl, c17, hJ⟩ := h19; refine rt fun a F => ?_; have ER := hJ.ev (HE _); refine qa F fun a F => nil (hK16 _ _ ?_); have F : Fr a 49 [(6, .bool true)] := F.sub ⟨rfl, trivial⟩; refine wp_ret ?_; refine thenR ?_; refine out1 F rfl rfl ?_; exact ⟨rfl, _, hJ⟩
   | done x_ =>
    obtain ⟨rfl, c17, hX⟩ := h19; refine rt fun a F => ?_; have ER := HX _ _ _ hX; refine qa F fun a F => nil (hK16 _ _ ?_); have F : Fr a 49 [(6, .bool false)] := F.sub ⟨rfl, trivial⟩; refine wp_ret ?_; refine thenR ?_; refine out1 F rfl rfl ?_; exact ⟨rfl, _, hX⟩
  have H := (if_neg hb15).symm.trans H; refine wcf (fb F (bfalse hb15)) (wp_skip (hK7 _ _ ?_)); refine sq fun K20 hK20 => ?_; refine regD (SB M cR wR) 28 (.q 0 (.q 1 (.q 2 (.q 3 (.q 4 (.q 5 (.e 6 (.q 7 (.q 8 (.q 9 (.q 10 (.q 11 (.q 12 (.q 13 (.q 14 (.q 15 (.q 16 (.e 17 (.q 18 (.q 19 (.q 20 (.q 21 (.q 22 (.q 23 (.q 24 (.e 25 (.q 26 (.q 27 .nil)))))))))))))))))))))))))))) Try_hm (by decide +kernel) ?_; intro w21 w1_ w2_ w3_ w4_; have hJ := hJ.step (Ev.same w1_ w2_ w3_ w4_) (hJ.1.same w1_); have ER := hJ.ev (HE _); refine dm F ER.sb fun a F => ?_; refine di F ER.sb fun a F => ?_; refine df F ff_88_0 ER.sb fun a F => ?_; refine dq F (fun wq hS => r_load F rfl ag_54 (AT.cell (AT.sb hat hS HM) rfl)) ER.sb fun a F => ?_; refine dm F ER.sb fun a F => ?_; refine dm F ER.sb fun a F => ?_; refine d_e ?_; obtain ⟨t22, q23, H⟩ := thenC_some H; refine oc F Try.func62 (ihhl _ _ _ _ hl hJ _ q23) ?_; rintro e w25 h26
  cases t22 with
  | next s_ =>
   obtain ⟨rfl, c24, hJ⟩ := h26; refine rt fun a F => ?_; have ER := hJ.ev (HE _); have H : _ = some r := H; refine ⟨fun _ => ER.sb, ?_⟩; refine dm F ER.sb fun a F => ?_; refine dy F rfl (fun wq hS => r_move F rfl) ER.sb fun a F => ?_; refine dy F rfl (fun wq hS => r_move F rfl) ER.sb fun a F => ?_; refine dy F rfl (fun wq hS => r_nil F rfl) ER.sb fun a F => ?_; refine dy F rfl (fun wq hS => r_fieldAddr F rfl ff_88_2) ER.sb fun a F => ?_; refine dy F rfl (fun wq hS => r_load F rfl ag_9 (AT.cell (AT.sb hat hS HM) rfl)) ER.sb fun a F => ?_; refine dy F rfl (fun wq hS => r_move F rfl) ER.sb fun a F => ?_; refine dy F rfl (fun wq hS => r_nil F rfl) ER.sb fun a F => ?_; refine dy F rfl (fun wq hS => r_fieldAddr F rfl ff_88_3) ER.sb fun a F => ?_; refine dy F rfl (fun wq hS => r_loads (cs := [.slice A1 v.value.length C2, .int .i64 v.rev]) F rfl ag_57 sz_57 (AT.sub (AT.sb hat hS HM) 3 2 (nb rfl))) ER.sb fun a F => ?_; refine d_e ?_; obtain ⟨t27, q28, H⟩ := thenC_some H; refine o_yield F rfl (wanted_yes F rfl rfl (by decide) rfl rfl) rfl (by decide) (r_yield F rfl (vs := [.string k, .agg #[.slice A1 v.value.length C2, .int .i64 v.rev]]) rfl) (HY _ _ _ _ _ _ _ _ hJ (SL.ev h3 ER HM HM) q28) ?_; rintro e w30 h31
   cases t27 with
   | next s_ =>
    obtain ⟨rfl, c29, hJ⟩ := h31; refine rt fun a F => ?_; have ER := hJ.ev (HE _); have H : _ = some r := H; refine ⟨fun _ => ER.sb, ?_⟩; refine dq F (fun wq hS => r_pick_t F rfl rfl rfl) ER.sb fun a F => ?_; refine dm F ER.sb fun a F => ?_; refine dy F rfl (fun wq hS => r_move F rfl) ER.sb fun a F => ?_; refine dy F rfl (fun wq hS => r_nil F rfl) ER.sb fun a F => ?_; refine dy F rfl (fun wq hS => r_fieldAddr F rfl ff_88_1) ER.sb fun a F => ?_; refine dy F rfl (fun wq hS => r_load F rfl ag_54 (AT.cell (AT.sb hat hS HM) rfl)) ER.sb fun a F => ?_; refine dy F rfl (fun wq hS => r_move F rfl) ER.sb fun a F => ?_; refine d_e ?_; refine o_call F rfl (wanted_yes F rfl rfl (by decide) rfl rfl) rfl (by decide) (r_call F Try.func52 rfl (by kernel_rfl) rfl) (tree_Tree_up.calls hm0 HM HE HX HY _ _ _ _ _ hr hJ _ H) ?_; rintro e w33 h34
    cases r with
    | next s_ =>
     obtain ⟨rfl, c32, hJ⟩ := h34; refine rt fun a F => ?_; have ER := hJ.ev (HE _); refine ⟨fun _ => ER.sb, ?_⟩; refine dq F (fun wq hS => r_pick_t F rfl rfl rfl) ER.sb fun a F => ?_; refine da F ER.sb fun a F => ?_; refine d_nil ?_; refine hK20 _ _ ?_; have F : Fr a 49 [(6, .bool true)] := F.sub ⟨rfl, trivial⟩; refine wp_ret ?_; refine out1 F rfl rfl ?_; exact ⟨rfl, _, hJ⟩
    | done x_ =>
     obtain ⟨rfl, c32, hX⟩ := h34; refine rt fun a F => ?_; have ER := HX _ _ _ hX; refine ⟨fun _ => ER.sb, ?_⟩; refine dq F (fun wq hS => r_pick_t F rfl rfl rfl) ER.sb fun a F => ?_; refine da F ER.sb fun a F => ?_; refine d_nil ?_; refine hK20 _ _ ?_; have F : Fr a 49 [(6, .bool false)] := F.sub ⟨rfl, trivial⟩; refine wp_ret ?_; refine out1 F rfl rfl ?_; exact ⟨rfl, _, hX⟩
   | done x_ =>
    obtain ⟨rfl, c29, hX⟩ := h31; refine rt fun a F => ?_; have ER := HX _ _ _ hX; have H : Ctl.done _ = r := H; subst H; refine ⟨fun _ => ER.sb, ?_⟩; refine dq F (fun wq hS => r_pick_t F rfl rfl rfl) ER.sb fun a F => ?_; refine dm F ER.sb fun a F => ?_; refine dn F rfl ER.sb fun a F => ?_; refine dn F rfl ER.sb fun a F => ?_; refine dn F rfl ER.sb fun a F => ?_; refine dn F rfl ER.sb fun a F => ?_; refine dn F rfl ER.sb fun a F => ?_; refine d_e ?_; refine o_no F rfl rfl rfl (by decide) rfl rfl rfl (by decide) fun a F => ?_; refine ⟨fun _ => ER.sb, ?_⟩; refine dq F (fun wq hS => r_pick_f F rfl rfl rfl) ER.sb fun a F => ?_; refine da F ER.sb fun a F => ?_; refine d_nil ?_; refine hK20 _ _ ?_; have F : Fr a 49 [(6, .bool false)] := F.sub ⟨rfl, trivial⟩; refine wp_ret ?_; refine out1 F rfl rfl ?_; exact ⟨rfl, _, hX⟩
  | done x_ =>
   obtain ⟨rfl, c24, hX⟩ := h26; refine rt fun a F => ?_; have ER := HX _ _ _ hX; have H : Ctl.done _ = r := H; subst H; refine ⟨fun _ => ER.sb, ?_⟩; refine dm F ER.sb fun a F => ?_; refine dn F rfl ER.sb fun a F => ?_; refine dn F rfl ER.sb fun a F => ?_; refine dn F rfl ER.sb fun a F => ?_; refine dn F rfl ER.sb fun a F => ?_; refine dn F rfl ER.sb fun a F => ?_; refine dn F rfl ER.sb fun a F => ?_; refine dn F rfl ER.sb fun a F => ?_; refine dn F rfl ER.sb fun a F => ?_; refine dn F rfl ER.sb fun a F => ?_; refine d_e ?_; refine o_no F rfl rfl rfl (by decide) rfl rfl rfl (by decide) fun a F => ?_; refine ⟨fun _ => ER.sb, ?_⟩; refine dq F (fun wq hS => r_pick_f F rfl rfl rfl) ER.sb fun a F => ?_; refine dm F ER.sb fun a F => ?_; refine dn F rfl ER.sb fun a F => ?_; refine dn F rfl ER.sb fun a F => ?_; refine dn F rfl ER.sb fun a F => ?_; refine dn F rfl ER.sb fun a F => ?_; refine dn F rfl ER.sb fun a F => ?_; refine d_e ?_; refine o_no F rfl rfl rfl (by decide) rfl rfl rfl (by decide) fun a F => ?_; refine ⟨fun _ => ER.sb, ?_⟩; refine dq F (fun wq hS => r_pick_f F rfl rfl rfl) ER.sb fun a F => ?_; refine da F ER.sb fun a F => ?_; refine d_nil ?_; refine hK20 _ _ ?_; have F : Fr a 49 [(6, .bool false)] := F.sub ⟨rfl, trivial⟩; refine wp_ret ?_; refine out1 F rfl rfl ?_; exact ⟨rfl, _, hX⟩
theorem tree_Tree_From_1.calls {σ X : Type} {m : Nat} {M : Nat → Prop} {cR : Nat → Nat} {wR : World} {l : Nat} (hm0 : 0 < m) (HM : ¬ M 0) {g : σ → ByteArray → table_cell → Option (Ctl σ X)} {J : σ → (Nat → Nat) → World → Prop} {JX : X → (Nat → Nat) → World → Prop} (HE : ∀ s c w, J s c w → Ev M cR wR c w) (HX : ∀ x c w, JX x c w → Ev M cR wR c w) (HY : ∀ s k (v : table_cell) c w (A4 : Option Addr) (C5 : Nat) r, JS m (J s) c w → SL false (Kint .u8) 0 0 c w A4 C5 v.value → g s k v = some r → YieldAt Fence.wide 0 Try.prog l #[.string k, .agg #[.slice A4 v.value.length C5, .int .i64 v.rev]] w (IP (fun s => JS m (J s)) JX r)) (t : Tr) (p : Option Addr) (key : ByteArray) (s : σ) (c : Nat → Nat) (w : World) {own0 : Bool} {jq0 : Nat} {q0 : Addr} (hq0 : AT own0 jq0 c w q0 [.pointer p]) {own1 : Bool} {jq1 : Nat} {q1 : Addr} (hq1 : AT own1 jq1 c w q1 [.string key]) (ht : TR 0 cR wR p t) (hJ : JS m (J s) c w) (r : Ctl σ X) (H : Tr.from key g t s = some r) : Calls Try.prog 61 #[yv l, .pointer (some q0), .pointer (some q1)] w (IT (fun s => JS m (J s)) JX r) := by
 refine enter (N := 8) (l := [yv l, .pointer (some q0), .pointer (some q1)]) Try.func61 rfl rfl (nb rfl) fun a F => ?_; have ER := hJ.ev (HE _); refine reg ?_; refine qv F (r_load F rfl ag_54 (AT.cell0 hq0 rfl)) fun a F => ?_; refine qv F (r_load F rfl ag_9 (AT.cell0 hq1 rfl)) fun a F => ?_; refine qm F fun a F => ?_; refine qc F Try.func62 (tree_Tree_from.calls hm0 HM HE HX HY key _ _ _ _ _ ht hJ _ H) ?_; rintro e w2 h3
 cases r with
 | next s_ =>
  obtain ⟨rfl, c1, hJ⟩ := h3; refine rt fun a F => ?_; have ER := hJ.ev (HE _); refine nil ?_; refine out0n F rfl ?_; exact ⟨⟨_, rfl⟩, _, hJ⟩
 | done x_ =>
  obtain ⟨rfl, c1, hX⟩ := h3; refine rt fun a F => ?_; have ER := HX _ _ _ hX; refine nil ?_; refine out0n F rfl ?_; exact ⟨⟨_, rfl⟩, _, hX⟩
theorem ITR.go {j : Nat} {cR : Nat → Nat} {wR : World} {v : Value} {i : It} (hi : ITR j cR wR v i) : ∃ gf lb, v = .func (.func gf) #[] lb ∧ (∀ args w, (callFunc gf args).run Try.prog w = .ok (.enter gf args) w) ∧
  ∀ {σ X : Type} {m : Nat} {M : Nat → Prop}  {l : Nat} (hm0 : 0 < m) (HM : ¬ M 0) {g : σ → ByteArray → table_cell → Option (Ctl σ X)} {J : σ → (Nat → Nat) → World → Prop} {JX : X → (Nat → Nat) → World → Prop} (HE : ∀ s c w, J s c w → Ev M cR wR c w) (HX : ∀ x c w, JX x c w → Ev M cR wR c w) (HY : ∀ s k (v : table_cell) c w (A1 : Option Addr) (C2 : Nat) r, JS m (J s) c w → SL false (Kint .u8) 0 0 c w A1 C2 v.value → g s k v = some r → YieldAt Fence.wide 0 Try.prog l #[.string k, .agg #[.slice A1 v.value.length C2, .int .i64 v.rev]] w (IP (fun s => JS m (J s)) JX r)) (c1 : Nat → Nat) (w1 : World) (E1 : Ev No cR wR c1 w1) (s : σ) (hJ : JS m (J s) c1 w1) (r : Ctl σ X) (H : It.run g i s = some r), Calls Try.prog gf (#[yv l] ++ lb) w1 (IT (fun s => JS m (J s)) JX r) := by
 cases i with
 | all t =>
  obtain ⟨q, p, e, h, ht⟩ := hi; refine ⟨_, _, e, callFunc_go Try.func51 (by kernel_rfl) rfl, ?_⟩; intro σ X m M l hm0 HM g J JX HE HX HY c1 w1 E1 s hJ r H; exact tree_Tree_All_1.calls hm0 HM HE HX HY t p s c1 w1 (h.ev E1 (fun q => q)) ht hJ r H
 | «from» t k =>
  obtain ⟨q, q1, p, e, h, h1, ht⟩ := hi; refine ⟨_, _, e, callFunc_go Try.func61 (by kernel_rfl) rfl, ?_⟩; intro σ X m M l hm0 HM g J JX HE HX HY c1 w1 E1 s hJ r H; exact tree_Tree_From_1.calls hm0 HM HE HX HY t p k s c1 w1 (h.ev E1 (fun q => q)) (h1.ev E1 (fun q => q)) ht hJ r H
set_option maxHeartbeats 1000000 in
theorem ITR.range {j : Nat} {c : Nat → Nat} {w : World} {u : Value} {i : It} (hi : ITR j c w u i) {S X : Type} {m y z N : Nat} {M : Nat → Prop} {L : List (Nat × Value)} {D : List Deferred} {a : Act} {g0 : Operand} {p1 p2 : Tmp} {assign body : Code} {Q : Exit → Act → World → Prop} {g : S → ByteArray → table_cell → Option (Ctl S X)} (J : S → (Nat → Nat) → World → Prop) (JX : X → (Nat → Nat) → World → Prop)
  (F : Fr a N L D) (hg : G.ev L g0 = some u) (h1 : p1 < N) (h2 : p2 < N) (hy : y < m) (hz : z < m) (hyz : z ≠ y) (h0y : 0 < m) (HM : ¬ M 0) (B : CB m c w)
  (JE : ∀ s c1 w1, J s c1 w1 → Ev M c w c1 w1) (JXE : ∀ x c1 w1, JX x c1 w1 → Ev M c w c1 w1)
  (Jst : ∀ s c1 w1 c2 w2, J s c1 w1 → Ev (fun x => x = y) c1 w1 c2 w2 → J s c2 w2) (JXst : ∀ x c1 w1 c2 w2, JX x c1 w1 → Ev (fun x => x = y) c1 w1 c2 w2 → JX x c2 w2)
  (s0 : S) (h0 : J s0 c w) (xv : Ctl S X) (HL : It.run g i s0 = some xv)
  (round : ∀ (bd l : Nat) (rec_ : Loop) (s : S) (k : ByteArray) (v : table_cell) (c1 : Nat → Nat) (w1 : World) (A1 : Option Addr) (C2 : Nat) (r : Ctl S X), J s c1 w1 → CB m c1 w1 → OBJ z c1 w1 bd (.deferred (some [])) → OBJ y c1 w1 l (.loop rec_) → SL false (Kint .u8) 0 0 c1 w1 A1 C2 v.value → g s k v = some r → ∀ a1, Fr a1 N ((p2, .agg #[.slice A1 v.value.length C2, .int .i64 v.rev]) :: (p1, .string k) :: L) →
   assign.wpIn (Fw (some l)) 0 Try.prog (Exit.then (fun a2 w2 => ∃ c2, OBJ y c2 w2 l (.loop rec_) ∧ ∀ w3, Ev (fun x => x = y) c2 w2 c2 w3 → OBJ y c2 w3 l (.loop (lbusy rec_)) → w3.heap.size = w2.heap.size →
    body.wpIn (Fw (some l)) 0 Try.prog (RE y l rec_ (fun c4 w4 => r.el (fun s' => J s' c4 w4 ∧ CB m c4 w4 ∧ OBJ z c4 w4 bd (.deferred (some []))) (fun _ => False)) (fun jc c4 w4 => jc = .ret ∧ r.el (fun _ => False) (fun x => JX x c4 w4 ∧ CB m c4 w4 ∧ OBJ z c4 w4 bd (.deferred (some []))))) a2 w3) (fun _ _ _ => False)) a1 w1)
  (normal : ∀ s', xv = .next s' → ∀ c2 w2 bd, J s' c2 w2 → CB m c2 w2 → OBJ z c2 w2 bd (.deferred (some [])) → ∀ a', Fr a' N L ({ target := .collected bd, args := #[] } :: D) → Q .normal a' w2)
  (exit : ∀ x, xv = .done x → ∀ c2 w2 bd, JX x c2 w2 → CB m c2 w2 → OBJ z c2 w2 bd (.deferred (some [])) → ∀ a', Fr a' N L ({ target := .collected bd, args := #[] } :: D) → Q .ret a' w2) :
  (Code.rangeFunc g0 #[p1, p2] assign body).wp Try.prog Q a w := by
 obtain ⟨gf, lb, rfl, eg, hrun⟩ := ITR.go hi; refine range_wp F hg eg c y z ?_; intro fn bd l c1 w1 E1 hb hl hB hne; have B1 := hB m B hy hz; have no : ∀ x, No x → x = y := fun _ q => q.elim; refine (hrun (σ := S) (X := X) (m := m) (M := M) (l := l) h0y HM (g := g) (J := fun s c1 w1 => J s c1 w1 ∧ OBJ z c1 w1 bd (.deferred (some [])) ∧ OBJ y c1 w1 l (.loop (lrec fn a.tmps #[p1, p2] assign body bd)))
  (JX := fun x c1 w1 => JX x c1 w1 ∧ CB m c1 w1 ∧ OBJ z c1 w1 bd (.deferred (some [])) ∧ OBJ y c1 w1 l (.loop (ldone (lrec fn a.tmps #[p1, p2] assign body bd) .ret))) (fun s c1 w1 h => JE _ _ _ h.1) (fun x c1 w1 h => JXE _ _ _ h.1) ?_ c1 w1 E1 s0 (JS.mk B1 ⟨Jst _ _ _ _ _ h0 (E1.mono no), hb, hl⟩) xv HL).mono ?_
 ·intro s k v c2 w2 A1 C2 r hjs h3 Hg; obtain ⟨B2, c3, w3, ⟨hJ, hb3, hl3⟩, E3⟩ := hjs; have hJ := Jst _ _ _ _ _ hJ (E3.mono no); have hb2 := hb3.ev E3 (fun q => q); have hl2 := hl3.ev E3 (fun q => q); refine YieldAt.mono (round2 F h1 h2 hl2 (G := fun c4 w4 => r.el (fun s' => J s' c4 w4 ∧ CB m c4 w4 ∧ OBJ z c4 w4 bd (.deferred (some []))) (fun _ => False)) (X := fun jc c4 w4 => jc = .ret ∧ r.el (fun _ => False) (fun x => JX x c4 w4 ∧ CB m c4 w4 ∧ OBJ z c4 w4 bd (.deferred (some [])))) (fun a1 F1 => round bd l _ s k v c2 w2 A1 C2 r hJ B2 hb2 hl2 h3 Hg a1 F1)) ?_; rintro e W (⟨rfl, c4, V, hG, E4, hl4, hz4⟩ | ⟨rfl, jc, c4, V, hX, E4, hl4, hz4⟩)
  ·cases r with
   | next s' =>
    obtain ⟨hJ', B', hb'⟩ := hG; exact ⟨rfl, c4, JS.mk (B'.size hz4) ⟨Jst _ _ _ _ _ hJ' E4, hb'.ev E4 (fun q => hyz q), hl4⟩⟩
   | done x => exact hG.elim
  cases r with
  | next s' => exact hX.2.elim
  | done x =>
   obtain ⟨rfl, hX, B', hb'⟩ := hX; exact ⟨rfl, c4, JXst _ _ _ _ _ hX E4, B'.size hz4, hb'.ev E4 (fun q => hyz q), hl4⟩
 rintro e W ⟨hv, hr⟩
 cases xv with
 | next s' =>
  obtain ⟨c4, B4, c5, w5, ⟨hJ, hb5, hl5⟩, E5⟩ := hr; refine ⟨hv, c4, none, hl5.ev E5 (fun q => q), fun W' E' Z' _ a' F' => ?_⟩; exact normal s' rfl c4 W' bd (Jst _ _ _ _ _ (Jst _ _ _ _ _ hJ (E5.mono no)) E') (B4.size Z') ((hb5.ev E5 (fun q => q)).ev E' (fun q => hyz q)) a' F'
 | done x =>
  obtain ⟨c4, hX, B4, hb4, hl4⟩ := hr; refine ⟨hv, c4, some .ret, hl4, fun W' E' Z' _ a' F' => ?_⟩; refine wp_ret ?_; exact exit x rfl c4 W' bd (JXst _ _ _ _ _ hX E') (B4.size Z') (hb4.ev E' (fun q => hyz q)) a' F'
theorem parcel_New.calls {m : Nat} {c0 : Nat → Nat} {w0 : World} {a1 : Int} (hm0 : 0 < m) (B0 : CB m c0 w0) (jr12 : Nat) (bjr12 : jr12 < m) (jr13 : Nat) (bjr13 : jr13 < m) (r : (Option Wri)) (H : parcel_New.f a1 = some r) : Calls Try.prog 31 #[.int .i64 a1] w0 (fun e w_ => ∃ (c_ : Nat → Nat) (P0_ : Option Addr), e = .returned (.pointer P0_) ∧ Ev (fun x => False) c0 w0 c_ w_ ∧ CB m c_ w_ ∧ WR jr12 jr13 c_ w_ P0_ r) := by
 unfold parcel_New.f at H; have B := B0.mono (show m ≤ m + 3 by omega); have E : Ev (fun x => False ∨ m ≤ x) c0 w0 c0 w0 := Ev.refl; refine enter (N := 7) (l := [.int .i64 a1]) Try.func31 rfl rfl (nb rfl) fun a F => ?_; refine sr fun K2 hK2 => qa F fun a F => nil (hK2 _ _ ?_); refine sr fun K3 hK3 => qm F fun a F => ?_; refine qv F (r_max F rfl rfl) fun a F => ?_; refine qv F (r_build (v := .agg #[.int .i64 (max a1 0), .slice none 0 0, .slice none 0 0, .int .i64 0]) F [(0, .int .i64 (max a1 0))] (by exact ⟨rfl, rfl, trivial⟩) (fun w => by kernel_rfl)) fun a F => ?_; refine q_eff F rfl rfl (by decide) (e_box F (v := .agg #[.int .i64 (max a1 0), .slice none 0 0, .slice none 0 0, .int .i64 0]) rfl c0 (m + 1)) ?_; rintro v w5 a ⟨c4, qa6, rfl, E7, h8, B9⟩ F; replace B := B9 _ B lm; replace E := E.n E7; replace h8 : AT _ _ _ _ _ [.int .i64 (max a1 0), .slice none 0 0, .slice none 0 0, .int .i64 0] := h8; refine qa F fun a F => nil (hK3 _ _ ?_); refine wp_ret ?_; have h11 : WR (m + 1) (m + 2) c4 w5 (some qa6) (some (Wri.mk (max a1 0) [] [] 0)) := WR.mk h8 SL.nil SL.nil; obtain rfl := si H; refine out1 F rfl rfl ?_; exact ⟨cf (fun x_ => if x_ = m + 1 then jr12 else if x_ = m + 2 then jr13 else if x_ < m then x_ else 0) c4, (some qa6), rfl, E.lv B0, cfb, WR.rc h11 cfk cfk cfk⟩
theorem parcel_Writer_Done.calls {m : Nat} {c0 : Nat → Nat} {w0 : World} {j4 : Nat} {j5 : Nat} {p2 : Option Addr} {a1 : Option Wri} (hm0 : 0 < m) (B0 : CB m c0 w0) (h3 : WR j4 j5 c0 w0 p2 a1) (bj4 : j4 < m) (bj5 : j5 < m ∧ j5 ≠ j4) (jr46 : Nat) (bjr46 : jr46 < m) (r : (List Int) × Int) (H : parcel_Writer_Done.f a1 = some r) : Calls Try.prog 37 #[.pointer p2] w0 (fun e w_ => ∃ (c_ : Nat → Nat) (A0_ : Option Addr) (C0_ : Nat), e = .returned (.tuple #[.slice A0_ r.1.length C0_, .int .i64 r.2]) ∧ Ev (fun x => False) c0 w0 c_ w_ ∧ CB m c_ w_ ∧ SL true (Kint .u8) jr46 0 c_ w_ A0_ C0_ r.1) := by
 unfold parcel_Writer_Done.f at H; have B := B0.mono (show m ≤ m + 2 by omega); have E : Ev (fun x => False ∨ m ≤ x) c0 w0 c0 w0 := Ev.refl; refine enter (N := 38) (l := [.pointer p2]) Try.func37 rfl rfl (nb rfl) fun a F => ?_; refine sr fun K6 hK6 => qa F fun a F => qa F fun a F => nil (hK6 _ _ ?_); refine sq fun K7 hK7 => ?_; refine wp_block ?_; refine sr fun K8 hK8 => qm F fun a F => ?_; refine qv F (r_peqlA F Try.underlying68 rfl rfl (WR.isNone h3)) fun a F => ?_; refine qa F fun a F => nil (hK8 _ _ ?_)
 by_cases hb9 : (Option.isNone a1) = true
 ·replace H := ip hb9 H; refine wct (fb F hb9) ?_; refine sr fun K10 hK10 => qa F fun a F => qa F fun a F => nil (hK10 _ _ ?_); refine wp_ret ?_; refine inbR ?_; refine thenR ?_; obtain rfl := si H; refine out2 F rfl rfl rfl ?_; exact ⟨cf (fun x_ => if x_ = m + 1 then jr46 else if x_ < m then x_ else 0) c0, none, 0, rfl, E.lv B0, cfb, SL.nil⟩
 replace H := im hb9 H; refine wcf (fb F (bfalse hb9)) ?_; refine sr fun K11 hK11 => qm F fun a F => ?_; obtain ⟨ob12, e13, H⟩ := bind_some H; have z14 := h3; rw [e13] at z14; obtain ⟨ad15, A17, C18, A20, C21, rfl, hat16, h19, h22⟩ := WR.some z14; refine qi F fun a F => ?_; refine qf F ff_95_3 fun a F => ?_; refine ql F ag_34 hat16 fun a F => ?_; refine qv F (r_neq F rfl rfl) fun a F => ?_; refine qa F fun a F => nil (hK11 _ _ ?_); replace F : Fr a 38 [(0, .pointer (some ad15)), (8, .bool (!decide (ob12.fault = 0)))] := F.sub ⟨rfl, rfl, trivial⟩
 by_cases hb24 : ob12.fault = 0
 ·replace H := ip hb24 H; refine wcf (fb F (congrArg not (dt hb24))) ?_; refine sr fun K25 hK25 => qm F fun a F => ?_; refine qi F fun a F => ?_; refine qf F ff_95_2 fun a F => ?_; refine ql F ag_93 hat16 fun a F => ?_; refine qv F (r_lensl F Try.underlying93 rfl) fun a F => ?_; refine qv F (r_gtr F rfl rfl) fun a F => ?_; refine qa F fun a F => nil (hK25 _ _ ?_)
  by_cases hb26 : 0 < (ob12.open_.length : Int)
  ·replace H := ip hb26 H; refine wct (fb F (dt hb26)) ?_; refine sr fun K27 hK27 => qa F fun a F => qa F fun a F => nil (hK27 _ _ ?_); replace F : Fr a 38 [(2, .slice none 0 0), (3, .int .i64 12)] := F.sub ⟨rfl, rfl, trivial⟩; refine wp_ret ?_; refine inbR ?_; refine thenR ?_; obtain rfl := si H; refine out2 F rfl rfl rfl ?_; exact ⟨cf (fun x_ => if x_ = m + 1 then jr46 else if x_ < m then x_ else 0) c0, none, 0, rfl, E.lv B0, cfb, SL.nil⟩
  replace H := im hb26 H; refine wcf (fb F (dz hb26)) (wp_skip (hK7 _ _ ?_)); replace F : Fr a 38 [(0, .pointer (some ad15))] := F.sub ⟨rfl, trivial⟩; refine sr fun K31 hK31 => qm F fun a F => ?_; refine qi F fun a F => ?_; refine qf F ff_95_1 fun a F => ?_; refine ql F ag_23 hat16 fun a F => ?_; refine qv F (r_lensl F Try.underlying23 rfl) fun a F => ?_; replace H := ifN H; obtain ⟨g32, H⟩ := H; refine q_eff F rfl rfl (by decide) (e_make (k := (Kint .u8)) (x0 := 0) F et_23 rfl rfl (fun _ _ _ => rfl) (by decide) g32 c0 (m + 1) 0) ?_; rintro v w34 a ⟨c33, A35, C36, rfl, E37, h38, B39⟩ F; replace B := B39 _ B lm; replace h19 := h19.ev E37; replace hat16 := hat16.ev E37; replace E := E.n E37; refine qa F fun a F => nil (hK31 _ _ ?_); refine sr fun K40 hK40 => qm F fun a F => qm F fun a F => ?_; refine qi F fun a F => ?_; refine qf F ff_95_1 fun a F => ?_; refine ql F ag_23 hat16 fun a F => ?_; refine q_eff F rfl rfl (by decide) (e_copy (k := (Kint .u8)) (xs := (List.replicate (ob12.b.length : Int).toNat (0 : Int))) (ys := ob12.b) F et_23 rfl rfl h38 h19 ne_zm) ?_; rintro v w41 a ⟨rfl, E42, h38, Z43⟩ F; replace E := E.trans E42 lc1; have hl44 : (List.replicate (ob12.b.length : Int).toNat (0 : Int)).length = (ob12.b.take (List.replicate (ob12.b.length : Int).toNat (0 : Int)).length ++ (List.replicate (ob12.b.length : Int).toNat (0 : Int)).drop ob12.b.length).length := by simp <;> omega
  rw [hl44] at F; refine nil (hK40 _ _ ?_); replace F : Fr a 38 [(4, .slice A35 (ob12.b.take (List.replicate (ob12.b.length : Int).toNat (0 : Int)).length ++ (List.replicate (ob12.b.length : Int).toNat (0 : Int)).drop ob12.b.length).length C36)] := F.sub ⟨rfl, trivial⟩; refine sr fun K45 hK45 => qm F fun a F => qa F fun a F => qa F fun a F => nil (hK45 _ _ ?_); refine wp_ret ?_; obtain rfl := si H; refine out2 F rfl rfl rfl ?_; exact ⟨cf (fun x_ => if x_ = m + 1 then jr46 else if x_ < m then x_ else 0) c33, A35, C36, rfl, E.lv B0, cfb, SL.rc h38 cfk cfk⟩
 replace H := im hb24 H; refine wct (fb F (congrArg not (dz hb24))) ?_; refine sq fun K28 hK28 => ?_; refine regD (SB No c0 w0) 6 (.q 0 (.q 1 (.q 2 (.q 3 (.q 4 (.q 5 .nil)))))) Try_hm (by decide +kernel) ?_; intro w29 w1_ w2_ w3_ w4_; have E30 : Ev No c0 w0 c0 w29 := Ev.same w1_ w2_ w3_ w4_; have zhat16 := hat16; have ER : Ev No c0 w0 c0 w29 := Ev.same w1_ w2_ w3_ w4_; replace E := E.n E30; refine dm F ER.sb fun a F => ?_; refine di F ER.sb fun a F => ?_; refine df F ff_95_3 ER.sb fun a F => ?_; refine dl F ag_34 zhat16 nq ER.sb fun a F => ?_; refine da F ER.sb fun a F => ?_; refine da F ER.sb fun a F => ?_; refine d_nil ?_; refine hK28 _ _ ?_; refine wp_ret ?_; refine inbR ?_; refine thenR ?_; obtain rfl := si H; refine out2 F rfl rfl rfl ?_; exact ⟨cf (fun x_ => if x_ = m + 1 then jr46 else if x_ < m then x_ else 0) c0, none, 0, rfl, E.lv B0, cfb, SL.nil⟩
theorem parcel_Writer_whole.calls {m : Nat} {c0 : Nat → Nat} {w0 : World} {j4 : Nat} {j5 : Nat} {p2 : Option Addr} {a1 : Option Wri} (hm0 : 0 < m) (B0 : CB m c0 w0) (h3 : WR j4 j5 c0 w0 p2 a1) (bj4 : j4 < m) (bj5 : j5 < m ∧ j5 ≠ j4) (r : Bool) (H : parcel_Writer_whole.f a1 = some r) : Calls Try.prog 67 #[.pointer p2] w0 (fun e w_ => ∃ (c_ : Nat → Nat), e = .returned (.bool r) ∧ Ev (fun x => False) c0 w0 c_ w_ ∧ CB m c_ w_) := by
 unfold parcel_Writer_whole.f at H; have B := B0.mono (show m ≤ m + 1 by omega); have E : Ev (fun x => False ∨ m ≤ x) c0 w0 c0 w0 := Ev.refl; refine enter (N := 12) (l := [.pointer p2]) Try.func67 rfl rfl (nb rfl) fun a F => ?_; refine sr fun K6 hK6 => qa F fun a F => nil (hK6 _ _ ?_); refine sr fun K7 hK7 => qm F fun a F => ?_; refine qv F (r_pneqA F Try.underlying68 rfl rfl (WR.isNone h3)) fun a F => ?_; refine qm F fun a F => ?_
 by_cases hb8 : (Option.isNone a1) = true
 ·replace H := ip hb8 H; refine qn F (congrArg not hb8) fun a F => qn F (congrArg not hb8) fun a F => qn F (congrArg not hb8) fun a F => qn F (congrArg not hb8) fun a F => qn F (congrArg not hb8) fun a F => ?_; refine qv F (r_pick_f F rfl (congrArg not hb8) rfl) fun a F => ?_; refine qa F fun a F => nil (hK7 _ _ ?_); replace F : Fr a 12 [(2, .bool false)] := F.sub ⟨rfl, trivial⟩; refine wp_ret ?_; obtain rfl := si H; refine out1 F rfl rfl ?_; exact ⟨cf (ct m) c0, rfl, E.lv B0, cfb⟩
 replace H := im hb8 H; refine qy F (congrArg not (bfalse hb8)) ?_; refine qm F fun a F => ?_; obtain ⟨ob9, e10, H⟩ := bind_some H; have z11 := h3; rw [e10] at z11; obtain ⟨ad12, A14, C15, A17, C18, rfl, hat13, h16, h19⟩ := WR.some z11; refine qy F (congrArg not (bfalse hb8)) ?_; refine qi F fun a F => ?_; refine qy F (congrArg not (bfalse hb8)) ?_; refine qf F ff_95_3 fun a F => ?_; refine qy F (congrArg not (bfalse hb8)) ?_; refine ql F ag_34 hat13 fun a F => ?_; refine qy F (congrArg not (bfalse hb8)) ?_; refine qv F (r_eql F rfl rfl) fun a F => ?_; refine qv F (r_pick_t F rfl (congrArg not (bfalse hb8)) rfl) fun a F => ?_; refine qa F fun a F => nil (hK7 _ _ ?_); replace F : Fr a 12 [(2, .bool (decide (ob9.fault = 0)))] := F.sub ⟨rfl, trivial⟩; refine wp_ret ?_; obtain rfl := si H; refine out1 F rfl rfl ?_; exact ⟨cf (ct m) c0, rfl, E.lv B0, cfb⟩
theorem parcel_Writer_lay.calls {m : Nat} {c0 : Nat → Nat} {w0 : World} {j4 : Nat} {j5 : Nat} {p2 : Option Addr} {A7 : Option Addr} {C8 : Nat} {a1 : Option Wri} {a6 : List Int} (hm0 : 0 < m) (B0 : CB m c0 w0) (h3 : WR j4 j5 c0 w0 p2 a1) (h9 : SL false (Kint .u8) 0 0 c0 w0 A7 C8 a6) (bj4 : 0 < j4 ∧ j4 < m) (bj5 : 0 < j5 ∧ j5 < m ∧ j5 ≠ j4) (r : (Option Wri)) (H : parcel_Writer_lay.f a1 a6 = some r) : Calls Try.prog 49 #[.pointer p2, .slice A7 a6.length C8] w0 (fun e w_ => ∃ (c_ : Nat → Nat), e = .returned (.tuple #[]) ∧ Ev (fun x => (x = j4 ∨ x = j5)) c0 w0 c_ w_ ∧ CB m c_ w_ ∧ WR j4 j5 c_ w_ p2 r) := by
 unfold parcel_Writer_lay.f at H; have B := B0.mono (show m ≤ m + 1 by omega); have E : Ev (fun x => (x = j4 ∨ x = j5) ∨ m ≤ x) c0 w0 c0 w0 := Ev.refl; refine enter (N := 34) (l := [.pointer p2, .slice A7 a6.length C8]) Try.func49 rfl rfl (nb rfl) fun a F => ?_; refine wp_block ?_; refine sr fun K10 hK10 => qm F fun a F => ?_; obtain ⟨t11, q12, H⟩ := bind_some H; refine qc F Try.func67 (parcel_Writer_whole.calls (m := m + 1) (pl hm0) B h3 (Nat.lt_add_right _ bj4.2) ⟨(Nat.lt_add_right _ bj5.2.1), bj5.2.2⟩ _ q12) ?_; rintro e w14 ⟨c13, rfl, E15, B⟩; refine rt fun a F => ?_; replace h3 := h3.ev E15; replace h9 := h9.ev E15; replace E := E.n E15; refine qv F (r_not F rfl) fun a F => ?_; refine qa F fun a F => nil (hK10 _ _ ?_)
 by_cases hb18 : t11 = true
 ·replace H := ip hb18 H; refine wcf (fb F (congrArg not hb18)) ?_; refine sq fun K19 hK19 => ?_; obtain ⟨ob20, e21, H⟩ := bind_some H; have z22 := h3; rw [e21] at z22; obtain ⟨ad23, A25, C26, A28, C29, rfl, hat24, h27, h30⟩ := WR.some z22; refine regD (SB No c13 w14) 14 (.q 0 (.q 1 (.q 2 (.q 3 (.q 4 (.q 5 (.q 6 (.q 7 (.q 8 (.q 9 (.q 10 (.q 11 (.q 12 (.q 13 .nil)))))))))))))) Try_hm (by decide +kernel) ?_; intro w32 w1_ w2_ w3_ w4_; have E33 : Ev No c13 w14 c13 w32 := Ev.same w1_ w2_ w3_ w4_; replace B := B.same w1_; have zhat24 := hat24; have ER : Ev No c13 w14 c13 w32 := Ev.same w1_ w2_ w3_ w4_; replace h9 := h9.ev E33; replace h27 := h27.ev E33; replace h30 := h30.ev E33; replace hat24 := hat24.ev E33; replace E := E.n E33; refine dm F ER.sb fun a F => ?_; refine dq F (fun wq hS => r_lensl F Try.underlying23 rfl) ER.sb fun a F => ?_; refine dm F ER.sb fun a F => ?_; refine di F ER.sb fun a F => ?_; refine df F ff_95_0 ER.sb fun a F => ?_; refine dl F ag_3 zhat24 nq ER.sb fun a F => ?_; refine dm F ER.sb fun a F => ?_; refine di F ER.sb fun a F => ?_; refine df F ff_95_1 ER.sb fun a F => ?_; refine dl F ag_23 zhat24 nq ER.sb fun a F => ?_; refine dq F (fun wq hS => r_lensl F Try.underlying23 rfl) ER.sb fun a F => ?_; refine dq F (fun wq hS => r_sub F rfl rfl) ER.sb fun a F => ?_; refine dq F (fun wq hS => r_gtr F rfl rfl) ER.sb fun a F => ?_; refine da F ER.sb fun a F => ?_; refine d_nil ?_; refine hK19 _ _ ?_; replace F : Fr a 34 [(0, .pointer (some ad23)), (1, .slice A7 a6.length C8), (17, .bool (decide ((IntKind.i64.wrap (ob20.room - (ob20.b.length : Int))) < (a6.length : Int))))] := F.sub ⟨rfl, rfl, rfl, trivial⟩
  by_cases hb34 : (IntKind.i64.wrap (ob20.room - (ob20.b.length : Int))) < (a6.length : Int)
  ·replace H := ip hb34 H; refine wct (fb F (dt hb34)) ?_; refine reg ?_; refine qm F fun a F => ?_; refine qi F fun a F => ?_; refine qf F ff_95_3 fun a F => ?_; refine q_eff0 F rfl rfl (e_store F rfl rfl sz_34 hat24 (nb rfl) rfl) ?_; rintro w35 a ⟨E36, hat24, Z37⟩ F; replace h27 := h27.ev E36 bj5.2.2 (ne_z bj4.1); replace h30 := h30.ev E36 (ne_z bj4.1) (ne_z bj4.1); replace E := E.trans E36 (fun x (q : x = j4) => Or.inl (Or.inl q)); replace hat24 : AT true j4 c13 w35 ad23 [.int .i64 ob20.room, .slice A25 ob20.b.length C26, .slice A28 ob20.open_.length C29, .int .i64 13] := hat24; refine nil ?_; have h38 : WR j4 j5 c13 w35 (some ad23) (some (Wri.mk ob20.room ob20.b ob20.open_ 13)) := WR.mk hat24 h27 h30; obtain rfl := si H
   first | refine out0n F rfl ?_ | refine inbN (out0n F rfl ?_) | refine inbN (inbN (out0n F rfl ?_)) | refine inbN (inbN (inbN (out0n F rfl ?_)))
   exact ⟨cf (ct m) c13, rfl, E.lv B0, cfb, WR.rc h38 cfk cfk cfk⟩
  replace H := im hb34 H; refine wcf (fb F (dz hb34)) ?_; refine reg ?_; refine qm F fun a F => qm F fun a F => ?_; refine qi F fun a F => ?_; refine qf F ff_95_1 fun a F => ?_; refine ql F ag_23 hat24 fun a F => ?_; refine qm F fun a F => ?_; replace H := ifN H; obtain ⟨g39, H⟩ := H; refine q_eff F rfl rfl (by decide) (e_append (k := (Kint .u8)) (xs := ob20.b) (ys := a6) (c := c13) (j := j5) (i := 0) F et_23 rfl rfl h27 h9 g39 (len_ok g39) (ne_z bj5.1)) ?_; rintro v w41 a ⟨c40, A42, C43, rfl, E44, h45, B46⟩ F; replace B := B46 _ B (Nat.lt_add_right _ bj5.2.1); replace h30 := h30.ev E44 (ne_z bj5.1) (ne_z bj5.1); replace hat24 := hat24.ev E44 (Ne.symm bj5.2.2); replace E := E.trans E44 (fun x (q : x = j5) => Or.inl (Or.inr (q))); refine qi F fun a F => ?_; refine qf F ff_95_1 fun a F => ?_; refine q_eff0 F rfl rfl (e_store F rfl rfl sz_23 hat24 (nb rfl) rfl) ?_; rintro w47 a ⟨E48, hat24, Z49⟩ F; replace h30 := h30.ev E48 (ne_z bj4.1) (ne_z bj4.1); replace h45 := h45.ev E48 bj5.2.2 (ne_z bj4.1); replace E := E.trans E48 (fun x (q : x = j4) => Or.inl (Or.inl q)); replace hat24 : AT true j4 c40 w47 ad23 [.int .i64 ob20.room, .slice A42 (ob20.b ++ a6).length C43, .slice A28 ob20.open_.length C29, .int .i64 ob20.fault] := hat24; refine nil ?_; have h50 : WR j4 j5 c40 w47 (some ad23) (some (Wri.mk ob20.room (ob20.b ++ a6) ob20.open_ ob20.fault)) := WR.mk hat24 h45 h30; obtain rfl := si H
  first | refine out0n F rfl ?_ | refine inbN (out0n F rfl ?_) | refine inbN (inbN (out0n F rfl ?_)) | refine inbN (inbN (inbN (out0n F rfl ?_)))
  exact ⟨cf (ct m) c40, rfl, E.lv B0, cfb, WR.rc h50 cfk cfk cfk⟩
 replace H := im hb18 H; refine wct (fb F (congrArg not (bfalse hb18))) ?_; refine wp_skip ?_; obtain rfl := si H
 first | refine out0n F rfl ?_ | refine inbN (out0n F rfl ?_) | refine inbN (inbN (out0n F rfl ?_)) | refine inbN (inbN (inbN (out0n F rfl ?_)))
 exact ⟨cf (ct m) c13, rfl, E.lv B0, cfb, WR.rc h3 cfk cfk cfk⟩
theorem parcel_form.calls (k : Nat) {m : Nat} {c0 : Nat → Nat} {w0 : World} {a1 : Int} (hm0 : 0 < m) (B0 : CB m c0 w0) (jr76 : Nat) (bjr76 : jr76 < m) (r : (List Int)) (H : parcel_form.f k a1 = some r) : Calls Try.prog 50 #[.int .u64 a1] w0 (fun e w_ => ∃ (c_ : Nat → Nat) (A0_ : Option Addr) (C0_ : Nat), e = .returned (.slice A0_ r.length C0_) ∧ Ev (fun x => False) c0 w0 c_ w_ ∧ CB m c_ w_ ∧ SL true (Kint .u8) jr76 0 c_ w_ A0_ C0_ r) := by
 unfold parcel_form.f at H; have B := B0.mono (show m ≤ m + 2 by omega); have E : Ev (fun x => False ∨ m ≤ x) c0 w0 c0 w0 := Ev.refl; refine enter (N := 20) (l := [.int .u64 a1]) Try.func50 rfl rfl (nb rfl) fun a F => ?_; refine sr fun K2 hK2 => qa F fun a F => nil (hK2 _ _ ?_); refine sr fun K3 hK3 => ?_; replace H := ifN H; obtain ⟨g4, H⟩ := H; refine q_eff F rfl rfl (by decide) (e_make (k := (Kint .u8)) (x0 := 0) F et_23 rfl rfl (fun _ _ _ => rfl) (by decide) g4 c0 (m + 1) 0) ?_; rintro v w6 a ⟨c5, A7, C8, rfl, E9, h10, B11⟩ F; replace B := B11 _ B lm; replace E := E.n E9; refine qa F fun a F => nil (hK3 _ _ ?_); refine sq fun K12 hK12 => ?_; refine wp_block ?_; obtain ⟨x27, HL, HR26⟩ := bind_some H; have J57 : ∀ (c58 : Nat → Nat) (w59 : World) (a : Act) (i52 : Int) (l54 : List Int) (A55 : Option Addr) (C56 : Nat), Fr a 20 [(0, .int .u64 i52), (3, .slice A55 l54.length C56)] → Ev (fun x => False ∨ m ≤ x) c0 w0 c58 w59 → CB (m + 2) c58 w59 → SL true (Kint .u8) (m + 1) 0 c58 w59 A55 C56 l54 → parcel_form.j2 i52 l54 = some r → K12 a w59 := by
  intro c58 w59 a i52 l54 A55 C56 F E B h53 H; unfold parcel_form.j2 at H; refine hK12 _ _ ?_; refine sr fun K60 hK60 => qm F fun a F => qm F fun a F => ?_; refine qv F (r_convi F Try.underlying5 rfl rfl) fun a F => ?_; refine q_eff F rfl rfl (by decide) (e_buildSlice (n := 1) (e := 5) (c := c58) (k := (Kint .u8)) (i := 0) F [(0, .int .u8 (IntKind.u8.wrap i52))] [.int .u8 (IntKind.u8.wrap i52)] ([IntKind.u8.wrap i52] : List Int) (by exact ⟨rfl, rfl, trivial⟩) (fun w => by kernel_rfl) rfl (by decide) rfl ⟨rfl, trivial⟩ (fun q => q) 0) ?_; rintro v w62 a ⟨c61, A63, C64, rfl, E65, h66, B67⟩ F; replace B := B67 _ B (pl hm0); replace h53 := h53.ev E65; replace E := E.n E65; replace H := ifN H; obtain ⟨g68, H⟩ := H; refine q_eff F rfl rfl (by decide) (e_append (k := (Kint .u8)) (xs := l54) (ys := [IntKind.u8.wrap i52]) (c := c61) (j := (m + 1)) (i := 0) F et_23 rfl rfl h53 h66 g68 (len_ok g68) ne_zm) ?_; rintro v w70 a ⟨c69, A71, C72, rfl, E73, h74, B75⟩ F; replace B := B75 _ B lm; replace E := E.trans E73 lc1; refine qa F fun a F => nil (hK60 _ _ ?_); refine wp_ret ?_; obtain rfl := si H; refine out1 F rfl rfl ?_; exact ⟨cf (fun x_ => if x_ = m + 1 then jr76 else if x_ < m then x_ else 0) c69, A71, C72, rfl, E.lv B0, cfb, SL.rc h74 cfk cfk⟩
 refine loop_fuel (I := fun n a w => ∃ (i13 : Int) (l14 : List Int) (A15 : Option Addr) (C16 : Nat) (c : Nat → Nat), Fr a 20 [(0, .int .u64 i13), (3, .slice A15 l14.length C16)] ∧ Ev (fun x => False ∨ m ≤ x) c0 w0 c w ∧ CB (m + 2) c w ∧ SL true (Kint .u8) (m + 1) 0 c w A15 C16 l14 ∧ loop (fun (s_ : Int × (List Int)) => parcel_form.b1 s_.1 s_.2) n (i13, l14) = some x27) (k := k) ⟨a1, (List.replicate (0 : Int).toNat (0 : Int)), A7, C8, c5, F.sub ⟨rfl, rfl, trivial⟩, E, B, h10, HL⟩ ?_; clear HL H E F B; intro n24 X20 hX20 a w19 ⟨i13, l14, A15, C16, c18, F, E, B, h17, HL⟩; obtain ⟨n25, ctl23, rfl, HB, HN21, HD22⟩ := loop_some HL; have H : parcel_form.b1 i13 l14 = some ctl23 := HB; clear HB HL; unfold parcel_form.b1 at H; refine sq fun K28 hK28 => ?_; refine sr fun K29 hK29 => qm F fun a F => ?_; refine qv F (r_gtr F rfl rfl) fun a F => ?_; refine nil (hK29 _ _ ?_)
 by_cases hb30 : 127 < i13
 ·replace H := ip hb30 H; refine wct (fb F (dt hb30)) (wp_skip (hK28 _ _ ?_)); refine wp_block ?_; refine sr fun K31 hK31 => qm F fun a F => qm F fun a F => ?_; refine qv F (r_convi F Try.underlying5 rfl rfl) fun a F => ?_; refine qv F (r_or F rfl rfl) fun a F => ?_; refine q_eff F rfl rfl (by decide) (e_buildSlice (n := 1) (e := 5) (c := c18) (k := (Kint .u8)) (i := 0) F [(0, .int .u8 (bor .u8 (IntKind.u8.wrap i13) 128))] [.int .u8 (bor .u8 (IntKind.u8.wrap i13) 128)] ([bor .u8 (IntKind.u8.wrap i13) 128] : List Int) (by exact ⟨rfl, rfl, trivial⟩) (fun w => by kernel_rfl) rfl (by decide) rfl ⟨rfl, trivial⟩ (fun q => q) 0) ?_; rintro v w33 a ⟨c32, A34, C35, rfl, E36, h37, B38⟩ F; replace B := B38 _ B (pl hm0); replace h17 := h17.ev E36; replace E := E.n E36; replace H := ifN H; obtain ⟨g39, H⟩ := H; refine q_eff F rfl rfl (by decide) (e_append (k := (Kint .u8)) (xs := l14) (ys := [bor .u8 (IntKind.u8.wrap i13) 128]) (c := c32) (j := (m + 1)) (i := 0) F et_23 rfl rfl h17 h37 g39 (len_ok g39) ne_zm) ?_; rintro v w41 a ⟨c40, A42, C43, rfl, E44, h45, B46⟩ F; replace B := B46 _ B lm; replace E := E.trans E44 lc1; refine qa F fun a F => nil (hK31 _ _ ?_); replace F : Fr a 20 [(0, .int .u64 i13), (3, .slice A42 (l14 ++ [bor .u8 (IntKind.u8.wrap i13) 128]).length C43)] := F.sub ⟨rfl, rfl, trivial⟩; refine reg ?_; refine qm F fun a F => ?_; refine qv F (r_shr F rfl rfl (by decide)) fun a F => ?_; refine qa F fun a F => nil ?_; replace H := HN21 _ (si H).symm; exact hX20 _ _ _ (Nat.lt_succ_self _) ⟨(shr .u64 i13 7), (l14 ++ [bor .u8 (IntKind.u8.wrap i13) 128]), A42, C43, c40, F.sub ⟨rfl, rfl, trivial⟩, E, B, h45, H⟩
 replace H := im hb30 H; refine wcf (fb F (dz hb30)) ?_; refine wp_exit ?_; refine thenE ?_; refine thenE ?_; refine inbE ?_; have hx_ := HD22 _ (si H).symm; have H := HR26; rw [← hx_] at H; exact J57 c18 w19 a i13 l14 A15 C16 (F.sub ⟨rfl, rfl, trivial⟩) E B h17 H
theorem parcel_Writer_Num.calls (k : Nat) {m : Nat} {c0 : Nat → Nat} {w0 : World} {j4 : Nat} {j5 : Nat} {p2 : Option Addr} {a1 : Option Wri} {a6 : Int} (hm0 : 0 < m) (B0 : CB m c0 w0) (h3 : WR j4 j5 c0 w0 p2 a1) (bj4 : 0 < j4 ∧ j4 < m) (bj5 : 0 < j5 ∧ j5 < m ∧ j5 ≠ j4) (r : (Option Wri)) (H : parcel_Writer_Num.f k a1 a6 = some r) : Calls Try.prog 33 #[.pointer p2, .int .u64 a6] w0 (fun e w_ => ∃ (c_ : Nat → Nat), e = .returned (.tuple #[]) ∧ Ev (fun x => (x = j4 ∨ x = j5)) c0 w0 c_ w_ ∧ CB m c_ w_ ∧ WR j4 j5 c_ w_ p2 r) := by
 unfold parcel_Writer_Num.f at H; have B := B0.mono (show m ≤ m + 1 by omega); have E : Ev (fun x => (x = j4 ∨ x = j5) ∨ m ≤ x) c0 w0 c0 w0 := Ev.refl; refine enter (N := 8) (l := [.pointer p2, .int .u64 a6]) Try.func33 rfl rfl (nb rfl) fun a F => ?_; refine reg ?_; refine qm F fun a F => qm F fun a F => ?_; obtain ⟨t7, q8, H⟩ := bind_some H; refine qc F Try.func50 (parcel_form.calls k (m := m + 1) (pl hm0) B 0 (pl hm0) _ q8) ?_; rintro e w10 ⟨c9, A13, C14, rfl, E11, B, h15⟩; refine rt fun a F => ?_; replace h3 := h3.ev E11; replace E := E.n E11; obtain ⟨t17, q18, H⟩ := bind_some H; refine qc F Try.func49 (parcel_Writer_lay.calls (m := m + 1) (pl hm0) B h3 h15.r ⟨bj4.1, (Nat.lt_add_right _ bj4.2)⟩ ⟨bj5.1, (Nat.lt_add_right _ bj5.2.1), bj5.2.2⟩ _ q18) ?_; rintro e w20 ⟨c19, rfl, E21, B, h23⟩; refine rt fun a F => ?_; replace E := E.trans E21 (fun x (q : x = j4 ∨ x = j5) => q.elim (fun q => Or.inl (Or.inl q)) (fun q => Or.inl (Or.inr (q)))); refine nil ?_; obtain rfl := si H
 first | refine out0n F rfl ?_ | refine inbN (out0n F rfl ?_) | refine inbN (inbN (out0n F rfl ?_)) | refine inbN (inbN (inbN (out0n F rfl ?_)))
 exact ⟨cf (ct m) c19, rfl, E.lv B0, cfb, WR.rc h23 cfk cfk cfk⟩
end Go.Proofs.Ytoaldfpngihhcaa.G
namespace Go.Proofs.Ytoaldfpngihhcaa.G
open Go Go.RowKit
set_option linter.unusedVariables false
set_option linter.unusedSimpArgs false
set_option maxHeartbeats 1000000 in
theorem slices_Grow.calls {m : Nat} {c0 : Nat → Nat} {w0 : World} {n : Int} (hm0 : 0 < m) (B0 : CB m c0 w0) (h1 : SL false (Kint .u8) 0 0 c0 w0 none 0 ([] : List Int)) (jr : Nat) (bjr : jr < m) (r : List Int) (H : slices_Grow.f [] n = some r) :
  Calls Try.prog 68 #[.slice none 0 0, .int .i64 n] w0 (fun e w_ => ∃ (c_ : Nat → Nat) (A0_ : Option Addr) (C0_ : Nat), e = .returned (.slice A0_ r.length C0_) ∧ Ev (fun x => False) c0 w0 c_ w_ ∧ CB m c_ w_ ∧ SL true (Kint .u8) jr 0 c_ w_ A0_ C0_ r) := by
 unfold slices_Grow.f at H
 obtain ⟨⟨g0, g1, _⟩, H⟩ := ifN H
 have H := Option.some.inj H
 subst H
 have B := B0.mono (show m ≤ m + 2 by omega)
 have E : Ev (fun x => False ∨ m ≤ x) c0 w0 c0 w0 := Ev.refl
 refine enter (N := 27) (l := [.slice none 0 0, .int .i64 n]) Try.func68 rfl rfl (Nat.le_of_ble_eq_true rfl) fun a F => ?_
 refine wp_seq_k fun K1 hK1 => ?_
 refine reg ?_
 refine q_val F rfl rfl (by decide) (r_assign F rfl) fun a F => ?_
 refine nil ?_
 refine hK1 _ _ ?_
 refine wp_seq_k fun K2 hK2 => ?_
 refine wp_seq_k fun K3 hK3 => ?_
 refine reg ?_
 refine q_val F rfl rfl (by decide) (r_move F rfl) fun a F => ?_
 refine q_val F rfl rfl (by decide) (r_lss F rfl rfl) fun a F => ?_
 refine nil ?_
 refine hK3 _ _ ?_
 refine wp_cond_false ((F.ev rfl).trans (congrArg Value.bool (decide_eq_false (by omega)))) ?_
 refine wp_skip ?_
 refine hK2 _ _ ?_
 refine wp_seq_k fun K5 hK5 => ?_
 refine wp_seq_k fun K4 hK4 => ?_
 refine reg ?_
 refine q_val F rfl rfl (by decide) (r_move F rfl) fun a F => ?_
 refine q_val F rfl rfl (by decide) (r_move F rfl) fun a F => ?_
 refine q_val F rfl rfl (by decide) (r_capsl F Try.underlying23 rfl) fun a F => ?_
 refine q_val F rfl rfl (by decide) (r_move F rfl) fun a F => ?_
 refine q_val F rfl rfl (by decide) (r_lensl F Try.underlying23 rfl) fun a F => ?_
 refine q_val F rfl rfl (by decide) (r_sub F rfl rfl) fun a F => ?_
 refine q_val F rfl rfl (by decide) (r_sub F rfl rfl) fun a F => ?_
 have hw : IntKind.i64.wrap (n - IntKind.i64.wrap (((0 : Nat) : Int) - ((0 : Nat) : Int))) = n := by simp only [IntKind.wrap_i64]; omega
 rw [hw] at F
 refine q_val F rfl rfl (by decide) (r_assign F rfl) fun a F => ?_
 refine nil ?_
 refine hK4 _ _ ?_
 refine wp_seq_k fun K6 hK6 => ?_
 refine reg ?_
 refine q_val F rfl rfl (by decide) (r_move F rfl) fun a F => ?_
 refine q_val F rfl rfl (by decide) (r_gtr F rfl rfl) fun a F => ?_
 refine nil ?_
 refine hK6 _ _ ?_
 by_cases hn : 0 < n
 ·refine wp_cond_true ((F.ev rfl).trans (congrArg Value.bool (decide_eq_true hn))) ?_
  obtain ⟨k, rfl⟩ := Int.eq_ofNat_of_zero_le g0
  refine reg ?_
  refine q_val F rfl rfl (by decide) (r_move F rfl) fun a F => ?_
  refine q_val F rfl rfl (by decide) (r_move F rfl) fun a F => ?_
  refine q_val F rfl rfl (by decide) (r_capsl F Try.underlying23 rfl) fun a F => ?_
  refine q_val F rfl rfl (by decide) (r_slice (A := none) (xs := ([] : List Int)) (cap := 0) (vl := none) (vh := some (.int .i64 ((0 : Nat) : Int))) (vm := none) F rfl rfl rfl rfl (v := .slice none 0 0) (fun w => by kernel_rfl)) fun a F => ?_
  refine q_val F rfl rfl (by decide) (r_move F rfl) fun a F => ?_
  refine q_eff F rfl rfl (by decide) (e_growz (k := Kint .u8) (x0 := (0 : Int)) (n := k) F et_23 Try.underlying3 rfl rfl (fun _ _ _ => rfl) (by omega) (by omega) (by unfold maxLen; omega) c0 (m + 1) 0) ?_
  rintro v w1 a ⟨c1, A1, C1, rfl, E1, h2, B1⟩ F
  have B := B1 _ B (by omega)
  have E := E.trans E1 (fun x q => q.elim)
  refine q_val F rfl rfl (by decide) (r_move F rfl) fun a F => ?_
  refine q_val F rfl rfl (by decide) (r_lensl F Try.underlying23 rfl) fun a F => ?_
  obtain ⟨A2, C2, hr, h3⟩ := cut_h (kh := .i64) Try.underlying23 sz_5 h2 (h := ((0 : Nat) : Int)) ⟨by omega, by omega⟩
  refine q_val F rfl rfl (by decide) (r_slice (vl := none) (vh := some (.int .i64 ((0 : Nat) : Int))) (vm := none) F rfl rfl rfl rfl hr) fun a F => ?_
  refine q_val F rfl rfl (by decide) (r_assign F rfl) fun a F => ?_
  refine nil ?_
  refine hK5 _ _ ?_
  refine wp_seq_k fun K7 hK7 => ?_
  refine reg ?_
  refine q_val F rfl rfl (by decide) (r_move F rfl) fun a F => ?_
  refine q_val F rfl rfl (by decide) (r_assign F rfl) fun a F => ?_
  refine nil ?_
  refine hK7 _ _ ?_
  refine wp_ret ?_
  refine out1 F rfl rfl ?_
  exact ⟨fun b_ => (fun x_ => if x_ = m + 1 then jr else if x_ < m then x_ else 0) (c1 b_), A2, C2, rfl, E.leave B0 (fun x_ => if x_ = m + 1 then jr else if x_ < m then x_ else 0) (by intro x_ hx_; show (if x_ = m + 1 then jr else if x_ < m then x_ else 0) = x_; ((repeat' split) <;> omega)), (fun b_ hb_ => by show (if (c1 b_) = m + 1 then jr else if (c1 b_) < m then (c1 b_) else 0) < m; ((repeat' split) <;> omega)),
   SL.rc h3 (fun k_ hk_ => by show (if (c1 k_) = m + 1 then jr else if (c1 k_) < m then (c1 k_) else 0) = _; rw [hk_]; ((repeat' split) <;> omega)) (fun k_ hk_ => by show (if (c1 k_) = m + 1 then jr else if (c1 k_) < m then (c1 k_) else 0) = _; rw [hk_]; ((repeat' split) <;> omega))⟩
 ·refine wp_cond_false ((F.ev rfl).trans (congrArg Value.bool (decide_eq_false hn))) ?_
  refine wp_skip ?_
  refine hK5 _ _ ?_
  refine wp_seq_k fun K7 hK7 => ?_
  refine reg ?_
  refine q_val F rfl rfl (by decide) (r_move F rfl) fun a F => ?_
  refine q_val F rfl rfl (by decide) (r_assign F rfl) fun a F => ?_
  refine nil ?_
  refine hK7 _ _ ?_
  refine wp_ret ?_
  refine out1 F rfl rfl ?_
  exact ⟨c0, none, 0, rfl, Ev.refl, B0, SL.nil⟩
end Go.Proofs.Ytoaldfpngihhcaa.G
namespace Go.Proofs.Ytoaldfpngihhcaa.G
open Go Go.RowKit
set_option linter.unusedVariables false
set_option linter.unusedSimpArgs false
set_option maxRecDepth 100000
set_option maxHeartbeats 40000000
theorem slices_Concat.calls (k : Nat) {m : Nat} {c0 : Nat → Nat} {w0 : World} {j5 : Nat} {j6 : Nat} {A2 : Option Addr} {C3 : Nat} {a1 : List (List Int)} (hm0 : 0 < m) (B0 : CB m c0 w0) (h4 : SL false (Kslice (Kint .u8)) j5 j6 c0 w0 A2 C3 a1) (bj5 : j5 < m) (bj6 : j6 < m) (jr113 : Nat) (bjr113 : jr113 < m) (r : (List Int)) (H : slices_Concat.f k a1 = some r) : Calls Try.prog 53 #[.slice A2 a1.length C3] w0 (fun e w_ => ∃ (c_ : Nat → Nat) (A0_ : Option Addr) (C0_ : Nat), e = .returned (.slice A0_ r.length C0_) ∧ Ev (fun x => False) c0 w0 c_ w_ ∧ CB m c_ w_ ∧ SL true (Kint .u8) jr113 0 c_ w_ A0_ C0_ r) := by
 unfold slices_Concat.f at H; have B := B0.mono (show m ≤ m + 2 by omega); have E : Ev (fun x => False ∨ m ≤ x) c0 w0 c0 w0 := Ev.refl; refine enter (N := 36) (l := [.slice A2 a1.length C3]) Try.func53 rfl rfl (nb rfl) fun a F => ?_; refine sr fun K7 hK7 => qa F fun a F => nil (hK7 _ _ ?_); refine sr fun K8 hK8 => qa F fun a F => nil (hK8 _ _ ?_); refine sq fun K9 hK9 => ?_; refine sr fun K10 hK10 => qm F fun a F => ?_; refine qv F (r_lensl F Try.underlying28 rfl) fun a F => ?_; refine qm F fun a F => nil (hK10 _ _ ?_); refine wp_block ?_; obtain ⟨x22, HL, HR21⟩ := bind_some H; have J45 : ∀ (c46 : Nat → Nat) (w47 : World) (a : Act) (i44 : Int), Fr a 36 [(0, .slice A2 a1.length C3), (3, .int .i64 i44)] → Ev (fun x => False ∨ m ≤ x) c0 w0 c46 w47 → CB (m + 2) c46 w47 → SL false (Kslice (Kint .u8)) j5 j6 c46 w47 A2 C3 a1 → slices_Concat.j2 k a1 i44 = some r → K9 a w47 := by
  intro c46 w47 a i44 F E B h4 H; unfold slices_Concat.j2 at H; refine hK9 _ _ ?_; refine sr fun K48 hK48 => qm F fun a F => ?_; obtain ⟨t49, q50, H⟩ := bind_some H; refine qc F Try.func68 (slices_Grow.calls (m := m + 2) (pl hm0) B SL.nil (m + 1) lm _ q50) ?_; rintro e w52 ⟨c51, A55, C56, rfl, E53, B, h57⟩; refine rt fun a F => ?_; replace h4 := h4.ev E53; replace E := E.n E53; refine qa F fun a F => nil (hK48 _ _ ?_); refine sq fun K59 hK59 => ?_; refine sr fun K60 hK60 => qm F fun a F => ?_; refine qv F (r_lensl F Try.underlying28 rfl) fun a F => ?_; refine qm F fun a F => nil (hK60 _ _ ?_); refine wp_block ?_; obtain ⟨x75, HL, HR74⟩ := bind_some H; have J109 : ∀ (c110 : Nat → Nat) (w111 : World) (a : Act) (l106 : List Int) (A107 : Option Addr) (C108 : Nat), Fr a 36 [(6, .slice A107 l106.length C108)] → Ev (fun x => False ∨ m ≤ x) c0 w0 c110 w111 → CB (m + 2) c110 w111 → SL true (Kint .u8) (m + 1) 0 c110 w111 A107 C108 l106 → slices_Concat.j4 l106 = some r → K59 a w111 := by
   intro c110 w111 a l106 A107 C108 F E B h105 H; unfold slices_Concat.j4 at H; refine hK59 _ _ ?_; refine sr fun K112 hK112 => qm F fun a F => qa F fun a F => nil (hK112 _ _ ?_); refine wp_ret ?_; obtain rfl := si H; refine out1 F rfl rfl ?_; exact ⟨cf (fun x_ => if x_ = m + 1 then jr113 else if x_ < m then x_ else 0) c110, A107, C108, rfl, E.lv B0, cfb, SL.rc h105 cfk cfk⟩
  refine loop_fuel (I := fun n a w => ∃ (l61 : List Int) (A62 : Option Addr) (C63 : Nat) (i65 : Int) (c : Nat → Nat), Fr a 36 [(6, .slice A62 l61.length C63), (25, .slice A2 a1.length C3), (26, .int .i64 (a1.length : Int)), (27, .int .i64 i65)] ∧ Ev (fun x => False ∨ m ≤ x) c0 w0 c w ∧ CB (m + 2) c w ∧ SL false (Kslice (Kint .u8)) j5 j6 c w A2 C3 a1 ∧ SL true (Kint .u8) (m + 1) 0 c w A62 C63 l61 ∧ loop (fun (s_ : (List Int) × Int) => slices_Concat.b3 a1 s_.1 s_.2) n (l61, i65) = some x75) (k := k) ⟨t49, A55, C56, 0, c51, F.sub ⟨rfl, rfl, rfl, rfl, trivial⟩, E, B, h4, h57, HL⟩ ?_; clear HL H E F B; intro n72 X68 hX68 a w67 ⟨l61, A62, C63, i65, c66, F, E, B, h4, h64, HL⟩; obtain ⟨n73, ctl71, rfl, HB, HN69, HD70⟩ := loop_some HL; have H : slices_Concat.b3 a1 l61 i65 = some ctl71 := HB; clear HB HL; unfold slices_Concat.b3 at H; refine sr fun K76 hK76 => ?_; refine qv F (r_lss F rfl rfl) fun a F => ?_; refine nil (hK76 _ _ ?_); refine sq fun K77 hK77 => ?_
  by_cases hb78 : i65 < (a1.length : Int)
  ·replace H := ip hb78 H; refine wct (fb F (dt hb78)) (wp_skip (hK77 _ _ ?_)); refine sq fun K79 hK79 => ?_; refine wp_block ?_; refine sr fun K80 hK80 => ?_; replace H := ifN H; obtain ⟨g81, H⟩ := H; obtain ⟨ad82, cs83, e84, h85, r86⟩ := SL.at h4 i65 g81.1 g81.2; obtain ⟨A87, C88, rfl, h89⟩ := r86; replace h89 := SL.fl (i' := 0) h89 (fun q => q); obtain ⟨qa90, qqa90⟩ : ∃ q, q = (ad82.add (i65.toNat * 1)) := ⟨_, rfl⟩; have h85 : AT false j5 c66 w67 qa90 [.slice A87 (rd a1 i65).length C88] := by rw [qqa90]; exact h85
   refine qv F (r_indexAddr' F Try.underlying28 sz_23 rfl rfl g81.1 g81.2 e84 qqa90) fun a F => ?_; refine qv F (r_load F rfl ag_23 (AT.cell0 h85 rfl)) fun a F => ?_; refine qa F fun a F => nil (hK80 _ _ ?_); refine reg ?_; refine qm F fun a F => qm F fun a F => ?_; replace H := ifN H; obtain ⟨g92, H⟩ := H; refine q_eff F rfl rfl (by decide) (e_append (k := (Kint .u8)) (xs := l61) (ys := (rd a1 i65)) (c := c66) (j := (m + 1)) (i := 0) F et_23 rfl rfl h64 h89 g92 (len_ok g92) ne_zm) ?_; rintro v w94 a ⟨c93, A95, C96, rfl, E97, h98, B99⟩ F; replace B := B99 _ B lm; replace h4 := h4.ev E97 (ne_pm bj5) (ne_pm bj6); replace E := E.trans E97 lc1; refine qa F fun a F => nil (hK79 _ _ ?_); refine reg ?_; refine qv F (r_add F rfl rfl) fun a F => ?_; refine qm F fun a F => nil ?_; replace H := HN69 _ (si H).symm; exact hX68 _ _ _ (Nat.lt_succ_self _) ⟨(l61 ++ (rd a1 i65)), A95, C96, (IntKind.i64.wrap (i65 + 1)), c93, F.sub ⟨rfl, rfl, rfl, rfl, trivial⟩, E, B, h4, h98, H⟩
  replace H := im hb78 H; refine wcf (fb F (dz hb78)) ?_; refine wp_exit ?_; refine thenE ?_; refine thenE ?_; refine inbE ?_; have hx_ := HD70 _ (si H).symm; have H := HR74; rw [← hx_] at H; exact J109 c66 w67 a l61 A62 C63 (F.sub ⟨rfl, trivial⟩) E B h64 H
 refine loop_fuel (I := fun n a w => ∃ (i11 : Int) (i12 : Int) (c : Nat → Nat), Fr a 36 [(0, .slice A2 a1.length C3), (3, .int .i64 i11), (9, .slice A2 a1.length C3), (10, .int .i64 (a1.length : Int)), (11, .int .i64 i12)] ∧ Ev (fun x => False ∨ m ≤ x) c0 w0 c w ∧ CB (m + 2) c w ∧ SL false (Kslice (Kint .u8)) j5 j6 c w A2 C3 a1 ∧ loop (fun (s_ : Int × Int) => slices_Concat.b1 a1 s_.1 s_.2) n (i11, i12) = some x22) (k := k) ⟨0, 0, c0, F.sub ⟨rfl, rfl, rfl, rfl, rfl, trivial⟩, E, B, h4, HL⟩ ?_; clear HL H E F B; intro n19 X15 hX15 a w14 ⟨i11, i12, c13, F, E, B, h4, HL⟩; obtain ⟨n20, ctl18, rfl, HB, HN16, HD17⟩ := loop_some HL; have H : slices_Concat.b1 a1 i11 i12 = some ctl18 := HB; clear HB HL; unfold slices_Concat.b1 at H; refine sr fun K23 hK23 => ?_; refine qv F (r_lss F rfl rfl) fun a F => ?_; refine nil (hK23 _ _ ?_); refine sq fun K24 hK24 => ?_
 by_cases hb25 : i12 < (a1.length : Int)
 ·replace H := ip hb25 H; refine wct (fb F (dt hb25)) (wp_skip (hK24 _ _ ?_)); refine sq fun K26 hK26 => ?_; refine wp_block ?_; refine sr fun K27 hK27 => ?_; replace H := ifN H; obtain ⟨g28, H⟩ := H; obtain ⟨ad29, cs30, e31, h32, r33⟩ := SL.at h4 i12 g28.1 g28.2; obtain ⟨A34, C35, rfl, h36⟩ := r33; obtain ⟨qa37, qqa37⟩ : ∃ q, q = (ad29.add (i12.toNat * 1)) := ⟨_, rfl⟩; have h32 : AT false j5 c13 w14 qa37 [.slice A34 (rd a1 i12).length C35] := by rw [qqa37]; exact h32
  refine qv F (r_indexAddr' F Try.underlying28 sz_23 rfl rfl g28.1 g28.2 e31 qqa37) fun a F => ?_; refine qv F (r_load F rfl ag_23 (AT.cell0 h32 rfl)) fun a F => ?_; refine qa F fun a F => nil (hK27 _ _ ?_); refine sr fun K39 hK39 => qm F fun a F => qm F fun a F => ?_; refine qv F (r_lensl F Try.underlying23 rfl) fun a F => ?_; refine qv F (r_add F rfl rfl) fun a F => ?_; refine qa F fun a F => nil (hK39 _ _ ?_); replace F : Fr a 36 [(0, .slice A2 a1.length C3), (3, .int .i64 (IntKind.i64.wrap (i11 + ((rd a1 i12).length : Int)))), (9, .slice A2 a1.length C3), (10, .int .i64 (a1.length : Int)), (11, .int .i64 i12)] := F.sub ⟨rfl, rfl, rfl, rfl, rfl, trivial⟩; refine sr fun K40 hK40 => qm F fun a F => ?_; refine qv F (r_lss F rfl rfl) fun a F => ?_; refine nil (hK40 _ _ ?_)
  by_cases hb41 : (IntKind.i64.wrap (i11 + ((rd a1 i12).length : Int))) < 0
  ·replace H := ip hb41 H; refine wct (fb F (dt hb41)) ?_; refine reg ?_
   cases H
  replace H := im hb41 H; refine wcf (fb F (dz hb41)) (wp_skip (hK26 _ _ ?_)); refine reg ?_; refine qv F (r_add F rfl rfl) fun a F => ?_; refine qm F fun a F => nil ?_; replace H := HN16 _ (si H).symm; exact hX15 _ _ _ (Nat.lt_succ_self _) ⟨(IntKind.i64.wrap (i11 + ((rd a1 i12).length : Int))), (IntKind.i64.wrap (i12 + 1)), c13, F.sub ⟨rfl, rfl, rfl, rfl, rfl, trivial⟩, E, B, h4, H⟩
 replace H := im hb25 H; refine wcf (fb F (dz hb25)) ?_; refine wp_exit ?_; refine thenE ?_; refine thenE ?_; refine inbE ?_; have hx_ := HD17 _ (si H).symm; have H := HR21; rw [← hx_] at H; exact J45 c13 w14 a i11 (F.sub ⟨rfl, rfl, trivial⟩) E B h4 H
theorem parcel_Writer_Text.calls (k : Nat) {m : Nat} {c0 : Nat → Nat} {w0 : World} {j4 : Nat} {j5 : Nat} {p2 : Option Addr} {A7 : Option Addr} {C8 : Nat} {a1 : Option Wri} {a6 : List Int} (hm0 : 0 < m) (B0 : CB m c0 w0) (h3 : WR j4 j5 c0 w0 p2 a1) (h9 : SL false (Kint .u8) 0 0 c0 w0 A7 C8 a6) (bj4 : 0 < j4 ∧ j4 < m) (bj5 : 0 < j5 ∧ j5 < m ∧ j5 ≠ j4) (r : (Option Wri)) (H : parcel_Writer_Text.f k a1 a6 = some r) : Calls Try.prog 36 #[.pointer p2, .slice A7 a6.length C8] w0 (fun e w_ => ∃ (c_ : Nat → Nat), e = .returned (.tuple #[]) ∧ Ev (fun x => (x = j4 ∨ x = j5)) c0 w0 c_ w_ ∧ CB m c_ w_ ∧ WR j4 j5 c_ w_ p2 r) := by
 unfold parcel_Writer_Text.f at H; have B := B0.mono (show m ≤ m + 1 by omega); have E : Ev (fun x => (x = j4 ∨ x = j5) ∨ m ≤ x) c0 w0 c0 w0 := Ev.refl; refine enter (N := 13) (l := [.pointer p2, .slice A7 a6.length C8]) Try.func36 rfl rfl (nb rfl) fun a F => ?_; refine reg ?_; refine qm F fun a F => qm F fun a F => ?_; refine qv F (r_lensl F Try.underlying23 rfl) fun a F => ?_; refine qv F (r_convi F Try.underlying71 rfl rfl) fun a F => ?_; obtain ⟨t10, q11, H⟩ := bind_some H; refine qc F Try.func50 (parcel_form.calls k (m := m + 1) (pl hm0) B 0 (pl hm0) _ q11) ?_; rintro e w13 ⟨c12, A16, C17, rfl, E14, B, h18⟩; refine rt fun a F => ?_; replace h9 := h9.ev E14; replace E := E.n E14; refine qm F fun a F => ?_; refine q_eff F rfl rfl (by decide) (e_buildSlice (n := 2) (e := 23) (c := c12) (k := (Kslice (Kint .u8))) (i := 0) F [(0, .slice A16 t10.length C17), (1, .slice A7 a6.length C8)] [.slice A16 t10.length C17, .slice A7 a6.length C8] ([t10, a6] : List (List Int)) (by exact ⟨rfl, rfl, rfl, rfl, trivial⟩) (fun w => by kernel_rfl) rfl (by decide) rfl ⟨⟨A16, C17, rfl, (SL.fl h18.r (fun q => q))⟩, ⟨A7, C8, rfl, (SL.fl h9 (fun q => q))⟩, trivial⟩ (fun q => q) 0) ?_; rintro v w21 a ⟨c20, A22, C23, rfl, E24, h25, B26⟩ F; replace B := B26 _ B (pl hm0); replace E := E.n E24; obtain ⟨t27, q28, H⟩ := bind_some H; refine qc F Try.func53 (slices_Concat.calls k (m := m + 1) (pl hm0) B h25.r (pl hm0) (pl hm0) 0 (pl hm0) _ q28) ?_; rintro e w30 ⟨c29, A33, C34, rfl, E31, B, h35⟩; refine rt fun a F => ?_; replace h3 := ((h3.ev E14).ev E24).ev E31; replace E := E.n E31; obtain ⟨t37, q38, H⟩ := bind_some H; refine qc F Try.func49 (parcel_Writer_lay.calls (m := m + 1) (pl hm0) B h3 h35.r ⟨bj4.1, (Nat.lt_add_right _ bj4.2)⟩ ⟨bj5.1, (Nat.lt_add_right _ bj5.2.1), bj5.2.2⟩ _ q38) ?_; rintro e w40 ⟨c39, rfl, E41, B, h43⟩; refine rt fun a F => ?_; replace E := E.trans E41 (fun x (q : x = j4 ∨ x = j5) => q.elim (fun q => Or.inl (Or.inl q)) (fun q => Or.inl (Or.inr (q)))); refine nil ?_; obtain rfl := si H
 first | refine out0n F rfl ?_ | refine inbN (out0n F rfl ?_) | refine inbN (inbN (out0n F rfl ?_)) | refine inbN (inbN (inbN (out0n F rfl ?_)))
 exact ⟨cf (ct m) c39, rfl, E.lv B0, cfb, WR.rc h43 cfk cfk cfk⟩
theorem table_num.calls (k : Nat) {m : Nat} {c0 : Nat → Nat} {w0 : World} {a1 : Int} (hm0 : 0 < m) (B0 : CB m c0 w0) (r : Int) (H : table_num.f k a1 = some r) : Calls Try.prog 48 #[.int .i64 a1] w0 (fun e w_ => ∃ (c_ : Nat → Nat), e = .returned (.int .i64 r) ∧ Ev (fun x => False) c0 w0 c_ w_ ∧ CB m c_ w_) := by
 unfold table_num.f at H; have B := B0.mono (show m ≤ m + 1 by omega); have E : Ev (fun x => False ∨ m ≤ x) c0 w0 c0 w0 := Ev.refl; refine enter (N := 11) (l := [.int .i64 a1]) Try.func48 rfl rfl (nb rfl) fun a F => ?_; refine sr fun K2 hK2 => qa F fun a F => nil (hK2 _ _ ?_); refine sr fun K3 hK3 => qa F fun a F => nil (hK3 _ _ ?_); refine sq fun K4 hK4 => ?_; refine wp_block ?_; obtain ⟨x16, HL, HR15⟩ := bind_some H; have J24 : ∀ (c25 : Nat → Nat) (w26 : World) (a : Act) (i23 : Int), Fr a 11 [(3, .int .i64 i23)] → Ev (fun x => False ∨ m ≤ x) c0 w0 c25 w26 → CB (m + 1) c25 w26 → table_num.j2 i23 = some r → K4 a w26 := by
  intro c25 w26 a i23 F E B  H; unfold table_num.j2 at H; refine hK4 _ _ ?_; refine sr fun K27 hK27 => qm F fun a F => qa F fun a F => nil (hK27 _ _ ?_); refine wp_ret ?_; obtain rfl := si H; refine out1 F rfl rfl ?_; exact ⟨cf (ct m) c25, rfl, E.lv B0, cfb⟩
 refine loop_fuel (I := fun n a w => ∃ (i5 : Int) (i6 : Int) (c : Nat → Nat), Fr a 11 [(0, .int .i64 i5), (3, .int .i64 i6)] ∧ Ev (fun x => False ∨ m ≤ x) c0 w0 c w ∧ CB (m + 1) c w ∧ loop (fun (s_ : Int × Int) => table_num.b1 s_.1 s_.2) n (i5, i6) = some x16) (k := k) ⟨a1, 1, c0, F.sub ⟨rfl, rfl, trivial⟩, E, B, HL⟩ ?_; clear HL H E F B; intro n13 X9 hX9 a w8 ⟨i5, i6, c7, F, E, B, HL⟩; obtain ⟨n14, ctl12, rfl, HB, HN10, HD11⟩ := loop_some HL; have H : table_num.b1 i5 i6 = some ctl12 := HB; clear HB HL; unfold table_num.b1 at H; refine sq fun K17 hK17 => ?_; refine sr fun K18 hK18 => qm F fun a F => ?_; refine qv F (r_gtr F rfl rfl) fun a F => ?_; refine nil (hK18 _ _ ?_)
 by_cases hb19 : 127 < i5
 ·replace H := ip hb19 H; refine wct (fb F (dt hb19)) (wp_skip (hK17 _ _ ?_)); refine sq fun K20 hK20 => ?_; refine wp_block ?_; refine reg ?_; refine qm F fun a F => ?_; refine qv F (r_add F rfl rfl) fun a F => ?_; refine qa F fun a F => nil (hK20 _ _ ?_); refine reg ?_; refine qm F fun a F => ?_; refine qv F (r_shr F rfl rfl (by decide)) fun a F => ?_; refine qa F fun a F => nil ?_; replace H := HN10 _ (si H).symm; exact hX9 _ _ _ (Nat.lt_succ_self _) ⟨(shr .i64 i5 7), (IntKind.i64.wrap (i6 + 1)), c7, F.sub ⟨rfl, rfl, trivial⟩, E, B, H⟩
 replace H := im hb19 H; refine wcf (fb F (dz hb19)) ?_; refine wp_exit ?_; refine thenE ?_; refine thenE ?_; refine inbE ?_; have hx_ := HD11 _ (si H).symm; have H := HR15; rw [← hx_] at H; exact J24 c7 w8 a i6 (F.sub ⟨rfl, trivial⟩) E B  H
theorem tree_Tree_Len.calls {m : Nat} {c0 : Nat → Nat} {w0 : World} {p2 : Option Addr} {a1 : Tr} (hm0 : 0 < m) (B0 : CB m c0 w0) (h3 : TR 0 c0 w0 p2 a1) (r : Int) (H : tree_Tree_Len.f a1 = some r) : Calls Try.prog 34 #[.pointer p2] w0 (fun e w_ => ∃ (c_ : Nat → Nat), e = .returned (.int .i64 r) ∧ Ev (fun x => False) c0 w0 c_ w_ ∧ CB m c_ w_) := by
 unfold tree_Tree_Len.f at H; have B := B0.mono (show m ≤ m + 1 by omega); have E : Ev (fun x => False ∨ m ≤ x) c0 w0 c0 w0 := Ev.refl; refine enter (N := 9) (l := [.pointer p2]) Try.func34 rfl rfl (nb rfl) fun a F => ?_; refine sr fun K4 hK4 => qa F fun a F => nil (hK4 _ _ ?_); refine sq fun K5 hK5 => ?_; refine sr fun K6 hK6 => qm F fun a F => ?_; refine qv F (r_peqlA F Try.underlying54 rfl rfl (TR.isNil h3)) fun a F => ?_; refine nil (hK6 _ _ ?_)
 by_cases hb7 : (Tr.isNil a1) = true
 ·replace H := ip hb7 H; refine wct (fb F hb7) ?_; refine sr fun K8 hK8 => qa F fun a F => nil (hK8 _ _ ?_); refine wp_ret ?_; refine thenR ?_; obtain rfl := si H; refine out1 F rfl rfl ?_; exact ⟨cf (ct m) c0, rfl, E.lv B0, cfb⟩
 replace H := im hb7 H; refine wcf (fb F (bfalse hb7)) (wp_skip (hK5 _ _ ?_)); refine sr fun K9 hK9 => qm F fun a F => ?_; replace H := cs_some H; obtain ⟨tl10, tr11, tk12, tv13, ts14, td15, e16, H⟩ := H; have z17 := h3; rw [e16] at z17; obtain ⟨ad21, lp22, rp23, A18, C19, rfl, hat24, h20, hl25, hr26⟩ := TR.node z17; refine qi F fun a F => ?_; refine qf F ff_88_4 fun a F => ?_; refine ql F ag_3 hat24 fun a F => ?_; refine qa F fun a F => nil (hK9 _ _ ?_); refine wp_ret ?_; obtain rfl := si H; refine out1 F rfl rfl ?_; exact ⟨cf (ct m) c0, rfl, E.lv B0, cfb⟩
theorem table_Table_Size.calls (k : Nat) {m : Nat} {c0 : Nat → Nat} {w0 : World} {j4 : Nat} {p2 : Option Addr} {a1 : Option Tab} (hm0 : 0 < m) (B0 : CB m c0 w0) (h3 : TB j4 c0 w0 p2 a1) (bj4 : j4 < m) (r : Int) (H : table_Table_Size.f k a1 = some r) : Calls Try.prog 32 #[.pointer p2] w0 (fun e w_ => ∃ (c_ : Nat → Nat), e = .returned (.int .i64 r) ∧ Ev (fun x => False) c0 w0 c_ w_ ∧ CB m c_ w_) := by
 unfold table_Table_Size.f at H; have B := B0.mono (show m ≤ m + 1 by omega); have E : Ev (fun x => False ∨ m ≤ x) c0 w0 c0 w0 := Ev.refl; refine enter (N := 22) (l := [.pointer p2]) Try.func32 rfl rfl (nb rfl) fun a F => ?_; refine sr fun K5 hK5 => qa F fun a F => nil (hK5 _ _ ?_); refine sq fun K6 hK6 => ?_; refine sr fun K7 hK7 => qm F fun a F => ?_; refine qv F (r_peqlA F Try.underlying25 rfl rfl (TB.isNone h3)) fun a F => ?_; refine nil (hK7 _ _ ?_)
 by_cases hb8 : (Option.isNone a1) = true
 ·replace H := ip hb8 H; refine wct (fb F hb8) ?_; refine sr fun K9 hK9 => qa F fun a F => nil (hK9 _ _ ?_); refine wp_ret ?_; refine thenR ?_; obtain rfl := si H; refine out1 F rfl rfl ?_; exact ⟨cf (ct m) c0, rfl, E.lv B0, cfb⟩
 replace H := im hb8 H; refine wcf (fb F (bfalse hb8)) (wp_skip (hK6 _ _ ?_)); refine sq fun K10 hK10 => ?_; obtain ⟨ob11, e12, H⟩ := bind_some H; have z13 := h3; rw [e12] at z13; obtain ⟨ad14, p16, rfl, hat15, h17⟩ := TB.some z13; refine regD (SB No c0 w0) 18 (.q 0 (.q 1 (.q 2 (.q 3 (.q 5 (.q 6 (.q 7 (.q 8 (.q 12 (.q 13 (.q 14 (.q 15 (.e 4 (.e 9 (.e 10 (.q 11 (.q 16 (.q 17 .nil)))))))))))))))))) Try_hm (by decide +kernel) ?_; intro w19 w1_ w2_ w3_ w4_; have E20 : Ev No c0 w0 c0 w19 := Ev.same w1_ w2_ w3_ w4_; replace B := B.same w1_; have zhat15 := hat15; have ER : Ev No c0 w0 c0 w19 := Ev.same w1_ w2_ w3_ w4_; replace E := E.n E20; refine dm F ER.sb fun a F => ?_; refine di F ER.sb fun a F => ?_; refine df F ff_59_1 ER.sb fun a F => ?_; refine dl F ag_3 zhat15 nq ER.sb fun a F => ?_; refine dm F ER.sb fun a F => ?_; refine di F ER.sb fun a F => ?_; refine df F ff_59_0 ER.sb fun a F => ?_; refine dl F ag_54 zhat15 nq ER.sb fun a F => ?_; refine dm F ER.sb fun a F => ?_; refine di F ER.sb fun a F => ?_; refine df F ff_59_2 ER.sb fun a F => ?_; refine dl F ag_3 zhat15 nq ER.sb fun a F => ?_; refine d_e ?_; obtain ⟨t21, q22, H⟩ := bind_some H; refine oc F Try.func48 (table_num.calls k (m := m + 1) (pl hm0) B _ q22) ?_; rintro e w24 ⟨c23, rfl, E25, B⟩; refine rt fun a F => ?_; replace ER := ER.trans E25 nx; replace h17 := (h17.ev E20).ev E25; replace E := E.n E25; refine ⟨fun _ => ER.sb, ?_⟩; refine d_e ?_; obtain ⟨t28, q29, H⟩ := bind_some H; refine oc F Try.func34 (tree_Tree_Len.calls (m := m + 1) (pl hm0) B h17 _ q29) ?_; rintro e w31 ⟨c30, rfl, E32, B⟩; refine rt fun a F => ?_; replace ER := ER.trans E32 nx; replace E := E.n E32; refine ⟨fun _ => ER.sb, ?_⟩; refine d_e ?_; obtain ⟨t35, q36, H⟩ := bind_some H; refine oc F Try.func48 (table_num.calls k (m := m + 1) (pl hm0) B _ q36) ?_; rintro e w38 ⟨c37, rfl, E39, B⟩; refine rt fun a F => ?_; replace ER := ER.trans E39 nx; replace E := E.n E39; refine ⟨fun _ => ER.sb, ?_⟩; refine dq F (fun wq hS => r_add F rfl rfl) ER.sb fun a F => ?_; refine dq F (fun wq hS => r_add F rfl rfl) ER.sb fun a F => ?_; refine da F ER.sb fun a F => ?_; refine d_nil ?_; refine hK10 _ _ ?_; replace F : Fr a 22 [(2, .int .i64 (IntKind.i64.wrap ((IntKind.i64.wrap (t21 + t35)) + ob11.size)))] := F.sub ⟨rfl, trivial⟩; refine wp_ret ?_; obtain rfl := si H; refine out1 F rfl rfl ?_; exact ⟨cf (ct m) c37, rfl, E.lv B0, cfb⟩
theorem tree_Tree_All.calls {m : Nat} {c0 : Nat → Nat} {w0 : World} {p2 : Option Addr} {a1 : Tr} (hm0 : 0 < m) (B0 : CB m c0 w0) (h3 : TR 0 c0 w0 p2 a1) (jr14 : Nat) (bjr14 : jr14 < m) (r : It) (H : tree_Tree_All.f a1 = some r) : Calls Try.prog 35 #[.pointer p2] w0 (fun e w_ => ∃ (c_ : Nat → Nat) (V0_ : Value), e = .returned (V0_) ∧ Ev (fun x => False) c0 w0 c_ w_ ∧ CB m c_ w_ ∧ ITR jr14 c_ w_ V0_ r) := by
 unfold tree_Tree_All.f at H; have B := B0.mono (show m ≤ m + 2 by omega); have E : Ev (fun x => False ∨ m ≤ x) c0 w0 c0 w0 := Ev.refl; refine enter (N := 4) (l := [.pointer p2]) Try.func35 rfl rfl (nb rfl) fun a F => ?_; refine sr fun K4 hK4 => ?_; refine q_eff F rfl rfl (by decide) (e_box F (v := .pointer p2) rfl c0 (m + 1)) ?_; rintro v w6 a ⟨c5, qa7, rfl, E8, h9, B10⟩ F; replace B := B10 _ B lm; replace h3 := h3.ev E8; replace E := E.n E8; replace h9 : AT _ _ _ _ _ [.pointer p2] := h9; refine qa F fun a F => nil (hK4 _ _ ?_); refine sr fun K12 hK12 => ?_; refine qv F (r_makeFunc (vs := [.pointer (some qa7)]) F rfl) fun a F => ?_; refine qa F fun a F => nil (hK12 _ _ ?_); refine wp_ret ?_; have h13 : ITR (m + 1) c5 w6 (.func (.func 51) #[] #[.pointer (some qa7)]) (.all a1) := ⟨qa7, p2, rfl, h9, h3⟩; obtain rfl := si H; refine out1 F rfl rfl ?_; exact ⟨cf (fun x_ => if x_ = m + 1 then jr14 else if x_ < m then x_ else 0) c5, (.func (.func 51) #[] #[.pointer (some qa7)]), rfl, E.lv B0, cfb, ITR.rc h13 cfk cfk⟩
theorem table_Table_Bytes.calls (k : Nat) {m : Nat} {c0 : Nat → Nat} {w0 : World} {j4 : Nat} {p2 : Option Addr} {a1 : Option Tab} (hm0 : 0 < m) (B0 : CB m c0 w0) (h3 : TB j4 c0 w0 p2 a1) (bj4 : j4 < m) (jr228 : Nat) (bjr228 : jr228 < m) (r : (List Int)) (H : table_Table_Bytes.f k a1 = some r) : Calls Try.prog 9 #[.pointer p2] w0 (fun e w_ => ∃ (c_ : Nat → Nat) (A0_ : Option Addr) (C0_ : Nat), e = .returned (.slice A0_ r.length C0_) ∧ Ev (fun x => False) c0 w0 c_ w_ ∧ CB m c_ w_ ∧ SL true (Kint .u8) jr228 0 c_ w_ A0_ C0_ r) := by
 unfold table_Table_Bytes.f at H; have B := B0.mono (show m ≤ m + 9 by omega); have E : Ev (fun x => False ∨ m ≤ x) c0 w0 c0 w0 := Ev.refl; refine enterM (N := 54) (l := [.pointer p2]) Try.func9 rfl rfl (nb rfl) fun a F => ?_; refine sr fun K5 hK5 => qa F fun a F => nil (hK5 _ _ ?_); refine sq fun K6 hK6 => ?_; refine sr fun K7 hK7 => qm F fun a F => ?_; refine qv F (r_peqlA F Try.underlying25 rfl rfl (TB.isNone h3)) fun a F => ?_; refine nil (hK7 _ _ ?_)
 by_cases hb8 : (Option.isNone a1) = true
 ·replace H := ip hb8 H; refine wct (fb F hb8) ?_; refine sr fun K9 hK9 => qa F fun a F => nil (hK9 _ _ ?_); refine wp_ret ?_; refine thenR ?_; refine outM ?_; refine endM0 F ?_; obtain rfl := si H; refine out1 F rfl rfl ?_; exact ⟨cf (fun x_ => if x_ = m + 8 then jr228 else if x_ < m then x_ else 0) c0, none, 0, rfl, E.lv B0, cfb, SL.nil⟩
 replace H := im hb8 H; refine wcf (fb F (bfalse hb8)) (wp_skip (hK6 _ _ ?_)); refine sr fun K10 hK10 => qm F fun a F => ?_; obtain ⟨t11, q12, H⟩ := bind_some H; refine qc F Try.func32 (table_Table_Size.calls k (m := m + 9) (pl hm0) B h3 (Nat.lt_add_right _ bj4) _ q12) ?_; rintro e w14 ⟨c13, rfl, E15, B⟩; refine rt fun a F => ?_; replace E := E.n E15; obtain ⟨t18, q19, H⟩ := bind_some H; refine qc F Try.func31 (parcel_New.calls (m := m + 9) (pl hm0) B (m + 1) lm (m + 2) lm _ q19) ?_; rintro e w21 ⟨c20, p24, rfl, E22, B, h25⟩; refine rt fun a F => ?_; replace E := E.n E22; refine q_eff F rfl rfl (by decide) (e_alloc F zv_68 c20 (m + 3)) ?_; rintro v w28 a ⟨c27, qa29, rfl, E30, h31, B32⟩ F; replace B := B32 _ B lm; replace h3 := ((h3.ev E15).ev E22).ev E30; replace E := E.n E30; replace h31 : AT _ _ _ _ _ [.pointer none] := h31; refine q_eff0 F rfl rfl (e_store0 F rfl rfl sz_68 h31 (nb rfl) rfl) ?_; rintro w34 a ⟨E35, h31, Z36⟩ F; replace B := B.size Z36; replace h3 := h3.ev E35 (ne_pm bj4) ne_zm; replace E := E.trans E35 lc1; replace h31 : AT _ _ _ _ _ [.pointer p24] := h31; refine nil (hK10 _ _ ?_); refine sq fun K37 hK37 => ?_; obtain ⟨ob38, e39, H⟩ := bind_some H; have z40 := h3; rw [e39] at z40; obtain ⟨ad41, p43, rfl, hat42, h44⟩ := TB.some z40; refine regD (SB (fun x => x = m + 1 ∨ x = m + 2) c27 w34) 7 (.q 0 (.q 1 (.q 2 (.q 3 (.q 4 (.q 5 (.e 6 .nil))))))) Try_hm (by decide +kernel) ?_; intro w46 w1_ w2_ w3_ w4_; have E47 : Ev No c27 w34 c27 w46 := Ev.same w1_ w2_ w3_ w4_; replace B := B.same w1_; have zh31 := h31; have zhat42 := hat42; have ER : Ev (fun x => x = m + 1 ∨ x = m + 2) c27 w34 c27 w46 := Ev.same w1_ w2_ w3_ w4_; replace h25 := ((h25.ev E30).ev E35).ev E47; replace h31 := h31.ev E47; replace h44 := h44.ev E47; replace hat42 := hat42.ev E47; replace E := E.n E47; refine dq F (fun wq hS => r_load F rfl ag_68 (AT.cell0 (AT.sb zh31 hS (nor mm mm)) rfl)) ER.sb fun a F => ?_; refine dm F ER.sb fun a F => ?_; refine di F ER.sb fun a F => ?_; refine df F ff_59_1 ER.sb fun a F => ?_; refine dq F (fun wq hS => r_load F rfl ag_3 (AT.cell (AT.sb zhat42 hS (nor (ne_pm bj4) (ne_pm bj4))) rfl)) ER.sb fun a F => ?_; refine dq F (fun wq hS => r_convi F Try.underlying71 rfl rfl) ER.sb fun a F => ?_; refine d_e ?_; obtain ⟨t48, q49, H⟩ := bind_some H; refine oc F Try.func33 (parcel_Writer_Num.calls k (m := m + 9) (pl hm0) B h25 ⟨(pl hm0), lm⟩ ⟨(pl hm0), lm, mm⟩ _ q49) ?_; rintro e w51 ⟨c50, rfl, E52, B, h54⟩; refine rt fun a F => ?_; replace ER := ER.trans E52 (fun x q => by replace q : x = m + 1 ∨ x = m + 2 := q; show x = m + 1 ∨ x = m + 2; omega); replace h31 := h31.ev E52 (nor mm mm); replace h44 := h44.ev E52 (nor ne_zm ne_zm) (nor ne_zm ne_zm); replace hat42 := hat42.ev E52 (nor (ne_pm bj4) (ne_pm bj4)); replace E := E.trans E52 lc2; refine ⟨fun _ => ER.sb, ?_⟩; refine d_nil ?_; refine hK37 _ _ ?_; replace F : Fr a 54 [(0, .pointer (some ad41)), (3, .pointer (some qa29))] := F.sub ⟨rfl, rfl, trivial⟩; refine sq fun K56 hK56 => ?_; refine regD (SB (fun x => x = m + 1 ∨ x = m + 2) c50 w51) 8 (.q 0 (.q 1 (.q 2 (.q 3 (.q 4 (.e 5 (.q 6 (.e 7 .nil)))))))) Try_hm (by decide +kernel) ?_
 intro w57 w1_ w2_ w3_ w4_; have E58 : Ev No c50 w51 c50 w57 := Ev.same w1_ w2_ w3_ w4_; replace B := B.same w1_; have zh31 := h31; have zhat42 := hat42; have ER : Ev (fun x => x = m + 1 ∨ x = m + 2) c50 w51 c50 w57 := Ev.same w1_ w2_ w3_ w4_; replace h44 := h44.ev E58; replace E := E.n E58; refine dq F (fun wq hS => r_load F rfl ag_68 (AT.cell0 (AT.sb zh31 hS (nor mm mm)) rfl)) ER.sb fun a F => ?_; refine dm F ER.sb fun a F => ?_; refine di F ER.sb fun a F => ?_; refine df F ff_59_0 ER.sb fun a F => ?_; refine dq F (fun wq hS => r_load F rfl ag_54 (AT.cell (AT.sb zhat42 hS (nor (ne_pm bj4) (ne_pm bj4))) rfl)) ER.sb fun a F => ?_; refine d_e ?_; obtain ⟨t59, q60, H⟩ := bind_some H; refine oc F Try.func34 (tree_Tree_Len.calls (m := m + 9) (pl hm0) B h44 _ q60) ?_; rintro e w62 ⟨c61, rfl, E63, B⟩; refine rt fun a F => ?_; replace ER := ER.trans E63 nx; replace h31 := (h31.ev E58).ev E63; replace h44 := h44.ev E63; replace hat42 := (hat42.ev E58).ev E63; replace h54 := (h54.ev E58).ev E63; replace E := E.n E63; refine ⟨fun _ => ER.sb, ?_⟩; refine dq F (fun wq hS => r_convi F Try.underlying71 rfl rfl) ER.sb fun a F => ?_; refine d_e ?_; obtain ⟨t66, q67, H⟩ := bind_some H; refine oc F Try.func33 (parcel_Writer_Num.calls k (m := m + 9) (pl hm0) B h54 ⟨(pl hm0), lm⟩ ⟨(pl hm0), lm, mm⟩ _ q67) ?_; rintro e w69 ⟨c68, rfl, E70, B, h72⟩; refine rt fun a F => ?_; replace ER := ER.trans E70 (fun x q => by replace q : x = m + 1 ∨ x = m + 2 := q; show x = m + 1 ∨ x = m + 2; omega); replace h31 := h31.ev E70 (nor mm mm); replace h44 := h44.ev E70 (nor ne_zm ne_zm) (nor ne_zm ne_zm); replace hat42 := hat42.ev E70 (nor (ne_pm bj4) (ne_pm bj4)); replace E := E.trans E70 lc2; refine ⟨fun _ => ER.sb, ?_⟩; refine d_nil ?_; refine hK56 _ _ ?_; replace F : Fr a 54 [(0, .pointer (some ad41)), (3, .pointer (some qa29))] := F.sub ⟨rfl, rfl, trivial⟩; refine sq fun K74 hK74 => ?_; refine sr fun K75 hK75 => qm F fun a F => ?_; refine qi F fun a F => ?_; refine qf F ff_59_0 fun a F => ?_; refine ql F ag_54 hat42 fun a F => ?_; obtain ⟨t76, q77, H⟩ := bind_some H; refine qc F Try.func35 (tree_Tree_All.calls (m := m + 9) (pl hm0) B h44 (m + 4) lm _ q77) ?_; rintro e w79 ⟨c78, vi82, rfl, E80, B, h83⟩; refine rt fun a F => ?_; replace h31 := h31.ev E80; replace h72 := h72.ev E80; replace E := E.n E80; refine nil (hK75 _ _ ?_); refine wp_block ?_; obtain ⟨x158, HL, HR159⟩ := bind_some H; refine ITR.range h83 (m := m + 9) (y := m + 5) (z := m + 6) (M := fun x => False ∨ m ≤ x) (g := (fun (s_ : (Option Wri)) (k_ : ByteArray) (v_ : table_cell) => table_Table_Bytes.b1 k s_ k_ v_)) (fun (s_ : (Option Wri)) (c_ : Nat → Nat) (w_ : World) => Ev (fun x => False ∨ m ≤ x) c78 w79 c_ w_ ∧ ∃ (o150 : Option Wri), o150 = s_ ∧ AT true (m + 3) c_ w_ qa29 [.pointer p24] ∧ WR (m + 1) (m + 2) c_ w_ p24 o150) (fun (_ : Unit) _ _ => False) F rfl (by decide) (by decide) (by omega) (by omega) (by omega) (by omega) (by intro q; rcases q with q | q <;> first | exact q.elim | (replace q : False := q; omega) | (replace q : m ≤ 0 := q; omega)) B (fun _ _ _ h_ => h_.1) (fun _ _ _ h_ => h_.elim) (fun s_ c1_ w1_ c2_ w2_ ⟨E_, o150, e_, h31, h149⟩ E2_ => ⟨E_.trans E2_ (fun x q => by show False ∨ m ≤ x; replace q : x = m + 5 := q; omega), o150, e_, AT.ev h31 E2_ mm, WR.ev h149 E2_ mm mm ne_zm⟩) (fun _ _ _ _ _ h_ _ => h_.elim) t66 ⟨Ev.refl, t66, rfl, h31, h72⟩ x158 HL ?_ ?_ ?_
 ·intro bd153 lo154 rec155 s_ s161 v162 c151 w152 A163 C164 rr160 ⟨E, o150, e_, h31, h149⟩ B hb156 hl157 h165 Hg a F; clear HL H; subst e_; have H : table_Table_Bytes.b1 k o150 s161 v162 = some rr160 := Hg; clear Hg; unfold table_Table_Bytes.b1 at H; refine wpIn_seq_k fun K166 hK166 => ?_; refine regR ?_; refine qa F fun a F => nil (hK166 _ _ ?_); refine regR ?_; refine q_eff F rfl rfl (by decide) (e_alloc F zv_57 c151 (m + 7)) ?_; rintro v w168 a ⟨c167, qa103, rfl, E169, h105, B170⟩ F; replace B := B170 _ B lm; replace hb156 := hb156.ev E169 nq; replace hl157 := hl157.ev E169 nq; replace E := E.n E169; replace h105 : AT _ _ _ _ _ [.slice none 0 0, .int .i64 0] := h105; refine q_eff0 F rfl rfl (e_storeN0 (us := [.slice A163 v162.value.length C164, .int .i64 v162.rev]) F rfl rfl sz_57 h105 (nb rfl) (one_all rfl)) ?_; rintro w171 a ⟨E172, h105, Z173⟩ F; replace B := B.size Z173; replace hb156 := hb156.ev E172 mm; replace hl157 := hl157.ev E172 mm; replace E := E.trans E172 lc1; replace h105 : AT _ _ _ _ _ [.slice A163 v162.value.length C164, .int .i64 v162.rev] := h105; refine nil ?_; refine thenN ?_; refine ⟨c167, hl157, fun w174 E175 hl157 Z176 => ?_⟩; replace B := B.size Z176; replace h31 := ((h31.ev E169).ev E172).ev E175; replace hb156 := hb156.ev E175 mm; replace E := E.trans E175 lc1; refine wpIn_block ?_; refine wpIn_seq_k fun K177 hK177 => ?_; refine regR ?_; refine qv F (r_load F rfl ag_68 (AT.cell0 h31 rfl)) fun a F => ?_; refine qm F fun a F => ?_; replace H := ifN H; obtain ⟨g115, H⟩ := H; refine q_eff F rfl rfl (by decide) (e_strBytes F Try.underlying9 Try.underlying23 Try.underlying5 rfl (by unfold maxLen; omega) c167 0 0) ?_; rintro v w179 a ⟨c178, A180, C181, rfl, E182, h183, B184⟩ F; replace B := B184 _ B (pl hm0); replace h31 := h31.ev E182; replace h149 := (((h149.ev E169).ev E172).ev E175).ev E182; replace h165 := (((h165.ev E169).ev E172).ev E175).ev E182; replace hb156 := hb156.ev E182 nq; replace hl157 := hl157.ev E182 nq; replace h105 := (h105.ev E175).ev E182; replace E := E.n E182; obtain ⟨t123, q124, H⟩ := bind_some H; refine qc F Try.func36 (parcel_Writer_Text.calls k (m := m + 9) (pl hm0) B h149 h183.r ⟨(pl hm0), lm⟩ ⟨(pl hm0), lm, mm⟩ _ q124) ?_; rintro e w186 ⟨c185, rfl, E187, B, h189⟩; refine rt fun a F => ?_; replace h31 := h31.ev E187 (nor mm mm); replace h165 := h165.ev E187 (nor ne_zm ne_zm) (nor ne_zm ne_zm); replace hb156 := hb156.ev E187 (nor mm mm); replace hl157 := hl157.ev E187 (nor mm mm); replace h105 := h105.ev E187 (nor mm mm); replace E := E.trans E187 lc2; refine nil (hK177 _ _ ?_); refine wpIn_seq_k fun K191 hK191 => ?_; refine regR ?_; refine qv F (r_load F rfl ag_68 (AT.cell0 h31 rfl)) fun a F => ?_; refine qf F ff_57_0 fun a F => ?_; refine ql F ag_23 h105 fun a F => ?_; obtain ⟨t132, q133, H⟩ := bind_some H; refine qc F Try.func36 (parcel_Writer_Text.calls k (m := m + 9) (pl hm0) B h189 h165 ⟨(pl hm0), lm⟩ ⟨(pl hm0), lm, mm⟩ _ q133) ?_; rintro e w193 ⟨c192, rfl, E194, B, h196⟩; refine rt fun a F => ?_
  replace h31 := h31.ev E194 (nor mm mm); replace hb156 := hb156.ev E194 (nor mm mm); replace hl157 := hl157.ev E194 (nor mm mm); replace h105 := h105.ev E194 (nor mm mm); replace E := E.trans E194 lc2; refine nil (hK191 _ _ ?_); replace F : Fr a 54 [(3, .pointer (some qa29)), (5, .pointer (some qa103))] := F.sub ⟨rfl, rfl, trivial⟩; refine regR ?_; refine qv F (r_load F rfl ag_68 (AT.cell0 h31 rfl)) fun a F => ?_; refine qf F ff_57_1 fun a F => ?_; refine ql F ag_3 h105 fun a F => ?_; refine qv F (r_convi F Try.underlying71 rfl rfl) fun a F => ?_; obtain ⟨t140, q141, H⟩ := bind_some H; refine qc F Try.func33 (parcel_Writer_Num.calls k (m := m + 9) (pl hm0) B h196 ⟨(pl hm0), lm⟩ ⟨(pl hm0), lm, mm⟩ _ q141) ?_; rintro e w199 ⟨c198, rfl, E200, B, h202⟩; refine rt fun a F => ?_; replace h31 := h31.ev E200 (nor mm mm); replace hb156 := hb156.ev E200 (nor mm mm); replace hl157 := hl157.ev E200 (nor mm mm); replace E := E.trans E200 lc2; refine nil ?_; have hr_ := si H; subst hr_
  first | refine REn c198 hl157 ?_ | refine inbN (REn c198 hl157 ?_) | refine inbN (inbN (REn c198 hl157 ?_))
  exact ⟨⟨E, t140, rfl, h31, h202⟩, B, hb156⟩
 ·intro s_ hx211 c207 w208 bd209 ⟨E212, o150, e_, h31, h149⟩ B hb210 a F; subst e_; rw [hx211] at HR159; have H : table_Table_Bytes.j2 o150 = some r := HR159; unfold table_Table_Bytes.j2 at H; replace E := E.trans E212 (fun _ q => q); refine hK74 _ _ ?_; refine sr fun K213 hK213 => ?_; refine qv F (r_load F rfl ag_68 (AT.cell0 h31 rfl)) fun a F => ?_; obtain ⟨t214, q215, H⟩ := bind_some H; refine qc F Try.func37 (parcel_Writer_Done.calls (m := m + 9) (pl hm0) B h149 lm ⟨lm, mm⟩ (m + 8) lm _ q215) ?_; rintro e w217 ⟨c216, A220, C221, rfl, E218, B, h222⟩; refine rt fun a F => ?_; replace hb210 := hb210.ev E218 nq; replace E := E.n E218; refine qm F fun a F => ?_; refine qx F fun a F => ?_; refine qx F fun a F => ?_; refine qa F fun a F => qa F fun a F => nil (hK213 _ _ ?_); refine sr fun K224 hK224 => qm F fun a F => qa F fun a F => nil (hK224 _ _ ?_); replace F : Fr a 54 [(2, .slice A220 t214.1.length C221)] ({ target := .collected bd209, args := #[] } :: []) := F.sub ⟨rfl, trivial⟩; refine wp_ret ?_; refine outM ?_; refine endM F hb210 fun w225 E226 Z227 a F => ?_; replace h222 := h222.ev E226; replace E := E.trans E226 lc1; refine endM0 F ?_; obtain rfl := si H; refine out1 F rfl rfl ?_; exact ⟨cf (fun x_ => if x_ = m + 8 then jr228 else if x_ < m then x_ else 0) c216, A220, C221, rfl, E.lv B0, cfb, SL.rc h222 cfk cfk⟩
 intro s_ hx_ c_ w_ bd_ h_; exact h_.elim
end Go.Proofs.Ytoaldfpngihhcaa.G
namespace Go.Proofs.Ytoaldfpngihhcaa.G
open Go Go.RowKit
set_option linter.unusedVariables false
set_option linter.unusedSimpArgs false
section
variable {P : Program} {a : Act} {N : Nat} {L : List (Nat × Value)} {D : List Deferred} {w w' : World} {v u : Value} {x y : Operand} {d : Option Tmp} {t ty : TypeId} {pos : String} {af : Array Edge} {gd : Option (Nat × Bool)}
theorem r_sleq (F : Fr a N L D) {A : Option Addr} {n c : Nat} {e yt : TypeId} (hu : P.underlying t = some (.slice e)) (hx : ev L x = some (.slice A n c)) (hy : ev L y = some (.slice none 0 0)) : (execOp a.eval { dst := d, op := .binOp .eql t x y yt, type := ty, pos := pos, after := af, guard := gd }).run P w = .ok (.value (.bool A.isNone)) w := by
 have h : (binOp .eql t (.slice A n c) (.slice none 0 0)).run P w = .ok (.bool A.isNone) w := by
  simp only [binOp]
  simp [Op.equal, Op.maxDepth, Lib.run_equalIn_slice_nil w 9999 t e A n c 0 0 hu]
 simp [execOp, F.ev hx, F.ev hy, eqGuard, h]
end
theorem SL.none_nil {α : Type} {e : K α} {own : Bool} {j i : Nat} {c : Nat → Nat} {w : World} {cap : Nat} {xs : List α} (h : SL own e j i c w none cap xs) : xs = [] := by
 obtain ⟨cs, h2, h3, h4, h5, h6⟩ := h
 rcases h5 with h5 | ⟨a, e, _⟩
 ·subst h5
  have := e.pos
  have h : cap * e.sz = 0 := h4.symm
  rcases Nat.mul_eq_zero.1 h with h | h
  ·exact List.eq_nil_of_length_eq_zero (by omega)
  ·omega
 ·cases e
theorem bytes_Clone.calls {m : Nat} {c0 : Nat → Nat} {w0 : World} {j1 : Nat} {A2 : Option Addr} {C3 : Nat} {a1 : List Int} (hm0 : 0 < m) (B0 : CB m c0 w0) (h4 : SL false (Kint .u8) j1 0 c0 w0 A2 C3 a1) (bj1 : j1 < m) (jr : Nat) (bjr : jr < m) (r : List Int) (H : bytes_Clone.f a1 = some r) :
  Calls Try.prog 29 #[.slice A2 a1.length C3] w0 (fun e w_ => ∃ (c_ : Nat → Nat) (A0_ : Option Addr) (C0_ : Nat), e = .returned (.slice A0_ r.length C0_) ∧ Ev (fun x => False) c0 w0 c_ w_ ∧ CB m c_ w_ ∧ SL true (Kint .u8) jr 0 c_ w_ A0_ C0_ r) := by
 unfold bytes_Clone.f at H
 obtain ⟨g, H⟩ := ifN H
 have H := Option.some.inj H
 subst H
 have B := B0.mono (show m ≤ m + 2 by omega)
 have E : Ev (fun x => False ∨ m ≤ x) c0 w0 c0 w0 := Ev.refl
 refine enter (N := 8) (l := [.slice A2 a1.length C3]) Try.func29 rfl rfl (Nat.le_of_ble_eq_true rfl) fun a F => ?_
 refine wp_seq_k fun K5 hK5 => ?_
 refine reg ?_
 refine q_val F rfl rfl (by decide) (r_assign F rfl) fun a F => ?_
 refine nil ?_
 refine hK5 _ _ ?_
 refine wp_seq_k fun K6 hK6 => ?_
 refine wp_seq_k fun K7 hK7 => ?_
 refine reg ?_
 refine q_val F rfl rfl (by decide) (r_move F rfl) fun a F => ?_
 refine q_val F rfl rfl (by decide) (r_sleq F Try.underlying23 rfl rfl) fun a F => ?_
 refine nil ?_
 refine hK7 _ _ ?_
 cases A2 with
 | none =>
  have e := h4.none_nil
  subst e
  refine wp_cond_true (F.ev rfl) ?_
  refine wp_seq_k fun K8 hK8 => ?_
  refine reg ?_
  refine q_val F rfl rfl (by decide) (r_assign F rfl) fun a F => ?_
  refine nil ?_
  refine hK8 _ _ ?_
  refine wp_ret ?_
  refine thenR ?_
  refine out1 F rfl rfl ?_
  exact ⟨c0, none, 0, rfl, Ev.refl, B0, SL.nil⟩
 | some q =>
  refine wp_cond_false (F.ev rfl) ?_
  refine wp_skip ?_
  refine hK6 _ _ ?_
  refine wp_seq_k fun K9 hK9 => ?_
  refine reg ?_
  refine q_eff F rfl rfl (by decide) (e_buildSlice (e := 5) (c := c0) (k := Kint .u8) (i := 0) F [] [] ([] : List Int) (by exact trivial) (fun w => by kernel_rfl) rfl (by decide) rfl trivial (fun q => q) (m + 1)) ?_
  rintro v w1 a ⟨c1, A1, C1, rfl, E1, h1, B1⟩ F
  have B := B1 _ B (by omega)
  have h4 := SL.ev h4 E1 (fun q => q.elim) (fun q => q.elim)
  have E := E.trans E1 (fun x q => q.elim)
  refine q_val F rfl rfl (by decide) (r_move F rfl) fun a F => ?_
  refine q_eff F rfl rfl (by decide) (e_append (k := Kint .u8) (xs := []) (ys := a1) (c := c1) (j := m + 1) (i := 0) F et_23 rfl rfl h1 h4 (by simpa using g) (by have g_ := g; unfold maxLen; simp at g_ ⊢; omega) (by omega)) ?_
  rintro v w2 a ⟨c2, A3, C4, rfl, E2, h2, B2⟩ F
  have B := B2 _ B (by omega)
  have E := E.trans E2 (fun x q => by replace q : x = m + 1 := q; show False ∨ m ≤ x; omega)
  refine q_val F rfl rfl (by decide) (r_assign F rfl) fun a F => ?_
  refine nil ?_
  refine hK9 _ _ ?_
  refine wp_ret ?_
  refine out1 F rfl rfl ?_
  rw [List.nil_append] at h2 ⊢
  exact ⟨fun b_ => (fun x_ => if x_ = m + 1 then jr else if x_ < m then x_ else 0) (c2 b_), A3, C4, rfl, E.leave B0 (fun x_ => if x_ = m + 1 then jr else if x_ < m then x_ else 0) (by intro x_ hx_; show (if x_ = m + 1 then jr else if x_ < m then x_ else 0) = x_; ((repeat' split) <;> omega)), (fun b_ hb_ => by show (if (c2 b_) = m + 1 then jr else if (c2 b_) < m then (c2 b_) else 0) < m; ((repeat' split) <;> omega)), SL.rc h2 (fun k_ hk_ => by show (if (c2 k_) = m + 1 then jr else if (c2 k_) < m then (c2 k_) else 0) = _; rw [hk_]; ((repeat' split) <;> omega)) (fun k_ hk_ => by show (if (c2 k_) = m + 1 then jr else if (c2 k_) < m then (c2 k_) else 0) = _; rw [hk_]; ((repeat' split) <;> omega))⟩
end Go.Proofs.Ytoaldfpngihhcaa.G
namespace Go.Proofs.Ytoaldfpngihhcaa.G
open Go Go.RowKit
set_option linter.unusedVariables false
set_option linter.unusedSimpArgs false
set_option maxRecDepth 100000
set_option maxHeartbeats 40000000
theorem table_Right.calls {m : Nat} {c0 : Nat → Nat} {w0 : World} {j5 : Nat} {j9 : Nat} {A2 : Option Addr} {C3 : Nat} {A6 : Option Addr} {C7 : Nat} {a1 : api_Op} (hm0 : 0 < m) (B0 : CB m c0 w0) (h4 : SL false (Kint .u8) j5 0 c0 w0 A2 C3 a1.Key) (h8 : SL false (Kint .u8) j9 0 c0 w0 A6 C7 a1.Value) (bj5 : j5 < m) (bj9 : j9 < m) (r : Bool) (H : table_Right.f a1 = some r) : Calls Try.prog 24 #[.agg #[.int .i64 a1.Kind, .slice A2 a1.Key.length C3, .slice A6 a1.Value.length C7, .int .i64 a1.Rev]] w0 (fun e w_ => ∃ (c_ : Nat → Nat), e = .returned (.bool r) ∧ Ev (fun x => False) c0 w0 c_ w_ ∧ CB m c_ w_) := by
 unfold table_Right.f at H; have B := B0.mono (show m ≤ m + 2 by omega); have E : Ev (fun x => False ∨ m ≤ x) c0 w0 c0 w0 := Ev.refl; refine enter (N := 57) (l := [.agg #[.int .i64 a1.Kind, .slice A2 a1.Key.length C3, .slice A6 a1.Value.length C7, .int .i64 a1.Rev]]) Try.func24 rfl rfl (nb rfl) fun a F => ?_; refine sr fun K10 hK10 => ?_; refine q_eff F rfl rfl (by decide) (e_box F (v := .agg #[.int .i64 a1.Kind, .slice A2 a1.Key.length C3, .slice A6 a1.Value.length C7, .int .i64 a1.Rev]) rfl c0 (m + 1)) ?_; rintro v w12 a ⟨c11, qa13, rfl, E14, h15, B16⟩ F; replace B := B16 _ B lm; replace E := E.n E14; replace h15 : AT _ _ _ _ _ [.int .i64 a1.Kind, .slice A2 a1.Key.length C3, .slice A6 a1.Value.length C7, .int .i64 a1.Rev] := h15; refine qa F fun a F => nil (hK10 _ _ ?_); refine sq fun K18 hK18 => ?_; have J23 : ∀ (c24 : Nat → Nat) (w25 : World) (a : Act) (b22 : Bool), Fr a 57 [(1, .pointer (some qa13)), (3, .bool b22), (4, .bool (decide ((a1.Value.length : Int) ≤ 256))), (5, .bool (decide (a1.Rev = 0)))] → Ev (fun x => False ∨ m ≤ x) c0 w0 c24 w25 → CB (m + 2) c24 w25 → AT true (m + 1) c24 w25 qa13 [.int .i64 a1.Kind, .slice A2 a1.Key.length C3, .slice A6 a1.Value.length C7, .int .i64 a1.Rev] → table_Right.j1 a1 b22 = some r → K18 a w25 := by
  intro c24 w25 a b22 F E B h15 H; unfold table_Right.j1 at H; refine hK18 _ _ ?_; refine sq fun K26 hK26 => ?_; have J63 : ∀ (c64 : Nat → Nat) (w65 : World) (a : Act) (b60 : Bool) (b61 : Bool) (b62 : Bool), Fr a 57 [(3, .bool b60), (4, .bool b61), (5, .bool b62)] → Ev (fun x => False ∨ m ≤ x) c0 w0 c64 w65 → CB (m + 2) c64 w65 → table_Right.j4 b60 b61 b62 = some r → K26 a w65 := by
   intro c64 w65 a b60 b61 b62 F E B  H; unfold table_Right.j4 at H; refine hK26 _ _ ?_; refine sr fun K66 hK66 => qm F fun a F => qm F fun a F => ?_
   by_cases hb67 : b60 = true
   ·replace H := ip hb67 H; refine qy F hb67 ?_; refine qm F fun a F => ?_; refine qv F (r_pick_t F rfl hb67 rfl) fun a F => ?_; refine qm F fun a F => ?_
    by_cases hb68 : b61 = true
    ·replace H := ip hb68 H; refine qy F hb68 ?_; refine qm F fun a F => ?_; refine qv F (r_pick_t F rfl hb68 rfl) fun a F => ?_; refine qa F fun a F => nil (hK66 _ _ ?_); replace F : Fr a 57 [(2, .bool b62)] := F.sub ⟨rfl, trivial⟩; refine wp_ret ?_; obtain rfl := si H; refine out1 F rfl rfl ?_; exact ⟨cf (ct m) c64, rfl, E.lv B0, cfb⟩
    replace H := im hb68 H; refine qn F (bfalse hb68) fun a F => ?_; refine qv F (r_pick_f F rfl (bfalse hb68) rfl) fun a F => ?_; refine qa F fun a F => nil (hK66 _ _ ?_); replace F : Fr a 57 [(2, .bool false)] := F.sub ⟨rfl, trivial⟩; refine wp_ret ?_; obtain rfl := si H; refine out1 F rfl rfl ?_; exact ⟨cf (ct m) c64, rfl, E.lv B0, cfb⟩
   replace H := im hb67 H; refine qn F (bfalse hb67) fun a F => ?_; refine qv F (r_pick_f F rfl (bfalse hb67) rfl) fun a F => ?_; refine qm F fun a F => qn F rfl fun a F => ?_; refine qp F fun a F => ?_; refine qa F fun a F => nil (hK66 _ _ ?_); replace F : Fr a 57 [(2, .bool false)] := F.sub ⟨rfl, trivial⟩; refine wp_ret ?_; obtain rfl := si H; refine out1 F rfl rfl ?_; exact ⟨cf (ct m) c64, rfl, E.lv B0, cfb⟩
  refine sr fun K27 hK27 => qf F ff_30_0 fun a F => ?_; refine ql F ag_3 h15 fun a F => ?_; refine nil (hK27 _ _ ?_); refine wp_block ?_; refine sq fun K28 hK28 => ?_; refine wp_block ?_; refine sq fun K29 hK29 => ?_; have J54 : ∀ (c55 : Nat → Nat) (w56 : World) (a : Act) (b53 : Bool), Fr a 57 [(1, .pointer (some qa13)), (3, .bool b53), (5, .bool (decide (a1.Rev = 0)))] → Ev (fun x => False ∨ m ≤ x) c0 w0 c55 w56 → CB (m + 2) c55 w56 → AT true (m + 1) c55 w56 qa13 [.int .i64 a1.Kind, .slice A2 a1.Key.length C3, .slice A6 a1.Value.length C7, .int .i64 a1.Rev] → table_Right.j3 a1 b53 = some r → K29 a w56 := by
   intro c55 w56 a b53 F E B h15 H; unfold table_Right.j3 at H; refine hK29 _ _ ?_; refine sr fun K57 hK57 => qf F ff_30_2 fun a F => ?_; refine ql F ag_23 h15 fun a F => ?_; refine qv F (r_lensl F Try.underlying23 rfl) fun a F => ?_; refine qv F (r_eql F rfl rfl) fun a F => ?_; refine qa F fun a F => nil (hK57 _ _ ?_); refine wp_exit ?_; refine inbNe (by decide) ?_; refine thenE ?_; refine inbE ?_; exact J63 c55 w56 a b53 (decide ((a1.Value.length : Int) = 0)) (decide (a1.Rev = 0)) (F.sub ⟨rfl, rfl, rfl, trivial⟩) E B  H
  refine wp_block ?_; refine sq fun K30 hK30 => ?_; refine wp_block ?_; refine sq fun K31 hK31 => ?_; refine wp_block ?_; refine sq fun K32 hK32 => ?_; refine wp_block ?_; refine sq fun K33 hK33 => ?_; refine sq fun K34 hK34 => ?_; refine sr fun K35 hK35 => ?_; refine qv F (r_eql F rfl rfl) fun a F => ?_; refine qa F fun a F => nil (hK35 _ _ ?_)
  by_cases hb36 : a1.Kind = 4
  ·replace H := ip hb36 H; refine wct (fb F (dt hb36)) ?_; refine wp_exit ?_; refine thenE ?_; refine thenE ?_; refine inbE ?_; refine hK32 _ _ ?_; refine sr fun K51 hK51 => qf F ff_30_3 fun a F => ?_; refine ql F ag_3 h15 fun a F => ?_; refine qv F (r_geq F rfl rfl) fun a F => ?_; refine qm F fun a F => ?_
   by_cases hb52 : 0 ≤ a1.Rev
   ·replace H := ip hb52 H; refine qy F (dt hb52) ?_; refine qf F ff_30_3 fun a F => ?_; refine qy F (dt hb52) ?_; refine ql F ag_3 h15 fun a F => ?_; refine qy F (dt hb52) ?_; refine qv F (r_leq F rfl rfl) fun a F => ?_; refine qv F (r_pick_t F rfl (dt hb52) rfl) fun a F => ?_; refine qa F fun a F => nil (hK51 _ _ ?_); replace F : Fr a 57 [(3, .bool b22), (4, .bool (decide ((a1.Value.length : Int) ≤ 256))), (5, .bool (decide (a1.Rev ≤ 1099511627776)))] := F.sub ⟨rfl, rfl, rfl, trivial⟩; refine wp_exit ?_; refine inbNe (by decide) ?_; refine thenE ?_; refine inbNe (by decide) ?_; refine thenE ?_; refine inbNe (by decide) ?_; refine thenE ?_; refine inbNe (by decide) ?_; refine thenE ?_; refine inbE ?_; exact J63 c24 w25 a b22 (decide ((a1.Value.length : Int) ≤ 256)) (decide (a1.Rev ≤ 1099511627776)) (F.sub ⟨rfl, rfl, rfl, trivial⟩) E B  H
   replace H := im hb52 H; refine qn F (dz hb52) fun a F => qn F (dz hb52) fun a F => qn F (dz hb52) fun a F => ?_; refine qv F (r_pick_f F rfl (dz hb52) rfl) fun a F => ?_; refine qa F fun a F => nil (hK51 _ _ ?_); replace F : Fr a 57 [(3, .bool b22), (4, .bool (decide ((a1.Value.length : Int) ≤ 256))), (5, .bool false)] := F.sub ⟨rfl, rfl, rfl, trivial⟩; refine wp_exit ?_; refine inbNe (by decide) ?_; refine thenE ?_; refine inbNe (by decide) ?_; refine thenE ?_; refine inbNe (by decide) ?_; refine thenE ?_; refine inbNe (by decide) ?_; refine thenE ?_; refine inbE ?_; exact J63 c24 w25 a b22 (decide ((a1.Value.length : Int) ≤ 256)) false (F.sub ⟨rfl, rfl, rfl, trivial⟩) E B  H
  replace H := im hb36 H; refine wcf (fb F (dz hb36)) (wp_skip (hK34 _ _ ?_)); refine sq fun K37 hK37 => ?_; refine sr fun K38 hK38 => ?_; refine qv F (r_eql F rfl rfl) fun a F => ?_; refine qa F fun a F => nil (hK38 _ _ ?_)
  by_cases hb39 : a1.Kind = 2
  ·replace H := ip hb39 H; refine wct (fb F (dt hb39)) ?_; refine wp_exit ?_; refine thenE ?_; refine thenE ?_; refine inbNe (by decide) ?_; refine thenE ?_; refine inbE ?_; refine hK31 _ _ ?_; refine wp_exit ?_; refine inbNe (by decide) ?_; refine thenE ?_; refine inbNe (by decide) ?_; refine thenE ?_; refine inbNe (by decide) ?_; refine thenE ?_; refine inbE ?_; exact J63 c24 w25 a b22 (decide ((a1.Value.length : Int) ≤ 256)) (decide (a1.Rev = 0)) (F.sub ⟨rfl, rfl, rfl, trivial⟩) E B  H
  replace H := im hb39 H; refine wcf (fb F (dz hb39)) (wp_skip (hK37 _ _ ?_)); refine sq fun K40 hK40 => ?_; refine sr fun K41 hK41 => ?_; refine qv F (r_eql F rfl rfl) fun a F => ?_; refine qa F fun a F => nil (hK41 _ _ ?_)
  by_cases hb42 : a1.Kind = 5
  ·replace H := ip hb42 H; refine wct (fb F (dt hb42)) ?_; refine wp_exit ?_; refine thenE ?_; refine thenE ?_; refine inbNe (by decide) ?_; refine thenE ?_; refine inbNe (by decide) ?_; refine thenE ?_; refine inbE ?_; refine hK30 _ _ ?_; replace F : Fr a 57 [(1, .pointer (some qa13)), (5, .bool (decide (a1.Rev = 0)))] := F.sub ⟨rfl, rfl, trivial⟩; refine reg ?_; refine qf F ff_30_1 fun a F => ?_; refine ql F ag_23 h15 fun a F => ?_; refine qv F (r_lensl F Try.underlying23 rfl) fun a F => ?_; refine qv F (r_leq F rfl rfl) fun a F => ?_; refine qa F fun a F => nil ?_; exact J54 c24 w25 a (decide ((a1.Key.length : Int) ≤ 65)) (F.sub ⟨rfl, rfl, rfl, trivial⟩) E B h15 H
  replace H := im hb42 H; refine wcf (fb F (dz hb42)) (wp_skip (hK40 _ _ ?_)); replace F : Fr a 57 [(1, .pointer (some qa13)), (3, .bool b22), (5, .bool (decide (a1.Rev = 0))), (24, .int .i64 a1.Kind)] := F.sub ⟨rfl, rfl, rfl, rfl, trivial⟩; refine sq fun K43 hK43 => ?_; have J47 : ∀ (c48 : Nat → Nat) (w49 : World) (a : Act) (b46 : Bool), Fr a 57 [(1, .pointer (some qa13)), (3, .bool b22), (5, .bool (decide (a1.Rev = 0))), (31, .bool b46)] → Ev (fun x => False ∨ m ≤ x) c0 w0 c48 w49 → CB (m + 2) c48 w49 → AT true (m + 1) c48 w49 qa13 [.int .i64 a1.Kind, .slice A2 a1.Key.length C3, .slice A6 a1.Value.length C7, .int .i64 a1.Rev] → table_Right.j2 a1 b22 b46 = some r → K43 a w49 := by
   intro c48 w49 a b46 F E B h15 H; unfold table_Right.j2 at H; refine hK43 _ _ ?_
   by_cases hb50 : b46 = true
   ·replace H := ip hb50 H; refine wct (fb F hb50) ?_; refine wp_exit ?_; refine thenE ?_; refine inbNe (by decide) ?_; refine thenE ?_; refine inbNe (by decide) ?_; refine thenE ?_; refine inbNe (by decide) ?_; refine thenE ?_; refine inbE ?_; exact J54 c48 w49 a b22 (F.sub ⟨rfl, rfl, rfl, trivial⟩) E B h15 H
   replace H := im hb50 H; refine wcf (fb F (bfalse hb50)) (wp_skip (hK33 _ _ ?_)); refine wp_exit ?_; refine inbNe (by decide) ?_; refine thenE ?_; refine inbNe (by decide) ?_; refine thenE ?_; refine inbNe (by decide) ?_; refine thenE ?_; refine inbNe (by decide) ?_; refine thenE ?_; refine inbE ?_; refine hK28 _ _ ?_; refine sq fun K58 hK58 => ?_; refine sr fun K59 hK59 => qa F fun a F => nil (hK59 _ _ ?_); refine wp_ret ?_; refine thenR ?_; refine inbR ?_; refine thenR ?_; obtain rfl := si H; refine out1 F rfl rfl ?_; exact ⟨cf (ct m) c48, rfl, E.lv B0, cfb⟩
  refine sr fun K44 hK44 => ?_; refine qv F (r_eql F rfl rfl) fun a F => ?_; refine qa F fun a F => nil (hK44 _ _ ?_)
  by_cases hb45 : a1.Kind = 1
  ·replace H := ip hb45 H; refine wct (fb F (dt hb45)) ?_; refine wp_skip ?_; exact J47 c24 w25 a (decide (a1.Kind = 1)) (F.sub ⟨rfl, rfl, rfl, rfl, trivial⟩) E B h15 H
  replace H := im hb45 H; refine wcf (fb F (dz hb45)) ?_; refine reg ?_; refine qv F (r_eql F rfl rfl) fun a F => ?_; refine qa F fun a F => nil ?_; exact J47 c24 w25 a (decide (a1.Kind = 3)) (F.sub ⟨rfl, rfl, rfl, rfl, trivial⟩) E B h15 H
 refine regD (SB No c11 w12) 20 (.q 0 (.q 1 (.q 2 (.q 3 (.q 4 (.q 5 (.q 6 (.q 7 (.q 8 (.q 9 (.q 10 (.q 11 (.q 12 (.q 13 (.q 14 (.q 15 (.q 16 (.q 17 (.q 18 (.q 19 .nil)))))))))))))))))))) Try_hm (by decide +kernel) ?_; intro w19 w1_ w2_ w3_ w4_; have E20 : Ev No c11 w12 c11 w19 := Ev.same w1_ w2_ w3_ w4_; replace B := B.same w1_; have zh15 := h15; have ER : Ev No c11 w12 c11 w19 := Ev.same w1_ w2_ w3_ w4_; replace h15 := h15.ev E20; replace E := E.n E20; refine df F ff_30_1 ER.sb fun a F => ?_; refine dl F ag_23 zh15 nq ER.sb fun a F => ?_; refine dq F (fun wq hS => r_lensl F Try.underlying23 rfl) ER.sb fun a F => ?_; refine dq F (fun wq hS => r_gtr F rfl rfl) ER.sb fun a F => ?_; refine dm F ER.sb fun a F => ?_
 by_cases hb21 : 0 < (a1.Key.length : Int)
 ·replace H := ip hb21 H; refine dy F (dt hb21) (fun wq hS => r_fieldAddr F rfl ff_30_1) ER.sb fun a F => ?_; refine dy F (dt hb21) (fun wq hS => r_load F rfl ag_23 (AT.cell (AT.sb zh15 hS nq) rfl)) ER.sb fun a F => ?_; refine dy F (dt hb21) (fun wq hS => r_lensl F Try.underlying23 rfl) ER.sb fun a F => ?_; refine dy F (dt hb21) (fun wq hS => r_leq F rfl rfl) ER.sb fun a F => ?_; refine dq F (fun wq hS => r_pick_t F rfl (dt hb21) rfl) ER.sb fun a F => ?_; refine df F ff_30_2 ER.sb fun a F => ?_; refine dl F ag_23 zh15 nq ER.sb fun a F => ?_; refine dq F (fun wq hS => r_lensl F Try.underlying23 rfl) ER.sb fun a F => ?_; refine dq F (fun wq hS => r_leq F rfl rfl) ER.sb fun a F => ?_; refine df F ff_30_3 ER.sb fun a F => ?_; refine dl F ag_3 zh15 nq ER.sb fun a F => ?_; refine dq F (fun wq hS => r_eql F rfl rfl) ER.sb fun a F => ?_; refine da F ER.sb fun a F => ?_; refine da F ER.sb fun a F => ?_; refine da F ER.sb fun a F => ?_; refine d_nil ?_; exact J23 c11 w19 a (decide ((a1.Key.length : Int) ≤ 64)) (F.sub ⟨rfl, rfl, rfl, rfl, trivial⟩) E B h15 H
 replace H := im hb21 H; refine dn F (dz hb21) ER.sb fun a F => ?_; refine dn F (dz hb21) ER.sb fun a F => ?_; refine dn F (dz hb21) ER.sb fun a F => ?_; refine dn F (dz hb21) ER.sb fun a F => ?_; refine dq F (fun wq hS => r_pick_f F rfl (dz hb21) rfl) ER.sb fun a F => ?_; refine df F ff_30_2 ER.sb fun a F => ?_; refine dl F ag_23 zh15 nq ER.sb fun a F => ?_; refine dq F (fun wq hS => r_lensl F Try.underlying23 rfl) ER.sb fun a F => ?_; refine dq F (fun wq hS => r_leq F rfl rfl) ER.sb fun a F => ?_; refine df F ff_30_3 ER.sb fun a F => ?_; refine dl F ag_3 zh15 nq ER.sb fun a F => ?_; refine dq F (fun wq hS => r_eql F rfl rfl) ER.sb fun a F => ?_; refine da F ER.sb fun a F => ?_; refine da F ER.sb fun a F => ?_; refine da F ER.sb fun a F => ?_; refine d_nil ?_; exact J23 c11 w19 a false (F.sub ⟨rfl, rfl, rfl, rfl, trivial⟩) E B h15 H
theorem table_long.calls (k : Nat) {m : Nat} {c0 : Nat → Nat} {w0 : World} {A3 : Option Addr} {C4 : Nat} {a1 : ByteArray} {a2 : table_cell} (hm0 : 0 < m) (B0 : CB m c0 w0) (h5 : SL false (Kint .u8) 0 0 c0 w0 A3 C4 a2.value) (r : Int) (H : table_long.f k a1 a2 = some r) : Calls Try.prog 45 #[.string a1, .agg #[.slice A3 a2.value.length C4, .int .i64 a2.rev]] w0 (fun e w_ => ∃ (c_ : Nat → Nat), e = .returned (.int .i64 r) ∧ Ev (fun x => False) c0 w0 c_ w_ ∧ CB m c_ w_) := by
 unfold table_long.f at H; have B := B0.mono (show m ≤ m + 2 by omega); have E : Ev (fun x => False ∨ m ≤ x) c0 w0 c0 w0 := Ev.refl; refine enter (N := 24) (l := [.string a1, .agg #[.slice A3 a2.value.length C4, .int .i64 a2.rev]]) Try.func45 rfl rfl (nb rfl) fun a F => ?_; refine sr fun K6 hK6 => ?_; refine q_eff F rfl rfl (by decide) (e_box F (v := .agg #[.slice A3 a2.value.length C4, .int .i64 a2.rev]) rfl c0 (m + 1)) ?_; rintro v w8 a ⟨c7, qa9, rfl, E10, h11, B12⟩ F; replace B := B12 _ B lm; replace E := E.n E10; replace h11 : AT _ _ _ _ _ [.slice A3 a2.value.length C4, .int .i64 a2.rev] := h11; refine qa F fun a F => nil (hK6 _ _ ?_); refine sq fun K14 hK14 => ?_; refine regD (SB No c7 w8) 20 (.q 0 (.q 1 (.q 3 (.q 4 (.q 6 (.q 7 (.q 8 (.q 11 (.q 12 (.q 13 (.q 15 (.q 16 (.e 2 (.q 5 (.e 9 (.q 10 (.q 14 (.e 17 (.q 18 (.q 19 .nil)))))))))))))))))))) Try_hm (by decide +kernel) ?_; intro w15 w1_ w2_ w3_ w4_; have E16 : Ev No c7 w8 c7 w15 := Ev.same w1_ w2_ w3_ w4_; replace B := B.same w1_; have zh11 := h11; have ER : Ev No c7 w8 c7 w15 := Ev.same w1_ w2_ w3_ w4_; replace E := E.n E16; refine dm F ER.sb fun a F => ?_; refine dq F (fun wq hS => r_lenstr F Try.underlying9 rfl) ER.sb fun a F => ?_; refine dm F ER.sb fun a F => ?_; refine dq F (fun wq hS => r_lenstr F Try.underlying9 rfl) ER.sb fun a F => ?_; refine df F ff_57_0 ER.sb fun a F => ?_; refine dl F ag_23 zh11 nq ER.sb fun a F => ?_; refine dq F (fun wq hS => r_lensl F Try.underlying23 rfl) ER.sb fun a F => ?_; refine df F ff_57_0 ER.sb fun a F => ?_; refine dl F ag_23 zh11 nq ER.sb fun a F => ?_; refine dq F (fun wq hS => r_lensl F Try.underlying23 rfl) ER.sb fun a F => ?_; refine df F ff_57_1 ER.sb fun a F => ?_; refine dl F ag_3 zh11 nq ER.sb fun a F => ?_; refine d_e ?_; obtain ⟨t17, q18, H⟩ := bind_some H; refine oc F Try.func48 (table_num.calls k (m := m + 2) (pl hm0) B _ q18) ?_; rintro e w20 ⟨c19, rfl, E21, B⟩; refine rt fun a F => ?_; replace ER := ER.trans E21 nx; replace E := E.n E21; refine ⟨fun _ => ER.sb, ?_⟩; refine dq F (fun wq hS => r_add F rfl rfl) ER.sb fun a F => ?_; refine d_e ?_; obtain ⟨t24, q25, H⟩ := bind_some H; refine oc F Try.func48 (table_num.calls k (m := m + 2) (pl hm0) B _ q25) ?_; rintro e w27 ⟨c26, rfl, E28, B⟩; refine rt fun a F => ?_; replace ER := ER.trans E28 nx; replace E := E.n E28; refine ⟨fun _ => ER.sb, ?_⟩; refine dq F (fun wq hS => r_add F rfl rfl) ER.sb fun a F => ?_; refine dq F (fun wq hS => r_add F rfl rfl) ER.sb fun a F => ?_; refine d_e ?_; obtain ⟨t31, q32, H⟩ := bind_some H; refine oc F Try.func48 (table_num.calls k (m := m + 2) (pl hm0) B _ q32) ?_; rintro e w34 ⟨c33, rfl, E35, B⟩; refine rt fun a F => ?_; replace ER := ER.trans E35 nx; replace E := E.n E35; refine ⟨fun _ => ER.sb, ?_⟩; refine dq F (fun wq hS => r_add F rfl rfl) ER.sb fun a F => ?_; refine da F ER.sb fun a F => ?_; refine d_nil ?_; refine hK14 _ _ ?_; replace F : Fr a 24 [(4, .int .i64 (IntKind.i64.wrap ((IntKind.i64.wrap ((IntKind.i64.wrap ((IntKind.i64.wrap (t17 + (a1.size : Int))) + t24)) + (a2.value.length : Int))) + t31)))] := F.sub ⟨rfl, trivial⟩
 refine wp_ret ?_; obtain rfl := si H; refine out1 F rfl rfl ?_; exact ⟨cf (ct m) c33, rfl, E.lv B0, cfb⟩
end Go.Proofs.Ytoaldfpngihhcaa.G