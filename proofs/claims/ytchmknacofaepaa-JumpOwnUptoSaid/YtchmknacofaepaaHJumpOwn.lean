/- The row of 'JumpOwn', its '..UptoSaid': whatever the input of bulk at most 1048576, the law returns true and the input reads as it did; its condition: that bulk. -/
import Derived.Test.YtchmknacofaepaaHJumpOwnA
import Derived.Test.YtchmknacofaepaaRows
import Derived.Deep.Slices
import Derived.ChangeArms
import Derived.KernelRfl
import Derived.Test.YtchmknacofaepaaJh
import Derived.Test.YtchmknacofaepaaRn
import Derived.WalkKit
import Derived.ProofKit
import Derived.OpenShut
import Derived.JoinedCond
import Derived.Below
import Derived.ChangeOld
/-! Lists of own lists that share no memory. (Printed by gen_sp.py.) -/
namespace Go.Proofs.Ytchmknacofaepaa.G
open Go Go.RowKit
set_option linter.unusedVariables false
set_option linter.unusedSimpArgs false
section
variable {P : Program} {w w' : World} {c : Nat → Nat} {j j2 i : Nat} {own own2 : Bool} {A B : Option Addr} {cap cap2 : Nat} {t e ty : TypeId} {bytes : Nat} {z : Value} {α : Type} {k : K α} {xs ys : List α}
theorem run_appendT (T : ET P t e k.sz bytes z) (h1 : SL true k j i c w A cap xs) (h2 : SL own2 k j2 i c w B cap2 ys) (hb : (xs.length + ys.length) * bytes ≤ 140737488355328) (hm : xs.length + ys.length ≤ maxLen) (hij : i ≠ j) :
  ∃ A' cap' w', (Builtin.append_ #[t, t] ty #[.slice A xs.length cap, .slice B ys.length cap2]).run P w = .ok (.slice A' (xs ++ ys).length cap') w' ∧
   ∃ c', Ev (fun x => x = j) c w c' w' ∧ SL true k j i c' w' A' cap' (xs ++ ys) ∧ (∀ m, CB m c w → j < m → CB m c' w') ∧ ((A' = A ∧ cap' = cap) ∨ (Ev No c w c' w' ∧ w'.heap.size = w.heap.size + 1 ∧ ∃ q, A' = some q ∧ q.block = w.heap.size)) := by
 obtain ⟨cs, a1, a2, a3, a4, a5⟩ := h1
 obtain ⟨ds, b1, b2, b3, b4, b5⟩ := h2
 obtain ⟨inf, hi, hz, hs, hby⟩ := T.hi
 subst hby
 have hp := k.pos
 have xl : xs.length * k.sz ≤ cs.length := by rw [a3]; exact Nat.mul_le_mul_right _ a1
 have yl : ys.length * k.sz ≤ ds.length := by rw [b3]; exact Nat.mul_le_mul_right _ b1
 have hlen : (xs ++ ys).length = xs.length + ys.length := by simp
 have reps : ∀ (c' : Nat → Nat) (w' : World) (r : List Value), Ev (fun x => x = j) c w c' w' → ∀ n (h : n < (xs ++ ys).length), k.rep i c' w' (((cs.take (xs.length * k.sz) ++ (ds.take (ys.length * k.sz) ++ r)).drop (n * k.sz)).take k.sz) (xs ++ ys)[n] := by
  intro c' w' r E n hn
  by_cases q : n < xs.length
  ·rw [blk_old q xl, List.getElem_append_left q]; exact k.ev (a5 n q) E hij
  ·obtain ⟨q', rfl⟩ : ∃ q', n = xs.length + q' := ⟨n - xs.length, by omega⟩
   have hq' : q' < ys.length := by simp at hn; omega
   rw [blk_new (by simp; omega) hq' yl, List.getElem_append_right (by omega)]
   simp only [Nat.add_sub_cancel_left]
   exact k.ev (b5 q' hq') E hij
 have f2 := fun w1 hw => run_first (P := P) (len := ys.length) (n := ys.length) b4 b3 b1 w1 hw
 by_cases room : xs.length + ys.length ≤ cap
 ·rcases a4 with a4 | ⟨a, rfl, a4⟩
  ·have hc0 : cap = 0 := by
    subst a4
    have h : cap * k.sz = 0 := a3.symm
    rcases Nat.mul_eq_zero.1 h with h | h
    ·exact h
    ·omega
   have x0 : xs = [] := List.eq_nil_of_length_eq_zero (by omega)
   have y0 : ys = [] := List.eq_nil_of_length_eq_zero (by omega)
   subst x0 y0 hc0
   refine ⟨A, 0, w, ?_, c, Ev.refl, ⟨cs, by simp, by simp, a3, .inl a4, fun n hn => by simp at hn⟩, fun m hm _ => hm, .inl ⟨rfl, rfl⟩⟩
   have f3 := f2 w rfl
   simp at f3
   cases A <;> simp [Builtin.append_, run_underlying T.ht, sizeOf, typeInfo, hi, hs, Builtin.lenOf, f3, storeCells]
  ·obtain ⟨w1, hr, E, hat, hsz⟩ := run_lay (P := P) (n := xs.length * k.sz) (us := ds.take (ys.length * k.sz)) a4 (by
     have : (xs.length + ys.length) * k.sz ≤ cap * k.sz := Nat.mul_le_mul_right _ room
     rw [Nat.add_mul] at this
     simp; omega) (fun u hu => by
     obtain ⟨q, hq, rfl⟩ := List.getElem_of_mem hu
     simp at hq
     have hlt : q / k.sz < ys.length := Nat.div_lt_of_lt_mul (by rw [Nat.mul_comm]; omega)
     have hone := k.one (b5 (q / k.sz) hlt)
     apply hone
     rw [List.getElem_take]
     have e1 : ((ds.drop (q / k.sz * k.sz)).take k.sz)[q % k.sz]? = some ds[q] := by
      rw [List.getElem?_take_of_lt (Nat.mod_lt _ hp), List.getElem?_drop, Nat.div_add_mod' q k.sz, List.getElem?_eq_getElem]
     exact List.mem_of_getElem? e1)
   refine ⟨some a, cap, w1, ?_, c, E, ⟨lay cs (xs.length * k.sz) (ds.take (ys.length * k.sz)), by rw [hlen]; exact room, a2, ?_, .inr ⟨a, rfl, hat⟩, fun n hn => ?_⟩, fun m hm _ => hm.size hsz, .inl ⟨rfl, rfl⟩⟩
   ·have f3 := f2 w rfl
    simp only [Builtin.append_, Sem.run_bind]
    simp [run_underlying T.ht, sizeOf, typeInfo, hi, hs, Builtin.lenOf, room, f3, hr]
   ·rw [lay_length]
    ·exact a3
    ·have : (xs.length + ys.length) * k.sz ≤ cap * k.sz := Nat.mul_le_mul_right _ room
     rw [Nat.add_mul] at this
     simp; omega
   ·have := reps c w1 (cs.drop (xs.length * k.sz + (ds.take (ys.length * k.sz)).length)) E n hn
    unfold lay
    rw [List.append_assoc]; exact this
 ·have f1 := fun w1 hw => run_first (P := P) (len := xs.length) (n := xs.length) a4 a3 a1 w1 hw
  have hg : cap < xs.length + ys.length := by omega
  have h63' : ¬ (9223372036854775807 < ((xs.length : Int) + (ys.length : Int))) := by simp only [maxLen] at hm; omega
  have h48' : ¬ (281474976710656 < Builtin.nextslicecap (xs.length + ys.length) cap * inf.bytes) := by have := growslice_fits hg hb; omega
  have g1 := grownCap_ge w (xs.length + ys.length) cap e
  have g2 := grownCap_le_maxLen w (xs.length + ys.length) cap e hm
  have e1 := f1 w.drew rfl
  have e2 := f2 w.drew rfl
  obtain ⟨n1, n2, n3⟩ := alloc_new (M := fun x => x = j) c w.drew ((cs.take (xs.length * k.sz)).toArray ++ (ds.take (ys.length * k.sz)).toArray ++ Builtin.zeroCells z.cells (grownCap w (xs.length + ys.length) cap e - (xs.length + ys.length))) e (0, 0) j true (fun _ k _ => by simp)
  refine ⟨some ⟨w.heap.size, 0, none⟩, grownCap w (xs.length + ys.length) cap e, _, ?_, _, ⟨n1.os, n1.tape, n1.out, n1.size, n1.col, n1.blk⟩, ⟨_, by rw [hlen]; exact g1, g2, ?_, .inr ⟨_, rfl, n2⟩, fun n hn => ?_⟩, fun m hm hj => n3 m (fun k hk => hm k hk) hj, .inr ⟨⟨n1.os, n1.tape, n1.out, n1.size, n1.col, fun k hk _ => (alloc_new (M := No) c w.drew _ e (0, 0) j false (fun q => by cases q)).1.blk k hk (fun q => q)⟩, World.size_alloc .., _, rfl, rfl⟩⟩
  ·rw [hlen]
   simp [Builtin.append_, run_underlying T.ht, sizeOf, typeInfo, zeroValue, hi, hz, hs, Builtin.lenOf, room, h63', h48', Question.forced, e1, e2, newRow, grownCap]
   congr 2
   apply Array.ext'
   simp [List.append_assoc]
  ·have hzz : (Builtin.zeroCells z.cells (grownCap w (xs.length + ys.length) cap e - (xs.length + ys.length))).size = (grownCap w (xs.length + ys.length) cap e - (xs.length + ys.length)) * k.sz := by rw [← T.hz]; simp [Builtin.zeroCells]
   simp [hzz]
   rw [Nat.min_eq_left xl, Nat.min_eq_left yl, ← Nat.add_mul, ← Nat.add_mul]
   congr 1; omega
  ·have := reps _ _ (Builtin.zeroCells z.cells (grownCap w (xs.length + ys.length) cap e - (xs.length + ys.length))).toList (⟨n1.os, n1.tape, n1.out, n1.size, n1.col, n1.blk⟩ : Ev (fun x => x = j) c w _ _) n hn
   simpa [List.append_assoc] using this
end
/-- a value's cell as it lies there -/
def Kval : K Value where
 sz := 1
 pos := by decide
 rep := fun _ _ _ cs v => cs = [v] ∧ v.oneCell' = true
 ev := fun h _ _ => h
 rc := fun h _ => h
 len := fun h => by rw [h.1]; rfl
 one := fun h v hv => by rw [h.1] at hv; simp at hv; subst hv; exact h.2
section
variable {α : Type} {e : KO α} {i : Nat} {c : Nat → Nat} {w : World} {css : List (List Value)} {xs : List α} {hole : Nat → Prop}
theorem GRh.weak {hole' : Nat → Prop} (h : GRh e i c w css xs hole) (hh : ∀ k, hole k → hole' k) : GRh e i c w css xs hole' := by
 obtain ⟨h1, h2, d, h3⟩ := h
 exact ⟨h1, h2, d, fun k a b hk => h3 k a b fun q => hk (hh k q)⟩
theorem GRh.borrow (h : GRh e i c w css xs hole) {n : Nat} (hn : n < xs.length) (hnh : ¬ hole n) (ξ : Nat → Nat) (hξ : ∀ q, q < e.np → ξ q ≠ i ∧ 0 < ξ q) :
  ∃ c', (∀ b, c b ≠ i → c' b = c b) ∧ (∀ b, c' b = c b ∨ (c b = i ∧ ∃ q, q < e.np ∧ c' b = ξ q)) ∧ (∃ h' : n < css.length, e.rep ξ c' w css[n] xs[n]) ∧ GRh e i c' w css xs (fun k => hole k ∨ k = n) := by
 obtain ⟨h1, h2, d, h3⟩ := h
 have hn' : n < css.length := by omega
 let P : Nat → Prop := fun b => c b = i ∧ ∃ q, q < e.np ∧ d b = n * e.np + q
 have hdec : ∀ b, Decidable (P b) := fun b => Classical.propDecidable _
 let c' : Nat → Nat := fun b => @ite _ (P b) (hdec b) (ξ (d b - n * e.np)) (c b)
 have hc : ∀ b q, q < e.np → c b = i → d b = n * e.np + q → c' b = ξ q := fun b q hq hi hd => by
  show @ite _ (P b) (hdec b) _ _ = _
  rw [if_pos (show P b from ⟨hi, q, hq, hd⟩), hd]
  congr 1; omega
 have ho : ∀ b, ¬ P b → c' b = c b := fun b hp => if_neg hp
 refine ⟨c', fun b hb => ho b fun p => hb p.1, fun b => ?_, ⟨hn', e.rc (h3 n hn hn' hnh) (fun q hq b hb => ?_) (fun b hb => ?_)⟩, h1, h2, d, fun k a b hk => e.rc (h3 k a b (fun q => hk (.inl q))) (fun q hq b hb => ?_) (fun b hb => ?_)⟩
 ·by_cases p : P b
  ·obtain ⟨p1, q, hq, p2⟩ := p
   exact .inr ⟨p1, q, hq, hc b q hq p1 p2⟩
  ·exact .inl (ho b p)
 ·obtain ⟨e1, e2⟩ := sub_eq hb
  exact hc b q hq e1 e2
 ·obtain ⟨e1, e2⟩ := sub_zero hb
  rw [ho b fun p => e2 p.1]; exact e1
 ·obtain ⟨e1, e2⟩ := sub_eq hb
  have hnp : ¬ P b := fun ⟨_, q', hq', hd⟩ => hk (.inr (idx_inj hq hq' (by omega)).1)
  exact sub_mk ((ho b hnp).trans e1) e2
 ·obtain ⟨e1, e2⟩ := sub_zero hb
  exact sub_zero' ((ho b fun p => e2 p.1).trans e1) h1
theorem GRh.fillH {n : Nat} (h : GRh e i c w css xs (fun k => hole k ∨ k = n)) {ξ : Nat → Nat} {ds : List Value} {y : α} (hy : e.rep ξ c w ds y) (hξ : ∀ q, q < e.np → ξ q ≠ i ∧ 0 < ξ q) (hinj : ∀ q q', q < e.np → q' < e.np → ξ q = ξ q' → q = q') :
  ∃ c', (∀ b, (∀ q, q < e.np → c b ≠ ξ q) → c' b = c b) ∧ (∀ b, c' b = c b ∨ c' b = i) ∧ GRh e i c' w (css.set n ds) (xs.set n y) hole := by
 obtain ⟨h1, h2, d, h3⟩ := h
 let P : Nat → Prop := fun b => ∃ q, q < e.np ∧ c b = ξ q
 have hdec : ∀ b, Decidable (P b) := fun b => Classical.propDecidable _
 let c' : Nat → Nat := fun b => @ite _ (P b) (hdec b) i (c b)
 let d' : Nat → Nat := fun b => @dite _ (P b) (hdec b) (fun p => n * e.np + Classical.choose p) (fun _ => d b)
 have hc : ∀ b, P b → c' b = i := fun b p => if_pos p
 have ho : ∀ b, ¬ P b → c' b = c b := fun b p => if_neg p
 have hd : ∀ b q, q < e.np → c b = ξ q → d' b = n * e.np + q := fun b q hq hb => by
  have p : P b := ⟨q, hq, hb⟩
  show @dite _ (P b) (hdec b) _ _ = _
  rw [dif_pos p]
  have hs := Classical.choose_spec p
  rw [hinj _ _ hs.1 hq (hs.2.symm.trans hb)]
 have hdo : ∀ b, ¬ P b → d' b = d b := fun b p => dif_neg p
 refine ⟨c', fun b hb => ho b fun ⟨q, hq, p⟩ => hb q hq p, fun b => ?_, h1, by simpa using h2, d', fun k a b hnk => ?_⟩
 ·by_cases p : P b
  ·exact .inr (hc b p)
  ·exact .inl (ho b p)
 ·rw [List.length_set] at a b
  by_cases hk : k = n
  ·subst hk
   simp only [List.getElem_set_self]
   refine e.rc hy (fun q hq b hb => sub_mk (hc b ⟨q, hq, hb⟩) (hd b q hq hb)) (fun b hb => sub_zero' ?_ h1)
   rw [ho b fun ⟨q, hq, p⟩ => by have := (hξ q hq).2; omega]; exact hb
  ·rw [List.getElem_set_ne (fun e => hk e.symm), List.getElem_set_ne (fun e => hk e.symm)]
   refine e.rc (h3 k a b fun q => q.elim hnk hk) (fun q hq b hb => ?_) (fun b hb => ?_)
   ·obtain ⟨e1, e2⟩ := sub_eq hb
    have hp : ¬ P b := fun ⟨q', hq', p⟩ => (hξ q' hq').1 (p.symm.trans e1)
    exact sub_mk ((ho b hp).trans e1) ((hdo b hp).trans e2)
   ·obtain ⟨e1, e2⟩ := sub_zero hb
    have hp : ¬ P b := fun ⟨q', hq', p⟩ => by have := (hξ q' hq').2; omega
    exact sub_zero' ((ho b hp).trans e1) h1
end
section
variable {α : Type} {e : K α} {i i' j j' y y' z X n cap C0 C D : Nat} {c c' : Nat → Nat} {w w' : World} {A A0 B : Option Addr} {xss : List (List α)} {xs ys : List α} {M : Nat → Prop} {hole : Nat → Prop} {Hs : List Value} {own : Bool}
def one1 (v : Value) : List Value := [v]
/-- a list of slices: the first X are of what never turns, the memory of the others is their own, of the colour y -/
def SP (e : K α) (j y : Nat) (c : Nat → Nat) (w : World) (A : Option Addr) (cap : Nat) (xss : List (List α)) (X : Nat) (hole : Nat → Prop := noHole) : Prop :=
 ∃ Hs : List Value, SL true Kval j 0 c w A cap Hs ∧ GRh (KOsl e) y c w (Hs.map one1) xss (fun k => k < X ∨ hole k) ∧ ∀ k (h : k < xss.length), k < X → ∃ B D, Hs[k]? = some (.slice B (xss[k]).length D) ∧ SL false e 0 0 c w B D xss[k]
theorem GRh.hl (h : GRh (KOsl e) y c w (Hs.map one1) xss hole) : Hs.length = xss.length := by have := h.2.1; simpa using this
theorem SP.lenB (h : SP e j y c w A cap xss X hole) : xss.length ≤ maxLen := by
 obtain ⟨Hs, h1, h2, _⟩ := h
 have := h1.lenB; rw [h2.hl] at this; exact this
theorem SP.ev (h : SP e j y c w A cap xss X hole) (E : Ev M c w c' w') (hj : ¬ M j := by first | exact nq | exact ne_zm | exact mm) (hy : ¬ M y := by first | exact nq | exact ne_zm | exact mm) (h0 : ¬ M 0 := by first | exact nq | exact ne_zm | exact mm) : SP e j y c' w' A cap xss X hole := by
 obtain ⟨Hs, h1, h2, h3⟩ := h
 exact ⟨Hs, h1.ev E hj h0, h2.ev E hy h0, fun k a b => by obtain ⟨B, D, g1, g2⟩ := h3 k a b; exact ⟨B, D, g1, g2.ev E h0 h0⟩⟩
theorem SP.rc (h : SP e j y c w A cap xss X hole) (hj : ∀ k, c k = j → c' k = j') (hy : ∀ k, c k = y → c' k = y') (h0 : ∀ k, c k = 0 → c' k = 0) (hp : 0 < y') : SP e j' y' c' w A cap xss X hole := by
 obtain ⟨Hs, h1, h2, h3⟩ := h
 exact ⟨Hs, h1.rc hj h0, h2.rc hy h0 hp, fun k a b => by obtain ⟨B, D, g1, g2⟩ := h3 k a b; exact ⟨B, D, g1, g2.rc h0 h0⟩⟩
theorem SP.nil (hy : 0 < y) : SP e j y c w none 0 [] 0 := ⟨[], SL.nil, (GR.nil hy).weak fun k h => h.elim, fun k h => absurd h (by simp)⟩
theorem SP.mk (h : SL true Kval j 0 c w A cap Hs) (g : GR (KOsl e) y c w (Hs.map one1) xss) : SP e j y c w A cap xss 0 := ⟨Hs, h, GRh.weak g fun k h => h.elim, fun k _ h => absurd h (Nat.not_lt_zero k)⟩
theorem SP.open (h : SP e j y c w A cap xss 0) : ∃ Hs, Hs.length = xss.length ∧ SL true Kval j 0 c w A cap Hs ∧ GR (KOsl e) y c w (Hs.map one1) xss := by
 obtain ⟨Hs, h1, h2, _⟩ := h
 exact ⟨Hs, h2.hl, h1, h2.weak fun k h => h.elim (fun q => absurd q (Nat.not_lt_zero k)) id⟩
theorem GP.push (h : GR (KOsl e) y c w (Hs.map one1) xss) (hs : SL true e z 0 c w B D ys) (hz : z ≠ y ∧ 0 < z) :
  ∃ c', (∀ b, c b ≠ z → c' b = c b) ∧ (∀ b, c' b = c b ∨ c' b = y) ∧ GR (KOsl e) y c' w ((Hs ++ [Value.slice B ys.length D]).map one1) (xss ++ [ys]) := by
 obtain ⟨c', a1, a2, a3⟩ := GR.push (e := KOsl e) h (ξ := fun _ => z) (ds := [Value.slice B ys.length D]) ⟨B, D, rfl, hs⟩ (fun q _ => hz) (fun q q' hq hq' _ => by have : (KOsl e).np = 1 := rfl; omega)
 exact ⟨c', fun b hb => a1 b (fun q _ => hb), a2, by rw [List.map_append]; exact a3⟩
/-- to be looked at -/
theorem SP.view (h : SP e j y c w A cap xss 0) (hf : ∀ {c w cs x}, e.rep 0 c w cs x → e.rep y c w cs x) : SL false (Kslice e) j y c w A cap xss := by
 obtain ⟨Hs, hl, ⟨cs, g1, g2, g3, g4, g5⟩, h2⟩ := h.open
 refine ⟨cs, by omega, g2, g3, g4.imp id (fun ⟨a, q, r⟩ => ⟨a, q, r.r⟩), fun n hn => ?_⟩
 have hn' : n < Hs.length := by omega
 obtain ⟨B, D, q1, q2⟩ := GRh.read h2 hn (by simpa using hn') (fun q => q)
 have h5 := (g5 n hn').1
 refine ⟨B, D, ?_, ?_⟩
 ·have e1 : (Kslice e).sz = 1 := rfl
  have e2 : Kval.sz = 1 := rfl
  rw [e1]; rw [e2] at h5
  rw [h5]
  simpa [one1] using q1
 ·obtain ⟨cs, a1, a2, a3, a4, a5⟩ := q2.r
  exact ⟨cs, a1, a2, a3, a4, fun n hn => hf (a5 n hn)⟩
/-- its header's cell -/
theorem SP.cell (h : SL own Kval j 0 c w A cap Hs) {k : Nat} (hk : k < Hs.length) : ∃ ad, A = some ad ∧ AT own j c w (ad.add (k * 1)) [Hs[k]] := by
 obtain ⟨cs, g1, g2, g3, g4, g5⟩ := h
 have e2 : Kval.sz = 1 := rfl
 rw [e2, Nat.mul_one] at g3
 rcases g4 with rfl | ⟨ad, rfl, hat⟩
 ·simp at g3; omega
 ·refine ⟨ad, rfl, ?_⟩
  have := hat.sub (k * 1) 1 (by omega)
  have h5 := (g5 k hk).1
  rw [e2] at h5
  rwa [h5] at this
/-- an element's memory takes a colour of its own -/
theorem SP.lend [Inhabited (List α)] (h : SP e j y c w A cap xss X) (k : Int) (h0 : 0 ≤ k) (h1 : k < xss.length) (hX : X ≤ k.toNat) (hz : z ≠ y ∧ 0 < z) (hjy : j ≠ y) :
  ∃ c', (∀ b, c b ≠ y → c' b = c b) ∧ (∀ b, c' b = c b ∨ c' b = z) ∧ ∃ ad B D, A = some ad ∧ AT true j c' w (ad.add (k.toNat * 1)) [Value.slice B (rd xss k).length D] ∧ SL true e z 0 c' w B D (rd xss k) ∧ SP e j y c' w A cap xss X (fun q => q = k.toNat) := by
 obtain ⟨Hs, g1, g2, g3⟩ := h
 have hk : k.toNat < xss.length := by omega
 have hl := g2.hl
 have hk' : k.toNat < Hs.length := by omega
 have hy := g2.1
 obtain ⟨c', a1, a2, ⟨hq, B, D, a3, a4⟩, a5⟩ := GRh.borrow g2 hk (by rintro (q | q); exact absurd q (by omega); exact q) (fun _ => z) (fun q _ => hz)
 have hj : ∀ b, c b = j → c' b = j := fun b hb => (a1 b (by rw [hb]; exact hjy)).trans hb
 have h00 : ∀ b, c b = 0 → c' b = 0 := fun b hb => (a1 b (by rw [hb]; omega)).trans hb
 obtain ⟨ad, rfl, hat⟩ := SP.cell g1 hk'
 have er : rd xss k = xss[k.toNat] := by unfold rd; rw [List.getD_eq_getElem?_getD, List.getElem?_eq_getElem hk]; rfl
 have eh : Hs[k.toNat] = Value.slice B (xss[k.toNat]).length D := by simpa [one1] using a3
 refine ⟨c', a1, fun b => (a2 b).imp id (fun ⟨_, _, _, q⟩ => q), ad, B, D, rfl, ?_, ?_, Hs, g1.rc hj h00, a5.weak ?_, fun q a b => by obtain ⟨B, D, r1, r2⟩ := g3 q a b; exact ⟨B, D, r1, r2.rc h00 h00⟩⟩
 ·rw [er, ← eh]; exact hat.rc hj
 ·rw [er]; exact a4
 ·rintro q ((r | r) | r)
  ·exact .inl r
  ·exact r.elim
  ·exact .inr r
theorem AT.cell_eq {own' : Bool} {p : Addr} {u v : Value} (h1 : AT own j c w p [u]) (h2 : AT own' j' c' w p [v]) : u = v := by
 have a := h1.cell0 (v := u) rfl
 have b := h2.cell0 (v := v) rfl
 exact Option.some.inj (a.symm.trans b)
/-- given back -/
theorem SP.back [Inhabited (List α)] {k : Int} {ad : Addr} (h : SP e j y c w A cap xss X (fun q => q = k.toNat)) (h0 : 0 ≤ k) (h1 : k < xss.length) (hX : X ≤ k.toNat) (hA : A = some ad) (hat : AT own i c w (ad.add (k.toNat * 1)) [Value.slice B ys.length D]) (hs : SL true e z 0 c w B D ys) (hz : z ≠ y ∧ 0 < z) (hjz : j ≠ z) :
  ∃ c', (∀ b, c b ≠ z → c' b = c b) ∧ (∀ b, c' b = c b ∨ c' b = y) ∧ SP e j y c' w A cap (xss.set k.toNat ys) X := by
 obtain ⟨Hs, g1, g2, g3⟩ := h
 have hl := g2.hl
 have hk : k.toNat < xss.length := by omega
 have hk' : k.toNat < Hs.length := by omega
 obtain ⟨c', a1, a2, a3⟩ := GRh.fillH (hole := fun q => q < X ∨ noHole q) (n := k.toNat) (g2.weak (by rintro q (r | r); exact .inl (.inl r); exact .inr r)) (ξ := fun _ => z) (ds := [Value.slice B ys.length D]) ⟨B, D, rfl, hs⟩ (fun q _ => hz) (fun q q' hq hq' _ => by have : (KOsl e).np = 1 := rfl; omega)
 have a1 : ∀ b, c b ≠ z → c' b = c b := fun b hb => a1 b (fun q _ => hb)
 have hj : ∀ b, c b = j → c' b = j := fun b hb => (a1 b (by rw [hb]; exact hjz)).trans hb
 have h00 : ∀ b, c b = 0 → c' b = 0 := fun b hb => (a1 b (by rw [hb]; omega)).trans hb
 obtain ⟨ad', q1, hat'⟩ := SP.cell g1 hk'
 rw [hA] at q1
 obtain rfl := Option.some.inj q1
 have eh := hat'.cell_eq hat
 have es : (Hs.map one1).set k.toNat [Value.slice B ys.length D] = Hs.map one1 := by
  rw [← eh]
  have : Hs.set k.toNat Hs[k.toNat] = Hs := List.set_getElem_self hk'
  have h2 := congrArg (List.map one1) this
  rw [List.map_set] at h2
  exact h2
 rw [es] at a3
 refine ⟨c', a1, a2, Hs, g1.rc hj h00, a3, fun q a b => ?_⟩
 have a' : q < xss.length := by simpa using a
 obtain ⟨B, D, r1, r2⟩ := g3 q a' b
 have hne : k.toNat ≠ q := by omega
 rw [List.getElem_set_ne hne]
 exact ⟨B, D, r1, r2.rc h00 h00⟩
/-- the element X is taken out: what turns hangs on z; its header is told -/
def SPT (e : K α) (j y : Nat) (c : Nat → Nat) (w : World) (A : Option Addr) (cap : Nat) (xss : List (List α)) (X : Nat) (B : Option Addr) (D : Nat) (xs : List α) : Prop :=
 ∃ Hs : List Value, SL true Kval j 0 c w A cap Hs ∧ GRh (KOsl e) y c w (Hs.map one1) xss (fun k => k < X + 1) ∧ (∀ k (h : k < xss.length), k < X → ∃ B D, Hs[k]? = some (.slice B (xss[k]).length D) ∧ SL false e 0 0 c w B D xss[k]) ∧ Hs[X]? = some (.slice B xs.length D) ∧ xss[X]? = some xs
theorem SPT.ev (h : SPT e j y c w A cap xss X B D xs) (E : Ev M c w c' w') (hj : ¬ M j := by first | exact nq | exact ne_zm | exact mm) (hy : ¬ M y := by first | exact nq | exact ne_zm | exact mm) (h0 : ¬ M 0 := by first | exact nq | exact ne_zm | exact mm) : SPT e j y c' w' A cap xss X B D xs := by
 obtain ⟨Hs, h1, h2, h3, h4⟩ := h
 exact ⟨Hs, h1.ev E hj h0, h2.ev E hy h0, fun k a b => (by obtain ⟨B, D, g1, g2⟩ := h3 k a b; exact ⟨B, D, g1, g2.ev E h0 h0⟩), h4⟩
theorem SPT.rc (h : SPT e j y c w A cap xss X B D xs) (hj : ∀ k, c k = j → c' k = j') (hy : ∀ k, c k = y → c' k = y') (h0 : ∀ k, c k = 0 → c' k = 0) (hp : 0 < y') : SPT e j' y' c' w A cap xss X B D xs := by
 obtain ⟨Hs, h1, h2, h3, h4⟩ := h
 exact ⟨Hs, h1.rc hj h0, h2.rc hy h0 hp, fun k a b => (by obtain ⟨B, D, g1, g2⟩ := h3 k a b; exact ⟨B, D, g1, g2.rc h0 h0⟩), h4⟩
/-- what is gone on with (A, ys), and what it came of (A0, xs), which stays as it is -/
def TW (e : K α) (z : Nat) (c : Nat → Nat) (w : World) (A0 : Option Addr) (C0 : Nat) (xs : List α) (A : Option Addr) (C : Nat) (ys : List α) : Prop :=
 SL true e z 0 c w A C ys ∧ ((A0 = A ∧ C0 = C ∧ xs.length ≤ ys.length ∧ ys.take xs.length = xs) ∨ SL false e 0 0 c w A0 C0 xs)
theorem TW.ev (h : TW e z c w A0 C0 xs A C ys) (E : Ev M c w c' w') (hz : ¬ M z := by first | exact nq | exact ne_zm | exact mm) (h0 : ¬ M 0 := by first | exact nq | exact ne_zm | exact mm) : TW e z c' w' A0 C0 xs A C ys := ⟨h.1.ev E hz h0, h.2.imp id fun q => q.ev E h0 h0⟩
theorem TW.rc (h : TW e z c w A0 C0 xs A C ys) (hz : ∀ k, c k = z → c' k = i') (h0 : ∀ k, c k = 0 → c' k = 0) : TW e i' c' w A0 C0 xs A C ys := ⟨h.1.rc hz h0, h.2.imp id fun q => q.rc h0 h0⟩
theorem SP.take [Inhabited (List α)] (h : SP e j y c w A cap xss X) (k : Int) (h0 : 0 ≤ k) (h1 : k < xss.length) (hX : X = k.toNat) (hz : z ≠ y ∧ 0 < z) (hjy : j ≠ y) :
  ∃ c', (∀ b, c b ≠ y → c' b = c b) ∧ (∀ b, c' b = c b ∨ c' b = z) ∧ ∃ ad B D, A = some ad ∧ AT true j c' w (ad.add (k.toNat * 1)) [Value.slice B (rd xss k).length D] ∧ TW e z c' w B D (rd xss k) B D (rd xss k) ∧ SPT e j y c' w A cap xss X B D (rd xss k) := by
 subst hX
 obtain ⟨c', a1, a2, ad, B, D, a3, a4, a5, Hs, b1, b2, b3⟩ := SP.lend h k h0 h1 (Nat.le_refl _) hz hjy
 have hl := b2.hl
 have hk : k.toNat < xss.length := by omega
 have hk' : k.toNat < Hs.length := by omega
 obtain ⟨ad', q1, hat'⟩ := SP.cell b1 hk'
 rw [a3] at q1
 obtain rfl := Option.some.inj q1
 have eh := hat'.cell_eq a4
 have er : rd xss k = xss[k.toNat] := by unfold rd; rw [List.getD_eq_getElem?_getD, List.getElem?_eq_getElem hk]; rfl
 exact ⟨c', a1, a2, ad, B, D, a3, a4, ⟨a5, .inl ⟨rfl, rfl, Nat.le_refl _, List.take_length⟩⟩, Hs, b1, b2.weak (by rintro q (r | r) <;> omega), b3, by rw [List.getElem?_eq_getElem hk', eh], by rw [List.getElem?_eq_getElem hk, er]⟩
theorem SL.takeL (h : SL own e j i c w A C ys) (hn : n ≤ ys.length) : SL own e j i c w A C (ys.take n) := by
 obtain ⟨cs, a1, a2, a3, a4, a5⟩ := h
 refine ⟨cs, by rw [List.length_take]; omega, a2, a3, a4, fun q hq => ?_⟩
 rw [List.length_take] at hq
 rw [List.getElem_take]
 exact a5 q (by omega)
/-- what was gone on with turns no more -/
theorem TW.fr (h : TW e z c w A0 C0 xs A C ys) (hz : ∀ k, c k = z → c' k = 0) (h0 : ∀ k, c k = 0 → c' k = 0) : SL false e 0 0 c' w A0 C0 xs ∧ SL false e 0 0 c' w A C ys := by
 obtain ⟨h1, h2⟩ := h
 have g := (h1.rc (j' := 0) (i' := 0) hz h0).r
 refine ⟨?_, g⟩
 rcases h2 with ⟨rfl, rfl, h3, h4⟩ | h2
 ·rw [← h4]; exact g.takeL h3
 ·exact h2.rc h0 h0
theorem SPT.put (h : SPT e j y c w A cap xss X B D xs) (hs : SL false e 0 0 c w B D xs) : SP e j y c w A cap xss (X + 1) := by
 obtain ⟨Hs, h1, h2, h3, h4, h5⟩ := h
 refine ⟨Hs, h1, h2.weak fun k q => .inl q, fun k a b => ?_⟩
 by_cases c : k = X
 ·subst c
  rw [List.getElem?_eq_getElem a] at h5
  obtain rfl := Option.some.inj h5
  exact ⟨B, D, h4, hs⟩
 ·exact h3 k a (by omega)
/-- all of it turns no more -/
theorem SP.done (h : SP e j y c w A cap xss X) (hX : xss.length ≤ X) : SL true (Kslice e) j 0 c w A cap xss := by
 obtain ⟨Hs, ⟨cs, g1, g2, g3, g4, g5⟩, h2, h3⟩ := h
 have hl := h2.hl
 refine ⟨cs, by omega, g2, g3, g4, fun n hn => ?_⟩
 obtain ⟨B, D, q1, q2⟩ := h3 n hn (by omega)
 have hn' : n < Hs.length := by omega
 have h5 := (g5 n hn').1
 have e1 : (Kslice e).sz = 1 := rfl
 have e2 : Kval.sz = 1 := rfl
 refine ⟨B, D, ?_, q2⟩
 rw [e1]; rw [e2] at h5
 rw [h5]
 rw [List.getElem?_eq_getElem hn'] at q1
 rw [Option.some.inj q1]
theorem SP.cast {X' : Nat} (h : SP e j y c w A cap xss X) (hX : X = X') : SP e j y c w A cap xss X' := hX ▸ h
theorem SP.next {k : Int} (h : SP e j y c w A cap xss (X + 1)) (h0 : 0 ≤ k) (hX : X = k.toNat) (h1 : X < xss.length) : SP e j y c w A cap xss (IntKind.i64.wrap (k + 1)).toNat := by
 have hb := h.lenB
 refine h.cast ?_
 unfold maxLen at hb
 rw [IntKind.wrap_i64]; omega
end
section
variable {P : Program} {a : Act} {N : Nat} {L : List (Nat × Value)} {D : List Deferred} {w w' : World} {x y : Operand} {d : Option Tmp} {t el ty : TypeId} {pos : String} {af : Array Edge} {gd : Option (Nat × Bool)} {c : Nat → Nat} {z j2 : Nat} {own2 : Bool} {A A0 B : Option Addr} {C C0 cap2 bytes : Nat} {zz : Value} {α : Type} {e : K α} {xs ys vs : List α}
/-- an empty slice, just built: nothing fits into it -/
theorem e_build0 {tt ee : TypeId} (F : Fr a N L D) (hb : ∀ w, (Instr.buildSlice tt 0 #[]).run P w = .ok (.slice (some ⟨w.heap.size, 0, none⟩) 0 0) (w.alloc (.cells #[] ee (0, 0)))) (c : Nat → Nat) (j : Nat) :
  ∃ v' w', (execOp a.eval { dst := d, op := .buildSlice tt 0 #[], type := ty, pos := pos, after := af, guard := gd }).run P w = .ok (.value v') w' ∧ ∃ c' A, v' = .slice A 0 0 ∧ Ev No c w c' w' ∧ ∀ m, CB m c w → j < m → CB m c' w' := by
 obtain ⟨h1, h2, h3⟩ := alloc_new (M := No) c w #[] ee (0, 0) j true (fun _ k _ => by simp)
 refine ⟨.slice (some ⟨w.heap.size, 0, none⟩) 0 0, w.alloc (.cells #[] ee (0, 0)), ?_, _, some ⟨w.heap.size, 0, none⟩, rfl, h1, h3⟩
 simp [execOp, hb]
/-- what is appended to it lies anew -/
theorem e_append0 {j : Nat} (F : Fr a N L D) (T : ET P t el e.sz bytes zz) (hx : ev L x = some (.slice A 0 0)) (hy : ev L y = some (.slice B vs.length cap2)) (h2 : SL own2 e j2 0 c w B cap2 vs) (hb : vs.length * bytes ≤ 140737488355328) (hm : vs.length ≤ maxLen) :
  ∃ v w', (execOp a.eval { dst := d, op := .call { callee := .builtin .append, args := #[x, y], argTypes := #[t, t] }, type := ty, pos := pos, after := af, guard := gd }).run P w = .ok (.value v) w' ∧
   ∃ c' A' C', v = .slice A' vs.length C' ∧ Ev No c w c' w' ∧ SL true e j 0 c' w' A' C' vs ∧ ∀ m, CB m c w → j < m → CB m c' w' := by
 rcases Nat.eq_zero_or_pos vs.length with h0 | h0
 ·obtain rfl : vs = [] := List.eq_nil_of_length_eq_zero h0
  obtain ⟨ds, b1, b2, b3, b4, b5⟩ := h2
  obtain ⟨inf, hi, hz, hs, hby⟩ := T.hi
  have f3 := run_first (P := P) (len := 0) (n := 0) b4 b3 (Nat.zero_le _) w rfl
  refine ⟨.slice A 0 0, w, ?_, c, A, 0, rfl, Ev.refl, ⟨[], Nat.le_refl _, Nat.zero_le _, by simp, .inl rfl, fun n hn => absurd hn (by simp)⟩, fun m hm _ => hm⟩
  simp at f3
  have : (Builtin.append_ #[t, t] ty #[.slice A 0 0, .slice B 0 cap2]).run P w = .ok (.slice A 0 0) w := by
   cases A <;> simp [Builtin.append_, run_underlying T.ht, sizeOf, typeInfo, hi, hs, Builtin.lenOf, f3, storeCells]
  have hy' : ev L y = some (.slice B 0 cap2) := hy
  simp [execOp, resolve, invoke, builtin, F.ev hx, F.ev hy', this]
 ·have h1 : SL true e (j + 1) 0 c w A 0 ([] : List α) := ⟨[], Nat.le_refl _, Nat.zero_le _, by simp, .inl rfl, fun n hn => absurd hn (by simp)⟩
  obtain ⟨A', cap', w1, hr, c1, E, hS, hB, hT⟩ := run_appendT (ty := ty) T h1 h2 (by simpa using hb) (by simpa using hm) (by omega)
  rw [List.nil_append] at hr hS
  rcases hT with ⟨rfl, rfl⟩ | ⟨EN, hsz, q, rfl, hq⟩
  ·obtain ⟨cs, a1, _⟩ := hS; omega
  ·have hr' : (Builtin.append_ #[t, t] ty #[.slice A 0 0, .slice B vs.length cap2]).run P w = .ok (.slice (some q) vs.length cap') w1 := hr
   obtain ⟨cs, a1, a2, a3, a4, a5⟩ := hS
   refine ⟨_, w1, by simp [execOp, resolve, invoke, builtin, F.ev hx, F.ev hy, hr', Result.andThen], fun b => if b = w.heap.size then j else c1 b, some q, cap', rfl, ⟨EN.os, EN.tape, EN.out, EN.size, fun k hk => ?_, EN.blk⟩, ⟨cs, a1, a2, a3, a4.imp id ?_, fun n hn => ?_⟩, fun m hm hj k hk => ?_⟩
   ·show (if k = w.heap.size then j else c1 k) = c k
    rw [if_neg (by omega)]; exact EN.col k hk
   ·rintro ⟨ad, e1, b, off, cur, tt, fz, e2, b1, b2, b3, b4⟩
    obtain rfl := Option.some.inj e1
    subst e2
    have hbz : b = w.heap.size := hq
    exact ⟨_, rfl, b, off, cur, tt, fz, rfl, b1, (if_pos hbz : (if b = w.heap.size then j else c1 b) = j), b3, b4⟩
   ·refine e.rc (a5 n hn) fun k hk => ?_
    show (if k = w.heap.size then j else c1 k) = 0
    by_cases h : k = w.heap.size
    ·rcases a4 with rfl | ⟨ad, e1, b, off, cur, tt, fz, e2, b1, b2, b3, b4⟩
     ·have hp := e.pos
      have : cap' * e.sz = 0 := by simpa using a3.symm
      rcases Nat.mul_eq_zero.1 this with q | q <;> omega
     ·obtain rfl := Option.some.inj e1
      subst e2
      have hbz : b = w.heap.size := hq
      rw [h, ← hbz, b2] at hk; omega
    ·rw [if_neg h]; exact hk
   ·show (if k = w.heap.size then j else c1 k) < m
    by_cases h : k = w.heap.size
    ·rw [if_pos h]; exact hj
    ·rw [if_neg h, EN.col k (by omega)]; exact hm k (by omega)
/-- going on with a list of own lists by another one -/
theorem e_appendS {cap j y0 y2 : Nat} {xss yss : List (List α)} (F : Fr a N L D) (T : ET P t el Kval.sz bytes zz) (hx : ev L x = some (.slice A xss.length cap)) (hy : ev L y = some (.slice B yss.length cap2)) (h1 : SP e j y0 c w A cap xss 0) (h2 : SP e j2 y2 c w B cap2 yss 0) (hb : (xss.length + yss.length) * bytes ≤ 140737488355328) (hm : xss.length + yss.length ≤ maxLen) (hj : 0 < j) (hyj : y0 ≠ j) (hy2j : y2 ≠ j) (hne : y2 ≠ y0) :
  ∃ v w', (execOp a.eval { dst := d, op := .call { callee := .builtin .append, args := #[x, y], argTypes := #[t, t] }, type := ty, pos := pos, after := af, guard := gd }).run P w = .ok (.value v) w' ∧
   ∃ c1 A' C', v = .slice A' (xss ++ yss).length C' ∧ Ev (fun x => x = j) c w c1 w' ∧ (∀ m, CB m c w → j < m → CB m c1 w') ∧ ∃ c2, (∀ b, c1 b ≠ y2 → c2 b = c1 b) ∧ (∀ b, c2 b = c1 b ∨ c2 b = y0) ∧ SP e j y0 c2 w' A' C' (xss ++ yss) 0 := by
 obtain ⟨Hs, l1, g1, g2⟩ := h1.open
 obtain ⟨Hs2, l2, k1, k2⟩ := h2.open
 rw [← l1] at hx hb hm
 rw [← l2] at hy hb hm
 obtain ⟨v, w', hr, c1, A', C', rfl, E, hS, hB⟩ := e_append (d := d) (ty := ty) (pos := pos) (af := af) (gd := gd) F T hx hy g1 k1 hb hm (by omega)
 have hy2 := k2.1
 have n0 : ¬ (0 : Nat) = j := by omega
 have q1 := GRh.ev g2 E hyj n0
 have q2 := GRh.ev k2 E hy2j n0
 have q3 := GR.append q1 q2 hne
 refine ⟨_, w', hr, c1, A', C', by rw [List.length_append, List.length_append, l1, l2], E, hB, fun b => if c1 b = y2 then y0 else c1 b, fun b hb => if_neg hb, fun b => ?_, ?_⟩
 ·by_cases h : c1 b = y2
  ·exact .inr (if_pos h)
  ·exact .inl (if_neg h)
 ·rw [← List.map_append] at q3
  refine SP.mk (hS.rc (fun k hk => ?_) (fun k hk => ?_)) q3
  ·show (if c1 k = y2 then y0 else c1 k) = j
   rw [if_neg (by rw [hk]; exact fun q => hy2j q.symm)]; exact hk
  ·show (if c1 k = y2 then y0 else c1 k) = 0
   rw [if_neg (by omega)]; exact hk
/-- going on with a list: what it came of stays as it is -/
theorem e_appendT (F : Fr a N L D) (T : ET P t el e.sz bytes zz) (hx : ev L x = some (.slice A ys.length C)) (hy : ev L y = some (.slice B vs.length cap2)) (h1 : TW e z c w A0 C0 xs A C ys) (h2 : SL own2 e j2 0 c w B cap2 vs) (hb : (ys.length + vs.length) * bytes ≤ 140737488355328) (hm : ys.length + vs.length ≤ maxLen) (hz : 0 < z) :
  ∃ v w', (execOp a.eval { dst := d, op := .call { callee := .builtin .append, args := #[x, y], argTypes := #[t, t] }, type := ty, pos := pos, after := af, guard := gd }).run P w = .ok (.value v) w' ∧
   ∃ c1 A' C', v = .slice A' (ys ++ vs).length C' ∧ Ev (fun x => x = z) c w c1 w' ∧ (∀ m, CB m c w → z < m → CB m c1 w') ∧ ∃ c2, (∀ b, c1 b ≠ z → c2 b = c1 b) ∧ (∀ b, c2 b = c1 b ∨ c2 b = 0) ∧ TW e z c2 w' A0 C0 xs A' C' (ys ++ vs) := by
 obtain ⟨A', cap', w1, hr, c1, E, hS, hB, hT⟩ := run_appendT (ty := ty) T h1.1 h2 hb hm (by omega)
 refine ⟨_, w1, by simp [execOp, resolve, invoke, builtin, F.ev hx, F.ev hy, hr], c1, A', cap', rfl, E, hB, ?_⟩
 rcases hT with ⟨rfl, rfl⟩ | ⟨EN, hsz, q, rfl, hq⟩
 ·refine ⟨c1, fun _ _ => rfl, fun _ => .inl rfl, hS, h1.2.imp (fun ⟨g1, g2, g3, g4⟩ => ⟨g1, g2, by rw [List.length_append]; omega, ?_⟩) fun g => g.ev E (by show ¬ (0 = z); omega) (by show ¬ (0 = z); omega)⟩
  rw [List.take_append_of_le_length g3, g4]
 ·let c2 : Nat → Nat := fun b => if b < w.heap.size ∧ c1 b = z then 0 else c1 b
  have ho : ∀ b, c1 b ≠ z → c2 b = c1 b := fun b hb => if_neg fun q => hb q.2
  have h00 : ∀ b, c1 b = 0 → c2 b = 0 := fun b hb => (ho b (by rw [hb]; omega)).trans hb
  refine ⟨c2, ho, fun b => ?_, ?_, .inr ?_⟩
  ·by_cases h : b < w.heap.size ∧ c1 b = z
   ·exact .inr (if_pos h)
   ·exact .inl (if_neg h)
  ·obtain ⟨cs, a1, a2, a3, a4, a5⟩ := hS
   refine ⟨cs, a1, a2, a3, a4.imp id ?_, fun n hn => e.rc (a5 n hn) h00⟩
   rintro ⟨ad, e1, b, off, cur, tt, fz, e2, b1, b2, b3, b4⟩
   obtain rfl := Option.some.inj e1
   subst e2
   have hbz : b = w.heap.size := hq
   exact ⟨_, rfl, b, off, cur, tt, fz, rfl, b1, (if_neg fun q => by omega : c2 b = c1 b).trans b2, b3, b4⟩
  ·rcases h1.2 with ⟨rfl, rfl, g3, g4⟩ | g
   ·rw [← g4]
    refine SL.takeL ?_ g3
    obtain ⟨cs, a1, a2, a3, a4, a5⟩ := h1.1
    refine ⟨cs, a1, a2, a3, a4.imp id ?_, fun n hn => e.rc (e.ev (a5 n hn) EN (fun q => q)) h00⟩
    rintro ⟨ad, rfl, hat⟩
    refine ⟨ad, rfl, ?_⟩
    have hat1 := hat.ev EN (fun q => q)
    obtain ⟨b, off, cur, tt, fz, rfl, b1, b2, b3, b4⟩ := hat
    obtain ⟨b', off', cur', tt', fz', e2, d1, d2, d3, d4⟩ := hat1
    have hbb : b' = b := by injection e2 with e3; exact e3.symm
    have hoo : off' = off := by injection e2 with _ e3; exact e3.symm
    subst hbb hoo
    exact ⟨b', off', cur', tt', fz', rfl, d1, if_pos ⟨lt_of_get b1, d2⟩, d3, fun q => by cases q⟩
   ·exact (g.ev EN (fun q => q) (fun q => q)).rc h00 h00
end
end Go.Proofs.Ytchmknacofaepaa.G
/-! What has turned, where a call is handed memory that nobody asks for behind it: its colours are free. -/
namespace Go.Proofs.Ytchmknacofaepaa.G
open Go Go.RowKit
set_option linter.unusedVariables false
structure EvW (S : Nat → Prop) (m : Nat) (c0 : Nat → Nat) (w0 : World) (c : Nat → Nat) (w : World) : Prop where
 os : w.os = w0.os
 tape : w.tape = w0.tape
 out : w.output = w0.output
 size : w0.heap.size ≤ w.heap.size
 col : ∀ k, k < w0.heap.size → ¬ S (c0 k) → c k = c0 k
 blk : ∀ k, k < w0.heap.size → ¬ S (c0 k) → ¬ m ≤ c0 k → w.heap[k]? = w0.heap[k]?
section
variable {S M : Nat → Prop} {m : Nat} {c0 c c' : Nat → Nat} {w0 w w' : World}
theorem EvW.refl : EvW S m c0 w0 c0 w0 := ⟨rfl, rfl, rfl, Nat.le_refl _, fun _ _ _ => rfl, fun _ _ _ _ => rfl⟩
theorem EvW.trans (h : EvW S m c0 w0 c w) (h2 : Ev M c w c' w') (hM : ∀ k, M k → S k ∨ m ≤ k) : EvW S m c0 w0 c' w' :=
  ⟨h2.os.trans h.os, h2.tape.trans h.tape, h2.out.trans h.out, Nat.le_trans h.size h2.size, fun k hk hs => (h2.col k (Nat.lt_of_lt_of_le hk h.size)).trans (h.col k hk hs),
   fun k hk hs hm => (h2.blk k (Nat.lt_of_lt_of_le hk h.size) (by rw [h.col k hk hs]; exact fun q => (hM _ q).elim hs hm)).trans (h.blk k hk hs hm)⟩
theorem EvW.n (h : EvW S m c0 w0 c w) (h2 : Ev No c w c' w') : EvW S m c0 w0 c' w' := h.trans h2 (fun _ q => q.elim)
theorem EvW.rk {z : Nat} (h : EvW S m c0 w0 c w) (hB : CB m c0 w0) (e : ∀ b, c b ≠ z → c' b = c b) (hz : m ≤ z ∨ S z := by first | exact Or.inl (by omega) | exact Or.inr (by simp)) : EvW S m c0 w0 c' w :=
 ⟨h.os, h.tape, h.out, h.size, fun k hk hs => by
  have e1 := h.col k hk hs
  rw [e k (fun q => by
   rcases hz with g | g
   ·have := hB k hk; omega
   ·rw [e1] at q; rw [q] at hs; exact hs g), e1], h.blk⟩
theorem EvW.freeze {x : Nat} (h : EvW S m c0 w0 c w) (hB : CB m c0 w0) (hx : m ≤ x) : EvW S m c0 w0 (fun k => if c k = x then 0 else c k) w :=
 ⟨h.os, h.tape, h.out, h.size, fun k hk hs => by
  have e1 := h.col k hk hs
  have := hB k hk
  show (if c k = x then 0 else c k) = c0 k
  rw [if_neg (by omega), e1], h.blk⟩
def mkW (c0 : Nat → Nat) (w0 : World) : Nat → Nat := fun k => if k < w0.heap.size then c0 k else 0
theorem EvW.lv (h : EvW S m c0 w0 c w) (hB : CB m c0 w0) : Ev S c0 w0 (mkW c0 w0) w :=
 ⟨h.os, h.tape, h.out, h.size, fun k hk => if_pos hk, fun k hk hs => h.blk k hk hs (by have := hB k hk; omega)⟩
theorem cbW (hB : CB m c0 w0) (hm : 0 < m) : CB m (mkW c0 w0) w := fun k _ => by
 unfold mkW; split
 ·exact hB k (by assumption)
 ·exact hm
end
end Go.Proofs.Ytchmknacofaepaa.G
namespace Go.Proofs.Ytchmknacofaepaa.G
open Go Go.RowKit
set_option linter.unusedVariables false
set_option linter.unusedSimpArgs false
abbrev AGA (t : TypeId) (b : Bool) : Prop := ∀ w, (isAgg t).run Try.prog w = .ok b w
abbrev SZA (t : TypeId) (n : Nat) : Prop := ∀ w, (sizeOf t).run Try.prog w = .ok n w
abbrev FFA (t : TypeId) (f off : Nat) : Prop := ∀ q w, (Instr.fieldAt t (.pointer (some q)) f).run Try.prog w = .ok (.pointer (some (q.add off))) w
theorem Try_hm : Try.prog.follows .mixedOrders = true := by kernel_rfl
theorem sz_3 : SZA 3 1 := fun _ => by kernel_rfl
theorem ag_3 : AGA 3 false := fun _ => by kernel_rfl
theorem sz_25 : SZA 25 1 := fun _ => by kernel_rfl
theorem ag_25 : AGA 25 false := fun _ => by kernel_rfl
theorem et_25 : ET Try.prog 25 3 1 8 (.int .i64 0) := ⟨Try.underlying25, info_parts' (by kernel_rfl), rfl⟩
theorem et_45 : ET Try.prog 45 25 1 24 (.slice none 0 0) := ⟨Try.underlying45, info_parts' (by kernel_rfl), rfl⟩
end Go.Proofs.Ytchmknacofaepaa.G
namespace Go.Proofs.Ytchmknacofaepaa.G
open Go Go.RowKit
set_option linter.unusedVariables false
set_option linter.unusedSimpArgs false
set_option maxRecDepth 100000
set_option maxHeartbeats 40000000
theorem haulagelaw03_apart.calls (k : Nat) {m : Nat} {c0 : Nat → Nat} {w0 : World} {j5 : Nat} {j6 : Nat} {A2 : Option Addr} {C3 : Nat} {a1 : List (List Int)} (hm0 : 0 < m) (B0 : CB m c0 w0) (h4 : SP (Kint .i64) j5 j6 c0 w0 A2 C3 a1 0) (bj5 : 0 < j5 ∧ j5 < m) (bj6 : 0 < j6 ∧ j6 < m ∧ j6 ≠ j5) (r : Bool) (H : haulagelaw03_apart.f k a1 = some r) : Calls Try.prog 32 #[.slice A2 a1.length C3] w0 (fun e w_ => ∃ (c_ : Nat → Nat), e = .returned (.bool r) ∧ Ev (fun x => (x = j5 ∨ x = j6)) c0 w0 c_ w_ ∧ CB m c_ w_) := by
 unfold haulagelaw03_apart.f at H; have B := B0.mono (show m ≤ m + 4 by omega); have E : EvW (fun x => x = j5 ∨ x = j6) m c0 w0 c0 w0 := EvW.refl; refine enter (N := 113) (l := [.slice A2 a1.length C3]) Try.func32 rfl rfl (nb rfl) fun a F => ?_; refine sr fun K7 hK7 => qa F fun a F => nil (hK7 _ _ ?_); refine sq fun K8 hK8 => ?_; refine sr fun K9 hK9 => qa F fun a F => nil (hK9 _ _ ?_); refine wp_block ?_; obtain ⟨x166, HL, HR165⟩ := bind_some H; have J307 : ∀ (c308 : Nat → Nat) (w309 : World) (a : Act) (l304 : List (List Int)) (A305 : Option Addr) (C306 : Nat), Fr a 113 [(0, .slice A305 l304.length C306)] → EvW (fun x => x = j5 ∨ x = j6) m c0 w0 c308 w309 → CB (m + 4) c308 w309 → SP (Kint .i64) j5 j6 c308 w309 A305 C306 l304 0 → haulagelaw03_apart.j6 k l304 = some r → K8 a w309 := by
  intro c308 w309 a l304 A305 C306 F E B h303 H; unfold haulagelaw03_apart.j6 at H; refine hK8 _ _ ?_; refine sr fun K310 hK310 => qa F fun a F => nil (hK310 _ _ ?_); refine sq fun K311 hK311 => ?_; refine sr fun K312 hK312 => qa F fun a F => nil (hK312 _ _ ?_); refine wp_block ?_; obtain ⟨x425, HL, HR424⟩ := bind_some H; have J520 : ∀ (c521 : Nat → Nat) (w522 : World) (a : Act) (l517 : List (List Int)) (A518 : Option Addr) (C519 : Nat), Fr a 113 [(0, .slice A305 l304.length C306), (5, .slice A518 l517.length C519)] → EvW (fun x => x = j5 ∨ x = j6) m c0 w0 c521 w522 → CB (m + 4) c521 w522 → SL true (Kslice (Kint .i64)) j5 0 c521 w522 A305 C306 l304 → SL true (Kslice (Kint .i64)) (m + 3) 0 c521 w522 A518 C519 l517 → haulagelaw03_apart.j12 k l304 l517 = some r → K311 a w522 := by
   intro c521 w522 a l517 A518 C519 F E B h303 h516 H; unfold haulagelaw03_apart.j12 at H
   as_aux_lemma =>
   refine hK311 _ _ ?_; refine sq fun K523 hK523 => ?_; refine sr fun K524 hK524 => qa F fun a F => nil (hK524 _ _ ?_); refine wp_block ?_; obtain ⟨x535, HL, HR534⟩ := bind_some H; have J638 : ∀ (c639 : Nat → Nat) (w640 : World) (a : Act), Fr a 113 [] → EvW (fun x => x = j5 ∨ x = j6) m c0 w0 c639 w640 → CB (m + 4) c639 w640 → haulagelaw03_apart.j18 = some r → K523 a w640 := by
    intro c639 w640 a  F E B  H; unfold haulagelaw03_apart.j18 at H; refine hK523 _ _ ?_; refine sr fun K641 hK641 => qa F fun a F => nil (hK641 _ _ ?_); refine wp_ret ?_; obtain rfl := si H; refine out1 F rfl rfl ?_; exact ⟨mkW c0 w0, rfl, E.lv B0, cbW B0 hm0⟩
   refine loop_fuel (I := fun n a w => ∃ (i525 : Int) (c : Nat → Nat), Fr a 113 [(0, .slice A305 l304.length C306), (5, .slice A518 l517.length C519), (9, .int .i64 i525)] ∧ EvW (fun x => x = j5 ∨ x = j6) m c0 w0 c w ∧ CB (m + 4) c w ∧ SL true (Kslice (Kint .i64)) j5 0 c w A305 C306 l304 ∧ SL true (Kslice (Kint .i64)) (m + 3) 0 c w A518 C519 l517 ∧ loop (fun (s_ : Int) => haulagelaw03_apart.b17 k l304 l517 s_) n i525 = some x535) (k := k) ⟨0, c521, F.sub ⟨rfl, rfl, rfl, trivial⟩, E, B, h303, h516, HL⟩ ?_; clear HL H E F B; intro n532 X528 hX528 a w527 ⟨i525, c526, F, E, B, h303, h516, HL⟩; obtain ⟨n533, ctl531, rfl, HB, HN529, HD530⟩ := loop_some HL; have H : haulagelaw03_apart.b17 k l304 l517 i525 = some ctl531 := HB; clear HB HL; unfold haulagelaw03_apart.b17 at H; refine sq fun K536 hK536 => ?_
   as_aux_lemma =>
   refine sr fun K537 hK537 => qm F fun a F => qm F fun a F => ?_; refine qv F (r_lensl F Try.underlying45 rfl) fun a F => ?_; refine qv F (r_lss F rfl rfl) fun a F => ?_; refine nil (hK537 _ _ ?_)
   by_cases hb538 : i525 < (l304.length : Int)
   ·replace H := ip hb538 H; refine wct (fb F (dt hb538)) (wp_skip (hK536 _ _ ?_)); refine sq fun K539 hK539 => ?_; refine wp_block ?_; refine sr fun K540 hK540 => qm F fun a F => qm F fun a F => ?_; replace H := ifN H; obtain ⟨g541, H⟩ := H; obtain ⟨ad542, cs543, e544, h545, r546⟩ := SL.at h303 i525 g541.1 g541.2; obtain ⟨A547, C548, rfl, h549⟩ := r546; obtain ⟨qa550, qqa550⟩ : ∃ q, q = (ad542.add (i525.toNat * 1)) := ⟨_, rfl⟩; have h545 : AT true j5 c526 w527 qa550 [.slice A547 (rd l304 i525).length C548] := by rw [qqa550]; exact h545
    refine qv F (r_indexAddr' F Try.underlying45 sz_25 rfl rfl g541.1 g541.2 e544 qqa550) fun a F => ?_; refine qv F (r_load F rfl ag_25 (AT.cell0 h545 rfl)) fun a F => ?_; refine qv F (r_lensl F Try.underlying25 rfl) fun a F => ?_; refine qa F fun a F => nil (hK540 _ _ ?_); replace F : Fr a 113 [(0, .slice A305 l304.length C306), (5, .slice A518 l517.length C519), (9, .int .i64 i525), (10, .int .i64 ((rd l304 i525).length : Int))] := F.sub ⟨rfl, rfl, rfl, rfl, trivial⟩; refine sq fun K552 hK552 => ?_; refine sr fun K553 hK553 => qa F fun a F => nil (hK553 _ _ ?_)
    as_aux_lemma =>
    refine wp_block ?_; obtain ⟨x564, HL, HR563⟩ := bind_some H; have J592 : ∀ (c593 : Nat → Nat) (w594 : World) (a : Act), Fr a 113 [(0, .slice A305 l304.length C306), (5, .slice A518 l517.length C519), (9, .int .i64 i525), (10, .int .i64 ((rd l304 i525).length : Int))] → EvW (fun x => x = j5 ∨ x = j6) m c0 w0 c593 w594 → CB (m + 4) c593 w594 → SL true (Kslice (Kint .i64)) j5 0 c593 w594 A305 C306 l304 → SL true (Kslice (Kint .i64)) (m + 3) 0 c593 w594 A518 C519 l517 → haulagelaw03_apart.j14 k l304 l517 i525 = some ctl531 → K552 a w594 := by
     intro c593 w594 a  F E B h303 h516 H; unfold haulagelaw03_apart.j14 at H; refine hK552 _ _ ?_; refine sr fun K595 hK595 => qa F fun a F => nil (hK595 _ _ ?_); refine wp_block ?_; obtain ⟨x606, HL, HR605⟩ := bind_some H; have J634 : ∀ (c635 : Nat → Nat) (w636 : World) (a : Act), Fr a 113 [(0, .slice A305 l304.length C306), (5, .slice A518 l517.length C519), (9, .int .i64 i525)] → EvW (fun x => x = j5 ∨ x = j6) m c0 w0 c635 w636 → CB (m + 4) c635 w636 → SL true (Kslice (Kint .i64)) j5 0 c635 w636 A305 C306 l304 → SL true (Kslice (Kint .i64)) (m + 3) 0 c635 w636 A518 C519 l517 → haulagelaw03_apart.j16 i525 = some ctl531 → K539 a w636 := by
      intro c635 w636 a  F E B h303 h516 H; unfold haulagelaw03_apart.j16 at H; refine hK539 _ _ ?_; refine reg ?_; refine qm F fun a F => ?_; refine qv F (r_add F rfl rfl) fun a F => ?_; refine qa F fun a F => nil ?_; replace H := HN529 _ (si H).symm; exact hX528 _ _ _ (Nat.lt_succ_self _) ⟨(IntKind.i64.wrap (i525 + 1)), c635, F.sub ⟨rfl, rfl, rfl, trivial⟩, E, B, h303, h516, H⟩
     refine loop_fuel (I := fun n a w => ∃ (i596 : Int) (c : Nat → Nat), Fr a 113 [(0, .slice A305 l304.length C306), (5, .slice A518 l517.length C519), (9, .int .i64 i525), (10, .int .i64 ((rd l304 i525).length : Int)), (12, .int .i64 i596)] ∧ EvW (fun x => x = j5 ∨ x = j6) m c0 w0 c w ∧ CB (m + 4) c w ∧ SL true (Kslice (Kint .i64)) j5 0 c w A305 C306 l304 ∧ SL true (Kslice (Kint .i64)) (m + 3) 0 c w A518 C519 l517 ∧ loop (fun (s_ : Int) => haulagelaw03_apart.b15 l304 l517 i525 s_) n i596 = some x606) (k := k) ⟨0, c593, F.sub ⟨rfl, rfl, rfl, rfl, rfl, trivial⟩, E, B, h303, h516, HL⟩ ?_; clear HL H E F B; intro n603 X599 hX599 a w598 ⟨i596, c597, F, E, B, h303, h516, HL⟩; obtain ⟨n604, ctl602, rfl, HB, HN600, HD601⟩ := loop_some HL; have H : haulagelaw03_apart.b15 l304 l517 i525 i596 = some ctl602 := HB; clear HB HL; unfold haulagelaw03_apart.b15 at H
     as_aux_lemma =>
     refine sq fun K607 hK607 => ?_; refine sr fun K608 hK608 => qm F fun a F => ?_; refine qv F (r_lss F rfl rfl) fun a F => ?_; refine nil (hK608 _ _ ?_)
     by_cases hb609 : i596 < 80
     ·replace H := ip hb609 H; refine wct (fb F (dt hb609)) (wp_skip (hK607 _ _ ?_)); refine sq fun K610 hK610 => ?_; refine wp_block ?_; refine sr fun K611 hK611 => qm F fun a F => qm F fun a F => ?_; replace H := ifN H; obtain ⟨g612, H⟩ := H; obtain ⟨ad613, cs614, e615, h616, r617⟩ := SL.at h516 i525 g612.1 g612.2; obtain ⟨A618, C619, rfl, h620⟩ := r617; replace h620 := SL.fl (i' := 0) h620 (fun q => q); obtain ⟨qa621, qqa621⟩ : ∃ q, q = (ad613.add (i525.toNat * 1)) := ⟨_, rfl⟩; have h616 : AT true (m + 3) c597 w598 qa621 [.slice A618 (rd l517 i525).length C619] := by rw [qqa621]; exact h616
      refine qv F (r_indexAddr' F Try.underlying45 sz_25 rfl rfl g612.1 g612.2 e615 qqa621) fun a F => ?_; refine qv F (r_load F rfl ag_25 (AT.cell0 h616 rfl)) fun a F => ?_; refine qm F fun a F => qm F fun a F => ?_; refine qv F (r_add F rfl rfl) fun a F => ?_; replace H := ifN H; obtain ⟨g623, H⟩ := H; obtain ⟨ad624, cs625, e626, h627, r628⟩ := SL.at h620 (IntKind.i64.wrap (((rd l304 i525).length : Int) + i596)) g623.1 g623.2; obtain rfl : cs625 = [.int .i64 (rd (rd l517 i525) (IntKind.i64.wrap (((rd l304 i525).length : Int) + i596)))] := r628; obtain ⟨qa629, qqa629⟩ : ∃ q, q = (ad624.add ((IntKind.i64.wrap (((rd l304 i525).length : Int) + i596)).toNat * 1)) := ⟨_, rfl⟩; have h627 : AT false 0 c597 w598 qa629 [.int .i64 (rd (rd l517 i525) (IntKind.i64.wrap (((rd l304 i525).length : Int) + i596)))] := by rw [qqa629]; exact h627
      as_aux_lemma =>
      refine qv F (r_indexAddr' F Try.underlying25 sz_3 rfl rfl g623.1 g623.2 e626 qqa629) fun a F => ?_; refine qv F (r_load F rfl ag_3 (AT.cell0 h627 rfl)) fun a F => ?_; refine qm F fun a F => ?_; refine qv F (r_mul F rfl rfl) fun a F => ?_; refine qm F fun a F => ?_; refine qv F (r_add F rfl rfl) fun a F => ?_; refine qv F (r_add F rfl rfl) fun a F => ?_; refine qv F (r_neq F rfl rfl) fun a F => ?_; refine nil (hK611 _ _ ?_); replace F : Fr a 113 [(0, .slice A305 l304.length C306), (5, .slice A518 l517.length C519), (9, .int .i64 i525), (10, .int .i64 ((rd l304 i525).length : Int)), (12, .int .i64 i596), (112, .bool (!decide ((rd (rd l517 i525) (IntKind.i64.wrap (((rd l304 i525).length : Int) + i596))) = (IntKind.i64.wrap ((IntKind.i64.wrap ((IntKind.i64.wrap (1000000 * i525)) + i596)) + 7)))))] := F.sub ⟨rfl, rfl, rfl, rfl, rfl, rfl, trivial⟩
      by_cases hb631 : (rd (rd l517 i525) (IntKind.i64.wrap (((rd l304 i525).length : Int) + i596))) = (IntKind.i64.wrap ((IntKind.i64.wrap ((IntKind.i64.wrap (1000000 * i525)) + i596)) + 7))
      ·replace H := ip hb631 H; refine wcf (fb F (congrArg not (dt hb631))) (wp_skip (hK610 _ _ ?_)); refine reg ?_; refine qm F fun a F => ?_; refine qv F (r_add F rfl rfl) fun a F => ?_; refine qa F fun a F => nil ?_; replace H := HN600 _ (si H).symm; exact hX599 _ _ _ (Nat.lt_succ_self _) ⟨(IntKind.i64.wrap (i596 + 1)), c597, F.sub ⟨rfl, rfl, rfl, rfl, rfl, trivial⟩, E, B, h303, h516, H⟩
      replace H := im hb631 H; refine wct (fb F (congrArg not (dz hb631))) ?_; refine sr fun K632 hK632 => qa F fun a F => nil (hK632 _ _ ?_); refine wp_ret ?_
      as_aux_lemma =>
      refine inbR ?_; refine thenR ?_; refine thenR ?_; refine inbR ?_; refine inbR ?_; refine thenR ?_; refine thenR ?_; refine inbR ?_; refine thenR ?_; have hx_ := HD601 _ (si H).symm; have H := HR605; rw [← hx_] at H; replace H : some (.done (.inr false)) = some ctl531 := H; have hx_ := HD530 _ (si H).symm; have H := HR534; rw [← hx_] at H; replace H : some false = some r := H; obtain rfl := si H; refine out1 F rfl rfl ?_; exact ⟨mkW c0 w0, rfl, E.lv B0, cbW B0 hm0⟩
     replace H := im hb609 H; refine wcf (fb F (dz hb609)) ?_
     as_aux_lemma =>
     refine wp_exit ?_; refine thenE ?_; refine thenE ?_; refine inbE ?_; have hx_ := HD601 _ (si H).symm; have H := HR605; rw [← hx_] at H; exact J634 c597 w598 a  (F.sub ⟨rfl, rfl, rfl, trivial⟩) E B h303 h516 H
    refine loop_fuel (I := fun n a w => ∃ (i554 : Int) (c : Nat → Nat), Fr a 113 [(0, .slice A305 l304.length C306), (5, .slice A518 l517.length C519), (9, .int .i64 i525), (10, .int .i64 ((rd l304 i525).length : Int)), (11, .int .i64 i554)] ∧ EvW (fun x => x = j5 ∨ x = j6) m c0 w0 c w ∧ CB (m + 4) c w ∧ SL true (Kslice (Kint .i64)) j5 0 c w A305 C306 l304 ∧ SL true (Kslice (Kint .i64)) (m + 3) 0 c w A518 C519 l517 ∧ loop (fun (s_ : Int) => haulagelaw03_apart.b13 l304 i525 s_) n i554 = some x564) (k := k) ⟨0, c526, F.sub ⟨rfl, rfl, rfl, rfl, rfl, trivial⟩, E, B, h303, h516, HL⟩ ?_; clear HL H E F B; intro n561 X557 hX557 a w556 ⟨i554, c555, F, E, B, h303, h516, HL⟩; obtain ⟨n562, ctl560, rfl, HB, HN558, HD559⟩ := loop_some HL; have H : haulagelaw03_apart.b13 l304 i525 i554 = some ctl560 := HB; clear HB HL; unfold haulagelaw03_apart.b13 at H; refine sq fun K565 hK565 => ?_; refine sr fun K566 hK566 => qm F fun a F => qm F fun a F => ?_; refine qv F (r_lss F rfl rfl) fun a F => ?_; refine nil (hK566 _ _ ?_)
    by_cases hb567 : i554 < ((rd l304 i525).length : Int)
    ·replace H := ip hb567 H; refine wct (fb F (dt hb567)) (wp_skip (hK565 _ _ ?_)); refine sq fun K568 hK568 => ?_
     as_aux_lemma =>
     refine wp_block ?_; refine sr fun K569 hK569 => qm F fun a F => qm F fun a F => ?_; replace H := ifN H; obtain ⟨g570, H⟩ := H; obtain ⟨ad571, cs572, e573, h574, r575⟩ := SL.at h303 i525 g570.1 g570.2; obtain ⟨A576, C577, rfl, h578⟩ := r575; replace h578 := SL.fl (i' := 0) h578 (fun q => q); obtain ⟨qa579, qqa579⟩ : ∃ q, q = (ad571.add (i525.toNat * 1)) := ⟨_, rfl⟩; have h574 : AT true j5 c555 w556 qa579 [.slice A576 (rd l304 i525).length C577] := by rw [qqa579]; exact h574
     refine qv F (r_indexAddr' F Try.underlying45 sz_25 rfl rfl g570.1 g570.2 e573 qqa579) fun a F => ?_; refine qv F (r_load F rfl ag_25 (AT.cell0 h574 rfl)) fun a F => ?_; refine qm F fun a F => ?_; replace H := ifN H; obtain ⟨g581, H⟩ := H; obtain ⟨ad582, cs583, e584, h585, r586⟩ := SL.at h578 i554 g581.1 g581.2; obtain rfl : cs583 = [.int .i64 (rd (rd l304 i525) i554)] := r586; obtain ⟨qa587, qqa587⟩ : ∃ q, q = (ad582.add (i554.toNat * 1)) := ⟨_, rfl⟩; have h585 : AT false 0 c555 w556 qa587 [.int .i64 (rd (rd l304 i525) i554)] := by rw [qqa587]; exact h585
     refine qv F (r_indexAddr' F Try.underlying25 sz_3 rfl rfl g581.1 g581.2 e584 qqa587) fun a F => ?_; refine qv F (r_load F rfl ag_3 (AT.cell0 h585 rfl)) fun a F => ?_; refine qm F fun a F => ?_; refine qv F (r_mul F rfl rfl) fun a F => ?_
     as_aux_lemma =>
     refine qm F fun a F => ?_; refine qv F (r_sub F rfl rfl) fun a F => ?_; refine qv F (r_sub F rfl rfl) fun a F => ?_; refine qv F (r_neq F rfl rfl) fun a F => ?_; refine nil (hK569 _ _ ?_); replace F : Fr a 113 [(0, .slice A305 l304.length C306), (5, .slice A518 l517.length C519), (9, .int .i64 i525), (10, .int .i64 ((rd l304 i525).length : Int)), (11, .int .i64 i554), (93, .bool (!decide ((rd (rd l304 i525) i554) = (IntKind.i64.wrap ((IntKind.i64.wrap ((IntKind.i64.wrap ((-1000000) * i525)) - i554)) - 1)))))] := F.sub ⟨rfl, rfl, rfl, rfl, rfl, rfl, trivial⟩
     by_cases hb589 : (rd (rd l304 i525) i554) = (IntKind.i64.wrap ((IntKind.i64.wrap ((IntKind.i64.wrap ((-1000000) * i525)) - i554)) - 1))
     ·replace H := ip hb589 H; refine wcf (fb F (congrArg not (dt hb589))) (wp_skip (hK568 _ _ ?_)); refine reg ?_; refine qm F fun a F => ?_; refine qv F (r_add F rfl rfl) fun a F => ?_; refine qa F fun a F => nil ?_; replace H := HN558 _ (si H).symm; exact hX557 _ _ _ (Nat.lt_succ_self _) ⟨(IntKind.i64.wrap (i554 + 1)), c555, F.sub ⟨rfl, rfl, rfl, rfl, rfl, trivial⟩, E, B, h303, h516, H⟩
     replace H := im hb589 H; refine wct (fb F (congrArg not (dz hb589))) ?_; refine sr fun K590 hK590 => qa F fun a F => nil (hK590 _ _ ?_); refine wp_ret ?_; refine inbR ?_; refine thenR ?_; refine thenR ?_; refine inbR ?_
     as_aux_lemma =>
     refine thenR ?_; refine inbR ?_; refine thenR ?_; refine thenR ?_; refine inbR ?_; refine thenR ?_; have hx_ := HD559 _ (si H).symm; have H := HR563; rw [← hx_] at H; replace H : some (.done (.inr false)) = some ctl531 := H; have hx_ := HD530 _ (si H).symm; have H := HR534; rw [← hx_] at H; replace H : some false = some r := H; obtain rfl := si H; refine out1 F rfl rfl ?_; exact ⟨mkW c0 w0, rfl, E.lv B0, cbW B0 hm0⟩
    replace H := im hb567 H; refine wcf (fb F (dz hb567)) ?_; refine wp_exit ?_; refine thenE ?_; refine thenE ?_
    as_aux_lemma =>
    refine inbE ?_; have hx_ := HD559 _ (si H).symm; have H := HR563; rw [← hx_] at H; exact J592 c555 w556 a  (F.sub ⟨rfl, rfl, rfl, rfl, trivial⟩) E B h303 h516 H
   replace H := im hb538 H; refine wcf (fb F (dz hb538)) ?_; refine wp_exit ?_; refine thenE ?_; refine thenE ?_; refine inbE ?_; have hx_ := HD530 _ (si H).symm; have H := HR534; rw [← hx_] at H; exact J638 c526 w527 a  (F.sub trivial) E B  H
  refine loop_fuel (I := fun n a w => ∃ (l411 : List (List Int)) (A412 : Option Addr) (C413 : Nat) (i415 : Int) (c : Nat → Nat), Fr a 113 [(0, .slice A305 l304.length C306), (5, .slice A412 l411.length C413), (6, .int .i64 i415)] ∧ EvW (fun x => x = j5 ∨ x = j6) m c0 w0 c w ∧ CB (m + 4) c w ∧ SP (Kint .i64) j5 j6 c w A305 C306 l304 i415.toNat ∧ SL true (Kslice (Kint .i64)) (m + 3) 0 c w A412 C413 l411 ∧ loop (fun (s_ : (List (List Int)) × Int) => haulagelaw03_apart.b11 k l304 s_.1 s_.2) n (l411, i415) = some x425) (k := k) ⟨[], none, 0, 0, c308, F.sub ⟨rfl, rfl, rfl, trivial⟩, E, B, h303, SL.nil, HL⟩ ?_; clear HL H E F B; intro n422 X418 hX418 a w417 ⟨l411, A412, C413, i415, c416, F, E, B, h303, h414, HL⟩; obtain ⟨n423, ctl421, rfl, HB, HN419, HD420⟩ := loop_some HL; have H : haulagelaw03_apart.b11 k l304 l411 i415 = some ctl421 := HB; clear HB HL; unfold haulagelaw03_apart.b11 at H
  as_aux_lemma =>
  refine sq fun K426 hK426 => ?_; refine sr fun K427 hK427 => qm F fun a F => qm F fun a F => ?_; refine qv F (r_lensl F Try.underlying45 rfl) fun a F => ?_; refine qv F (r_lss F rfl rfl) fun a F => ?_; refine nil (hK427 _ _ ?_)
  by_cases hb428 : i415 < (l304.length : Int)
  ·replace H := ip hb428 H; refine wct (fb F (dt hb428)) (wp_skip (hK426 _ _ ?_)); refine sq fun K430 hK430 => ?_; refine wp_block ?_; refine sr fun K431 hK431 => qm F fun a F => qm F fun a F => ?_; replace H := ifN H; obtain ⟨g432, H⟩ := H; obtain ⟨c433, e434, e435, ad436, A437, C438, e439, h440, h441, h303⟩ := SP.take (z := m + 2) h303 i415 g432.1 g432.2 rfl ⟨(ne_mp bj6.2.1), (pl hm0)⟩ (Ne.symm bj6.2.2); replace h414 := SL.rc h414 (rk e434 (ne_mp bj6.2.1)) (rk e434 (ne_z bj6.1)); obtain ⟨qa442, qqa442⟩ : ∃ q, q = (ad436.add (i415.toNat * 1)) := ⟨_, rfl⟩; have h440 : AT true j5 c433 w417 qa442 [.slice A437 (rd l304 i415).length C438] := by rw [qqa442]; exact h440
   replace E : EvW (fun x => x = j5 ∨ x = j6) m c0 w0 c433 w417 := E.rk B0 e434; replace B := B.rk e435 lm; refine qv F (r_indexAddr' F Try.underlying45 sz_25 rfl rfl g432.1 g432.2 e439 qqa442) fun a F => ?_; refine qv F (r_load F rfl ag_25 (AT.cell0 h440 rfl)) fun a F => ?_; refine qa F fun a F => nil (hK431 _ _ ?_); replace F : Fr a 113 [(0, .slice A305 l304.length C306), (5, .slice A412 l411.length C413), (6, .int .i64 i415), (7, .slice A437 (rd l304 i415).length C438)] := F.sub ⟨rfl, rfl, rfl, rfl, trivial⟩
   as_aux_lemma =>
   refine sq fun K444 hK444 => ?_; refine sr fun K445 hK445 => qa F fun a F => nil (hK445 _ _ ?_); refine wp_block ?_; obtain ⟨x460, HL, HR459⟩ := bind_some H; have J491 : ∀ (c492 : Nat → Nat) (w493 : World) (a : Act) (l488 : List Int) (A489 : Option Addr) (C490 : Nat), Fr a 113 [(0, .slice A305 l304.length C306), (5, .slice A412 l411.length C413), (6, .int .i64 i415), (7, .slice A489 l488.length C490)] → EvW (fun x => x = j5 ∨ x = j6) m c0 w0 c492 w493 → CB (m + 4) c492 w493 → SPT (Kint .i64) j5 j6 c492 w493 A305 C306 l304 i415.toNat A437 C438 (rd l304 i415) → SL true (Kslice (Kint .i64)) (m + 3) 0 c492 w493 A412 C413 l411 → TW (Kint .i64) (m + 2) c492 w493 A437 C438 (rd l304 i415) A489 C490 l488 → haulagelaw03_apart.j10 l411 i415 l488 = some ctl421 → K444 a w493 := by
    intro c492 w493 a l488 A489 C490 F E B h303 h414 h487 H; unfold haulagelaw03_apart.j10 at H; refine hK444 _ _ ?_; refine reg ?_; refine qm F fun a F => qm F fun a F => ?_; obtain ⟨c494, hc494⟩ : ∃ c', c' = fun k => if c492 k = m + 2 then 0 else c492 k := ⟨_, rfl⟩; have e495 : ∀ b, c492 b ≠ m + 2 → c494 b = c492 b := fun b hb => by rw [hc494]; exact if_neg hb
    replace h303 := SPT.rc h303 (rk e495 (ne_pm bj5.2)) (rk e495 (ne_pm bj6.2.1)) (rk e495 ne_zm) bj6.1; replace h414 := SL.rc h414 (rk e495 mm) (rk e495 ne_zm); obtain ⟨h496, h487⟩ := TW.fr (c' := c494) h487 (fun k_ hk_ => by rw [hc494]; exact if_pos hk_) (rk e495 ne_zm); replace h303 := SP.next (k := i415) (SPT.put h303 h496) g432.1 rfl (by have g_ := g432.2; have g0_ := g432.1; omega); have E : EvW (fun x => x = j5 ∨ x = j6) m c0 w0 c494 w493 := by rw [hc494]; exact E.freeze B0 (by omega)
    have B : CB (m + 4) c494 w493 := by rw [hc494]; exact B.freeze (by omega)
    refine q_eff F rfl rfl (by decide) (e_buildSlice (n := 1) (e := 25) (c := c494) (k := (Kslice (Kint .i64))) (i := 0) F [(0, .slice A489 l488.length C490)] [.slice A489 l488.length C490] ([l488] : List (List Int)) (by exact ⟨rfl, rfl, trivial⟩) (fun w => by kernel_rfl) rfl (by decide) rfl ⟨⟨A489, C490, rfl, (SL.fl h487 (fun q => q))⟩, trivial⟩ (fun q => q) 0) ?_; rintro v w498 a ⟨c497, A499, C500, rfl, E501, h502, B503⟩ F; replace B := B503 _ B (pl hm0); replace h303 := h303.ev E501
    as_aux_lemma =>
    replace h414 := h414.ev E501; replace E := E.n E501; replace H := ifN H; obtain ⟨g403, H⟩ := H; refine q_eff F rfl rfl (by decide) (e_append (k := (Kslice (Kint .i64))) (xs := l411) (ys := [l488]) (c := c497) (j := (m + 3)) (i := 0) F et_45 rfl rfl h414 h502 g403 (len_ok g403) ne_zm) ?_; rintro v w505 a ⟨c504, A506, C507, rfl, E508, h509, B510⟩ F; replace B := B510 _ B lm; replace h303 := h303.ev E508 (ne_pm bj5.2) (ne_pm bj6.2.1) ne_zm; replace E := E.trans E508 lc1; refine qa F fun a F => nil (hK430 _ _ ?_); refine reg ?_; refine qm F fun a F => ?_; refine qv F (r_add F rfl rfl) fun a F => ?_; refine qa F fun a F => nil ?_; replace H := HN419 _ (si H).symm; exact hX418 _ _ _ (Nat.lt_succ_self _) ⟨(l411 ++ [l488]), A506, C507, (IntKind.i64.wrap (i415 + 1)), c504, F.sub ⟨rfl, rfl, rfl, trivial⟩, E, B, h303, h509, H⟩
   refine loop_fuel (I := fun n a w => ∃ (l446 : List Int) (A447 : Option Addr) (C448 : Nat) (i450 : Int) (c : Nat → Nat), Fr a 113 [(0, .slice A305 l304.length C306), (5, .slice A412 l411.length C413), (6, .int .i64 i415), (7, .slice A447 l446.length C448), (8, .int .i64 i450)] ∧ EvW (fun x => x = j5 ∨ x = j6) m c0 w0 c w ∧ CB (m + 4) c w ∧ SPT (Kint .i64) j5 j6 c w A305 C306 l304 i415.toNat A437 C438 (rd l304 i415) ∧ SL true (Kslice (Kint .i64)) (m + 3) 0 c w A412 C413 l411 ∧ TW (Kint .i64) (m + 2) c w A437 C438 (rd l304 i415) A447 C448 l446 ∧ loop (fun (s_ : (List Int) × Int) => haulagelaw03_apart.b9 i415 s_.1 s_.2) n (l446, i450) = some x460) (k := k) ⟨(rd l304 i415), A437, C438, 0, c433, F.sub ⟨rfl, rfl, rfl, rfl, rfl, trivial⟩, E, B, h303, h414, h441, HL⟩ ?_; clear HL H E F B; intro n457 X453 hX453 a w452 ⟨l446, A447, C448, i450, c451, F, E, B, h303, h414, h449, HL⟩; obtain ⟨n458, ctl456, rfl, HB, HN454, HD455⟩ := loop_some HL; have H : haulagelaw03_apart.b9 i415 l446 i450 = some ctl456 := HB; clear HB HL; unfold haulagelaw03_apart.b9 at H
   as_aux_lemma =>
   refine sq fun K461 hK461 => ?_; refine sr fun K462 hK462 => qm F fun a F => ?_; refine qv F (r_lss F rfl rfl) fun a F => ?_; refine nil (hK462 _ _ ?_)
   by_cases hb463 : i450 < 80
   ·replace H := ip hb463 H; refine wct (fb F (dt hb463)) (wp_skip (hK461 _ _ ?_)); refine sq fun K464 hK464 => ?_; refine wp_block ?_; refine reg ?_; refine qm F fun a F => qm F fun a F => ?_; refine qv F (r_mul F rfl rfl) fun a F => ?_; refine qm F fun a F => ?_; refine qv F (r_add F rfl rfl) fun a F => ?_; refine qv F (r_add F rfl rfl) fun a F => ?_; refine q_eff F rfl rfl (by decide) (e_buildSlice (n := 1) (e := 3) (c := c451) (k := (Kint .i64)) (i := 0) F [(0, .int .i64 (IntKind.i64.wrap ((IntKind.i64.wrap ((IntKind.i64.wrap (1000000 * i415)) + i450)) + 7)))] [.int .i64 (IntKind.i64.wrap ((IntKind.i64.wrap ((IntKind.i64.wrap (1000000 * i415)) + i450)) + 7))] ([IntKind.i64.wrap ((IntKind.i64.wrap ((IntKind.i64.wrap (1000000 * i415)) + i450)) + 7)] : List Int) (by exact ⟨rfl, rfl, trivial⟩) (fun w => by kernel_rfl) rfl (by decide) rfl ⟨rfl, trivial⟩ (fun q => q) 0) ?_; rintro v w466 a ⟨c465, A467, C468, rfl, E469, h470, B471⟩ F; replace B := B471 _ B (pl hm0); replace h303 := h303.ev E469; replace h449 := h449.ev E469; replace E := E.n E469; replace H := ifN H; obtain ⟨g370, H⟩ := H
    as_aux_lemma =>
    refine q_eff F rfl rfl (by decide) (e_appendT (e := (Kint .i64)) (ys := l446) (vs := [IntKind.i64.wrap ((IntKind.i64.wrap ((IntKind.i64.wrap (1000000 * i415)) + i450)) + 7)]) (c := c465) F et_25 rfl rfl h449 h470 g370 (len_ok g370) (pl hm0)) ?_; rintro v w476 a ⟨c472, A477, C478, rfl, E479, B481, c473, e474, e475, h480⟩ F; replace B := B481 _ B lm; replace h303 := h303.ev E479 (ne_pm bj5.2) (ne_pm bj6.2.1) ne_zm; replace h414 := (h414.ev E469).ev E479; replace E := E.trans E479 lc1; replace h303 := SPT.rc h303 (rk e474 (ne_pm bj5.2)) (rk e474 (ne_pm bj6.2.1)) (rk e474 ne_zm) bj6.1; replace h414 := SL.rc h414 (rk e474 mm) (rk e474 ne_zm); replace E : EvW (fun x => x = j5 ∨ x = j6) m c0 w0 c473 w476 := E.rk B0 e474; replace B := B.rk e475 (pl hm0); refine qa F fun a F => nil (hK464 _ _ ?_); replace F : Fr a 113 [(0, .slice A305 l304.length C306), (5, .slice A412 l411.length C413), (6, .int .i64 i415), (7, .slice A477 (l446 ++ [IntKind.i64.wrap ((IntKind.i64.wrap ((IntKind.i64.wrap (1000000 * i415)) + i450)) + 7)]).length C478), (8, .int .i64 i450)] := F.sub ⟨rfl, rfl, rfl, rfl, rfl, trivial⟩; refine reg ?_; refine qm F fun a F => ?_; refine qv F (r_add F rfl rfl) fun a F => ?_; refine qa F fun a F => nil ?_; replace H := HN454 _ (si H).symm; exact hX453 _ _ _ (Nat.lt_succ_self _) ⟨(l446 ++ [IntKind.i64.wrap ((IntKind.i64.wrap ((IntKind.i64.wrap (1000000 * i415)) + i450)) + 7)]), A477, C478, (IntKind.i64.wrap (i450 + 1)), c473, F.sub ⟨rfl, rfl, rfl, rfl, rfl, trivial⟩, E, B, h303, h414, h480, H⟩
   replace H := im hb463 H; refine wcf (fb F (dz hb463)) ?_; refine wp_exit ?_; refine thenE ?_
   as_aux_lemma =>
   refine thenE ?_; refine inbE ?_; have hx_ := HD455 _ (si H).symm; have H := HR459; rw [← hx_] at H; exact J491 c451 w452 a l446 A447 C448 (F.sub ⟨rfl, rfl, rfl, rfl, trivial⟩) E B h303 h414 h449 H
  replace H := im hb428 H; refine wcf (fb F (dz hb428)) ?_; refine wp_exit ?_; refine thenE ?_; refine thenE ?_; refine inbE ?_; replace H := ifN H; obtain ⟨g429, H⟩ := H; replace h303 := SP.done h303 g429; have hx_ := HD420 _ (si H).symm; have H := HR424; rw [← hx_] at H; exact J520 c416 w417 a l411 A412 C413 (F.sub ⟨rfl, rfl, trivial⟩) E B h303 h414 H
 refine loop_fuel (I := fun n a w => ∃ (l155 : List (List Int)) (A152 : Option Addr) (C153 : Nat) (i156 : Int) (c : Nat → Nat), Fr a 113 [(0, .slice A152 l155.length C153), (3, .int .i64 i156)] ∧ EvW (fun x => x = j5 ∨ x = j6) m c0 w0 c w ∧ CB (m + 4) c w ∧ SP (Kint .i64) j5 j6 c w A152 C153 l155 0 ∧ loop (fun (s_ : (List (List Int)) × Int) => haulagelaw03_apart.b5 k s_.1 s_.2) n (l155, i156) = some x166) (k := k) ⟨a1, A2, C3, 0, c0, F.sub ⟨rfl, rfl, trivial⟩, E, B, h4, HL⟩ ?_; clear HL H E F B; intro n163 X159 hX159 a w158 ⟨l155, A152, C153, i156, c157, F, E, B, h154, HL⟩; obtain ⟨n164, ctl162, rfl, HB, HN160, HD161⟩ := loop_some HL; have H : haulagelaw03_apart.b5 k l155 i156 = some ctl162 := HB; clear HB HL; unfold haulagelaw03_apart.b5 at H
 as_aux_lemma =>
 refine sq fun K167 hK167 => ?_; refine sr fun K168 hK168 => qm F fun a F => qm F fun a F => ?_; refine qv F (r_lensl F Try.underlying45 rfl) fun a F => ?_; refine qv F (r_lss F rfl rfl) fun a F => ?_; refine nil (hK168 _ _ ?_)
 by_cases hb169 : i156 < (l155.length : Int)
 ·replace H := ip hb169 H; refine wct (fb F (dt hb169)) (wp_skip (hK167 _ _ ?_)); refine sq fun K170 hK170 => ?_; refine wp_block ?_; refine sr fun K171 hK171 => qa F fun a F => nil (hK171 _ _ ?_); refine wp_block ?_; obtain ⟨x241, HL, HR240⟩ := bind_some H; have J295 : ∀ (c296 : Nat → Nat) (w297 : World) (a : Act) (l292 : List (List Int)) (A293 : Option Addr) (C294 : Nat), Fr a 113 [(0, .slice A293 l292.length C294), (3, .int .i64 i156)] → EvW (fun x => x = j5 ∨ x = j6) m c0 w0 c296 w297 → CB (m + 4) c296 w297 → SP (Kint .i64) j5 j6 c296 w297 A293 C294 l292 0 → haulagelaw03_apart.j4 i156 l292 = some ctl162 → K170 a w297 := by
   intro c296 w297 a l292 A293 C294 F E B h291 H; unfold haulagelaw03_apart.j4 at H; refine hK170 _ _ ?_; refine reg ?_; refine qm F fun a F => ?_; refine qv F (r_add F rfl rfl) fun a F => ?_; refine qa F fun a F => nil ?_; replace H := HN160 _ (si H).symm; exact hX159 _ _ _ (Nat.lt_succ_self _) ⟨l292, A293, C294, (IntKind.i64.wrap (i156 + 1)), c296, F.sub ⟨rfl, rfl, trivial⟩, E, B, h291, H⟩
  refine loop_fuel (I := fun n a w => ∃ (l230 : List (List Int)) (A227 : Option Addr) (C228 : Nat) (i231 : Int) (c : Nat → Nat), Fr a 113 [(0, .slice A227 l230.length C228), (3, .int .i64 i156), (4, .int .i64 i231)] ∧ EvW (fun x => x = j5 ∨ x = j6) m c0 w0 c w ∧ CB (m + 4) c w ∧ SP (Kint .i64) j5 j6 c w A227 C228 l230 0 ∧ loop (fun (s_ : (List (List Int)) × Int) => haulagelaw03_apart.b3 i156 s_.1 s_.2) n (l230, i231) = some x241) (k := k) ⟨l155, A152, C153, 0, c157, F.sub ⟨rfl, rfl, rfl, trivial⟩, E, B, h154, HL⟩ ?_; clear HL H E F B; intro n238 X234 hX234 a w233 ⟨l230, A227, C228, i231, c232, F, E, B, h229, HL⟩; obtain ⟨n239, ctl237, rfl, HB, HN235, HD236⟩ := loop_some HL; have H : haulagelaw03_apart.b3 i156 l230 i231 = some ctl237 := HB; clear HB HL; unfold haulagelaw03_apart.b3 at H
  as_aux_lemma =>
  refine sq fun K242 hK242 => ?_; refine sr fun K243 hK243 => qm F fun a F => qm F fun a F => qm F fun a F => ?_; have h244 : SL false (Kslice (Kint .i64)) j5 j6 c232 w233 A227 C228 l230 := SP.view h229 (fun q_ => q_); replace H := ifN H; obtain ⟨g245, H⟩ := H; obtain ⟨ad246, cs247, e248, h249, r250⟩ := SL.at h244 i156 g245.1 g245.2; obtain ⟨A251, C252, rfl, h253⟩ := r250; obtain ⟨qa254, qqa254⟩ : ∃ q, q = (ad246.add (i156.toNat * 1)) := ⟨_, rfl⟩; have h249 : AT false j5 c232 w233 qa254 [.slice A251 (rd l230 i156).length C252] := by rw [qqa254]; exact h249
  refine qv F (r_indexAddr' F Try.underlying45 sz_25 rfl rfl g245.1 g245.2 e248 qqa254) fun a F => ?_; refine qv F (r_load F rfl ag_25 (AT.cell0 h249 rfl)) fun a F => ?_; refine qv F (r_lensl F Try.underlying25 rfl) fun a F => ?_; refine qv F (r_lss F rfl rfl) fun a F => ?_; refine nil (hK243 _ _ ?_)
  by_cases hb256 : i231 < ((rd l230 i156).length : Int)
  ·replace H := ip hb256 H; refine wct (fb F (dt hb256)) (wp_skip (hK242 _ _ ?_)); refine sq fun K257 hK257 => ?_; refine wp_block ?_; refine reg ?_; refine qm F fun a F => qm F fun a F => ?_; replace H := ifN H; obtain ⟨g258, H⟩ := H; obtain ⟨c259, e260, e261, ad262, A263, C264, e265, h266, h267, h229⟩ := SP.lend (z := m + 1) h229 i156 g258.1 g258.2 (Nat.zero_le _) ⟨(ne_mp bj6.2.1), (pl hm0)⟩ (Ne.symm bj6.2.2); obtain ⟨qa268, qqa268⟩ : ∃ q, q = (ad262.add (i156.toNat * 1)) := ⟨_, rfl⟩; have h266 : AT true j5 c259 w233 qa268 [.slice A263 (rd l230 i156).length C264] := by rw [qqa268]; exact h266
   as_aux_lemma =>
   replace E : EvW (fun x => x = j5 ∨ x = j6) m c0 w0 c259 w233 := E.rk B0 e260; replace B := B.rk e261 lm; refine qv F (r_indexAddr' F Try.underlying45 sz_25 rfl rfl g258.1 g258.2 e265 qqa268) fun a F => ?_; refine qv F (r_load F rfl ag_25 (AT.cell0 h266 rfl)) fun a F => ?_; refine qm F fun a F => qm F fun a F => ?_; refine qv F (r_mul F rfl rfl) fun a F => ?_; refine qm F fun a F => ?_; refine qv F (r_sub F rfl rfl) fun a F => ?_; refine qv F (r_sub F rfl rfl) fun a F => ?_; replace H := ifN H; obtain ⟨g270, H⟩ := H; obtain ⟨ad271, cs272, e273, h274, r275⟩ := SL.at h267 i231 g270.1 g270.2; obtain rfl : cs272 = [.int .i64 (rd (rd l230 i156) i231)] := r275; obtain ⟨qa276, qqa276⟩ : ∃ q, q = (ad271.add (i231.toNat * 1)) := ⟨_, rfl⟩; have h274 : AT true (m + 1) c259 w233 qa276 [.int .i64 (rd (rd l230 i156) i231)] := by rw [qqa276]; exact h274
   refine qv F (r_indexAddr' F Try.underlying25 sz_3 rfl rfl g270.1 g270.2 e273 qqa276) fun a F => ?_; refine q_eff0 F rfl rfl (e_storeel0 (k := (Kint .i64)) F rfl rfl sz_3 h267 g270.1 g270.2 e273 qqa276 h274 rfl (nb rfl) rfl (IntKind.i64.wrap ((IntKind.i64.wrap ((IntKind.i64.wrap ((-1000000) * i156)) - i231)) - 1)) rfl ne_zm) ?_; rintro w278 a ⟨E279, h267, Z280⟩ F; replace B := B.size Z280; replace h229 := h229.ev E279 (ne_pm bj5.2) (ne_pm bj6.2.1) ne_zm; replace h266 := h266.ev E279 (ne_pm bj5.2); replace E := E.trans E279 lc1; have hl281 : (rd l230 i156).length = ((rd l230 i156).set i231.toNat (IntKind.i64.wrap ((IntKind.i64.wrap ((IntKind.i64.wrap ((-1000000) * i156)) - i231)) - 1))).length := by simp
   have h266 : AT true j5 c259 w278 qa268 [.slice A263 ((rd l230 i156).set i231.toNat (IntKind.i64.wrap ((IntKind.i64.wrap ((IntKind.i64.wrap ((-1000000) * i156)) - i231)) - 1))).length C264] := by rw [← hl281]; exact h266
   replace F := F.sub (L' := [(0, .slice A227 l230.length C228), (3, .int .i64 i156), (4, .int .i64 i231), (37, .int .i64 (IntKind.i64.wrap ((IntKind.i64.wrap ((IntKind.i64.wrap ((-1000000) * i156)) - i231)) - 1)))]) ⟨rfl, rfl, rfl, rfl, trivial⟩; obtain ⟨c282, e283, e284, h229⟩ := SP.back (z := m + 1) (k := i156) (ad := ad262) h229 g258.1 g258.2 (Nat.zero_le _) e265 (by rw [← qqa268]; exact h266) h267 ⟨(ne_mp bj6.2.1), (pl hm0)⟩ (ne_pm bj5.2)
   as_aux_lemma =>
   replace E : EvW (fun x => x = j5 ∨ x = j6) m c0 w0 c282 w278 := E.rk B0 e283; replace B := B.rk e284 (Nat.lt_add_right _ bj6.2.1); have hl285 : l230.length = (l230.set i156.toNat ((rd l230 i156).set i231.toNat (IntKind.i64.wrap ((IntKind.i64.wrap ((IntKind.i64.wrap ((-1000000) * i156)) - i231)) - 1)))).length := by simp
   replace F := F.sub (L' := [(0, .slice A227 (l230.set i156.toNat ((rd l230 i156).set i231.toNat (IntKind.i64.wrap ((IntKind.i64.wrap ((IntKind.i64.wrap ((-1000000) * i156)) - i231)) - 1)))).length C228), (3, .int .i64 i156), (4, .int .i64 i231), (37, .int .i64 (IntKind.i64.wrap ((IntKind.i64.wrap ((IntKind.i64.wrap ((-1000000) * i156)) - i231)) - 1)))]) ⟨(by rw [← hl285]; rfl), rfl, rfl, rfl, trivial⟩; refine nil (hK257 _ _ ?_); refine reg ?_; refine qm F fun a F => ?_; refine qv F (r_add F rfl rfl) fun a F => ?_; refine qa F fun a F => nil ?_; replace H := HN235 _ (si H).symm; exact hX234 _ _ _ (Nat.lt_succ_self _) ⟨(l230.set i156.toNat ((rd l230 i156).set i231.toNat (IntKind.i64.wrap ((IntKind.i64.wrap ((IntKind.i64.wrap ((-1000000) * i156)) - i231)) - 1)))), A227, C228, (IntKind.i64.wrap (i231 + 1)), c282, F.sub ⟨rfl, rfl, rfl, trivial⟩, E, B, h229, H⟩
  replace H := im hb256 H; refine wcf (fb F (dz hb256)) ?_; refine wp_exit ?_; refine thenE ?_; refine thenE ?_; refine inbE ?_; have hx_ := HD236 _ (si H).symm; have H := HR240; rw [← hx_] at H; exact J295 c232 w233 a l230 A227 C228 (F.sub ⟨rfl, rfl, trivial⟩) E B h229 H
 replace H := im hb169 H
 as_aux_lemma =>
 refine wcf (fb F (dz hb169)) ?_; refine wp_exit ?_; refine thenE ?_; refine thenE ?_; refine inbE ?_; have hx_ := HD161 _ (si H).symm; have H := HR165; rw [← hx_] at H; exact J307 c157 w158 a l155 A152 C153 (F.sub ⟨rfl, trivial⟩) E B h154 H
theorem haulagelaw03_same.calls (k : Nat) {m : Nat} {c0 : Nat → Nat} {w0 : World} {j5 : Nat} {j10 : Nat} {A2 : Option Addr} {C3 : Nat} {A7 : Option Addr} {C8 : Nat} {a1 : List Int} {a6 : List Int} (hm0 : 0 < m) (B0 : CB m c0 w0) (h4 : SL false (Kint .i64) j5 0 c0 w0 A2 C3 a1) (h9 : SL false (Kint .i64) j10 0 c0 w0 A7 C8 a6) (bj5 : j5 < m) (bj10 : j10 < m) (r : Bool) (H : haulagelaw03_same.f k a1 a6 = some r) : Calls Try.prog 12 #[.slice A2 a1.length C3, .slice A7 a6.length C8] w0 (fun e w_ => ∃ (c_ : Nat → Nat), e = .returned (.bool r) ∧ Ev (fun x => False) c0 w0 c_ w_ ∧ CB m c_ w_) := by
 unfold haulagelaw03_same.f at H; have B := B0.mono (show m ≤ m + 1 by omega); have E : Ev (fun x => False ∨ m ≤ x) c0 w0 c0 w0 := Ev.refl; refine enter (N := 26) (l := [.slice A2 a1.length C3, .slice A7 a6.length C8]) Try.func12 rfl rfl (nb rfl) fun a F => ?_; refine sr fun K11 hK11 => qa F fun a F => nil (hK11 _ _ ?_); refine sq fun K12 hK12 => ?_; refine sr fun K13 hK13 => qm F fun a F => ?_; refine qv F (r_lensl F Try.underlying25 rfl) fun a F => ?_; refine qm F fun a F => ?_; refine qv F (r_lensl F Try.underlying25 rfl) fun a F => ?_; refine qv F (r_neq F rfl rfl) fun a F => ?_; refine nil (hK13 _ _ ?_)
 by_cases hb14 : (a1.length : Int) = (a6.length : Int)
 ·replace H := ip hb14 H; refine wcf (fb F (congrArg not (dt hb14))) (wp_skip (hK12 _ _ ?_)); refine sq fun K16 hK16 => ?_; refine sr fun K17 hK17 => qa F fun a F => nil (hK17 _ _ ?_); refine wp_block ?_; obtain ⟨x28, HL, HR27⟩ := bind_some H; have J55 : ∀ (c56 : Nat → Nat) (w57 : World) (a : Act), Fr a 26 [] → Ev (fun x => False ∨ m ≤ x) c0 w0 c56 w57 → CB (m + 1) c56 w57 → haulagelaw03_same.j2 = some r → K16 a w57 := by
   intro c56 w57 a  F E B  H; unfold haulagelaw03_same.j2 at H; refine hK16 _ _ ?_; refine sr fun K58 hK58 => qa F fun a F => nil (hK58 _ _ ?_); refine wp_ret ?_; obtain rfl := si H; refine out1 F rfl rfl ?_; exact ⟨cf (ct m) c56, rfl, E.lv B0, cfb⟩
  refine loop_fuel (I := fun n a w => ∃ (i18 : Int) (c : Nat → Nat), Fr a 26 [(0, .slice A2 a1.length C3), (1, .slice A7 a6.length C8), (5, .int .i64 i18)] ∧ Ev (fun x => False ∨ m ≤ x) c0 w0 c w ∧ CB (m + 1) c w ∧ SL false (Kint .i64) j5 0 c w A2 C3 a1 ∧ SL false (Kint .i64) j10 0 c w A7 C8 a6 ∧ loop (fun (s_ : Int) => haulagelaw03_same.b1 a1 a6 s_) n i18 = some x28) (k := k) ⟨0, c0, F.sub ⟨rfl, rfl, rfl, trivial⟩, E, B, h4, h9, HL⟩ ?_; clear HL H E F B; intro n25 X21 hX21 a w20 ⟨i18, c19, F, E, B, h4, h9, HL⟩; obtain ⟨n26, ctl24, rfl, HB, HN22, HD23⟩ := loop_some HL; have H : haulagelaw03_same.b1 a1 a6 i18 = some ctl24 := HB; clear HB HL; unfold haulagelaw03_same.b1 at H; refine sq fun K29 hK29 => ?_; refine sr fun K30 hK30 => qm F fun a F => qm F fun a F => ?_; refine qv F (r_lensl F Try.underlying25 rfl) fun a F => ?_; refine qv F (r_lss F rfl rfl) fun a F => ?_; refine nil (hK30 _ _ ?_)
  by_cases hb31 : i18 < (a1.length : Int)
  ·replace H := ip hb31 H; refine wct (fb F (dt hb31)) (wp_skip (hK29 _ _ ?_)); refine sq fun K32 hK32 => ?_; refine wp_block ?_; refine sq fun K33 hK33 => ?_; refine regD (SB No c19 w20) 9 (.q 0 (.q 1 (.q 2 (.q 3 (.q 4 (.q 5 (.q 6 (.q 7 (.q 8 .nil))))))))) Try_hm (by decide +kernel) ?_; intro w34 w1_ w2_ w3_ w4_; have E35 : Ev No c19 w20 c19 w34 := Ev.same w1_ w2_ w3_ w4_; replace B := B.same w1_; have zh4 := h4; have zh9 := h9; have ER : Ev No c19 w20 c19 w34 := Ev.same w1_ w2_ w3_ w4_; replace h4 := h4.ev E35; replace h9 := h9.ev E35; replace E := E.n E35; refine dm F ER.sb fun a F => ?_; refine dm F ER.sb fun a F => ?_; replace H := ifN H; obtain ⟨g36, H⟩ := H; obtain ⟨ad37, cs38, e39, h40, r41⟩ := SL.at zh4 i18 g36.1 g36.2; obtain rfl : cs38 = [.int .i64 (rd a1 i18)] := r41; obtain ⟨qa42, qqa42⟩ : ∃ q, q = (ad37.add (i18.toNat * 1)) := ⟨_, rfl⟩; have h40 : AT false j5 c19 w20 qa42 [.int .i64 (rd a1 i18)] := by rw [qqa42]; exact h40
   have zh40 := h40; refine dq F (fun wq hS => r_indexAddr' F Try.underlying25 sz_3 rfl rfl g36.1 g36.2 e39 qqa42) ER.sb fun a F => ?_; refine dq F (fun wq hS => r_load F rfl ag_3 (AT.cell0 (AT.sb zh40 hS nq) rfl)) ER.sb fun a F => ?_; refine dm F ER.sb fun a F => ?_; refine dm F ER.sb fun a F => ?_; replace H := ifN H; obtain ⟨g44, H⟩ := H; obtain ⟨ad45, cs46, e47, h48, r49⟩ := SL.at zh9 i18 g44.1 g44.2; obtain rfl : cs46 = [.int .i64 (rd a6 i18)] := r49; obtain ⟨qa50, qqa50⟩ : ∃ q, q = (ad45.add (i18.toNat * 1)) := ⟨_, rfl⟩; have h48 : AT false j10 c19 w20 qa50 [.int .i64 (rd a6 i18)] := by rw [qqa50]; exact h48
   have zh48 := h48; refine dq F (fun wq hS => r_indexAddr' F Try.underlying25 sz_3 rfl rfl g44.1 g44.2 e47 qqa50) ER.sb fun a F => ?_; refine dq F (fun wq hS => r_load F rfl ag_3 (AT.cell0 (AT.sb zh48 hS nq) rfl)) ER.sb fun a F => ?_; refine dq F (fun wq hS => r_neq F rfl rfl) ER.sb fun a F => ?_; refine d_nil ?_; refine hK33 _ _ ?_; replace F : Fr a 26 [(0, .slice A2 a1.length C3), (1, .slice A7 a6.length C8), (5, .int .i64 i18), (25, .bool (!decide ((rd a1 i18) = (rd a6 i18))))] := F.sub ⟨rfl, rfl, rfl, rfl, trivial⟩
   by_cases hb52 : (rd a1 i18) = (rd a6 i18)
   ·replace H := ip hb52 H; refine wcf (fb F (congrArg not (dt hb52))) (wp_skip (hK32 _ _ ?_)); refine reg ?_; refine qm F fun a F => ?_; refine qv F (r_add F rfl rfl) fun a F => ?_; refine qa F fun a F => nil ?_; replace H := HN22 _ (si H).symm; exact hX21 _ _ _ (Nat.lt_succ_self _) ⟨(IntKind.i64.wrap (i18 + 1)), c19, F.sub ⟨rfl, rfl, rfl, trivial⟩, E, B, h4, h9, H⟩
   replace H := im hb52 H; refine wct (fb F (congrArg not (dz hb52))) ?_; refine sr fun K53 hK53 => qa F fun a F => nil (hK53 _ _ ?_); refine wp_ret ?_; refine inbR ?_; refine thenR ?_; refine thenR ?_; refine inbR ?_; refine thenR ?_; have hx_ := HD23 _ (si H).symm; have H := HR27; rw [← hx_] at H; replace H : some false = some r := H; obtain rfl := si H; refine out1 F rfl rfl ?_; exact ⟨cf (ct m) c19, rfl, E.lv B0, cfb⟩
  replace H := im hb31 H; refine wcf (fb F (dz hb31)) ?_; refine wp_exit ?_; refine thenE ?_; refine thenE ?_; refine inbE ?_; have hx_ := HD23 _ (si H).symm; have H := HR27; rw [← hx_] at H; exact J55 c19 w20 a  (F.sub trivial) E B  H
 replace H := im hb14 H; refine wct (fb F (congrArg not (dz hb14))) ?_; refine sr fun K15 hK15 => qa F fun a F => nil (hK15 _ _ ?_); refine wp_ret ?_; refine thenR ?_; obtain rfl := si H; refine out1 F rfl rfl ?_; exact ⟨cf (ct m) c0, rfl, E.lv B0, cfb⟩
theorem haulagelaw03_known.calls (k : Nat) {m : Nat} {c0 : Nat → Nat} {w0 : World} (hm0 : 0 < m) (B0 : CB m c0 w0) (r : Bool) (H : haulagelaw03_known.f k = some r) : Calls Try.prog 29 #[] w0 (fun e w_ => ∃ (c_ : Nat → Nat), e = .returned (.bool r) ∧ Ev (fun x => False) c0 w0 c_ w_ ∧ CB m c_ w_) := by
 unfold haulagelaw03_known.f at H; have B := B0.mono (show m ≤ m + 3 by omega); have E : Ev (fun x => False ∨ m ≤ x) c0 w0 c0 w0 := Ev.refl; refine enter (N := 18) (l := []) Try.func29 rfl rfl (nb rfl) fun a F => ?_; refine sr fun K1 hK1 => qa F fun a F => nil (hK1 _ _ ?_); refine sr fun K2 hK2 => ?_; obtain ⟨t3, q4, H⟩ := bind_some H; refine qc F Try.func10 (jump_Jump.calls (m := m + 3) (pl hm0) B _ q4) ?_; rintro e w6 ⟨c5, rfl, E7, B⟩; refine rt fun a F => ?_; replace E := E.n E7; refine qv F (r_eql F rfl rfl) fun a F => ?_; refine qm F fun a F => ?_
 by_cases hb10 : t3 = 0
 ·replace H := ip hb10 H; obtain ⟨t11, q12, H⟩ := bind_some H; refine qy F (dt hb10) ?_; refine qc F Try.func10 (jump_Jump.calls (m := m + 3) (pl hm0) B _ q12) ?_; rintro e w14 ⟨c13, rfl, E15, B⟩; refine rt fun a F => ?_; replace E := E.n E15; refine qy F (dt hb10) ?_; refine qv F (r_eql F rfl rfl) fun a F => ?_; refine qv F (r_pick_t F rfl (dt hb10) rfl) fun a F => ?_; refine qm F fun a F => ?_
  by_cases hb18 : t11 = (-1)
  ·replace H := ip hb18 H; obtain ⟨t19, q20, H⟩ := bind_some H; refine qy F (dt hb18) ?_; refine qc F Try.func13 (jump_Way.calls (m := m + 3) (pl hm0) B (m + 1) lm _ q20) ?_; rintro e w22 ⟨c21, A25, C26, rfl, E23, B, h27⟩; refine rt fun a F => ?_; replace E := E.n E23; refine qy F (dt hb18) ?_; refine q_eff F rfl rfl (by decide) (e_buildSlice (n := 6) (e := 3) (c := c21) (k := (Kint .i64)) (i := 0) F [(0, .int .i64 0), (1, .int .i64 6), (2, .int .i64 17), (3, .int .i64 42), (4, .int .i64 43), (5, .int .i64 45)] [.int .i64 0, .int .i64 6, .int .i64 17, .int .i64 42, .int .i64 43, .int .i64 45] ([0, 6, 17, 42, 43, 45] : List Int) (by exact ⟨rfl, rfl, rfl, rfl, rfl, rfl, rfl, rfl, rfl, rfl, rfl, rfl, trivial⟩) (fun w => by kernel_rfl) rfl (by decide) rfl ⟨rfl, rfl, rfl, rfl, rfl, rfl, trivial⟩ (fun q => q) 0) ?_; rintro v w30 a ⟨c29, A31, C32, rfl, E33, h34, B35⟩ F; replace B := B35 _ B (pl hm0); replace h27 := h27.ev E33; replace E := E.n E33; obtain ⟨t36, q37, H⟩ := bind_some H; refine qy F (dt hb18) ?_; refine qc F Try.func12 (haulagelaw03_same.calls k (m := m + 3) (pl hm0) B h27.r h34.r lm (pl hm0) _ q37) ?_; rintro e w39 ⟨c38, rfl, E40, B⟩; refine rt fun a F => ?_; replace E := E.n E40; refine qv F (r_pick_t F rfl (dt hb18) rfl) fun a F => ?_; refine qm F fun a F => ?_
   by_cases hb43 : t36 = true
   ·replace H := ip hb43 H; refine qy F hb43 ?_; refine q_eff F rfl rfl (by decide) (e_buildSlice (n := 4) (e := 3) (c := c38) (k := (Kint .i64)) (i := 0) F [(0, .int .i64 1), (1, .int .i64 0), (2, .int .i64 1), (3, .int .i64 1)] [.int .i64 1, .int .i64 0, .int .i64 1, .int .i64 1] ([1, 0, 1, 1] : List Int) (by exact ⟨rfl, rfl, rfl, rfl, rfl, rfl, rfl, rfl, trivial⟩) (fun w => by kernel_rfl) rfl (by decide) rfl ⟨rfl, rfl, rfl, rfl, trivial⟩ (fun q => q) 0) ?_; rintro v w45 a ⟨c44, A46, C47, rfl, E48, h49, B50⟩ F; replace B := B50 _ B (pl hm0); replace E := E.n E48; obtain ⟨t51, q52, H⟩ := bind_some H; refine qy F hb43 ?_; refine qc F Try.func26 (jump_Rank.calls k (m := m + 3) (pl hm0) B h49.r (by omega) (m + 2) lm _ q52) ?_; rintro e w54 ⟨c53, A57, C58, rfl, E55, B, h59⟩; refine rt fun a F => ?_; replace E := E.n E55; refine qy F hb43 ?_; refine q_eff F rfl rfl (by decide) (e_buildSlice (n := 3) (e := 3) (c := c53) (k := (Kint .i64)) (i := 0) F [(0, .int .i64 2), (1, .int .i64 3), (2, .int .i64 0)] [.int .i64 2, .int .i64 3, .int .i64 0] ([2, 3, 0] : List Int) (by exact ⟨rfl, rfl, rfl, rfl, rfl, rfl, trivial⟩) (fun w => by kernel_rfl) rfl (by decide) rfl ⟨rfl, rfl, rfl, trivial⟩ (fun q => q) 0) ?_; rintro v w62 a ⟨c61, A63, C64, rfl, E65, h66, B67⟩ F; replace B := B67 _ B (pl hm0); replace h59 := h59.ev E65; replace E := E.n E65; obtain ⟨t68, q69, H⟩ := bind_some H; refine qy F hb43 ?_; refine qc F Try.func12 (haulagelaw03_same.calls k (m := m + 3) (pl hm0) B h59.r h66.r lm (pl hm0) _ q69) ?_; rintro e w71 ⟨c70, rfl, E72, B⟩; refine rt fun a F => ?_; replace E := E.n E72; refine qv F (r_pick_t F rfl hb43 rfl) fun a F => ?_; refine qa F fun a F => nil (hK2 _ _ ?_); replace F : Fr a 18 [(0, .bool t68)] := F.sub ⟨rfl, trivial⟩; refine wp_ret ?_; obtain rfl := si H; refine out1 F rfl rfl ?_; exact ⟨cf (ct m) c70, rfl, E.lv B0, cfb⟩
   replace H := im hb43 H; refine qn F (bfalse hb43) fun a F => qn F (bfalse hb43) fun a F => qn F (bfalse hb43) fun a F => qn F (bfalse hb43) fun a F => ?_; refine qv F (r_pick_f F rfl (bfalse hb43) rfl) fun a F => ?_; refine qa F fun a F => nil (hK2 _ _ ?_); replace F : Fr a 18 [(0, .bool false)] := F.sub ⟨rfl, trivial⟩; refine wp_ret ?_; obtain rfl := si H; refine out1 F rfl rfl ?_; exact ⟨cf (ct m) c38, rfl, E.lv B0, cfb⟩
  replace H := im hb18 H; refine qn F (dz hb18) fun a F => qn F (dz hb18) fun a F => qn F (dz hb18) fun a F => ?_; refine qv F (r_pick_f F rfl (dz hb18) rfl) fun a F => ?_; refine qm F fun a F => qn F rfl fun a F => qn F rfl fun a F => qn F rfl fun a F => qn F rfl fun a F => ?_; refine qp F fun a F => ?_; refine qa F fun a F => nil (hK2 _ _ ?_); replace F : Fr a 18 [(0, .bool false)] := F.sub ⟨rfl, trivial⟩; refine wp_ret ?_; obtain rfl := si H; refine out1 F rfl rfl ?_; exact ⟨cf (ct m) c13, rfl, E.lv B0, cfb⟩
 replace H := im hb10 H; refine qn F (dz hb10) fun a F => qn F (dz hb10) fun a F => ?_; refine qv F (r_pick_f F rfl (dz hb10) rfl) fun a F => ?_; refine qm F fun a F => qn F rfl fun a F => qn F rfl fun a F => qn F rfl fun a F => ?_; refine qp F fun a F => ?_; refine qm F fun a F => qn F rfl fun a F => qn F rfl fun a F => qn F rfl fun a F => qn F rfl fun a F => ?_; refine qp F fun a F => ?_; refine qa F fun a F => nil (hK2 _ _ ?_); replace F : Fr a 18 [(0, .bool false)] := F.sub ⟨rfl, trivial⟩; refine wp_ret ?_; obtain rfl := si H; refine out1 F rfl rfl ?_; exact ⟨cf (ct m) c5, rfl, E.lv B0, cfb⟩
theorem haulagelaw03_JumpOwn.calls (k : Nat) {m : Nat} {c0 : Nat → Nat} {w0 : World} {A6 : Option Addr} {C7 : Nat} {a1 : Int} {a2 : Int} {a3 : Int} {a4 : Int} {a5 : List Int} (hm0 : 0 < m) (B0 : CB m c0 w0) (h8 : SL false (Kint .i64) 0 0 c0 w0 A6 C7 a5) (r : Bool) (H : haulagelaw03_JumpOwn.f k a1 a2 a3 a4 a5 = some r) : Calls Try.prog 8 #[.int .u64 a1, .int .u64 a2, .int .i64 a3, .int .i64 a4, .slice A6 a5.length C7] w0 (fun e w_ => ∃ (c_ : Nat → Nat), e = .returned (.bool r) ∧ Ev (fun x => False) c0 w0 c_ w_ ∧ CB m c_ w_) := by
 unfold haulagelaw03_JumpOwn.f at H; have B := B0.mono (show m ≤ m + 18 by omega); have E : Ev (fun x => False ∨ m ≤ x) c0 w0 c0 w0 := Ev.refl; refine enter (N := 126) (l := [.int .u64 a1, .int .u64 a2, .int .i64 a3, .int .i64 a4, .slice A6 a5.length C7]) Try.func8 rfl rfl (nb rfl) fun a F => ?_; refine sr fun K9 hK9 => qa F fun a F => nil (hK9 _ _ ?_); refine sq fun K10 hK10 => ?_; refine sr fun K11 hK11 => ?_; obtain ⟨t12, q13, H⟩ := bind_some H; refine qc F Try.func29 (haulagelaw03_known.calls k (m := m + 18) (pl hm0) B _ q13) ?_; rintro e w15 ⟨c14, rfl, E16, B⟩; refine rt fun a F => ?_; replace h8 := h8.ev E16; replace E := E.n E16; refine qv F (r_not F rfl) fun a F => ?_; refine nil (hK11 _ _ ?_)
 by_cases hb19 : t12 = true
 ·replace H := ip hb19 H; refine wcf (fb F (congrArg not hb19)) (wp_skip (hK10 _ _ ?_)); refine sr fun K21 hK21 => ?_; refine q_eff F rfl rfl (by decide) (e_build0 (ee := 3) F (fun w => by kernel_rfl) c14 (m + 1)) ?_; rintro v w23 a ⟨c22, A24, rfl, E25, B26⟩ F; replace B := B26 _ B lm
  replace h8 := h8.ev E25; replace E := E.n E25; refine qm F fun a F => ?_; replace H := ifN H; obtain ⟨g28, H⟩ := H; refine q_eff F rfl rfl (by decide) (e_append0 (e := (Kint .i64)) (vs := a5) (c := c22) (j := 0) F et_25 rfl rfl h8 g28 (len_ok g28)) ?_; rintro v w30 a ⟨c29, A31, C32, rfl, E33, h34, B35⟩ F; replace B := B35 _ B (pl hm0); replace E := E.n E33; refine qa F fun a F => nil (hK21 _ _ ?_); refine sr fun K36 hK36 => qm F fun a F => qm F fun a F => ?_; obtain ⟨t37, q38, H⟩ := bind_some H; refine qc F Try.func13 (jump_Way.calls (m := m + 18) (pl hm0) B (m + 2) lm _ q38) ?_; rintro e w40 ⟨c39, A43, C44, rfl, E41, B, h45⟩; refine rt fun a F => ?_; replace E := E.n E41; refine qm F fun a F => qm F fun a F => ?_; obtain ⟨t47, q48, H⟩ := bind_some H; refine qc F Try.func13 (jump_Way.calls (m := m + 18) (pl hm0) B (m + 3) lm _ q48) ?_; rintro e w50 ⟨c49, A53, C54, rfl, E51, B, h55⟩; refine rt fun a F => ?_; replace E := E.n E51
  refine qm F fun a F => qm F fun a F => ?_; obtain ⟨t57, q58, H⟩ := bind_some H; refine qc F Try.func13 (jump_Way.calls (m := m + 18) (pl hm0) B (m + 4) lm _ q58) ?_; rintro e w60 ⟨c59, A63, C64, rfl, E61, B, h65⟩; refine rt fun a F => ?_; replace h34 := ((h34.ev E41).ev E51).ev E61; replace E := E.n E61; refine qa F fun a F => qa F fun a F => qa F fun a F => nil (hK36 _ _ ?_); replace F : Fr a 126 [(0, .int .u64 a1), (1, .int .u64 a2), (2, .int .i64 a3), (4, .slice A31 a5.length C32), (11, .slice A43 t37.length C44), (12, .slice A53 t47.length C54), (13, .slice A63 t57.length C64)] := F.sub ⟨rfl, rfl, rfl, rfl, rfl, rfl, rfl, trivial⟩; refine sr fun K67 hK67 => qm F fun a F => qm F fun a F => ?_; obtain ⟨t68, q69, H⟩ := bind_some H; refine qc F Try.func26 (jump_Rank.calls k (m := m + 18) (pl hm0) B h34.r (by omega) (m + 5) lm _ q69) ?_; rintro e w71 ⟨c70, A74, C75, rfl, E72, B, h76⟩; refine rt fun a F => ?_; replace h34 := h34.ev E72; replace E := E.n E72; refine qm F fun a F => qm F fun a F => ?_; obtain ⟨t78, q79, H⟩ := bind_some H; refine qc F Try.func26 (jump_Rank.calls k (m := m + 18) (pl hm0) B h34.r (by omega) (m + 6) lm _ q79) ?_; rintro e w81 ⟨c80, A84, C85, rfl, E82, B, h86⟩; refine rt fun a F => ?_; replace h34 := h34.ev E82
  replace E := E.n E82; refine qm F fun a F => qm F fun a F => ?_; obtain ⟨t88, q89, H⟩ := bind_some H; refine qc F Try.func26 (jump_Rank.calls k (m := m + 18) (pl hm0) B h34.r (by omega) (m + 7) lm _ q89) ?_; rintro e w91 ⟨c90, A94, C95, rfl, E92, B, h96⟩; refine rt fun a F => ?_; replace h34 := h34.ev E92; replace h45 := ((((h45.ev E51).ev E61).ev E72).ev E82).ev E92; replace h55 := (((h55.ev E61).ev E72).ev E82).ev E92; replace h65 := ((h65.ev E72).ev E82).ev E92; replace h76 := (h76.ev E82).ev E92; replace h86 := h86.ev E92; replace E := E.n E92; refine qa F fun a F => qa F fun a F => qa F fun a F => nil (hK67 _ _ ?_); replace F : Fr a 126 [(0, .int .u64 a1), (2, .int .i64 a3), (4, .slice A31 a5.length C32), (11, .slice A43 t37.length C44), (12, .slice A53 t47.length C54), (13, .slice A63 t57.length C64), (14, .slice A74 t68.length C75), (15, .slice A84 t78.length C85), (16, .slice A94 t88.length C95)] := F.sub ⟨rfl, rfl, rfl, rfl, rfl, rfl, rfl, rfl, rfl, trivial⟩; refine sq fun K98 hK98 => ?_; refine sq fun K99 hK99 => ?_; have J116 : ∀ (c117 : Nat → Nat) (w118 : World) (a : Act) (b115 : Bool), Fr a 126 [(0, .int .u64 a1), (2, .int .i64 a3), (4, .slice A31 a5.length C32), (11, .slice A43 t37.length C44), (12, .slice A53 t47.length C54), (13, .slice A63 t57.length C64), (14, .slice A74 t68.length C75), (15, .slice A84 t78.length C85), (16, .slice A94 t88.length C95), (53, .bool b115)] → Ev (fun x => False ∨ m ≤ x) c0 w0 c117 w118 → CB (m + 18) c117 w118 → SL true (Kint .i64) 0 0 c117 w118 A31 C32 a5 → SL true (Kint .i64) (m + 2) 0 c117 w118 A43 C44 t37 → SL true (Kint .i64) (m + 3) 0 c117 w118 A53 C54 t47 → SL true (Kint .i64) (m + 4) 0 c117 w118 A63 C64 t57 → SL true (Kint .i64) (m + 5) 0 c117 w118 A74 C75 t68 → SL true (Kint .i64) (m + 6) 0 c117 w118 A84 C85 t78 → SL true (Kint .i64) (m + 7) 0 c117 w118 A94 C95 t88 → haulagelaw03_JumpOwn.j1 k a1 a3 a5 t37 t47 t57 t68 t78 t88 b115 = some r → K99 a w118 := by
   intro c117 w118 a b115 F E B h34 h45 h55 h65 h76 h86 h96 H; unfold haulagelaw03_JumpOwn.j1 at H; refine hK99 _ _ ?_
   by_cases hb119 : b115 = true
   ·replace H := ip hb119 H
    refine wct (fb F hb119) ?_; refine sr fun K120 hK120 => qa F fun a F => nil (hK120 _ _ ?_); replace F : Fr a 126 [(10, .bool false)] := F.sub ⟨rfl, trivial⟩; refine wp_ret ?_; refine thenR ?_; obtain rfl := si H; refine out1 F rfl rfl ?_; exact ⟨cf (ct m) c117, rfl, E.lv B0, cfb⟩
   replace H := im hb119 H; refine wcf (fb F (bfalse hb119)) (wp_skip (hK98 _ _ ?_)); refine sr fun K121 hK121 => qm F fun a F => qm F fun a F => ?_; obtain ⟨t122, q123, H⟩ := bind_some H; refine qc F Try.func13 (jump_Way.calls (m := m + 18) (pl hm0) B (m + 8) lm _ q123) ?_; rintro e w125 ⟨c124, A128, C129, rfl, E126, B, h130⟩; refine rt fun a F => ?_; replace h34 := h34.ev E126; replace E := E.n E126; refine qm F fun a F => qm F fun a F => ?_; obtain ⟨t132, q133, H⟩ := bind_some H; refine qc F Try.func26 (jump_Rank.calls k (m := m + 18) (pl hm0) B h34.r (by omega) (m + 9) lm _ q133) ?_; rintro e w135 ⟨c134, A138, C139, rfl, E136, B, h140⟩; refine rt fun a F => ?_
   replace E := E.n E136; refine qa F fun a F => qa F fun a F => nil (hK121 _ _ ?_); refine sr fun K142 hK142 => ?_; refine q_eff F rfl rfl (by decide) (e_build0 (ee := 3) F (fun w => by kernel_rfl) c134 (m + 10)) ?_; rintro v w144 a ⟨c143, A145, rfl, E146, B147⟩ F; replace B := B147 _ B lm; replace h45 := ((h45.ev E126).ev E136).ev E146; replace E := E.n E146; refine qm F fun a F => ?_; replace H := ifN H; obtain ⟨g149, H⟩ := H; refine q_eff F rfl rfl (by decide) (e_append0 (e := (Kint .i64)) (vs := t37) (c := c143) (j := 0) F et_25 rfl rfl h45 g149 (len_ok g149)) ?_; rintro v w151 a ⟨c150, A152, C153, rfl, E154, h155, B156⟩ F; replace B := B156 _ B (pl hm0); replace E := E.n E154; refine q_eff F rfl rfl (by decide) (e_build0 (ee := 3) F (fun w => by kernel_rfl) c150 (m + 11)) ?_; rintro v w158 a ⟨c157, A159, rfl, E160, B161⟩ F; replace B := B161 _ B lm; replace h76 := ((((h76.ev E126).ev E136).ev E146).ev E154).ev E160; replace E := E.n E160; refine qm F fun a F => ?_; replace H := ifN H; obtain ⟨g163, H⟩ := H
   refine q_eff F rfl rfl (by decide) (e_append0 (e := (Kint .i64)) (vs := t68) (c := c157) (j := 0) F et_25 rfl rfl h76 g163 (len_ok g163)) ?_; rintro v w165 a ⟨c164, A166, C167, rfl, E168, h169, B170⟩ F; replace B := B170 _ B (pl hm0); replace h34 := ((((h34.ev E136).ev E146).ev E154).ev E160).ev E168; replace h45 := ((h45.ev E154).ev E160).ev E168; replace h55 := (((((h55.ev E126).ev E136).ev E146).ev E154).ev E160).ev E168; replace h65 := (((((h65.ev E126).ev E136).ev E146).ev E154).ev E160).ev E168; replace h76 := h76.ev E168; replace h86 := (((((h86.ev E126).ev E136).ev E146).ev E154).ev E160).ev E168; replace h96 := (((((h96.ev E126).ev E136).ev E146).ev E154).ev E160).ev E168; replace h130 := ((((h130.ev E136).ev E146).ev E154).ev E160).ev E168; replace h140 := (((h140.ev E146).ev E154).ev E160).ev E168; replace h155 := (h155.ev E160).ev E168; replace E := E.n E168; refine qa F fun a F => qa F fun a F => nil (hK142 _ _ ?_); replace F : Fr a 126 [(0, .int .u64 a1), (2, .int .i64 a3), (4, .slice A31 a5.length C32), (11, .slice A43 t37.length C44), (12, .slice A53 t47.length C54), (13, .slice A63 t57.length C64), (14, .slice A74 t68.length C75), (15, .slice A84 t78.length C85), (16, .slice A94 t88.length C95), (17, .slice A128 t122.length C129), (18, .slice A138 t132.length C139), (19, .slice A152 t37.length C153), (20, .slice A166 t68.length C167)] := F.sub ⟨rfl, rfl, rfl, rfl, rfl, rfl, rfl, rfl, rfl, rfl, rfl, rfl, rfl, trivial⟩; refine sq fun K171 hK171 => ?_; refine sq fun K172 hK172 => ?_; have J221 : ∀ (c222 : Nat → Nat) (w223 : World) (a : Act) (b220 : Bool), Fr a 126 [(0, .int .u64 a1), (2, .int .i64 a3), (4, .slice A31 a5.length C32), (11, .slice A43 t37.length C44), (12, .slice A53 t47.length C54), (13, .slice A63 t57.length C64), (14, .slice A74 t68.length C75), (15, .slice A84 t78.length C85), (16, .slice A94 t88.length C95), (17, .slice A128 t122.length C129), (18, .slice A138 t132.length C139), (19, .slice A152 t37.length C153), (20, .slice A166 t68.length C167), (99, .bool b220)] → Ev (fun x => False ∨ m ≤ x) c0 w0 c222 w223 → CB (m + 18) c222 w223 → SL true (Kint .i64) 0 0 c222 w223 A31 C32 a5 → SL true (Kint .i64) (m + 2) 0 c222 w223 A43 C44 t37 → SL true (Kint .i64) (m + 3) 0 c222 w223 A53 C54 t47 → SL true (Kint .i64) (m + 4) 0 c222 w223 A63 C64 t57 → SL true (Kint .i64) (m + 5) 0 c222 w223 A74 C75 t68 → SL true (Kint .i64) (m + 6) 0 c222 w223 A84 C85 t78 → SL true (Kint .i64) (m + 7) 0 c222 w223 A94 C95 t88 → SL true (Kint .i64) (m + 8) 0 c222 w223 A128 C129 t122 → SL true (Kint .i64) (m + 9) 0 c222 w223 A138 C139 t132 → SL true (Kint .i64) 0 0 c222 w223 A152 C153 t37 → SL true (Kint .i64) 0 0 c222 w223 A166 C167 t68 → haulagelaw03_JumpOwn.j2 k a1 a3 a5 t37 t47 t57 t68 t78 t88 t122 t132 b220 = some r → K172 a w223 := by
    intro c222 w223 a b220 F E B h34 h45 h55 h65 h76 h86 h96 h130 h140 h155 h169 H; unfold haulagelaw03_JumpOwn.j2 at H; refine hK172 _ _ ?_
    by_cases hb224 : b220 = true
    ·replace H := ip hb224 H
     refine wct (fb F hb224) ?_; refine sr fun K225 hK225 => qa F fun a F => nil (hK225 _ _ ?_); replace F : Fr a 126 [(10, .bool false)] := F.sub ⟨rfl, trivial⟩; refine wp_ret ?_; refine thenR ?_; obtain rfl := si H; refine out1 F rfl rfl ?_; exact ⟨cf (ct m) c222, rfl, E.lv B0, cfb⟩
    replace H := im hb224 H; refine wcf (fb F (bfalse hb224)) (wp_skip (hK171 _ _ ?_)); refine sq fun K226 hK226 => ?_; refine sr fun K227 hK227 => qm F fun a F => qm F fun a F => qm F fun a F => qm F fun a F => qm F fun a F => qm F fun a F => qm F fun a F => qm F fun a F => ?_; refine q_eff F rfl rfl (by decide) (e_build0 (ee := 3) F (fun w => by kernel_rfl) c222 (m + 12)) ?_; rintro v w229 a ⟨c228, A230, rfl, E231, B232⟩ F; replace B := B232 _ B lm; replace h34 := h34.ev E231; replace E := E.n E231; refine qm F fun a F => ?_; replace H := ifN H; obtain ⟨g234, H⟩ := H; refine q_eff F rfl rfl (by decide) (e_append0 (e := (Kint .i64)) (vs := a5) (c := c228) (j := (m + 13)) F et_25 rfl rfl h34 g234 (len_ok g234)) ?_; rintro v w236 a ⟨c235, A237, C238, rfl, E239, h240, B241⟩ F
    replace B := B241 _ B lm; replace h34 := h34.ev E239; replace h45 := (h45.ev E231).ev E239; replace h55 := (h55.ev E231).ev E239; replace h65 := (h65.ev E231).ev E239; replace h76 := (h76.ev E231).ev E239; replace h86 := (h86.ev E231).ev E239; replace h96 := (h96.ev E231).ev E239; replace h130 := (h130.ev E231).ev E239; replace h140 := (h140.ev E231).ev E239; replace h155 := (h155.ev E231).ev E239; replace h169 := (h169.ev E231).ev E239; replace E := E.n E239; have h242 : GR (KOsl (Kint .i64)) (m + 14) c235 w236 (([] : List Value).map one1) ([] : List (List Int)) := GR.nil (pl hm0); obtain ⟨c243, e244, e245, h242⟩ := GP.push h242 h45 ⟨mm, (pl hm0)⟩; replace h34 := SL.rc h34 (rk e244 ne_zm) (rk e244 ne_zm); replace h55 := SL.rc h55 (rk e244 mm) (rk e244 ne_zm); replace h65 := SL.rc h65 (rk e244 mm) (rk e244 ne_zm); replace h76 := SL.rc h76 (rk e244 mm) (rk e244 ne_zm); replace h86 := SL.rc h86 (rk e244 mm) (rk e244 ne_zm); replace h96 := SL.rc h96 (rk e244 mm) (rk e244 ne_zm); replace h130 := SL.rc h130 (rk e244 mm) (rk e244 ne_zm)
    replace h140 := SL.rc h140 (rk e244 mm) (rk e244 ne_zm); replace h155 := SL.rc h155 (rk e244 ne_zm) (rk e244 ne_zm); replace h169 := SL.rc h169 (rk e244 ne_zm) (rk e244 ne_zm); replace h240 := SL.rc h240 (rk e244 mm) (rk e244 ne_zm); replace E := E.rk B0 e244; replace B := B.rk e245 lm; obtain ⟨c246, e247, e248, h242⟩ := GP.push h242 h55 ⟨mm, (pl hm0)⟩; replace h34 := SL.rc h34 (rk e247 ne_zm) (rk e247 ne_zm); replace h65 := SL.rc h65 (rk e247 mm) (rk e247 ne_zm); replace h76 := SL.rc h76 (rk e247 mm) (rk e247 ne_zm); replace h86 := SL.rc h86 (rk e247 mm) (rk e247 ne_zm); replace h96 := SL.rc h96 (rk e247 mm) (rk e247 ne_zm); replace h130 := SL.rc h130 (rk e247 mm) (rk e247 ne_zm); replace h140 := SL.rc h140 (rk e247 mm) (rk e247 ne_zm); replace h155 := SL.rc h155 (rk e247 ne_zm) (rk e247 ne_zm); replace h169 := SL.rc h169 (rk e247 ne_zm) (rk e247 ne_zm); replace h240 := SL.rc h240 (rk e247 mm) (rk e247 ne_zm); replace E := E.rk B0 e247; replace B := B.rk e248 lm; obtain ⟨c249, e250, e251, h242⟩ := GP.push h242 h65 ⟨mm, (pl hm0)⟩; replace h34 := SL.rc h34 (rk e250 ne_zm) (rk e250 ne_zm); replace h76 := SL.rc h76 (rk e250 mm) (rk e250 ne_zm)
    replace h86 := SL.rc h86 (rk e250 mm) (rk e250 ne_zm); replace h96 := SL.rc h96 (rk e250 mm) (rk e250 ne_zm); replace h130 := SL.rc h130 (rk e250 mm) (rk e250 ne_zm); replace h140 := SL.rc h140 (rk e250 mm) (rk e250 ne_zm); replace h155 := SL.rc h155 (rk e250 ne_zm) (rk e250 ne_zm); replace h169 := SL.rc h169 (rk e250 ne_zm) (rk e250 ne_zm); replace h240 := SL.rc h240 (rk e250 mm) (rk e250 ne_zm); replace E := E.rk B0 e250; replace B := B.rk e251 lm; obtain ⟨c252, e253, e254, h242⟩ := GP.push h242 h76 ⟨mm, (pl hm0)⟩; replace h34 := SL.rc h34 (rk e253 ne_zm) (rk e253 ne_zm); replace h86 := SL.rc h86 (rk e253 mm) (rk e253 ne_zm); replace h96 := SL.rc h96 (rk e253 mm) (rk e253 ne_zm); replace h130 := SL.rc h130 (rk e253 mm) (rk e253 ne_zm); replace h140 := SL.rc h140 (rk e253 mm) (rk e253 ne_zm); replace h155 := SL.rc h155 (rk e253 ne_zm) (rk e253 ne_zm); replace h169 := SL.rc h169 (rk e253 ne_zm) (rk e253 ne_zm); replace h240 := SL.rc h240 (rk e253 mm) (rk e253 ne_zm); replace E := E.rk B0 e253; replace B := B.rk e254 lm; obtain ⟨c255, e256, e257, h242⟩ := GP.push h242 h86 ⟨mm, (pl hm0)⟩; replace h34 := SL.rc h34 (rk e256 ne_zm) (rk e256 ne_zm)
    replace h96 := SL.rc h96 (rk e256 mm) (rk e256 ne_zm); replace h130 := SL.rc h130 (rk e256 mm) (rk e256 ne_zm); replace h140 := SL.rc h140 (rk e256 mm) (rk e256 ne_zm); replace h155 := SL.rc h155 (rk e256 ne_zm) (rk e256 ne_zm); replace h169 := SL.rc h169 (rk e256 ne_zm) (rk e256 ne_zm); replace h240 := SL.rc h240 (rk e256 mm) (rk e256 ne_zm); replace E := E.rk B0 e256; replace B := B.rk e257 lm; obtain ⟨c258, e259, e260, h242⟩ := GP.push h242 h96 ⟨mm, (pl hm0)⟩; replace h34 := SL.rc h34 (rk e259 ne_zm) (rk e259 ne_zm); replace h130 := SL.rc h130 (rk e259 mm) (rk e259 ne_zm); replace h140 := SL.rc h140 (rk e259 mm) (rk e259 ne_zm); replace h155 := SL.rc h155 (rk e259 ne_zm) (rk e259 ne_zm); replace h169 := SL.rc h169 (rk e259 ne_zm) (rk e259 ne_zm); replace h240 := SL.rc h240 (rk e259 mm) (rk e259 ne_zm); replace E := E.rk B0 e259; replace B := B.rk e260 lm; obtain ⟨c261, e262, e263, h242⟩ := GP.push h242 h130 ⟨mm, (pl hm0)⟩; replace h34 := SL.rc h34 (rk e262 ne_zm) (rk e262 ne_zm); replace h140 := SL.rc h140 (rk e262 mm) (rk e262 ne_zm); replace h155 := SL.rc h155 (rk e262 ne_zm) (rk e262 ne_zm); replace h169 := SL.rc h169 (rk e262 ne_zm) (rk e262 ne_zm)
    replace h240 := SL.rc h240 (rk e262 mm) (rk e262 ne_zm); replace E := E.rk B0 e262; replace B := B.rk e263 lm; obtain ⟨c264, e265, e266, h242⟩ := GP.push h242 h140 ⟨mm, (pl hm0)⟩; replace h34 := SL.rc h34 (rk e265 ne_zm) (rk e265 ne_zm); replace h155 := SL.rc h155 (rk e265 ne_zm) (rk e265 ne_zm); replace h169 := SL.rc h169 (rk e265 ne_zm) (rk e265 ne_zm); replace h240 := SL.rc h240 (rk e265 mm) (rk e265 ne_zm); replace E := E.rk B0 e265; replace B := B.rk e266 lm; obtain ⟨c267, e268, e269, h242⟩ := GP.push h242 h240 ⟨mm, (pl hm0)⟩; replace h34 := SL.rc h34 (rk e268 ne_zm) (rk e268 ne_zm); replace h155 := SL.rc h155 (rk e268 ne_zm) (rk e268 ne_zm); replace h169 := SL.rc h169 (rk e268 ne_zm) (rk e268 ne_zm); replace E := E.rk B0 e268; replace B := B.rk e269 lm; refine q_eff F rfl rfl (by decide) (e_buildSlice (n := 9) (e := 25) (c := c267) (k := Kval) (i := 0) F [(0, .slice A43 t37.length C44), (1, .slice A53 t47.length C54), (2, .slice A63 t57.length C64), (3, .slice A74 t68.length C75), (4, .slice A84 t78.length C85), (5, .slice A94 t88.length C95), (6, .slice A128 t122.length C129), (7, .slice A138 t132.length C139), (8, .slice A237 a5.length C238)] [.slice A43 t37.length C44, .slice A53 t47.length C54, .slice A63 t57.length C64, .slice A74 t68.length C75, .slice A84 t78.length C85, .slice A94 t88.length C95, .slice A128 t122.length C129, .slice A138 t132.length C139, .slice A237 a5.length C238] ([.slice A43 t37.length C44, .slice A53 t47.length C54, .slice A63 t57.length C64, .slice A74 t68.length C75, .slice A84 t78.length C85, .slice A94 t88.length C95, .slice A128 t122.length C129, .slice A138 t132.length C139, .slice A237 a5.length C238] : List Value) (by exact ⟨rfl, rfl, rfl, rfl, rfl, rfl, rfl, rfl, rfl, rfl, rfl, rfl, rfl, rfl, rfl, rfl, rfl, rfl, trivial⟩) (fun w => by kernel_rfl) rfl (by decide) rfl ⟨⟨rfl, rfl⟩, ⟨rfl, rfl⟩, ⟨rfl, rfl⟩, ⟨rfl, rfl⟩, ⟨rfl, rfl⟩, ⟨rfl, rfl⟩, ⟨rfl, rfl⟩, ⟨rfl, rfl⟩, ⟨rfl, rfl⟩, trivial⟩ (fun q => q) (m + 15)) ?_; rintro v w271 a ⟨c270, A272, C273, rfl, E274, h275, B276⟩ F; replace B := B276 _ B lm; replace h34 := h34.ev E274; replace h155 := h155.ev E274; replace h169 := h169.ev E274
    replace h242 := h242.ev E274; replace E := E.n E274; replace h275 : SP (Kint .i64) (m + 15) (m + 14) c270 w271 A272 C273 [t37, t47, t57, t68, t78, t88, t122, t132, a5] 0 := SP.mk h275 h242; obtain ⟨t277, q278, H⟩ := bind_some H; refine qc F Try.func32 (haulagelaw03_apart.calls k (m := m + 18) (pl hm0) B h275 ⟨(pl hm0), lm⟩ ⟨(pl hm0), lm, mm⟩ _ q278) ?_; rintro e w280 ⟨c279, rfl, E281, B⟩; refine rt fun a F => ?_; replace h34 := h34.ev E281 (nor ne_zm ne_zm) (nor ne_zm ne_zm); replace h155 := h155.ev E281 (nor ne_zm ne_zm) (nor ne_zm ne_zm); replace h169 := h169.ev E281 (nor ne_zm ne_zm) (nor ne_zm ne_zm); replace E := E.trans E281 lc2; refine qv F (r_not F rfl) fun a F => ?_; refine nil (hK227 _ _ ?_)
    by_cases hb284 : t277 = true
    ·replace H := ip hb284 H; refine wcf (fb F (congrArg not hb284)) (wp_skip (hK226 _ _ ?_)); refine sr fun K286 hK286 => qm F fun a F => qm F fun a F => ?_; obtain ⟨t287, q288, H⟩ := bind_some H; refine qc F Try.func13 (jump_Way.calls (m := m + 18) (pl hm0) B (m + 16) lm _ q288) ?_; rintro e w290 ⟨c289, A293, C294, rfl, E291, B, h295⟩; refine rt fun a F => ?_; replace h155 := h155.ev E291; replace E := E.n E291
     refine qm F fun a F => ?_; obtain ⟨t297, q298, H⟩ := bind_some H; refine qc F Try.func12 (haulagelaw03_same.calls k (m := m + 18) (pl hm0) B h295.r h155.r lm (pl hm0) _ q298) ?_; rintro e w300 ⟨c299, rfl, E301, B⟩; refine rt fun a F => ?_; replace h34 := (h34.ev E291).ev E301; replace h169 := (h169.ev E291).ev E301; replace E := E.n E301; refine qm F fun a F => ?_
     by_cases hb304 : t297 = true
     ·replace H := ip hb304 H; refine qy F hb304 ?_; refine qm F fun a F => ?_; refine qy F hb304 ?_; refine qm F fun a F => ?_; obtain ⟨t305, q306, H⟩ := bind_some H; refine qy F hb304 ?_; refine qc F Try.func26 (jump_Rank.calls k (m := m + 18) (pl hm0) B h34.r (by omega) (m + 17) lm _ q306) ?_; rintro e w308 ⟨c307, A311, C312, rfl, E309, B, h313⟩; refine rt fun a F => ?_; replace h169 := h169.ev E309; replace E := E.n E309; refine qy F hb304 ?_
      refine qm F fun a F => ?_; obtain ⟨t315, q316, H⟩ := bind_some H; refine qy F hb304 ?_; refine qc F Try.func12 (haulagelaw03_same.calls k (m := m + 18) (pl hm0) B h313.r h169.r lm (pl hm0) _ q316) ?_; rintro e w318 ⟨c317, rfl, E319, B⟩; refine rt fun a F => ?_; replace E := E.n E319; refine qv F (r_pick_t F rfl hb304 rfl) fun a F => ?_; refine qa F fun a F => nil (hK286 _ _ ?_); replace F : Fr a 126 [(10, .bool t315)] := F.sub ⟨rfl, trivial⟩; refine wp_ret ?_; obtain rfl := si H; refine out1 F rfl rfl ?_; exact ⟨cf (ct m) c317, rfl, E.lv B0, cfb⟩
     replace H := im hb304 H; refine qn F (bfalse hb304) fun a F => qn F (bfalse hb304) fun a F => qn F (bfalse hb304) fun a F => qn F (bfalse hb304) fun a F => qn F (bfalse hb304) fun a F => ?_; refine qv F (r_pick_f F rfl (bfalse hb304) rfl) fun a F => ?_; refine qa F fun a F => nil (hK286 _ _ ?_); replace F : Fr a 126 [(10, .bool false)] := F.sub ⟨rfl, trivial⟩; refine wp_ret ?_; obtain rfl := si H; refine out1 F rfl rfl ?_; exact ⟨cf (ct m) c299, rfl, E.lv B0, cfb⟩
    replace H := im hb284 H; refine wct (fb F (congrArg not (bfalse hb284))) ?_; refine sr fun K285 hK285 => qa F fun a F => nil (hK285 _ _ ?_); replace F : Fr a 126 [(10, .bool false)] := F.sub ⟨rfl, trivial⟩; refine wp_ret ?_; refine thenR ?_; obtain rfl := si H; refine out1 F rfl rfl ?_; exact ⟨cf (ct m) c279, rfl, E.lv B0, cfb⟩
   refine reg ?_; refine qm F fun a F => qm F fun a F => ?_; obtain ⟨t173, q174, H⟩ := bind_some H; refine qc F Try.func12 (haulagelaw03_same.calls k (m := m + 18) (pl hm0) B h45.r h155.r lm (pl hm0) _ q174) ?_; rintro e w176 ⟨c175, rfl, E177, B⟩; refine rt fun a F => ?_; replace h34 := h34.ev E177; replace h45 := h45.ev E177; replace h55 := h55.ev E177; replace h65 := h65.ev E177; replace h76 := h76.ev E177; replace h86 := h86.ev E177; replace h96 := h96.ev E177
   replace h130 := h130.ev E177; replace h140 := h140.ev E177; replace h155 := h155.ev E177; replace h169 := h169.ev E177; replace E := E.n E177; refine qv F (r_not F rfl) fun a F => ?_; refine qm F fun a F => ?_
   by_cases hb180 : t173 = true
   ·replace H := ip hb180 H; refine qy F (congrArg not hb180) ?_; refine qm F fun a F => ?_; refine qy F (congrArg not hb180) ?_; refine qm F fun a F => ?_; obtain ⟨t181, q182, H⟩ := bind_some H; refine qy F (congrArg not hb180) ?_; refine qc F Try.func12 (haulagelaw03_same.calls k (m := m + 18) (pl hm0) B h55.r h155.r lm (pl hm0) _ q182) ?_; rintro e w184 ⟨c183, rfl, E185, B⟩; refine rt fun a F => ?_; replace h34 := h34.ev E185; replace h45 := h45.ev E185; replace h55 := h55.ev E185; replace h65 := h65.ev E185; replace h76 := h76.ev E185
    replace h86 := h86.ev E185; replace h96 := h96.ev E185; replace h130 := h130.ev E185; replace h140 := h140.ev E185; replace h155 := h155.ev E185; replace h169 := h169.ev E185; replace E := E.n E185; refine qy F (congrArg not hb180) ?_; refine qv F (r_not F rfl) fun a F => ?_; refine qv F (r_pick_f F rfl (congrArg not hb180) rfl) fun a F => ?_; refine qm F fun a F => ?_
    by_cases hb188 : t181 = true
    ·replace H := ip hb188 H; refine qy F (congrArg not hb188) ?_; refine qm F fun a F => ?_; refine qy F (congrArg not hb188) ?_; refine qm F fun a F => ?_; obtain ⟨t189, q190, H⟩ := bind_some H; refine qy F (congrArg not hb188) ?_; refine qc F Try.func12 (haulagelaw03_same.calls k (m := m + 18) (pl hm0) B h130.r h155.r lm (pl hm0) _ q190) ?_; rintro e w192 ⟨c191, rfl, E193, B⟩; refine rt fun a F => ?_; replace h34 := h34.ev E193
     replace h45 := h45.ev E193; replace h55 := h55.ev E193; replace h65 := h65.ev E193; replace h76 := h76.ev E193; replace h86 := h86.ev E193; replace h96 := h96.ev E193; replace h130 := h130.ev E193; replace h140 := h140.ev E193; replace h155 := h155.ev E193; replace h169 := h169.ev E193; replace E := E.n E193; refine qy F (congrArg not hb188) ?_; refine qv F (r_not F rfl) fun a F => ?_; refine qv F (r_pick_f F rfl (congrArg not hb188) rfl) fun a F => ?_; refine qm F fun a F => ?_
     by_cases hb196 : t189 = true
     ·replace H := ip hb196 H; refine qy F (congrArg not hb196) ?_; refine qm F fun a F => ?_; refine qy F (congrArg not hb196) ?_; refine qm F fun a F => ?_; obtain ⟨t197, q198, H⟩ := bind_some H; refine qy F (congrArg not hb196) ?_
      refine qc F Try.func12 (haulagelaw03_same.calls k (m := m + 18) (pl hm0) B h76.r h169.r lm (pl hm0) _ q198) ?_; rintro e w200 ⟨c199, rfl, E201, B⟩; refine rt fun a F => ?_; replace h34 := h34.ev E201; replace h45 := h45.ev E201; replace h55 := h55.ev E201; replace h65 := h65.ev E201; replace h76 := h76.ev E201; replace h86 := h86.ev E201; replace h96 := h96.ev E201; replace h130 := h130.ev E201; replace h140 := h140.ev E201; replace h155 := h155.ev E201; replace h169 := h169.ev E201; replace E := E.n E201; refine qy F (congrArg not hb196) ?_; refine qv F (r_not F rfl) fun a F => ?_; refine qv F (r_pick_f F rfl (congrArg not hb196) rfl) fun a F => ?_; refine qm F fun a F => ?_
      by_cases hb204 : t197 = true
      ·replace H := ip hb204 H; refine qy F (congrArg not hb204) ?_; refine qm F fun a F => ?_
       refine qy F (congrArg not hb204) ?_; refine qm F fun a F => ?_; obtain ⟨t205, q206, H⟩ := bind_some H; refine qy F (congrArg not hb204) ?_; refine qc F Try.func12 (haulagelaw03_same.calls k (m := m + 18) (pl hm0) B h86.r h169.r lm (pl hm0) _ q206) ?_; rintro e w208 ⟨c207, rfl, E209, B⟩; refine rt fun a F => ?_; replace h34 := h34.ev E209; replace h45 := h45.ev E209; replace h55 := h55.ev E209; replace h65 := h65.ev E209; replace h76 := h76.ev E209; replace h86 := h86.ev E209; replace h96 := h96.ev E209; replace h130 := h130.ev E209; replace h140 := h140.ev E209; replace h155 := h155.ev E209; replace h169 := h169.ev E209; replace E := E.n E209; refine qy F (congrArg not hb204) ?_; refine qv F (r_not F rfl) fun a F => ?_; refine qv F (r_pick_f F rfl (congrArg not hb204) rfl) fun a F => ?_
       refine qm F fun a F => ?_
       by_cases hb212 : t205 = true
       ·replace H := ip hb212 H; refine qy F (congrArg not hb212) ?_; refine qm F fun a F => ?_; refine qy F (congrArg not hb212) ?_; refine qm F fun a F => ?_; obtain ⟨t213, q214, H⟩ := bind_some H; refine qy F (congrArg not hb212) ?_; refine qc F Try.func12 (haulagelaw03_same.calls k (m := m + 18) (pl hm0) B h140.r h169.r lm (pl hm0) _ q214) ?_; rintro e w216 ⟨c215, rfl, E217, B⟩; refine rt fun a F => ?_; replace h34 := h34.ev E217; replace h45 := h45.ev E217; replace h55 := h55.ev E217; replace h65 := h65.ev E217; replace h76 := h76.ev E217; replace h86 := h86.ev E217; replace h96 := h96.ev E217; replace h130 := h130.ev E217; replace h140 := h140.ev E217; replace h155 := h155.ev E217; replace h169 := h169.ev E217
        replace E := E.n E217; refine qy F (congrArg not hb212) ?_; refine qv F (r_not F rfl) fun a F => ?_; refine qv F (r_pick_f F rfl (congrArg not hb212) rfl) fun a F => ?_; refine nil ?_; exact J221 c215 w216 a (!t213) (F.sub ⟨rfl, rfl, rfl, rfl, rfl, rfl, rfl, rfl, rfl, rfl, rfl, rfl, rfl, rfl, trivial⟩) E B h34 h45 h55 h65 h76 h86 h96 h130 h140 h155 h169 H
       replace H := im hb212 H; refine qn F (congrArg not (bfalse hb212)) fun a F => qn F (congrArg not (bfalse hb212)) fun a F => qn F (congrArg not (bfalse hb212)) fun a F => qn F (congrArg not (bfalse hb212)) fun a F => ?_; refine qv F (r_pick_t F rfl (congrArg not (bfalse hb212)) rfl) fun a F => ?_; refine nil ?_; exact J221 c207 w208 a true (F.sub ⟨rfl, rfl, rfl, rfl, rfl, rfl, rfl, rfl, rfl, rfl, rfl, rfl, rfl, rfl, trivial⟩) E B h34 h45 h55 h65 h76 h86 h96 h130 h140 h155 h169 H
      replace H := im hb204 H; refine qn F (congrArg not (bfalse hb204)) fun a F => qn F (congrArg not (bfalse hb204)) fun a F => qn F (congrArg not (bfalse hb204)) fun a F => qn F (congrArg not (bfalse hb204)) fun a F => ?_; refine qv F (r_pick_t F rfl (congrArg not (bfalse hb204)) rfl) fun a F => ?_; refine qm F fun a F => qn F rfl fun a F => qn F rfl fun a F => qn F rfl fun a F => qn F rfl fun a F => ?_; refine qt F fun a F => ?_; refine nil ?_; exact J221 c199 w200 a true (F.sub ⟨rfl, rfl, rfl, rfl, rfl, rfl, rfl, rfl, rfl, rfl, rfl, rfl, rfl, rfl, trivial⟩) E B h34 h45 h55 h65 h76 h86 h96 h130 h140 h155 h169 H
     replace H := im hb196 H; refine qn F (congrArg not (bfalse hb196)) fun a F => qn F (congrArg not (bfalse hb196)) fun a F => qn F (congrArg not (bfalse hb196)) fun a F => qn F (congrArg not (bfalse hb196)) fun a F => ?_; refine qv F (r_pick_t F rfl (congrArg not (bfalse hb196)) rfl) fun a F => ?_; refine qm F fun a F => qn F rfl fun a F => qn F rfl fun a F => qn F rfl fun a F => qn F rfl fun a F => ?_
     refine qt F fun a F => ?_; refine qm F fun a F => qn F rfl fun a F => qn F rfl fun a F => qn F rfl fun a F => qn F rfl fun a F => ?_; refine qt F fun a F => ?_; refine nil ?_; exact J221 c191 w192 a true (F.sub ⟨rfl, rfl, rfl, rfl, rfl, rfl, rfl, rfl, rfl, rfl, rfl, rfl, rfl, rfl, trivial⟩) E B h34 h45 h55 h65 h76 h86 h96 h130 h140 h155 h169 H
    replace H := im hb188 H; refine qn F (congrArg not (bfalse hb188)) fun a F => qn F (congrArg not (bfalse hb188)) fun a F => qn F (congrArg not (bfalse hb188)) fun a F => qn F (congrArg not (bfalse hb188)) fun a F => ?_; refine qv F (r_pick_t F rfl (congrArg not (bfalse hb188)) rfl) fun a F => ?_; refine qm F fun a F => qn F rfl fun a F => qn F rfl fun a F => qn F rfl fun a F => qn F rfl fun a F => ?_; refine qt F fun a F => ?_; refine qm F fun a F => qn F rfl fun a F => qn F rfl fun a F => qn F rfl fun a F => qn F rfl fun a F => ?_; refine qt F fun a F => ?_; refine qm F fun a F => qn F rfl fun a F => qn F rfl fun a F => qn F rfl fun a F => qn F rfl fun a F => ?_; refine qt F fun a F => ?_; refine nil ?_; exact J221 c183 w184 a true (F.sub ⟨rfl, rfl, rfl, rfl, rfl, rfl, rfl, rfl, rfl, rfl, rfl, rfl, rfl, rfl, trivial⟩) E B h34 h45 h55 h65 h76 h86 h96 h130 h140 h155 h169 H
   replace H := im hb180 H; refine qn F (congrArg not (bfalse hb180)) fun a F => qn F (congrArg not (bfalse hb180)) fun a F => qn F (congrArg not (bfalse hb180)) fun a F => qn F (congrArg not (bfalse hb180)) fun a F => ?_; refine qv F (r_pick_t F rfl (congrArg not (bfalse hb180)) rfl) fun a F => ?_; refine qm F fun a F => qn F rfl fun a F => qn F rfl fun a F => qn F rfl fun a F => qn F rfl fun a F => ?_; refine qt F fun a F => ?_; refine qm F fun a F => qn F rfl fun a F => qn F rfl fun a F => qn F rfl fun a F => qn F rfl fun a F => ?_
   refine qt F fun a F => ?_; refine qm F fun a F => qn F rfl fun a F => qn F rfl fun a F => qn F rfl fun a F => qn F rfl fun a F => ?_; refine qt F fun a F => ?_; refine qm F fun a F => qn F rfl fun a F => qn F rfl fun a F => qn F rfl fun a F => qn F rfl fun a F => ?_; refine qt F fun a F => ?_; refine nil ?_; exact J221 c175 w176 a true (F.sub ⟨rfl, rfl, rfl, rfl, rfl, rfl, rfl, rfl, rfl, rfl, rfl, rfl, rfl, rfl, trivial⟩) E B h34 h45 h55 h65 h76 h86 h96 h130 h140 h155 h169 H
  refine reg ?_; refine qm F fun a F => qm F fun a F => ?_; obtain ⟨t100, q101, H⟩ := bind_some H; refine qc F Try.func12 (haulagelaw03_same.calls k (m := m + 18) (pl hm0) B h45.r h55.r lm lm _ q101) ?_; rintro e w103 ⟨c102, rfl, E104, B⟩; refine rt fun a F => ?_; replace h34 := h34.ev E104; replace h45 := h45.ev E104; replace h55 := h55.ev E104; replace h65 := h65.ev E104; replace h76 := h76.ev E104; replace h86 := h86.ev E104; replace h96 := h96.ev E104; replace E := E.n E104; refine qv F (r_not F rfl) fun a F => ?_
  refine qm F fun a F => ?_
  by_cases hb107 : t100 = true
  ·replace H := ip hb107 H; refine qy F (congrArg not hb107) ?_; refine qm F fun a F => ?_; refine qy F (congrArg not hb107) ?_; refine qm F fun a F => ?_; obtain ⟨t108, q109, H⟩ := bind_some H; refine qy F (congrArg not hb107) ?_; refine qc F Try.func12 (haulagelaw03_same.calls k (m := m + 18) (pl hm0) B h76.r h86.r lm lm _ q109) ?_; rintro e w111 ⟨c110, rfl, E112, B⟩; refine rt fun a F => ?_; replace h34 := h34.ev E112; replace h45 := h45.ev E112; replace h55 := h55.ev E112; replace h65 := h65.ev E112; replace h76 := h76.ev E112; replace h86 := h86.ev E112; replace h96 := h96.ev E112; replace E := E.n E112; refine qy F (congrArg not hb107) ?_; refine qv F (r_not F rfl) fun a F => ?_; refine qv F (r_pick_f F rfl (congrArg not hb107) rfl) fun a F => ?_
   refine nil ?_; exact J116 c110 w111 a (!t108) (F.sub ⟨rfl, rfl, rfl, rfl, rfl, rfl, rfl, rfl, rfl, rfl, trivial⟩) E B h34 h45 h55 h65 h76 h86 h96 H
  replace H := im hb107 H; refine qn F (congrArg not (bfalse hb107)) fun a F => qn F (congrArg not (bfalse hb107)) fun a F => qn F (congrArg not (bfalse hb107)) fun a F => qn F (congrArg not (bfalse hb107)) fun a F => ?_; refine qv F (r_pick_t F rfl (congrArg not (bfalse hb107)) rfl) fun a F => ?_; refine nil ?_; exact J116 c102 w103 a true (F.sub ⟨rfl, rfl, rfl, rfl, rfl, rfl, rfl, rfl, rfl, rfl, trivial⟩) E B h34 h45 h55 h65 h76 h86 h96 H
 replace H := im hb19 H; refine wct (fb F (congrArg not (bfalse hb19))) ?_; refine sr fun K20 hK20 => qa F fun a F => nil (hK20 _ _ ?_); refine wp_ret ?_; refine thenR ?_; obtain rfl := si H; refine out1 F rfl rfl ?_; exact ⟨cf (ct m) c14, rfl, E.lv B0, cfb⟩
end Go.Proofs.Ytchmknacofaepaa.G
/-! Arguments opened: what the reading of an argument says in the words of kinds. -/
namespace Go.Proofs.Ytchmknacofaepaa.G
open Go Go.ChangeShapes Go.WideShapes
set_option linter.unusedVariables false
set_option linter.unusedSimpArgs false
/-! ### bulk -/
theorem bulk_one {H : Type} (d : DataW H) : 1 ≤ Rows.uptoBulk d := by
 cases d with
 | lit l => cases l <;> simp [Rows.uptoBulk]
 | nil => simp [Rows.uptoBulk]
 | ptr d => simp [Rows.uptoBulk]
 | slice elems spare => simp [Rows.uptoBulk]
 | agg parts => simp [Rows.uptoBulk]
 | iface t d => simp [Rows.uptoBulk]
 | map entries => simp [Rows.uptoBulk]
 | held h => simp [Rows.uptoBulk]
theorem bulk_slice {H : Type} (elems spare : List (DataW H)) : Rows.uptoBulkAll elems + 1 ≤ Rows.uptoBulk (.slice elems spare) := by
 simp only [Rows.uptoBulk]
 omega
theorem bulk_agg {H : Type} (parts : List (DataW H)) : Rows.uptoBulkAll parts + 1 ≤ Rows.uptoBulk (.agg parts) := by
 simp only [Rows.uptoBulk]
 omega
theorem bulk_all {H : Type} : ∀ l : List (DataW H), Rows.uptoBulkAll l = (l.map Rows.uptoBulk).sum
 | [] => by simp [Rows.uptoBulkAll]
 | d :: l => by simp [Rows.uptoBulkAll, bulk_all l]
/-! ### openers -/
def c0 : Nat → Nat := fun _ => 0
def Opens {α : Type} (P : Program) (w : World) (t : TypeId) (e : K α) (wt : α → Nat) (ok : α → Prop) : Prop :=
 ∀ (H : Type) (enc : TypeId × Value → H) (fuel : Nat) (cs : List Value) (x : DataW H × List MemPlace), DataW.trod enc P w 0 (fun _ => true) true fuel t cs = some x → ∃ y, e.rep 0 c0 w cs y ∧ wt y ≤ Rows.uptoBulk x.1 ∧ ok y
section
variable {α : Type} {P : Program} {w : World} {t u : TypeId} {e : K α} {wt : α → Nat} {ok : α → Prop}
theorem opens_int {k : IntKind} (ht : P.underlying t = some (.int k)) : Opens P w t (Kint k) (fun _ => 1) (fun n => (Lit.int k n).wf = true) := by
 intro H enc fuel cs x h
 obtain ⟨n, rfl, rfl, hw⟩ := DataW.trod_int ht h
 exact ⟨n, rfl, bulk_one _, hw⟩
theorem opens_bool (ht : P.underlying t = some .bool) : Opens P w t Kbool (fun _ => 1) (fun _ => True) := by
 intro H enc fuel cs x h
 obtain ⟨n, rfl, rfl⟩ := DataW.trod_bool ht h
 exact ⟨n, rfl, bulk_one _, trivial⟩
theorem at_cell {p : Addr} {v : Value} (h : w.cell? p = some v) : p = ⟨p.block, p.off, none⟩ ∧ ∃ cur ty fz, w.heap[p.block]? = some (.cells cur ty fz) ∧ cur[p.off]? = some v := by
 obtain ⟨b, off, spot⟩ := p
 simp only [World.cell?] at h
 split at h
 ·rename_i c ty fz hb
  cases spot with
  | some s => simp at h
  | none => exact ⟨rfl, c, ty, fz, hb, by simpa using h⟩
 ·cases h
theorem at_cells {p : Addr} {n : Nat} {cs : List Value} (hn : cs.length = n) (hp : 0 < n) (h : ∀ i, i < n → w.cell? (p.add i) = cs[i]?) : AT false 0 c0 w p cs := by
 have h0 := h 0 hp
 have e0 : p.add 0 = p := by simp [Addr.add]
 rw [e0, List.getElem?_eq_getElem (by omega)] at h0
 obtain ⟨ep, cur, ty, fz, hb, hc⟩ := at_cell h0
 refine ⟨p.block, p.off, cur, ty, fz, ep, hb, rfl, fun k hk => ?_, fun q => by cases q⟩
 have hk' := h k (by omega)
 rw [ep, add_eq] at hk'
 simp only [World.cell?, hb] at hk'
 simpa using hk'
theorem sum_le {β γ : Type} (f : β → Nat) (g : γ → Nat) : ∀ (l : List β) (m : List γ), l.length = m.length → (∀ i (h : i < l.length) (h' : i < m.length), f l[i] ≤ g m[i]) → (l.map f).sum ≤ (m.map g).sum
 | [], [], _, _ => Nat.le_refl _
 | [], _ :: _, h, _ => by simp at h
 | _ :: _, [], h, _ => by simp at h
 | a :: l, b :: m, h, hh => by
  simp only [List.map_cons, List.sum_cons]
  have h0 := hh 0 (by simp) (by simp)
  simp only [List.getElem_cons_zero] at h0
  have := sum_le f g l m (by simpa using h) (fun i h1 h2 => by
   have := hh (i + 1) (by simp; omega) (by simp; omega)
   simpa using this)
  omega
/-- A slice of them. -/
theorem open_sl [Inhabited α] (ht : P.underlying t = some (.slice u)) (hc : P.cellsOf u = e.sz) (hu : Opens P w u e wt ok) {H : Type} {enc : TypeId × Value → H} {fuel : Nat} {cs : List Value} {x : DataW H × List MemPlace}
  (h : DataW.trod enc P w 0 (fun _ => true) true fuel t cs = some x) :
  ∃ A cap xs, cs = [.slice A xs.length cap] ∧ SL false e 0 0 c0 w A cap xs ∧ (xs.map wt).sum + 1 ≤ Rows.uptoBulk x.1 ∧ ∀ y ∈ xs, ok y := by
 rcases Deep.open_slice ht h with ⟨rfl, rfl⟩ | ⟨a, len, cap, m, n, D, Pl, rfl, _, hl, hm, hmm, rfl, hx⟩
 ·exact ⟨none, 0, [], rfl, SL.nil, by simp [Rows.uptoBulk], fun y hy => by cases hy⟩
 simp only [if_true] at hmm
 subst hmm
 have hp := e.pos
 rw [hc] at hx
 have each : ∀ i, i < m → ∃ y : List Value × α, (y.1.length = e.sz ∧ ∀ k, k < e.sz → w.cell? ((a.add (i * e.sz)).add k) = y.1[k]?) ∧ e.rep 0 c0 w y.1 y.2 ∧ wt y.2 ≤ Rows.uptoBulk (D i) ∧ ok y.2 := by
  intro i hi
  obtain ⟨cs', h1, h2⟩ := hx i hi
  obtain ⟨_, g1, g2⟩ := World.cells?_some h1
  obtain ⟨y, g3, g4, g5⟩ := hu H enc n cs' _ h2
  exact ⟨(cs', y), ⟨g1, g2⟩, g3, g4, g5⟩
 obtain ⟨y, hy⟩ := Deep.choose_lt each
 let V : Nat → Value := fun q => (y (q / e.sz)).1.getD (q % e.sz) default
 have hV : ∀ i k, k < e.sz → V (i * e.sz + k) = (y i).1.getD k default := by
  intro i k hk
  show (y ((i * e.sz + k) / e.sz)).1.getD ((i * e.sz + k) % e.sz) default = _
  rw [Nat.mul_comm, Nat.mul_add_div hp, Nat.div_eq_of_lt hk, Nat.add_zero, Nat.mul_add_mod, Nat.mod_eq_of_lt hk]
 let cs := (List.range (m * e.sz)).map V
 have hcs : cs.length = m * e.sz := by simp [cs]
 have hcell : ∀ q, q < m * e.sz → w.cell? (a.add q) = cs[q]? := by
  intro q hq
  have hi : q / e.sz < m := (Nat.div_lt_iff_lt_mul hp).2 hq
  have hk : q % e.sz < e.sz := Nat.mod_lt _ hp
  obtain ⟨⟨g1, g2⟩, _⟩ := hy _ hi
  have g := g2 _ hk
  have e1 : (a.add (q / e.sz * e.sz)).add (q % e.sz) = a.add q := by
   have e2 : q / e.sz * e.sz + q % e.sz = q := Nat.div_add_mod' q e.sz
   obtain ⟨b, off, s⟩ := a
   simp only [Addr.add]
   split <;> split <;> split <;> simp_all <;> omega
  rw [e1] at g
  rw [g]
  simp only [cs, List.getElem?_map, List.getElem?_range hq, Option.map_some]
  show _ = some ((y (q / e.sz)).1.getD (q % e.sz) default)
  rw [List.getD_eq_getElem?_getD, List.getElem?_eq_getElem (by omega)]
  rfl
 refine ⟨some a, m, (List.range len).map fun i => (y i).2, by simp, ⟨cs, by simpa using hl, hm, hcs, ?_, fun n hn => ?_⟩, ?_, ?_⟩
 ·rcases Nat.eq_zero_or_pos (m * e.sz) with q | q
  ·left; exact List.length_eq_zero_iff.1 (by omega)
  ·right; exact ⟨a, rfl, at_cells hcs q hcell⟩
 ·simp only [List.length_map, List.length_range] at hn
  obtain ⟨⟨g1, _⟩, g3, _, _⟩ := hy n (by omega)
  have e1 : (cs.drop (n * e.sz)).take e.sz = (y n).1 := by
   apply List.ext_getElem?
   intro k
   by_cases hk : k < e.sz
   ·have hq : n * e.sz + k < m * e.sz := by
     have : (n + 1) * e.sz ≤ m * e.sz := Nat.mul_le_mul_right _ (by omega)
     rw [Nat.succ_mul] at this; omega
    rw [List.getElem?_take_of_lt hk, List.getElem?_drop]
    simp only [cs, List.getElem?_map, List.getElem?_range hq, Option.map_some]
    rw [hV n k hk, List.getD_eq_getElem?_getD, List.getElem?_eq_getElem (by omega)]
    rfl
   ·rw [List.getElem?_eq_none (by simp; omega), List.getElem?_eq_none (by omega)]
  rw [e1]
  simpa using g3
 ·refine Nat.le_trans (Nat.succ_le_succ ?_) (bulk_slice _ _)
  rw [bulk_all]
  rw [List.map_map, List.map_map]
  have := sum_le (fun i => wt (y i).2) (fun i => Rows.uptoBulk (D i)) (List.range len) (List.range len) rfl (fun i h1 h2 => by
   simp only [List.length_range] at h1
   simp only [List.getElem_range]
   exact (hy i (by omega)).2.2.1)
  exact this
 ·intro z hz
  obtain ⟨i, hi, rfl⟩ := List.mem_map.1 hz
  exact (hy i (by have := List.mem_range.1 hi; omega)).2.2.2
theorem opens_slice [Inhabited α] (ht : P.underlying t = some (.slice u)) (hc : P.cellsOf u = e.sz) (hu : Opens P w u e wt ok) : Opens P w t (Kslice e) (fun xs => (xs.map wt).sum + 1) (fun xs => ∀ y ∈ xs, ok y) := by
 intro H enc fuel cs x h
 obtain ⟨A, cap, xs, h1, h2, h3, h4⟩ := open_sl ht hc hu h
 exact ⟨xs, ⟨A, cap, h1, h2⟩, h3, h4⟩
end
end Go.Proofs.Ytchmknacofaepaa.G
/-! The arguments of the rows, opened. -/
namespace Go.Proofs.Ytchmknacofaepaa.G
open Go Go.ChangeShapes Go.WideShapes
set_option linter.unusedVariables false
theorem row_own : ownKnob Try.prog.godebug = none := by kernel_rfl
theorem row_laidOut : laidOutB Try.prog = true := by kernel_rfl
def intok (n : Int) : Prop := (Lit.int .i64 n).wf = true
theorem intok.range {n : Int} (h : intok n) : -9223372036854775808 ≤ n ∧ n ≤ 9223372036854775807 := by simpa [intok, Lit.wf, IntKind.min, IntKind.max, IntKind.signed, IntKind.bits] using h
def byteok (n : Int) : Prop := (Lit.int .u8 n).wf = true
def bytesok (xs : List Int) : Prop := ∀ n ∈ xs, byteok n
theorem byteok.range {n : Int} (h : byteok n) : 0 ≤ n ∧ n ≤ 255 := by simpa [byteok, Lit.wf, IntKind.min, IntKind.max, IntKind.signed, IntKind.bits] using h
theorem sum_one {α : Type} (xs : List α) : (xs.map fun _ => 1).sum = xs.length := by
 induction xs with
 | nil => rfl
 | cons x xs ih => simp [ih]; omega
theorem mem_sum {α : Type} (f : α → Nat) : ∀ {xs : List α} {x : α}, x ∈ xs → f x ≤ (xs.map f).sum
 | y :: xs, x, h => by
  rcases List.mem_cons.1 h with e | h
  ·subst e; simp
  ·have := mem_sum f h; simp only [List.map_cons, List.sum_cons]; omega
theorem len_sum {α : Type} (f : α → Nat) (hf : ∀ x, 1 ≤ f x) : ∀ xs : List α, xs.length ≤ (xs.map f).sum
 | [] => Nat.le_refl _
 | x :: xs => by have := len_sum f hf xs; have := hf x; simp only [List.map_cons, List.sum_cons, List.length_cons]; omega
theorem cells_3 : Try.prog.cellsOf 3 = 1 := by kernel_rfl
theorem cells_5 : Try.prog.cellsOf 5 = 1 := by kernel_rfl
theorem opens_bytes {w : World} : Opens Try.prog w 28 (Kslice (Kint .u8)) (fun xs => xs.length + 1) bytesok := by
 intro H enc fuel cs x h
 obtain ⟨y, h1, h2, h3⟩ := opens_slice (e := Kint .u8) Try.underlying28 cells_5 (opens_int Try.underlying5) H enc fuel cs x h
 have h2' : (y.map fun _ => 1).sum + 1 ≤ Rows.uptoBulk x.1 := h2
 rw [sum_one] at h2'
 exact ⟨y, h1, h2', h3⟩
/-- an argument -/
theorem arg_ints {H : Type} {enc : TypeId × Value → H} {w : World} {v : Value} {d : DataW H} {p : List MemPlace} (hv : ∃ a len cap, v = .slice a len cap) (h : DataW.Trod enc Try.prog w 0 (fun _ => true) true 25 v d p) :
  ∃ A C xs, v = .slice A xs.length C ∧ SL false (Kint .i64) 0 0 c0 w A C xs ∧ (xs.map (fun _ => 1)).sum + 1 ≤ Rows.uptoBulk d ∧ ∀ o ∈ xs, (fun n => (Lit.int .i64 n).wf = true) o := by
 obtain ⟨a, len, cap, rfl⟩ := hv
 obtain ⟨fuel, hf⟩ := h
 obtain ⟨A, C, xs, e, h1, h2, h3⟩ := open_sl (e := (Kint .i64)) Try.underlying25 cells_3 (opens_int Try.underlying3) hf
 refine ⟨A, C, xs, ?_, h1, h2, h3⟩
 have e' : [Value.slice a len cap] = [.slice A xs.length C] := e
 exact List.head_eq_of_cons_eq e'
end Go.Proofs.Ytchmknacofaepaa.G
/-! Lists of lists that are written full, gone on with, looked at: the plain side. -/
namespace Go.Proofs.Ytchmknacofaepaa.G
open Go
set_option linter.unusedVariables false
set_option linter.unusedSimpArgs false
theorem oa_next {S X : Type} {f : S → Option (Ctl S X)} {n : Nat} {s s' : S} (h : f s = some (.next s')) : loop f (n + 1) s = loop f n s' := by
 show (f s).bind _ = _; rw [h]; rfl
theorem oa_done {S X : Type} {f : S → Option (Ctl S X)} {n : Nat} {s : S} {x : X} (h : f s = some (.done x)) : loop f (n + 1) s = some x := by
 show (f s).bind _ = _; rw [h]; rfl
theorem oa_count' {S X : Type} {f : S → Option (Ctl S X)} {s : Nat → S} {x : X} {N : Nat} (step : ∀ i, i < N → f (s i) = some (.next (s (i + 1)))) (last : f (s N) = some (.done x)) : ∀ (n i m : Nat), i + n = N → n < m → loop f m (s i) = some x
 | _, _, 0, _, h => absurd h (by omega)
 | 0, i, m + 1, hN, _ => by
  obtain rfl : i = N := by omega
  exact oa_done last
 | n + 1, i, m + 1, hN, hm => by rw [oa_next (step i (by omega))]; exact oa_count' step last n (i + 1) m (by omega) (by omega)
/-- a loop that counts up to its end -/
theorem oa_count {S X : Type} {f : S → Option (Ctl S X)} {s : Nat → S} {x : X} {N k : Nat} (hk : N < k) (step : ∀ i, i < N → f (s i) = some (.next (s (i + 1)))) (last : f (s N) = some (.done x)) : loop f k (s 0) = some x := oa_count' step last N 0 k (by omega) hk
theorem oa_rd {α : Type} [Inhabited α] {xs : List α} {i : Nat} (h : i < xs.length) : rd xs (i : Int) = xs[i] := by
 unfold rd
 rw [Int.toNat_natCast, List.getD_eq_getElem?_getD, List.getElem?_eq_getElem h]
 rfl
theorem oa_rdm {α : Type} [Inhabited α] {v : Nat → α} {n k : Nat} (h : k < n) : rd ((List.range n).map v) (k : Int) = v k := by rw [oa_rd (by simpa using h)]; simp
theorem oa_rdl {α : Type} [Inhabited α] {a b : List α} {k : Nat} (h : k < a.length) : rd (a ++ b) (k : Int) = rd a (k : Int) := by rw [oa_rd (by simp; omega), oa_rd h, List.getElem_append_left h]
theorem oa_rdr {α : Type} [Inhabited α] {a : List α} {v : Nat → α} {n k : Nat} (h : k < n) : rd (a ++ (List.range n).map v) ((a.length + k : Nat) : Int) = v k := by
 rw [oa_rd (by simp; omega), List.getElem_append_right (by omega)]; simp
theorem oa_set {α : Type} {v : Nat → α} {l : List α} {k : Nat} (h : k < l.length) : ((List.range k).map v ++ l.drop k).set k (v k) = (List.range (k + 1)).map v ++ l.drop (k + 1) := by
 have e : k - ((List.range k).map v).length = 0 := by simp
 rw [List.drop_eq_getElem_cons h, List.set_append_right _ _ (by simp), e, List.set_cons_zero, List.range_succ, List.map_append, List.append_assoc]; rfl
section
set_option linter.unusedSectionVars false
variable {α : Type} [Inhabited α] {L L0 : List (List α)} {i k len n : Nat}
def oaM (v : Nat → Nat → α) (L : List (List α)) : List (List α) := L.mapIdx fun i l => (List.range l.length).map (v i)
def oaG (n : Nat) (v : Nat → Nat → α) (L : List (List α)) : List (List α) := L.mapIdx fun i l => l ++ (List.range n).map (v i)
theorem oaM_len (v : Nat → Nat → α) : (oaM v L).length = L.length := by simp [oaM]
theorem oaG_len (v : Nat → Nat → α) : (oaG n v L).length = L.length := by simp [oaG]
theorem oaM_rd (v : Nat → Nat → α) (h : i < L.length) : rd (oaM v L) (i : Int) = (List.range (rd L (i : Int)).length).map (v i) := by
 rw [oa_rd (by rw [oaM_len]; exact h), oa_rd h]; simp [oaM]
theorem oaG_rd (v : Nat → Nat → α) (h : i < L.length) : rd (oaG n v L) (i : Int) = rd L (i : Int) ++ (List.range n).map (v i) := by
 rw [oa_rd (by rw [oaG_len]; exact h), oa_rd h]; simp [oaG]
theorem oa_rdset (h : i < L.length) (l : List α) : rd (L.set i l) (i : Int) = l := by rw [oa_rd (by simpa using h)]; simp
/-- one list is written full -/
theorem oa_fill1 {f : List (List α) × Int → Option (Ctl (List (List α) × Int) (List (List α)))} {v : Nat → α} (hk : len < k) (hi : i < L.length) (hl : (rd L (i : Int)).length = len)
  (step : ∀ (M : List (List α)) (k : Nat), M.length = L.length → (rd M (i : Int)).length = len → k < len → f (M, (k : Int)) = some (.next (M.set i ((rd M (i : Int)).set k (v k)), ((k + 1 : Nat) : Int))))
  (stop : ∀ (M : List (List α)), M.length = L.length → (rd M (i : Int)).length = len → f (M, (len : Int)) = some (.done M)) : loop f k (L, 0) = some (L.set i ((List.range len).map v)) := by
 have e0 : (L, (0 : Int)) = (fun k : Nat => (L.set i ((List.range k).map v ++ (rd L (i : Int)).drop k), (k : Int))) 0 := by
  simp only [List.range_zero, List.map_nil, List.nil_append, List.drop_zero, oa_rd hi]
  rw [List.set_getElem_self]; rfl
 rw [e0]
 refine oa_count (s := fun k : Nat => (L.set i ((List.range k).map v ++ (rd L (i : Int)).drop k), (k : Int))) (N := len) hk (fun k hkk => ?_) ?_
 ·rw [step _ k (by simp) (by rw [oa_rdset hi]; simp; omega) hkk, oa_rdset hi, oa_set (by omega), List.set_set]
 ·rw [stop _ (by simp) (by rw [oa_rdset hi]; simp; omega), List.drop_of_length_le (by omega), List.append_nil]
theorem oa_tk {L M : List (List α)} (h : M.length = L.length) (hi : i < L.length) : rd (M.take i ++ L.drop i) (i : Int) = rd L (i : Int) := by
 rw [oa_rd (by simp; omega), oa_rd hi, List.getElem_append_right (by simp; omega)]
 simp; congr 1; omega
theorem oa_tks {L M : List (List α)} (h : M.length = L.length) (hi : i < L.length) : (M.take i ++ L.drop i).set i (rd M (i : Int)) = M.take (i + 1) ++ L.drop (i + 1) := by
 rw [List.drop_eq_getElem_cons hi, List.set_append_right _ _ (by simp; omega), oa_rd (by omega)]
 have : i - (M.take i).length = 0 := by simp; omega
 rw [this, List.set_cons_zero, List.take_add_one, List.getElem?_eq_getElem (by omega), Option.toList_some, List.append_assoc]; rfl
/-- all are written full -/
theorem oa_fill {f : List (List α) × Int → Option (Ctl (List (List α) × Int) (List (List α)))} {v : Nat → Nat → α} (hk : L0.length < k)
  (step : ∀ (L : List (List α)) (i : Nat), L.length = L0.length → i < L0.length → rd L (i : Int) = rd L0 (i : Int) → f (L, (i : Int)) = some (.next (L.set i ((List.range (rd L0 (i : Int)).length).map (v i)), ((i + 1 : Nat) : Int))))
  (stop : ∀ (L : List (List α)), L.length = L0.length → f (L, (L0.length : Int)) = some (.done L)) : loop f k (L0, 0) = some (oaM v L0) := by
 have e0 : (L0, (0 : Int)) = (fun i : Nat => ((oaM v L0).take i ++ L0.drop i, (i : Int))) 0 := by simp
 have hl := oaM_len (L := L0) v
 rw [e0]
 refine oa_count (s := fun i : Nat => ((oaM v L0).take i ++ L0.drop i, (i : Int))) (N := L0.length) hk (fun i hi => ?_) ?_
 ·rw [step _ i (by simp; omega) hi (oa_tk hl hi), ← oaM_rd v hi, oa_tks hl hi]
 ·rw [stop _ (by simp; omega), List.drop_of_length_le (Nat.le_refl _), List.append_nil, List.take_of_length_le (by omega)]
/-- one list is gone on with -/
theorem oa_grow1 {f : List α × Int → Option (Ctl (List α × Int) (List α))} {v : Nat → α} {l0 : List α} (hk : n < k)
  (step : ∀ (l : List α) (k : Nat), l.length = l0.length + k → k < n → f (l, (k : Int)) = some (.next (l ++ [v k], ((k + 1 : Nat) : Int))))
  (stop : ∀ (l : List α), f (l, (n : Int)) = some (.done l)) : loop f k (l0, 0) = some (l0 ++ (List.range n).map v) := by
 have e0 : (l0, (0 : Int)) = (fun k : Nat => (l0 ++ (List.range k).map v, (k : Int))) 0 := by simp
 rw [e0]
 refine oa_count (s := fun k : Nat => (l0 ++ (List.range k).map v, (k : Int))) (N := n) hk (fun k hkk => ?_) ?_
 ·rw [step _ k (by simp) hkk, List.range_succ, List.map_append, List.append_assoc]; rfl
 ·rw [stop]
/-- all are gone on with -/
theorem oa_grow {f : List (List α) × Int → Option (Ctl (List (List α) × Int) (List (List α)))} {v : Nat → Nat → α} (hk : L.length < k)
  (step : ∀ (M : List (List α)) (i : Nat), M.length = i → i < L.length → f (M, (i : Int)) = some (.next (M ++ [rd L (i : Int) ++ (List.range n).map (v i)], ((i + 1 : Nat) : Int))))
  (stop : ∀ (M : List (List α)), M.length = L.length → f (M, (L.length : Int)) = some (.done M)) : loop f k ([], 0) = some (oaG n v L) := by
 have e0 : (([] : List (List α)), (0 : Int)) = (fun i : Nat => ((oaG n v L).take i, (i : Int))) 0 := by simp
 have hl := oaG_len (n := n) (L := L) v
 rw [e0]
 refine oa_count (s := fun i : Nat => ((oaG n v L).take i, (i : Int))) (N := L.length) hk (fun i hi => ?_) ?_
 ·rw [step _ i (by simp; omega) hi, ← oaG_rd v hi, List.take_add_one, List.getElem?_eq_getElem (by omega), oa_rd (by omega)]; rfl
 ·rw [stop _ (by simp; omega), List.take_of_length_le (by omega)]
end
end Go.Proofs.Ytchmknacofaepaa.G
/-! Way and Rank told whole (for JumpOwn: without the laws' print). -/
namespace Go.Proofs.Ytchmknacofaepaa.JQ
open Go.RowKit Go.Sort Go.Proofs.YtchmknacofaepaaW.PrintWords Go.Proofs.YtchmknacofaepaaW.PrintLast Go.Proofs.YtchmknacofaepaaW.PrintMore Go.Proofs.Ytchmknacofaepaa.JF Go.Proofs.Ytchmknacofaepaa.PJ Go.Proofs.Ytchmknacofaepaa.RK
set_option linter.unusedVariables false
set_option linter.unusedSimpArgs false
/-! ### the ways of more buckets -/
theorem wayL_grows : ∀ (k m : Nat) (h a b c : Int), 0 ≤ a → b ≤ c → c ≤ 1048576 → b - a ≤ k → c - a ≤ m →
  ∃ rest, wayL m h a c = wayL k h a b ++ rest ∧ (∀ x ∈ rest, b ≤ x ∧ x < c)
 | k, 0, h, a, b, c, a0, hbc, hc, hk, hm => ⟨[], by rw [wayL_done (by omega), wayL_done (by omega)]; rfl, fun x hx => by cases hx⟩
 | 0, m + 1, h, a, b, c, a0, hbc, hc, hk, hm => ⟨wayL (m + 1) h a c, by rw [wayL_done (k := 0) (by omega)]; rfl, fun x hx => by have := wayL_bd (m + 1) h a c a0 hc x hx; omega⟩
 | k + 1, m + 1, h, a, b, c, a0, hbc, hc, hk, hm => by
  by_cases cb : a < b
  ·obtain ⟨n0, n1⟩ := nh_bd h
   obtain ⟨g, _⟩ := na_bd n0 n1 a0 (by omega : a < 1048576)
   obtain ⟨rest, e, hr⟩ := wayL_grows k m (nh h) (na (nh h) a) b c (by omega) hbc hc (by omega) (by omega)
   exact ⟨rest, by rw [wayL_step cb, wayL_step (by omega : a < c), e]; rfl, hr⟩
  ·exact ⟨wayL (m + 1) h a c, by rw [wayL_done (k := k + 1) (by omega)]; rfl, fun x hx => by have := wayL_bd (m + 1) h a c a0 hc x hx; omega⟩
theorem wayL_rises : ∀ (k : Nat) (h a b : Int), 0 ≤ a → b ≤ 1048576 → (wayL k h a b).Pairwise (· < ·)
 | 0, h, a, b, _, _ => List.Pairwise.nil
 | k + 1, h, a, b, a0, hb => by
  by_cases c : a < b
  ·rw [wayL_step c]
   obtain ⟨n0, n1⟩ := nh_bd h
   obtain ⟨g, _⟩ := na_bd n0 n1 a0 (by omega : a < 1048576)
   refine List.Pairwise.cons (fun x hx => ?_) (wayL_rises k (nh h) (na (nh h) a) b (by omega) hb)
   have := wayL_bd k (nh h) (na (nh h) a) b (by omega) hb x hx
   omega
  ·rw [wayL_done (by omega)]; exact List.Pairwise.nil
theorem wayV_in {h b : Int} (b0 : 1 ≤ b) (b1 : b ≤ 1048576) : wayV h b = wayL b.toNat h 0 b := by unfold wayV; rw [if_neg (by omega)]
theorem wayV_out {h b : Int} (hb : b < 1 ∨ 1048576 < b) : wayV h b = [] := by unfold wayV; rw [if_pos hb]
theorem wayV_grows (h : Int) {b c : Int} (b0 : 1 ≤ b) (hbc : b ≤ c) (hc : c ≤ 1048576) : ∃ rest, wayV h c = wayV h b ++ rest ∧ (∀ x ∈ rest, b ≤ x ∧ x < c) := by
 rw [wayV_in b0 (by omega), wayV_in (by omega) hc]
 exact wayL_grows b.toNat c.toNat h 0 b c (by omega) hbc hc (by omega) (by omega)
theorem wayV_rises (h b : Int) : (wayV h b).Pairwise (· < ·) := by
 unfold wayV; split
 ·exact List.Pairwise.nil
 ·exact wayL_rises _ _ _ _ (by omega) (by omega)
theorem wayV_bd (h b : Int) : ∀ x ∈ wayV h b, 0 ≤ x ∧ x < b := by
 unfold wayV; split
 ·intro x hx; cases hx
 ·exact wayL_bd _ _ _ _ (by omega) (by omega)
theorem wayV_head {h b : Int} (b0 : 1 ≤ b) (b1 : b ≤ 1048576) : ∃ tl, wayV h b = 0 :: tl := by
 rw [wayV_in b0 b1]
 obtain ⟨k, hk⟩ : ∃ k, b.toNat = k + 1 := ⟨b.toNat - 1, by omega⟩
 rw [hk, wayL_step (by omega)]
 exact ⟨_, rfl⟩
theorem jumpV_out {h b : Int} (hb : b < 1 ∨ 1048576 < b) : jumpV h b = -1 := by unfold jumpV; rw [wayV_out hb]; rfl
theorem jumpV_mem {h b : Int} (b0 : 1 ≤ b) (b1 : b ≤ 1048576) : jumpV h b ∈ wayV h b := by
 obtain ⟨tl, e⟩ := wayV_head (h := h) b0 b1
 unfold jumpV
 rw [e]
 have : (0 :: tl : List Int).getLast? = some ((0 :: tl).getLast (by simp)) := List.getLast?_eq_some_getLast (by simp)
 rw [this]
 exact List.getLast_mem (by simp)
theorem jumpV_bd {h b : Int} (b0 : 1 ≤ b) (b1 : b ≤ 1048576) : 0 ≤ jumpV h b ∧ jumpV h b < b := wayV_bd h b _ (jumpV_mem b0 b1)
theorem jumpV_one (h : Int) : jumpV h 1 = 0 := by have := jumpV_bd (h := h) (b := 1) (by omega) (by omega); omega
/-! ### what the document names -/
/-- A row that is sorted already, and the one that it is sorted to. -/
theorem sortV_eq {xs ys : List (Int × Int)} (hp : xs.Perm ys) (hs : ys.Pairwise fun x y => ltOf cf y x = false) : sortV xs = ys := by
 have h1 : (sortV xs).Perm ys := (List.mergeSort_perm xs _).trans hp
 have h2 : (sortV xs).Pairwise fun x y => ltOf cf y x = false := by
  have := List.pairwise_mergeSort (le := fun x y => !(ltOf cf) y x) (fun a b c h1 h2 => by
   simp only [Bool.not_eq_true'] at h1 h2 ⊢
   rw [lt_cf] at *; simp at *; omega) (fun a b => by
   simp only [Bool.or_eq_true, Bool.not_eq_true']
   rw [lt_cf, lt_cf]; simp; omega) xs
  exact this.imp (fun h => by simpa using h)
 exact h1.eq_of_pairwise (fun a b _ _ h3 h4 => total a b h4 h3) h2 hs
/-- The mark of a server's slot; the best of the first n; the score. -/
def markV (h s t : Int) : Int := fnvV [wideV h 8, wideV (IntKind.u64.wrap s) 4, wideV (IntKind.u64.wrap t) 4]
def bestV (h s : Int) : Nat → Int
 | 0 => 0
 | n + 1 => mx (bestV h s n) (markV h s n)
def scoreV (h s w : Int) : Int := if 1 ≤ w ∧ w ≤ 64 ∧ 0 ≤ s ∧ s < 65536 then bestV h s w.toNat else 0
theorem three_rows {a b c : List Int} (ha : a.length ≤ 8) (hb : b.length ≤ 8) (hc : c.length ≤ 8) : ∀ r ∈ [a, b, c], r.length ≤ 4611686018427387904 := fun r hr => by
 simp at hr; rcases hr with rfl | rfl | rfl <;> omega
theorem score_l0 (h s w : Int) (w1 : w ≤ 64) : ∀ (d n : Nat), (w : Int) - n = d → Ev (fun k => jump_Score.l0 k h s (bestV h s n) w n) (bestV h s w.toNat)
 | 0, n, hd => ⟨1, fun k hk => by
  obtain ⟨k, rfl⟩ := succ_of (show 0 < k by omega)
  simp only [jump_Score.l0]
  rw [if_neg (by omega)]
  congr; omega⟩
 | d + 1, n, hd => by
  have ih := score_l0 h s w w1 d (n + 1) (by omega)
  refine Ev.step (f := fun k => (jump_wide.f k h 8).bind fun t182 => ((jump_wide.f k (IntKind.u64.wrap (s)) 4).bind fun t185 => ((jump_wide.f k (IntKind.u64.wrap (n : Int)) 4).bind fun t188 => ((seal_FNV.f k (([t182, t185, t188] : List (List Int)))).bind fun t194 => (jump_Score.l0 k h s (mx (bestV h s n) t194) w ((n + 1 : Nat) : Int)))))) (fun k => by
   simp only [jump_Score.l0]
   rw [if_pos (by omega), w64_id (by omega) (by omega)]
   rfl) ?_
  exact Ev.bind (wide8_ev _) (Ev.bind (wide4_ev _) (Ev.bind (wide4_ev _) (Ev.bind (seal_ev _ (by simp) (three_rows (by simp [wideV_length]) (by simp [wideV_length]) (by simp [wideV_length]))) ih)))
theorem score_j0 (h s w : Int) (b : Bool) (hb : b = true ∨ w ≤ 64) : Ev (fun k => jump_Score.j0 k h s w b) (if b = true then 0 else bestV h s w.toNat) := by
 cases b with
 | true => exact ⟨1, fun k hk => by
   obtain ⟨k, rfl⟩ := succ_of (show 0 < k by omega)
   simp [jump_Score.j0]⟩
 | false =>
  rcases hb with hb | hb
  ·cases hb
  ·refine Ev.step (f := fun k => jump_Score.l0 k h s 0 w 0) (fun k => by simp [jump_Score.j0]) ?_
   by_cases c : 0 ≤ w
   ·exact score_l0 h s w hb w.toNat 0 (by omega)
   ·refine ⟨1, fun k hk => ?_⟩
    obtain ⟨k, rfl⟩ := succ_of (show 0 < k by omega)
    simp only [jump_Score.l0]
    rw [if_neg (by omega), show w.toNat = 0 by omega]; rfl
theorem Score_ev (h s w : Int) : Ev (fun k => jump_Score.f k h s w) (scoreV h s w) := by
 unfold scoreV jump_Score.f
 by_cases c1 : w < 1
 ·simp only [if_pos c1]
  rw [if_neg (by omega)]
  exact score_j0 h s w true (.inl rfl)
 ·simp only [if_neg c1]
  by_cases c2 : w > 64
  ·simp only [if_pos c2]
   rw [if_neg (by omega)]
   exact score_j0 h s w true (.inl rfl)
  ·simp only [if_neg c2]
   by_cases c3 : s < 0
   ·simp only [if_pos c3]
    rw [if_neg (by omega)]
    exact score_j0 h s w true (.inl rfl)
   ·simp only [if_neg c3]
    have := score_j0 h s w (decide (s ≥ 65536)) (.inr (by omega))
    by_cases c4 : s ≥ 65536
    ·rw [if_neg (by omega)]
     simp only [c4, decide_true, if_true] at this ⊢; exact this
    ·rw [if_pos ⟨by omega, by omega, by omega, by omega⟩]
     simp only [c4, decide_false] at this ⊢; exact this
/-- The servers that have a weight, from a number on, each with its score. -/
def rankRow (h : Int) : List Int → Int → List (Int × Int)
 | [], _ => []
 | x :: ws, i => if 1 ≤ x ∧ x ≤ 64 then (i, scoreV h i x) :: rankRow h ws (i + 1) else rankRow h ws (i + 1)
def rankV (h : Int) (ws : List Int) : List Int := if ws.length > 65536 then [] else (sortV (rankRow h ws 0)).map Prod.fst
theorem rankAll_ev : ∀ (h : Int) (ws : List Int) (i : Int) (acc : List (Int × Int)), Ev (fun k => rankAll k h ws i acc) (acc ++ rankRow h ws i)
 | h, [], i, acc => by unfold rankAll rankRow; rw [List.append_nil]; exact Ev.now _
 | h, x :: ws, i, acc => by
  unfold rankAll rankRow
  by_cases c : 1 ≤ x ∧ x ≤ 64
  ·simp only [if_pos c]
   have := rankAll_ev h ws (i + 1) (acc ++ [(i, scoreV h i x)])
   rw [List.append_assoc] at this
   exact Ev.bind (Score_ev h i x) this
  ·simp only [if_neg c]
   exact rankAll_ev h ws (i + 1) acc
theorem Rank_ev (h : Int) (ws : List Int) : Ev (fun k => jump_Rank.f k h ws) (rankV h ws) := by
 unfold jump_Rank.f rankV
 by_cases c : ws.length > 65536
 ·simp only [if_pos c]; exact Ev.now _
 ·simp only [if_neg c]
  have := rankAll_ev h ws 0 []
  rw [List.nil_append] at this
  exact Ev.bind this (Ev.now _)
theorem rank_known : rankV 6 [1, 0, 1, 1] = [2, 3, 0] := by
 have e : rankRow 6 [1, 0, 1, 1] 0 = [(0, scoreV 6 0 1), (2, scoreV 6 2 1), (3, scoreV 6 3 1)] := rfl
 have o1 : scoreV 6 2 1 > scoreV 6 3 1 := by decide +kernel
 have o2 : scoreV 6 3 1 > scoreV 6 0 1 := by decide +kernel
 unfold rankV
 rw [if_neg (by simp), e, sortV_eq (ys := [(2, scoreV 6 2 1), (3, scoreV 6 3 1), (0, scoreV 6 0 1)])]
 ·rfl
 ·exact (List.Perm.swap (2, scoreV 6 2 1) (0, scoreV 6 0 1) _).trans (List.Perm.cons _ (List.Perm.swap (3, scoreV 6 3 1) (0, scoreV 6 0 1) _))
 ·refine List.Pairwise.cons (fun x hx => ?_) (List.Pairwise.cons (fun x hx => ?_) (List.Pairwise.cons (fun x hx => by cases hx) List.Pairwise.nil))
  ·simp at hx; rcases hx with rfl | rfl <;> rw [lt_cf] <;> simp <;> omega
  ·simp at hx; subst hx; rw [lt_cf]; simp; omega
theorem way_known : wayV 1 50 = [0, 6, 17, 42, 43, 45] := by decide +kernel
theorem jump_known0 : jumpV 0 1 = 0 := jumpV_one 0
theorem jump_known1 : jumpV 0 0 = -1 := jumpV_out (by omega)
theorem wayE {h b : Int} (h0 : 0 ≤ h) (h1 : h ≤ 18446744073709551615) (b0 : -9223372036854775808 ≤ b) (b1 : b ≤ 9223372036854775807) : JP.jump_Way.f h b = some (wayV h b) := by
 unfold JP.jump_Way.f; rw [if_pos (JP.fits_mk h0 h1 b0 b1)]
theorem rankRow_len (h : Int) : ∀ (ws : List Int) (i : Int), (rankRow h ws i).length ≤ ws.length
 | [], i => Nat.le_refl _
 | x :: ws, i => by
  have := rankRow_len h ws (i + 1)
  unfold rankRow; split <;> simp <;> omega
theorem rankV_length (h : Int) (ws : List Int) : (rankV h ws).length ≤ 65536 := by
 unfold rankV
 split
 ·simp
 ·rw [List.length_map]
  have : (sortV (rankRow h ws 0)).length = (rankRow h ws 0).length := (List.mergeSort_perm _ _).length_eq
  rw [this]
  have := rankRow_len h ws 0
  omega
end Go.Proofs.Ytchmknacofaepaa.JQ
/-! The plain law of JumpOwn. -/
namespace Go.Proofs.Ytchmknacofaepaa.G
open Go
set_option linter.unusedVariables false
set_option linter.unusedSimpArgs false
theorem bind_eq {α β : Type} {x : Option α} {f : α → Option β} {a : α} (h : x = some a) : x.bind f = f a := by rw [h]; rfl
theorem wr {n : Int} (h0 : -1000000000000000000 ≤ n) (h1 : n ≤ 1000000000000000000) : IntKind.i64.wrap n = n := by rw [IntKind.wrap_i64]; omega
theorem wrS (i : Nat) (h : i < 1000000000000000) : IntKind.i64.wrap ((i : Int) + 1) = ((i + 1 : Nat) : Int) := by rw [wr (by omega) (by omega)]; omega
theorem same_loop (a b : List Int) (hl : a.length = b.length) : ∀ (n i m : Nat), i + n = a.length → n < m → a.length < 4000000000 →
  loop (fun (s_ : Int) => haulagelaw03_same.b1 a b s_) m (i : Int) = some (if a.drop i = b.drop i then Sum.inl () else Sum.inr false)
 | _, _, 0, _, h, _ => absurd h (by omega)
 | 0, i, m + 1, h, _, _ => by
  refine oa_done ?_
  unfold haulagelaw03_same.b1
  rw [if_neg (by omega), if_pos]
  rw [List.drop_of_length_le (by omega), List.drop_of_length_le (by omega)]
 | n + 1, i, m + 1, h, hm, hb => by
  have hi : i < a.length := by omega
  have hj : i < b.length := by omega
  rw [List.drop_eq_getElem_cons hi, List.drop_eq_getElem_cons hj]
  by_cases c : a[i] = b[i]
  ·rw [oa_next (s' := ((i + 1 : Nat) : Int)), same_loop a b hl n (i + 1) m (by omega) (by omega) hb]
   ·simp only [c, List.cons.injEq, true_and]
   ·unfold haulagelaw03_same.b1
    rw [if_pos (by omega), if_pos (by omega), if_pos (by omega), oa_rd hi, oa_rd hj, if_pos c, wrS i (by omega)]
  ·rw [if_neg (by simp only [List.cons.injEq, c, false_and, not_false_eq_true])]
   refine oa_done ?_
   unfold haulagelaw03_same.b1
   rw [if_pos (by omega), if_pos (by omega), if_pos (by omega), oa_rd hi, oa_rd hj, if_neg c]
theorem same_self {k : Nat} (hk : 1099511627776 ≤ k) {a : List Int} (h : a.length < 4000000000) : haulagelaw03_same.f k a a = some true := by
 unfold haulagelaw03_same.f
 have e := same_loop a a rfl a.length 0 k (by omega) (by omega) h
 rw [if_pos rfl] at e
 rw [if_pos rfl]
 have e' : loop (fun (s_ : Int) => haulagelaw03_same.b1 a a s_) k 0 = some (Sum.inl ()) := e
 rw [bind_eq e']; rfl
def vA (i k : Nat) : Int := -1000000 * (i : Int) - (k : Int) - 1
def vB (i k : Nat) : Int := 1000000 * (i : Int) + (k : Int) + 7
theorem vA_eq {i k : Nat} (hi : i < 1000) (hk : k < 100000000) : IntKind.i64.wrap (IntKind.i64.wrap (IntKind.i64.wrap (-1000000 * (i : Int)) - (k : Int)) - 1) = vA i k := by
 rw [wr (n := -1000000 * (i : Int)) (by omega) (by omega), wr (n := -1000000 * (i : Int) - (k : Int)) (by omega) (by omega), wr (by omega) (by omega)]; rfl
theorem vB_eq {i k : Nat} (hi : i < 1000) (hk : k < 100000000) : IntKind.i64.wrap (IntKind.i64.wrap (IntKind.i64.wrap (1000000 * (i : Int)) + (k : Int)) + 7) = vB i k := by
 rw [wr (n := 1000000 * (i : Int)) (by omega) (by omega), wr (n := 1000000 * (i : Int) + (k : Int)) (by omega) (by omega), wr (by omega) (by omega)]; rfl
section
variable {k : Nat} {L : List (List Int)}
theorem own_fill (hk : 1099511627776 ≤ k) (ll : L.length < 1000) (hb : ∀ i : Nat, i < L.length → (rd L (i : Int)).length ≤ 1048576) :
  loop (fun (s_ : (List (List Int)) × Int) => haulagelaw03_apart.b5 k s_.1 s_.2) k (L, 0) = some (oaM vA L) := by
 refine oa_fill (by omega) (fun M i hl hi hM => ?_) (fun M hl => ?_)
 ·simp only
  unfold haulagelaw03_apart.b5
  have hbi := hb i (by omega)
  rw [if_pos (by omega), bind_eq (oa_fill1 (v := vA i) (L := M) (i := i) (len := (rd L (i : Int)).length) (by omega) (by omega) (by rw [hM]) (fun M' q e1 e2 e3 => ?_) (fun M' e1 e2 => ?_))]
  ·unfold haulagelaw03_apart.j4; rw [wrS i (by omega)]
  ·simp only
   unfold haulagelaw03_apart.b3
   rw [if_pos (by omega), if_pos (by omega), if_pos (by omega), if_pos (by omega), wrS q (by omega), vA_eq (by omega) (by omega)]
   rfl
  ·simp only
   unfold haulagelaw03_apart.b3
   rw [if_pos (by omega), if_neg (by omega)]
 ·simp only
  unfold haulagelaw03_apart.b5
  rw [if_neg (by omega)]
theorem own_grow (hk : 1099511627776 ≤ k) (ll : L.length < 1000) (hb : ∀ i : Nat, i < L.length → (rd L (i : Int)).length ≤ 1048576) :
  loop (fun (s_ : (List (List Int)) × Int) => haulagelaw03_apart.b11 k L s_.1 s_.2) k ([], 0) = some (oaG 80 vB L) := by
 refine oa_grow (by omega) (fun M i hl hi => ?_) (fun M hl => ?_)
 ·simp only
  unfold haulagelaw03_apart.b11
  have hbi := hb i (by omega)
  rw [if_pos (by omega), if_pos (by omega), bind_eq (oa_grow1 (v := vB i) (n := 80) (by omega) (fun l q e1 e2 => ?_) (fun l => ?_))]
  ·unfold haulagelaw03_apart.j10; rw [if_pos (by simp only [List.length_cons, List.length_nil]; omega), wrS i (by omega)]
  ·simp only
   unfold haulagelaw03_apart.b9
   rw [if_pos (by omega), if_pos (by simp only [List.length_cons, List.length_nil]; omega), wrS q (by omega), vB_eq (by omega) (by omega)]
  ·simp only
   unfold haulagelaw03_apart.b9
   rw [if_neg (by omega)]
 ·simp only
  unfold haulagelaw03_apart.b11
  rw [if_neg (by omega), if_pos (by omega)]
theorem own_look (hk : 1099511627776 ≤ k) (ll : L.length < 1000) (hb : ∀ i : Nat, i < L.length → (rd L (i : Int)).length ≤ 1048576) :
  loop (fun (s_ : Int) => haulagelaw03_apart.b17 k (oaM vA L) (oaG 80 vB (oaM vA L)) s_) k 0 = some (.inl ()) := by
 have l1 := oaM_len (L := L) vA
 have l2 := oaG_len (n := 80) (L := oaM vA L) vB
 refine oa_count (s := fun i : Nat => (i : Int)) (N := L.length) (by omega) (fun i hi => ?_) ?_
 ·have hbi := hb i hi
  have e1 := oaM_rd (L := L) (i := i) vA (by omega)
  have e2 := oaG_rd (n := 80) (L := oaM vA L) (i := i) vB (by omega)
  obtain ⟨n, hn⟩ : ∃ n, n = (rd L (i : Int)).length := ⟨_, rfl⟩
  have n1 : (rd (oaM vA L) (i : Int)).length = n := by rw [e1]; simp [hn]
  have n2 : (rd (oaG 80 vB (oaM vA L)) (i : Int)).length = n + 80 := by rw [e2]; simp [n1]
  unfold haulagelaw03_apart.b17
  rw [if_pos (by omega), if_pos (by omega)]
  have A : loop (fun (s_ : Int) => haulagelaw03_apart.b13 (oaM vA L) (i : Int) s_) k 0 = some (.inl ()) := by
   refine oa_count (s := fun q : Nat => (q : Int)) (N := n) (by omega) (fun q hq => ?_) ?_
   ·unfold haulagelaw03_apart.b13
    have v1 : rd (rd (oaM vA L) (i : Int)) (q : Int) = vA i q := by rw [e1]; exact oa_rdm (by omega)
    rw [if_pos (by omega), if_pos (by omega), if_pos (by omega), v1, vA_eq (by omega) (by omega), if_pos rfl, wrS q (by omega)]
   ·unfold haulagelaw03_apart.b13
    rw [if_neg (by omega)]
  have Bq : loop (fun (s_ : Int) => haulagelaw03_apart.b15 (oaM vA L) (oaG 80 vB (oaM vA L)) (i : Int) s_) k 0 = some (.inl ()) := by
   refine oa_count (s := fun q : Nat => (q : Int)) (N := 80) (by omega) (fun q hq => ?_) ?_
   ·unfold haulagelaw03_apart.b15
    have v2 : rd (rd (oaG 80 vB (oaM vA L)) (i : Int)) (((n + q : Nat)) : Int) = vB i q := by rw [e2, ← n1]; exact oa_rdr hq
    have hw : IntKind.i64.wrap (((rd (oaM vA L) (i : Int)).length : Int) + (q : Int)) = ((n + q : Nat) : Int) := by rw [n1, wr (by omega) (by omega)]; omega
    rw [if_pos (by omega), if_pos (by omega), hw, if_pos (by omega), v2, vB_eq (by omega) (by omega), if_pos rfl, wrS q (by omega)]
   ·unfold haulagelaw03_apart.b15
    rw [if_neg (by omega)]
  refine (bind_eq A).trans ?_
  unfold haulagelaw03_apart.j14
  refine (bind_eq Bq).trans ?_
  unfold haulagelaw03_apart.j16
  rw [wrS i (by omega)]
 ·unfold haulagelaw03_apart.b17
  rw [if_neg (by omega)]
theorem apart_true (hk : 1099511627776 ≤ k) (ll : L.length < 1000) (hb : ∀ i : Nat, i < L.length → (rd L (i : Int)).length ≤ 1048576) : haulagelaw03_apart.f k L = some true := by
 have hb2 : ∀ i : Nat, i < (oaM vA L).length → (rd (oaM vA L) (i : Int)).length ≤ 1048576 := by
  intro i hi
  rw [oaM_len] at hi
  rw [oaM_rd vA hi]
  simp only [List.length_map, List.length_range]
  exact hb i hi
 unfold haulagelaw03_apart.f
 rw [bind_eq (own_fill hk ll hb)]
 unfold haulagelaw03_apart.j6
 rw [bind_eq (own_grow hk (by rw [oaM_len]; exact ll) hb2)]
 unfold haulagelaw03_apart.j12
 rw [bind_eq (own_look hk ll hb)]
 rfl
end
theorem known_true {k : Nat} (hk : 1099511627776 ≤ k) (hr : jump_Rank.f k 6 [1, 0, 1, 1] = some [2, 3, 0]) : haulagelaw03_known.f k = some true := by
 have e1 : jump_Jump.f 0 1 = some 0 := by show JP.jump_Jump.f 0 1 = _; rw [JQ.jumpE (by decide) (by decide) (by decide) (by decide), JQ.jump_known0]
 have e2 : jump_Jump.f 0 0 = some (-1) := by show JP.jump_Jump.f 0 0 = _; rw [JQ.jumpE (by decide) (by decide) (by decide) (by decide), JQ.jump_known1]
 have e3 : jump_Way.f 1 50 = some [0, 6, 17, 42, 43, 45] := by show JP.jump_Way.f 1 50 = _; rw [JQ.wayE (by decide) (by decide) (by decide) (by decide), JQ.way_known]
 unfold haulagelaw03_known.f
 rw [bind_eq e1, if_pos rfl, bind_eq e2, if_pos rfl, bind_eq e3, bind_eq (same_self hk (by decide)), if_pos rfl, bind_eq hr, bind_eq (same_self hk (by decide))]
/-- the law, from some fuel on -/
theorem JumpOwn_ev {a1 a2 a3 a4 : Int} {a5 : List Int} (h1 : 0 ≤ a1 ∧ a1 ≤ 18446744073709551615) (h2 : 0 ≤ a2 ∧ a2 ≤ 18446744073709551615) (h3 : -9223372036854775808 ≤ a3 ∧ a3 ≤ 9223372036854775807) (h4 : -9223372036854775808 ≤ a4 ∧ a4 ≤ 9223372036854775807) (h5 : a5.length ≤ 1048576) :
  ∃ k, haulagelaw03_JumpOwn.f k a1 a2 a3 a4 a5 = some true := by
 obtain ⟨K0, g0⟩ := JQ.Rank_ev 6 [1, 0, 1, 1]
 obtain ⟨K1, g1⟩ := JQ.Rank_ev a1 a5
 obtain ⟨K2, g2⟩ := JQ.Rank_ev a2 a5
 obtain ⟨k, hk0, hk1, hk2, hk⟩ : ∃ k, K0 ≤ k ∧ K1 ≤ k ∧ K2 ≤ k ∧ 1099511627776 ≤ k := ⟨K0 + K1 + K2 + 1099511627776, by omega, by omega, by omega, by omega⟩
 refine ⟨k, ?_⟩
 have r0 : jump_Rank.f k 6 [1, 0, 1, 1] = some [2, 3, 0] := by rw [← JQ.rank_known]; exact g0 k hk0
 have r1 : jump_Rank.f k a1 a5 = some (JQ.rankV a1 a5) := g1 k hk1
 have r2 : jump_Rank.f k a2 a5 = some (JQ.rankV a2 a5) := g2 k hk2
 have w1 : jump_Way.f a1 a3 = some (JF.wayV a1 a3) := JQ.wayE h1.1 h1.2 h3.1 h3.2
 have w2 : jump_Way.f a2 a4 = some (JF.wayV a2 a4) := JQ.wayE h2.1 h2.2 h4.1 h4.2
 have l1 := JF.wayV_length a1 a3
 have l2 := JF.wayV_length a2 a4
 have q1 := JQ.rankV_length a1 a5
 have q2 := JQ.rankV_length a2 a5
 obtain ⟨W, hW⟩ : ∃ W, W = JF.wayV a1 a3 := ⟨_, rfl⟩
 obtain ⟨V, hV⟩ : ∃ V, V = JF.wayV a2 a4 := ⟨_, rfl⟩
 obtain ⟨R, hR⟩ : ∃ R, R = JQ.rankV a1 a5 := ⟨_, rfl⟩
 obtain ⟨Q, hQ⟩ : ∃ Q, Q = JQ.rankV a2 a5 := ⟨_, rfl⟩
 rw [← hW] at w1 l1
 rw [← hV] at w2 l2
 rw [← hR] at r1 q1
 rw [← hQ] at r2 q2
 have sW := same_self hk (a := W) (by omega)
 have sR := same_self hk (a := R) (by omega)
 have hap : haulagelaw03_apart.f k [W, W, V, R, R, Q, W, R, a5] = some true := by
  refine apart_true hk (by simp) (fun i hi => ?_)
  have hi : i < 9 := by simpa using hi
  rcases (by omega : i = 0 ∨ i = 1 ∨ i = 2 ∨ i = 3 ∨ i = 4 ∨ i = 5 ∨ i = 6 ∨ i = 7 ∨ i = 8) with rfl | rfl | rfl | rfl | rfl | rfl | rfl | rfl | rfl
  ·exact l1
  ·exact l1
  ·exact l2
  ·exact Nat.le_trans q1 (by decide)
  ·exact Nat.le_trans q1 (by decide)
  ·exact Nat.le_trans q2 (by decide)
  ·exact l1
  ·exact Nat.le_trans q1 (by decide)
  ·exact h5
 unfold haulagelaw03_JumpOwn.f
 rw [bind_eq (known_true hk r0), if_pos rfl, if_pos (by omega), bind_eq w1, bind_eq w1, bind_eq w2, bind_eq r1, bind_eq r1, bind_eq r2, bind_eq sW, if_pos rfl, bind_eq sR]
 unfold haulagelaw03_JumpOwn.j1
 rw [if_neg (by simp), bind_eq w1, bind_eq r1, if_pos (by omega), if_pos (by omega), bind_eq sW, if_pos rfl, bind_eq sW, if_pos rfl, bind_eq sW, if_pos rfl, bind_eq sR, if_pos rfl, bind_eq sR, if_pos rfl, bind_eq sR]
 unfold haulagelaw03_JumpOwn.j2
 rw [if_neg (by simp), if_pos (by omega), bind_eq hap, if_pos rfl, bind_eq w1, bind_eq sW, if_pos rfl, bind_eq r1, bind_eq sR]
end Go.Proofs.Ytchmknacofaepaa.G
/-! The row's arguments in the plain law's words. -/
namespace Go.Proofs.Ytchmknacofaepaa.G
open Go
set_option linter.unusedVariables false
theorem u64rng {n : Int} (h : (Lit.int .u64 n).wf = true) : 0 ≤ n ∧ n ≤ 18446744073709551615 := by simpa [Lit.wf, IntKind.min, IntKind.max, IntKind.signed, IntKind.bits] using h
theorem i64rng {n : Int} (h : (Lit.int .i64 n).wf = true) : -9223372036854775808 ≤ n ∧ n ≤ 9223372036854775807 := by simpa [Lit.wf, IntKind.min, IntKind.max, IntKind.signed, IntKind.bits] using h
end Go.Proofs.Ytchmknacofaepaa.G
/- The row of 'JumpOwn' (its '..UptoSaid'): whatever the input of bulk at most 1048576, the law returns true and the input reads as it did. -/
namespace Go.Proofs.Ytchmknacofaepaa.jumpOwn
open Go.ChangeShapes Go.WideShapes Go.ChangeAt Go.RowKit
set_option linter.unusedVariables false
set_option maxRecDepth 100000 in
theorem contract (H : Type) (enc : TypeId × Value → H) (W : World) (base : Nat) (args : Array Value) (ds gs : List (DataW H)) (before : List MemPlace)
  (hval : ∀ (j : Nat) t v, Try.f8.params[j]? = some t → args[j]? = some v → Value.okWide Try.prog W .any base t v)
  (hW : DataW.Whole enc Try.prog Try.f8.params.toList Rows.jumpOwnSpec.vars false W args.toList ds gs before) (hk : Rows.uptoSmall H (ds ++ gs) = true) :
  Calls Try.prog 8 args W fun e W' => ∃ v, e = .returned v ∧ Rows.jumpOwnSpec.post enc Try.prog Try.f8 false true false false W args v W' := by
 have hW' := hW
 obtain ⟨p, q, hA0, hV, rfl, hfz, hnd⟩ := hW
 have hA : DataW.TrodAll enc Try.prog W 0 (fun _ => true) true Try.f8.params.toList args.toList ds p := hA0
 rw [Try.params8] at hA hval
 obtain ⟨v0, vs0, d0, ds0, p0, q0, hargs, rfl, rfl, h0, r0⟩ := trodAll_cons hA
 obtain ⟨v1, vs1, d1, ds1, p1, q1, rfl, rfl, rfl, h1, r1⟩ := trodAll_cons r0
 obtain ⟨v2, vs2, d2, ds2, p2, q2, rfl, rfl, rfl, h2, r2⟩ := trodAll_cons r1
 obtain ⟨v3, vs3, d3, ds3, p3, q3, rfl, rfl, rfl, h3, r3⟩ := trodAll_cons r2
 obtain ⟨v4, vs4, d4, ds4, p4, q4, rfl, rfl, rfl, h4, r4⟩ := trodAll_cons r3
 obtain ⟨rfl, rfl, rfl⟩ := trodAll_nil r4
 obtain rfl : args = #[v0, v1, v2, v3, v4] := by cases args; simp_all
 obtain ⟨rfl, rfl⟩ := trodVars_none hV
 obtain ⟨a0, rfl, rfl, rfl, w0⟩ := open_int Try.underlying22 (hval 0 22 v0 rfl rfl) h0
 obtain ⟨a1, rfl, rfl, rfl, w1⟩ := open_int Try.underlying22 (hval 1 22 v1 rfl rfl) h1
 obtain ⟨a2, rfl, rfl, rfl, w2⟩ := open_int Try.underlying3 (hval 2 3 v2 rfl rfl) h2
 obtain ⟨a3, rfl, rfl, rfl, w3⟩ := open_int Try.underlying3 (hval 3 3 v3 rfl rfl) h3
 have k4 := h4
 have lt4 : ∀ x ∈ p4, x.block < W.heap.size := by obtain ⟨m, hm⟩ := k4; exact DataW.trod_lt m _ _ _ hm
 obtain ⟨A4, C4, a4, rfl, s4, b4, o4⟩ := G.arg_ints (okWide_slice Try.underlying25 (hval 4 25 v4 rfl rfl)) h4
 have l4 := G.len_sum (fun _ => 1) (fun _ => Nat.le_refl 1) a4
 have hb : Rows.uptoBulkAll [(DataW.lit (H := H) (.int .u64 a0)), (DataW.lit (H := H) (.int .u64 a1)), (DataW.lit (H := H) (.int .i64 a2)), (DataW.lit (H := H) (.int .i64 a3)), d4] ≤ 1048576 := of_decide_eq_true hk
 simp only [Rows.uptoBulkAll] at hb
 obtain ⟨K_, hK_⟩ := G.JumpOwn_ev (a1 := a0) (a2 := a1) (a3 := a2) (a4 := a3) (a5 := a4) (G.u64rng w0) (G.u64rng w1) (G.i64rng w2) (G.i64rng w3) (by omega)
 refine (G.haulagelaw03_JumpOwn.calls K_ (m := 1) (c0 := G.c0) (w0 := W) (Nat.lt_succ_self 0) (fun _ _ => Nat.lt_succ_self 0) s4 true (hK_)).mono fun e W' ⟨c_, he, ev_, _⟩ => ?_
 subst he
 have bel : Below W.heap.size W W' := G.Ev.below ev_
 exact ⟨_, rfl, _, _, _, [], _, [], hW', trodAll_mk1 (shut_bool Try.underlying4 _), (trodAll_cons_mk (shut_int Try.underlying22 w0) (trodAll_cons_mk (shut_int Try.underlying22 w1) (trodAll_cons_mk (shut_int Try.underlying3 w2) (trodAll_cons_mk (shut_int Try.underlying3 w3) (trodAll_cons_mk (Below.trod G.row_laidOut (by kernel_rfl) (of_decide_eq_true (by kernel_rfl)) k4 bel lt4) trodAll_mk0))))), rfl, bel.frame _, fun h => by cases h⟩
set_option maxRecDepth 100000 in
theorem lifted (os : Os) (started : os.Started) (H : Type) (enc : TypeId × Value → H) (F : Stop.Interp) :
  ReturnsInHanded {} Try.checked os 8 .any ((Rows.OpenSpec.upto Rows.jumpOwnSpec).pre6 enc Try.prog Try.f8 Rows.jumpOwnUptoRow.domain false) (((Rows.OpenSpec.upto Rows.jumpOwnSpec).at F).post enc Try.prog Try.f8 false true false false) := by
 refine returnsInHanded_of_cond (C := Try.checked) (s := Rows.OpenSpec.upto Rows.jumpOwnSpec) (k := Rows.uptoSmall) rfl G.row_own started (by kernel_rfl) Try.func8
  (OpenSpec.witness (enc := enc) (C := Try.checked) (s := Rows.OpenSpec.upto Rows.jumpOwnSpec) (k := Rows.uptoSmall) rfl false ⟨#[], #[.int .u64 0, .int .u64 0, .int .i64 0, .int .i64 0, .slice none 0 0], []⟩ 8 (by kernel_rfl) (by kernel_rfl) (by kernel_rfl)
   (x := ([.lit (.int .u64 0), .lit (.int .u64 0), .lit (.int .i64 0), .lit (.int .i64 0), .nil], [], [])) (by kernel_rfl) rfl (by kernel_rfl)) ?_
 intro W base args ds gs before hval hW _ hk _
 exact contract H enc W base args ds gs before hval hW hk
theorem over : Rows.jumpOwnUptoRow.holds Try.pinned (Rows.OpenSpec.upto Rows.jumpOwnSpec) :=
 OpenClaim.holds_of_cond 8 Try.f8 rfl rfl rfl rfl rfl rfl rfl ⟨rfl, rfl, rfl, rfl, rfl⟩ rfl rfl rfl rfl rfl (by kernel_rfl) Try.func8 (by kernel_rfl)
  (of_decide_eq_true (by kernel_rfl)) (by unfold Func.isWrapper; first | (rw [if_pos (by decide +kernel)]; kernel_rfl) | (rw [if_neg (by decide +kernel)]; exact ⟨rfl, rfl⟩))
  (fun os started H enc _ F => lifted os started H enc F)
theorem proved : Rows.JumpOwnUptoSaid := over
end Go.Proofs.Ytchmknacofaepaa.jumpOwn
namespace Go.Proofs.Ytchmknacofaepaa
/-- The row, under a short name, for the claim. -/
theorem jumpOwn_holds : Rows.JumpOwnUptoSaid := jumpOwn.proved
end Go.Proofs.Ytchmknacofaepaa
