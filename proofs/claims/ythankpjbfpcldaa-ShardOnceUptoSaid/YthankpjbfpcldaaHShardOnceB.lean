/- Words, contracts and plain laws on which the row of 'ShardOnce' hangs (its '..UptoSaid': inputs of bulk at most 1048576). -/
import Derived.Test.YthankpjbfpcldaaHShardOnceA
import Derived.WalkSpells
namespace Go.Proofs.Ythankpjbfpcldaa.G
open Go Go.RowKit
set_option linter.unusedVariables false
set_option linter.unusedSimpArgs false
def K_api_Op : K api_Op where
  sz := 4
  pos := by decide
  rep := fun i c w cs x => ∃ (A1 : Option Addr) (C2 : Nat) (A4 : Option Addr) (C5 : Nat), cs = [.int .i64 x.Kind, .slice A1 x.Key.length C2, .slice A4 x.Value.length C5, .int .i64 x.Rev] ∧ SL false (Kint .u8) i i c w A1 C2 x.Key ∧ SL false (Kint .u8) i i c w A4 C5 x.Value
  ev := fun ⟨A1, C2, A4, C5, h_, h3, h6⟩ E hi => ⟨A1, C2, A4, C5, h_, h3.ev E hi hi, h6.ev E hi hi⟩
  rc := fun ⟨A1, C2, A4, C5, h_, h3, h6⟩ hr => ⟨A1, C2, A4, C5, h_, h3.rc hr hr, h6.rc hr hr⟩
  len := fun ⟨A1, C2, A4, C5, h_, h3, h6⟩ => by rw [h_]; rfl
  one := @fun i c w cs x ⟨A1, C2, A4, C5, h_, h3, h6⟩ u hu => by rw [h_] at hu; exact one_all (us := [.int .i64 x.Kind, .slice A1 x.Key.length C2, .slice A4 x.Value.length C5, .int .i64 x.Rev]) rfl u hu
def K_api_Row : K api_Row where
  sz := 3
  pos := by decide
  rep := fun i c w cs x => ∃ (A1 : Option Addr) (C2 : Nat) (A4 : Option Addr) (C5 : Nat), cs = [.slice A1 x.Key.length C2, .slice A4 x.Value.length C5, .int .i64 x.Rev] ∧ SL false (Kint .u8) i i c w A1 C2 x.Key ∧ SL false (Kint .u8) i i c w A4 C5 x.Value
  ev := fun ⟨A1, C2, A4, C5, h_, h3, h6⟩ E hi => ⟨A1, C2, A4, C5, h_, h3.ev E hi hi, h6.ev E hi hi⟩
  rc := fun ⟨A1, C2, A4, C5, h_, h3, h6⟩ hr => ⟨A1, C2, A4, C5, h_, h3.rc hr hr, h6.rc hr hr⟩
  len := fun ⟨A1, C2, A4, C5, h_, h3, h6⟩ => by rw [h_]; rfl
  one := @fun i c w cs x ⟨A1, C2, A4, C5, h_, h3, h6⟩ u hu => by rw [h_] at hu; exact one_all (us := [.slice A1 x.Key.length C2, .slice A4 x.Value.length C5, .int .i64 x.Rev]) rfl u hu
def K_api_Seat : K api_Seat where
  sz := 7
  pos := by decide
  rep := fun i c w cs x => ∃ (A1 : Option Addr) (C2 : Nat) (A4 : Option Addr) (C5 : Nat), cs = [.int .i64 x.Client, .int .i64 x.Seq, .bool x.Answer.Done, .slice A1 x.Answer.Key.length C2, .slice A4 x.Answer.Value.length C5, .int .i64 x.Answer.Rev, .int .i64 x.Answer.At] ∧ SL false (Kint .u8) i i c w A1 C2 x.Answer.Key ∧ SL false (Kint .u8) i i c w A4 C5 x.Answer.Value
  ev := fun ⟨A1, C2, A4, C5, h_, h3, h6⟩ E hi => ⟨A1, C2, A4, C5, h_, h3.ev E hi hi, h6.ev E hi hi⟩
  rc := fun ⟨A1, C2, A4, C5, h_, h3, h6⟩ hr => ⟨A1, C2, A4, C5, h_, h3.rc hr hr, h6.rc hr hr⟩
  len := fun ⟨A1, C2, A4, C5, h_, h3, h6⟩ => by rw [h_]; rfl
  one := @fun i c w cs x ⟨A1, C2, A4, C5, h_, h3, h6⟩ u hu => by rw [h_] at hu; exact one_all (us := [.int .i64 x.Client, .int .i64 x.Seq, .bool x.Answer.Done, .slice A1 x.Answer.Key.length C2, .slice A4 x.Answer.Value.length C5, .int .i64 x.Answer.Rev, .int .i64 x.Answer.At]) rfl u hu
def K_haulagelaw14_Step : K haulagelaw14_Step where
  sz := 8
  pos := by decide
  rep := fun i c w cs x => ∃ (A1 : Option Addr) (C2 : Nat) (A4 : Option Addr) (C5 : Nat), cs = [.int .i64 x.Who, .int .i64 x.Kind, .int .i64 x.Client, .int .i64 x.Seq, .int .i64 x.Op.Kind, .slice A1 x.Op.Key.length C2, .slice A4 x.Op.Value.length C5, .int .i64 x.Op.Rev] ∧ SL false (Kint .u8) i i c w A1 C2 x.Op.Key ∧ SL false (Kint .u8) i i c w A4 C5 x.Op.Value
  ev := fun ⟨A1, C2, A4, C5, h_, h3, h6⟩ E hi => ⟨A1, C2, A4, C5, h_, h3.ev E hi hi, h6.ev E hi hi⟩
  rc := fun ⟨A1, C2, A4, C5, h_, h3, h6⟩ hr => ⟨A1, C2, A4, C5, h_, h3.rc hr hr, h6.rc hr hr⟩
  len := fun ⟨A1, C2, A4, C5, h_, h3, h6⟩ => by rw [h_]; rfl
  one := @fun i c w cs x ⟨A1, C2, A4, C5, h_, h3, h6⟩ u hu => by rw [h_] at hu; exact one_all (us := [.int .i64 x.Who, .int .i64 x.Kind, .int .i64 x.Client, .int .i64 x.Seq, .int .i64 x.Op.Kind, .slice A1 x.Op.Key.length C2, .slice A4 x.Op.Value.length C5, .int .i64 x.Op.Rev]) rfl u hu
def K_haulagelaw14_again : K haulagelaw14_again where
  sz := 14
  pos := by decide
  rep := fun i c w cs x => ∃ (A1 : Option Addr) (C2 : Nat) (A4 : Option Addr) (C5 : Nat) (A7 : Option Addr) (C8 : Nat) (A10 : Option Addr) (C11 : Nat), cs = [.bool x.is, .int .i64 x.step.Who, .int .i64 x.step.Kind, .int .i64 x.step.Client, .int .i64 x.step.Seq, .int .i64 x.step.Op.Kind, .slice A1 x.step.Op.Key.length C2, .slice A4 x.step.Op.Value.length C5, .int .i64 x.step.Op.Rev, .bool x.answer.Done, .slice A7 x.answer.Key.length C8, .slice A10 x.answer.Value.length C11, .int .i64 x.answer.Rev, .int .i64 x.answer.At] ∧ SL false (Kint .u8) i i c w A1 C2 x.step.Op.Key ∧ SL false (Kint .u8) i i c w A4 C5 x.step.Op.Value ∧ SL false (Kint .u8) i i c w A7 C8 x.answer.Key ∧ SL false (Kint .u8) i i c w A10 C11 x.answer.Value
  ev := fun ⟨A1, C2, A4, C5, A7, C8, A10, C11, h_, h3, h6, h9, h12⟩ E hi => ⟨A1, C2, A4, C5, A7, C8, A10, C11, h_, h3.ev E hi hi, h6.ev E hi hi, h9.ev E hi hi, h12.ev E hi hi⟩
  rc := fun ⟨A1, C2, A4, C5, A7, C8, A10, C11, h_, h3, h6, h9, h12⟩ hr => ⟨A1, C2, A4, C5, A7, C8, A10, C11, h_, h3.rc hr hr, h6.rc hr hr, h9.rc hr hr, h12.rc hr hr⟩
  len := fun ⟨A1, C2, A4, C5, A7, C8, A10, C11, h_, h3, h6, h9, h12⟩ => by rw [h_]; rfl
  one := @fun i c w cs x ⟨A1, C2, A4, C5, A7, C8, A10, C11, h_, h3, h6, h9, h12⟩ u hu => by rw [h_] at hu; exact one_all (us := [.bool x.is, .int .i64 x.step.Who, .int .i64 x.step.Kind, .int .i64 x.step.Client, .int .i64 x.step.Seq, .int .i64 x.step.Op.Kind, .slice A1 x.step.Op.Key.length C2, .slice A4 x.step.Op.Value.length C5, .int .i64 x.step.Op.Rev, .bool x.answer.Done, .slice A7 x.answer.Key.length C8, .slice A10 x.answer.Value.length C11, .int .i64 x.answer.Rev, .int .i64 x.answer.At]) rfl u hu
def TR (j : Nat) (c : Nat → Nat) (w : World) : Option Addr → Tr → Prop
  | p, .nil => p = none
  | p, .node l r k v s d => ∃ (a : Addr) (lp rp : Option Addr) (A1 : Option Addr) (C2 : Nat), p = some a ∧ AT false 0 c w a [.pointer lp, .pointer rp, .string k, .slice A1 v.value.length C2, .int .i64 v.rev, .int .i64 s, .int .i64 d] ∧ SL false (Kint .u8) 0 0 c w A1 C2 v.value ∧ TR j c w lp l ∧ TR j c w rp r
theorem TR.nil {j : Nat} {c : Nat → Nat} {w : World} : TR j c w none .nil := rfl
theorem TR.isNil {j : Nat} {c : Nat → Nat} {w : World} {p : Option Addr} {t : Tr} (h : TR j c w p t) : p.isNone = t.isNil := by
  cases t with
  | nil => have h : p = none := h; rw [h]; rfl
  | node l r k v s d => obtain ⟨a, lp, rp, A1, C2, e, _⟩ := h; rw [e]; rfl
theorem TR.node {c : Nat → Nat} {w : World} {p : Option Addr} {l r : Tr} {k : ByteArray} {v : table_cell} {s d : Int} (h : TR 0 c w p (.node l r k v s d)) : ∃ (a : Addr) (lp rp : Option Addr) (A1 : Option Addr) (C2 : Nat), p = some a ∧ AT false 0 c w a [.pointer lp, .pointer rp, .string k, .slice A1 v.value.length C2, .int .i64 v.rev, .int .i64 s, .int .i64 d] ∧ SL false (Kint .u8) 0 0 c w A1 C2 v.value ∧ TR 0 c w lp l ∧ TR 0 c w rp r := h
theorem TR.mk {c : Nat → Nat} {w : World} {a : Addr} {lp rp : Option Addr} {l r : Tr} {k : ByteArray} {v : table_cell} {s d : Int} {A1 : Option Addr} {C2 : Nat} (hat : AT false 0 c w a [.pointer lp, .pointer rp, .string k, .slice A1 v.value.length C2, .int .i64 v.rev, .int .i64 s, .int .i64 d]) (h3 : SL false (Kint .u8) 0 0 c w A1 C2 v.value) (hl : TR 0 c w lp l) (hr : TR 0 c w rp r) : TR 0 c w (some a) (.node l r k v s d) := ⟨a, lp, rp, A1, C2, rfl, hat, h3, hl, hr⟩
theorem TR.ev {M : Nat → Prop} {j : Nat} {c c' : Nat → Nat} {w w' : World} : ∀ {t : Tr} {p : Option Addr}, TR j c w p t → Ev M c w c' w' → ¬ M j → ¬ M 0 → TR j c' w' p t
  | .nil, _, h, _, _, _ => h
  | .node l r k v s d, _, ⟨a, lp, rp, A1, C2, e, hat, h3, hl, hr⟩, E, hj, h0 => ⟨a, lp, rp, A1, C2, e, hat.ev E h0, h3.ev E h0 h0, TR.ev hl E hj h0, TR.ev hr E hj h0⟩
theorem TR.rc {j j' : Nat} {c c' : Nat → Nat} {w : World} : ∀ {t : Tr} {p : Option Addr}, TR j c w p t → (∀ k, c k = j → c' k = j') → (∀ k, c k = 0 → c' k = 0) → TR j' c' w p t
  | .nil, _, h, _, _ => h
  | .node l r k v s d, _, ⟨a, lp, rp, A1, C2, e, hat, h3, hl, hr⟩, q, h0 => ⟨a, lp, rp, A1, C2, e, hat.rc h0, h3.rc h0 h0, TR.rc hl q h0, TR.rc hr q h0⟩
def ITR (j : Nat) (c : Nat → Nat) (w : World) (v : Value) : It → Prop
  | .all t => ∃ (q : Addr) (p : Option Addr), v = .func (.func 66) #[] #[.pointer (some q)] ∧ AT true j c w q [.pointer p] ∧ TR 0 c w p t
  | .from t k => ∃ (q0 q1 : Addr) (p : Option Addr), v = .func (.func 84) #[] #[.pointer (some q0), .pointer (some q1)] ∧ AT true j c w q0 [.pointer p] ∧ AT true j c w q1 [.string k] ∧ TR 0 c w p t
theorem ITR.rc {j j' : Nat} {c c' : Nat → Nat} {w : World} {v : Value} : ∀ {i : It}, ITR j c w v i → (∀ k, c k = j → c' k = j') → (∀ k, c k = 0 → c' k = 0) → ITR j' c' w v i
  | .all t, ⟨q, p, e, h, ht⟩, hr, h0 => ⟨q, p, e, h.rc hr, ht.rc h0 h0⟩
  | .from t k, ⟨q, q1, p, e, h, h1, ht⟩, hr, h0 => ⟨q, q1, p, e, h.rc hr, h1.rc hr, ht.rc h0 h0⟩
def WR (j i : Nat) (c : Nat → Nat) (w : World) (p : Option Addr) : Option Wri → Prop
  | none => p = none
  | some t => ∃ (a : Addr) (A1 : Option Addr) (C2 : Nat) (A4 : Option Addr) (C5 : Nat), p = some a ∧ AT true j c w a [.int .i64 t.room, .slice A1 t.b.length C2, .slice A4 t.open_.length C5, .int .i64 t.fault] ∧ SL true (Kint .u8) i 0 c w A1 C2 t.b ∧ SL false (Kint .i64) 0 0 c w A4 C5 t.open_
theorem WR.some {j i : Nat} {c : Nat → Nat} {w : World} {p : Option Addr} {t : Wri} (h : WR j i c w p (some t)) : ∃ (a : Addr) (A1 : Option Addr) (C2 : Nat) (A4 : Option Addr) (C5 : Nat), p = some a ∧ AT true j c w a [.int .i64 t.room, .slice A1 t.b.length C2, .slice A4 t.open_.length C5, .int .i64 t.fault] ∧ SL true (Kint .u8) i 0 c w A1 C2 t.b ∧ SL false (Kint .i64) 0 0 c w A4 C5 t.open_ := h
theorem WR.isNone {j i : Nat} {c : Nat → Nat} {w : World} {p : Option Addr} {o : Option Wri} (h : WR j i c w p o) : p.isNone = o.isNone := by
  cases o with
  | none => have h : p = none := h; rw [h]; rfl
  | some t => obtain ⟨a, A1, C2, A4, C5, e, _⟩ := h; rw [e]; rfl
theorem WR.ev {M : Nat → Prop} {j i : Nat} {c c' : Nat → Nat} {w w' : World} {p : Option Addr} {o : Option Wri} (h : WR j i c w p o) (E : Ev M c w c' w') (hj : ¬ M j) (hi : ¬ M i) (h0 : ¬ M 0) : WR j i c' w' p o := by
  cases o with
  | none => exact h
  | some t => obtain ⟨a, A1, C2, A4, C5, e, hat, h3, h6⟩ := h; exact ⟨a, A1, C2, A4, C5, e, hat.ev E hj, h3.ev E hi h0, h6.ev E h0 h0⟩
theorem WR.rc {j j' i i' : Nat} {c c' : Nat → Nat} {w : World} {p : Option Addr} {o : Option Wri} (h : WR j i c w p o) (hr : ∀ k, c k = j → c' k = j') (hi : ∀ k, c k = i → c' k = i') (h0 : ∀ k, c k = 0 → c' k = 0) : WR j' i' c' w p o := by
  cases o with
  | none => exact h
  | some t => obtain ⟨a, A1, C2, A4, C5, e, hat, h3, h6⟩ := h; exact ⟨a, A1, C2, A4, C5, e, hat.rc hr, h3.rc hi h0, h6.rc h0 h0⟩
theorem WR.mk {j i : Nat} {c : Nat → Nat} {w : World} {a : Addr} {t : Wri} {A1 : Option Addr} {C2 : Nat} {A4 : Option Addr} {C5 : Nat} (hat : AT true j c w a [.int .i64 t.room, .slice A1 t.b.length C2, .slice A4 t.open_.length C5, .int .i64 t.fault]) (h3 : SL true (Kint .u8) i 0 c w A1 C2 t.b) (h6 : SL false (Kint .i64) 0 0 c w A4 C5 t.open_) : WR j i c w (Option.some a) (Option.some t) := ⟨a, A1, C2, A4, C5, rfl, hat, h3, h6⟩
def TB (j : Nat) (c : Nat → Nat) (w : World) (p : Option Addr) : Option Tab → Prop
  | none => p = none
  | some t => ∃ (a : Addr) (p1 : Option Addr), p = some a ∧ AT true j c w a [.pointer p1, .int .i64 t.rev, .int .i64 t.size] ∧ TR 0 c w p1 t.rows
theorem TB.nil {j : Nat} {c : Nat → Nat} {w : World} : TB j c w none none := rfl
theorem TB.some {j : Nat} {c : Nat → Nat} {w : World} {p : Option Addr} {t : Tab} (h : TB j c w p (some t)) : ∃ (a : Addr) (p1 : Option Addr), p = some a ∧ AT true j c w a [.pointer p1, .int .i64 t.rev, .int .i64 t.size] ∧ TR 0 c w p1 t.rows := h
theorem TB.isNone {j : Nat} {c : Nat → Nat} {w : World} {p : Option Addr} {o : Option Tab} (h : TB j c w p o) : p.isNone = o.isNone := by
  cases o with
  | none => have h : p = none := h; rw [h]; rfl
  | some t => obtain ⟨a, p1, e, _⟩ := h; rw [e]; rfl
theorem TB.ev {M : Nat → Prop} {j : Nat} {c c' : Nat → Nat} {w w' : World} {p : Option Addr} {o : Option Tab} (h : TB j c w p o) (E : Ev M c w c' w') (hj : ¬ M j) (h0 : ¬ M 0) : TB j c' w' p o := by
  cases o with
  | none => exact h
  | some t => obtain ⟨a, p1, e, hat, h2⟩ := h; exact ⟨a, p1, e, hat.ev E hj, h2.ev E h0 h0⟩
theorem TB.rc {j j' : Nat} {c c' : Nat → Nat} {w : World} {p : Option Addr} {o : Option Tab} (h : TB j c w p o) (hr : ∀ k, c k = j → c' k = j') (h0 : ∀ k, c k = 0 → c' k = 0) : TB j' c' w p o := by
  cases o with
  | none => exact h
  | some t => obtain ⟨a, p1, e, hat, h2⟩ := h; exact ⟨a, p1, e, hat.rc hr, h2.rc h0 h0⟩
theorem TB.mk {j : Nat} {c : Nat → Nat} {w : World} {a : Addr} {t : Tab} {p1 : Option Addr} (hat : AT true j c w a [.pointer p1, .int .i64 t.rev, .int .i64 t.size]) (h2 : TR 0 c w p1 t.rows) : TB j c w (Option.some a) (Option.some t) := ⟨a, p1, rfl, hat, h2⟩
def SE (j : Nat) (c : Nat → Nat) (w : World) (p : Option Addr) (o : List api_Seat) : Prop := ∃ (a : Addr) (cs : List Value), p = some a ∧ AT false j c w a ([] ++ (cs ++ ([]))) ∧ AR K_api_Seat 0 c w cs 16 o
theorem SE.ev {M : Nat → Prop} {j : Nat} {c c' : Nat → Nat} {w w' : World} {p : Option Addr} {o : List api_Seat} (h : SE j c w p o) (E : Ev M c w c' w') (hj : ¬ M j) (h0 : ¬ M 0) : SE j c' w' p o := by
  obtain ⟨a, cs, e, hat, hA⟩ := h
  exact ⟨a, cs, e, hat.ev E hj, hA.ev E h0⟩
theorem SE.mk {j : Nat} {c : Nat → Nat} {w : World} {a : Addr} {cs : List Value} {own : Bool} {o : List api_Seat} (hat : AT own j c w a cs) (hA : AR K_api_Seat 0 c w cs 16 o) : SE j c w (Option.some a) o := ⟨a, cs, rfl, hat.r.eqv (by simp), hA⟩
def ME (j i : Nat) (c : Nat → Nat) (w : World) (p : Option Addr) : Option Mer → Prop
  | none => p = none
  | some t => ∃ (a : Addr) (cs1 : List Value) (cs3 : List Value), p = some a ∧ AT true j c w a (([.int .i64 t.bits] : List Value) ++ (cs1 ++ (([] : List Value) ++ (cs3 ++ (([.int .i64 t.many] : List Value)))))) ∧ AR (Kint .u64) 0 c w cs1 512 t.digests ∧ ARO (KOsl K_api_Row) i c w cs3 256 t.rows noHole
theorem ME.nil {j i : Nat} {c : Nat → Nat} {w : World} : ME j i c w none none := rfl
theorem ME.some {j i : Nat} {c : Nat → Nat} {w : World} {p : Option Addr} {t : Mer} (h : ME j i c w p (some t)) : ∃ (a : Addr) (cs1 : List Value) (cs3 : List Value), p = some a ∧ AT true j c w a (([.int .i64 t.bits] : List Value) ++ (cs1 ++ (([] : List Value) ++ (cs3 ++ (([.int .i64 t.many] : List Value)))))) ∧ AR (Kint .u64) 0 c w cs1 512 t.digests ∧ ARO (KOsl K_api_Row) i c w cs3 256 t.rows noHole := h
theorem ME.isNone {j i : Nat} {c : Nat → Nat} {w : World} {p : Option Addr} {o : Option Mer} (h : ME j i c w p o) : p.isNone = o.isNone := by
  cases o with
  | none => have h : p = none := h; rw [h]; rfl
  | some t => obtain ⟨a, cs1, cs3, e, _⟩ := h; rw [e]; rfl
theorem ME.ev {M : Nat → Prop} {j i : Nat} {c c' : Nat → Nat} {w w' : World} {p : Option Addr} {o : Option Mer} (h : ME j i c w p o) (E : Ev M c w c' w') (hj : ¬ M j) (hi : ¬ M i) (h0 : ¬ M 0) : ME j i c' w' p o := by
  cases o with
  | none => exact h
  | some t => obtain ⟨a, cs1, cs3, e, hat, h2, h4⟩ := h; exact ⟨a, cs1, cs3, e, hat.ev E hj, h2.ev E h0, h4.ev E hi h0⟩
theorem ME.rc {j j' i i' : Nat} {c c' : Nat → Nat} {w : World} {p : Option Addr} {o : Option Mer} (h : ME j i c w p o) (hr : ∀ k, c k = j → c' k = j') (hi : ∀ k, c k = i → c' k = i') (h0 : ∀ k, c k = 0 → c' k = 0) (hp : 0 < i') : ME j' i' c' w p o := by
  cases o with
  | none => exact h
  | some t => obtain ⟨a, cs1, cs3, e, hat, h2, h4⟩ := h; exact ⟨a, cs1, cs3, e, hat.rc hr, h2.rc h0, h4.rc hi h0 hp⟩
theorem ME.mk {j i : Nat} {c : Nat → Nat} {w : World} {a : Addr} {t : Mer} {cs1 : List Value} {cs3 : List Value} (hat : AT true j c w a (([.int .i64 t.bits] : List Value) ++ (cs1 ++ (([] : List Value) ++ (cs3 ++ (([.int .i64 t.many] : List Value))))))) (h2 : AR (Kint .u64) 0 c w cs1 512 t.digests) (h4 : ARO (KOsl K_api_Row) i c w cs3 256 t.rows noHole) : ME j i c w (Option.some a) (Option.some t) := ⟨a, cs1, cs3, rfl, hat, h2, h4⟩
def SH (j i : Nat) (c : Nat → Nat) (w : World) (p : Option Addr) : Option Sha → Prop
  | none => p = none
  | some t => ∃ (a : Addr) (p1 : Option Addr) (cs3 : List Value), p = some a ∧ AT true j c w a (([.pointer p1] : List Value) ++ (cs3 ++ (([] : List Value)))) ∧ TB i c w p1 t.Table ∧ AR K_api_Seat 0 c w cs3 16 t.seats
theorem SH.nil {j i : Nat} {c : Nat → Nat} {w : World} : SH j i c w none none := rfl
theorem SH.some {j i : Nat} {c : Nat → Nat} {w : World} {p : Option Addr} {t : Sha} (h : SH j i c w p (some t)) : ∃ (a : Addr) (p1 : Option Addr) (cs3 : List Value), p = some a ∧ AT true j c w a (([.pointer p1] : List Value) ++ (cs3 ++ (([] : List Value)))) ∧ TB i c w p1 t.Table ∧ AR K_api_Seat 0 c w cs3 16 t.seats := h
theorem SH.isNone {j i : Nat} {c : Nat → Nat} {w : World} {p : Option Addr} {o : Option Sha} (h : SH j i c w p o) : p.isNone = o.isNone := by
  cases o with
  | none => have h : p = none := h; rw [h]; rfl
  | some t => obtain ⟨a, p1, cs3, e, _⟩ := h; rw [e]; rfl
theorem SH.ev {M : Nat → Prop} {j i : Nat} {c c' : Nat → Nat} {w w' : World} {p : Option Addr} {o : Option Sha} (h : SH j i c w p o) (E : Ev M c w c' w') (hj : ¬ M j) (hi : ¬ M i) (h0 : ¬ M 0) : SH j i c' w' p o := by
  cases o with
  | none => exact h
  | some t => obtain ⟨a, p1, cs3, e, hat, h2, h4⟩ := h; exact ⟨a, p1, cs3, e, hat.ev E hj, h2.ev E hi h0, h4.ev E h0⟩
theorem SH.rc {j j' i i' : Nat} {c c' : Nat → Nat} {w : World} {p : Option Addr} {o : Option Sha} (h : SH j i c w p o) (hr : ∀ k, c k = j → c' k = j') (hi : ∀ k, c k = i → c' k = i') (h0 : ∀ k, c k = 0 → c' k = 0) : SH j' i' c' w p o := by
  cases o with
  | none => exact h
  | some t => obtain ⟨a, p1, cs3, e, hat, h2, h4⟩ := h; exact ⟨a, p1, cs3, e, hat.rc hr, h2.rc hi h0, h4.rc h0⟩
theorem SH.mk {j i : Nat} {c : Nat → Nat} {w : World} {a : Addr} {t : Sha} {p1 : Option Addr} {cs3 : List Value} (hat : AT true j c w a (([.pointer p1] : List Value) ++ (cs3 ++ (([] : List Value))))) (h2 : TB i c w p1 t.Table) (h4 : AR K_api_Seat 0 c w cs3 16 t.seats) : SH j i c w (Option.some a) (Option.some t) := ⟨a, p1, cs3, rfl, hat, h2, h4⟩
theorem Try_hm : Try.prog.follows .mixedOrders = true := by kernel_rfl
theorem ff_112_4 : ∀ q w, (Instr.fieldAt 112 (.pointer (some q)) 4).run Try.prog w = .ok (.pointer (some (q.add 5))) w := fun _ _ => by kernel_rfl
theorem ag_3 : ∀ w, (isAgg 3).run Try.prog w = .ok false w := fun _ => by kernel_rfl
theorem ff_112_5 : ∀ q w, (Instr.fieldAt 112 (.pointer (some q)) 5).run Try.prog w = .ok (.pointer (some (q.add 6))) w := fun _ _ => by kernel_rfl
theorem ag_80 : ∀ w, (isAgg 80).run Try.prog w = .ok true w := fun _ => by kernel_rfl
theorem sz_80 : ∀ w, (sizeOf 80).run Try.prog w = .ok 2 w := fun _ => by kernel_rfl
theorem ff_112_1 : ∀ q w, (Instr.fieldAt 112 (.pointer (some q)) 1).run Try.prog w = .ok (.pointer (some (q.add 1))) w := fun _ _ => by kernel_rfl
theorem ag_77 : ∀ w, (isAgg 77).run Try.prog w = .ok false w := fun _ => by kernel_rfl
theorem ff_112_0 : ∀ q w, (Instr.fieldAt 112 (.pointer (some q)) 0).run Try.prog w = .ok (.pointer (some (q.add 0))) w := fun _ _ => by kernel_rfl
theorem ff_112_2 : ∀ q w, (Instr.fieldAt 112 (.pointer (some q)) 2).run Try.prog w = .ok (.pointer (some (q.add 2))) w := fun _ _ => by kernel_rfl
theorem ag_9 : ∀ w, (isAgg 9).run Try.prog w = .ok false w := fun _ => by kernel_rfl
theorem ff_112_3 : ∀ q w, (Instr.fieldAt 112 (.pointer (some q)) 3).run Try.prog w = .ok (.pointer (some (q.add 3))) w := fun _ _ => by kernel_rfl
theorem zv_80 : ∀ w, (zeroValue 80).run Try.prog w = .ok (.agg #[.slice none 0 0, .int .i64 0]) w := fun _ => by kernel_rfl
theorem ff_80_0 : ∀ q w, (Instr.fieldAt 80 (.pointer (some q)) 0).run Try.prog w = .ok (.pointer (some (q.add 0))) w := fun _ _ => by kernel_rfl
theorem ag_28 : ∀ w, (isAgg 28).run Try.prog w = .ok false w := fun _ => by kernel_rfl
theorem ff_80_1 : ∀ q w, (Instr.fieldAt 80 (.pointer (some q)) 1).run Try.prog w = .ok (.pointer (some (q.add 1))) w := fun _ _ => by kernel_rfl
theorem ff_30_0 : ∀ q w, (Instr.fieldAt 30 (.pointer (some q)) 0).run Try.prog w = .ok (.pointer (some (q.add 0))) w := fun _ _ => by kernel_rfl
theorem ff_30_1 : ∀ q w, (Instr.fieldAt 30 (.pointer (some q)) 1).run Try.prog w = .ok (.pointer (some (q.add 1))) w := fun _ _ => by kernel_rfl
theorem ff_30_2 : ∀ q w, (Instr.fieldAt 30 (.pointer (some q)) 2).run Try.prog w = .ok (.pointer (some (q.add 2))) w := fun _ _ => by kernel_rfl
theorem ff_30_3 : ∀ q w, (Instr.fieldAt 30 (.pointer (some q)) 3).run Try.prog w = .ok (.pointer (some (q.add 3))) w := fun _ _ => by kernel_rfl
theorem zv_9 : ∀ w, (zeroValue 9).run Try.prog w = .ok (.string .empty) w := fun _ => by kernel_rfl
theorem zv_4 : ∀ w, (zeroValue 4).run Try.prog w = .ok (.bool false) w := fun _ => by kernel_rfl
theorem sz_9 : ∀ w, (sizeOf 9).run Try.prog w = .ok 1 w := fun _ => by kernel_rfl
theorem sz_4 : ∀ w, (sizeOf 4).run Try.prog w = .ok 1 w := fun _ => by kernel_rfl
theorem ag_4 : ∀ w, (isAgg 4).run Try.prog w = .ok false w := fun _ => by kernel_rfl
theorem ag_82 : ∀ w, (isAgg 82).run Try.prog w = .ok true w := fun _ => by kernel_rfl
theorem sz_82 : ∀ w, (sizeOf 82).run Try.prog w = .ok 3 w := fun _ => by kernel_rfl
theorem zv_82 : ∀ w, (zeroValue 82).run Try.prog w = .ok (.agg #[.pointer none, .int .i64 0, .int .i64 0]) w := fun _ => by kernel_rfl
theorem ff_82_0 : ∀ q w, (Instr.fieldAt 82 (.pointer (some q)) 0).run Try.prog w = .ok (.pointer (some (q.add 0))) w := fun _ _ => by kernel_rfl
theorem ff_82_2 : ∀ q w, (Instr.fieldAt 82 (.pointer (some q)) 2).run Try.prog w = .ok (.pointer (some (q.add 2))) w := fun _ _ => by kernel_rfl
theorem sz_3 : ∀ w, (sizeOf 3).run Try.prog w = .ok 1 w := fun _ => by kernel_rfl
theorem sz_77 : ∀ w, (sizeOf 77).run Try.prog w = .ok 1 w := fun _ => by kernel_rfl
theorem zv_34 : ∀ w, (zeroValue 34).run Try.prog w = .ok (.agg #[.bool false, .slice none 0 0, .slice none 0 0, .int .i64 0, .int .i64 0]) w := fun _ => by kernel_rfl
theorem ff_82_1 : ∀ q w, (Instr.fieldAt 82 (.pointer (some q)) 1).run Try.prog w = .ok (.pointer (some (q.add 1))) w := fun _ _ => by kernel_rfl
theorem sz_34 : ∀ w, (sizeOf 34).run Try.prog w = .ok 5 w := fun _ => by kernel_rfl
theorem ff_34_1 : ∀ q w, (Instr.fieldAt 34 (.pointer (some q)) 1).run Try.prog w = .ok (.pointer (some (q.add 1))) w := fun _ _ => by kernel_rfl
theorem sz_28 : ∀ w, (sizeOf 28).run Try.prog w = .ok 1 w := fun _ => by kernel_rfl
theorem ff_34_2 : ∀ q w, (Instr.fieldAt 34 (.pointer (some q)) 2).run Try.prog w = .ok (.pointer (some (q.add 2))) w := fun _ _ => by kernel_rfl
theorem ff_34_3 : ∀ q w, (Instr.fieldAt 34 (.pointer (some q)) 3).run Try.prog w = .ok (.pointer (some (q.add 3))) w := fun _ _ => by kernel_rfl
theorem ag_34 : ∀ w, (isAgg 34).run Try.prog w = .ok true w := fun _ => by kernel_rfl
theorem ag_30 : ∀ w, (isAgg 30).run Try.prog w = .ok true w := fun _ => by kernel_rfl
theorem sz_30 : ∀ w, (sizeOf 30).run Try.prog w = .ok 4 w := fun _ => by kernel_rfl
theorem ff_34_0 : ∀ q w, (Instr.fieldAt 34 (.pointer (some q)) 0).run Try.prog w = .ok (.pointer (some (q.add 0))) w := fun _ _ => by kernel_rfl
theorem zv_47 : ∀ w, (zeroValue 47).run Try.prog w = .ok (.slice none 0 0) w := fun _ => by kernel_rfl
theorem ag_47 : ∀ w, (isAgg 47).run Try.prog w = .ok false w := fun _ => by kernel_rfl
theorem et_47 : ET Try.prog 47 93 3 56 (.agg #[.slice none 0 0, .slice none 0 0, .int .i64 0]) := ⟨Try.underlying47, info_parts' (by kernel_rfl), rfl⟩
theorem sz_47 : ∀ w, (sizeOf 47).run Try.prog w = .ok 1 w := fun _ => by kernel_rfl
theorem et_28 : ET Try.prog 28 5 1 1 (.int .u8 0) := ⟨Try.underlying28, info_parts' (by kernel_rfl), rfl⟩
theorem ff_121_3 : ∀ q w, (Instr.fieldAt 121 (.pointer (some q)) 3).run Try.prog w = .ok (.pointer (some (q.add 3))) w := fun _ _ => by kernel_rfl
theorem ag_39 : ∀ w, (isAgg 39).run Try.prog w = .ok false w := fun _ => by kernel_rfl
theorem sz_39 : ∀ w, (sizeOf 39).run Try.prog w = .ok 1 w := fun _ => by kernel_rfl
theorem ff_121_0 : ∀ q w, (Instr.fieldAt 121 (.pointer (some q)) 0).run Try.prog w = .ok (.pointer (some (q.add 0))) w := fun _ _ => by kernel_rfl
theorem ff_121_1 : ∀ q w, (Instr.fieldAt 121 (.pointer (some q)) 1).run Try.prog w = .ok (.pointer (some (q.add 1))) w := fun _ _ => by kernel_rfl
theorem sz_5 : ∀ w, (sizeOf 5).run Try.prog w = .ok 1 w := fun _ => by kernel_rfl
theorem ff_121_2 : ∀ q w, (Instr.fieldAt 121 (.pointer (some q)) 2).run Try.prog w = .ok (.pointer (some (q.add 2))) w := fun _ _ => by kernel_rfl
theorem ag_119 : ∀ w, (isAgg 119).run Try.prog w = .ok false w := fun _ => by kernel_rfl
theorem zv_97 : ∀ w, (zeroValue 97).run Try.prog w = .ok (.pointer none) w := fun _ => by kernel_rfl
theorem sz_97 : ∀ w, (sizeOf 97).run Try.prog w = .ok 1 w := fun _ => by kernel_rfl
theorem ag_97 : ∀ w, (isAgg 97).run Try.prog w = .ok false w := fun _ => by kernel_rfl
theorem ff_76_0 : ∀ q w, (Instr.fieldAt 76 (.pointer (some q)) 0).run Try.prog w = .ok (.pointer (some (q.add 0))) w := fun _ _ => by kernel_rfl
theorem ag_26 : ∀ w, (isAgg 26).run Try.prog w = .ok false w := fun _ => by kernel_rfl
theorem ff_76_1 : ∀ q w, (Instr.fieldAt 76 (.pointer (some q)) 1).run Try.prog w = .ok (.pointer (some (q.add 1))) w := fun _ _ => by kernel_rfl
theorem ag_74 : ∀ w, (isAgg 74).run Try.prog w = .ok true w := fun _ => by kernel_rfl
theorem sz_74 : ∀ w, (sizeOf 74).run Try.prog w = .ok 112 w := fun _ => by kernel_rfl
theorem bp_76 : BP Try.prog 76 (([.pointer none] : List Value) ++ (((List.replicate 16 ([.int .i64 0, .int .i64 0, .bool false, .slice none 0 0, .slice none 0 0, .int .i64 0, .int .i64 0] : List Value)).flatten) ++ (([] : List Value)))) #[(0, 1), (1, 112)] := ⟨_, Try.underlying76, fun _ => by kernel_rfl, fun _ => by kernel_rfl⟩
theorem zv_36 : ∀ w, (zeroValue 36).run Try.prog w = .ok (.agg #[.int .i64 0, .int .i64 0, .bool false, .slice none 0 0, .slice none 0 0, .int .i64 0, .int .i64 0]) w := fun _ => by kernel_rfl
theorem ff_36_2 : ∀ q w, (Instr.fieldAt 36 (.pointer (some q)) 2).run Try.prog w = .ok (.pointer (some (q.add 2))) w := fun _ _ => by kernel_rfl
theorem ag_36 : ∀ w, (isAgg 36).run Try.prog w = .ok true w := fun _ => by kernel_rfl
theorem sz_36 : ∀ w, (sizeOf 36).run Try.prog w = .ok 7 w := fun _ => by kernel_rfl
theorem ua_74 : Try.prog.underlying 74 = some (.array 16 36) := Try.underlying74
theorem ff_36_1 : ∀ q w, (Instr.fieldAt 36 (.pointer (some q)) 1).run Try.prog w = .ok (.pointer (some (q.add 1))) w := fun _ _ => by kernel_rfl
theorem ff_36_0 : ∀ q w, (Instr.fieldAt 36 (.pointer (some q)) 0).run Try.prog w = .ok (.pointer (some (q.add 0))) w := fun _ _ => by kernel_rfl
theorem ff_34_4 : ∀ q w, (Instr.fieldAt 34 (.pointer (some q)) 4).run Try.prog w = .ok (.pointer (some (q.add 4))) w := fun _ _ => by kernel_rfl
theorem bd_36_i64_0_i64_1_bssi64i64_2 (x1 : Int) (x2 : Int) (x3 : Bool) (A4 : Option Addr) (l4 C4 : Nat) (A5 : Option Addr) (l5 C5 : Nat) (x6 : Int) (x7 : Int) : ∀ w, (Instr.build 36 [(0, .int .i64 x1), (1, .int .i64 x2), (2, .agg #[.bool x3, .slice A4 l4 C4, .slice A5 l5 C5, .int .i64 x6, .int .i64 x7])].toArray).run Try.prog w = .ok (.agg #[.int .i64 x1, .int .i64 x2, .bool x3, .slice A4 l4 C4, .slice A5 l5 C5, .int .i64 x6, .int .i64 x7]) w := fun _ => by kernel_rfl
theorem ag_76 : ∀ w, (isAgg 76).run Try.prog w = .ok true w := fun _ => by kernel_rfl
theorem sz_76 : ∀ w, (sizeOf 76).run Try.prog w = .ok 113 w := fun _ => by kernel_rfl
theorem bd_36_  : ∀ w, (Instr.build 36 [].toArray).run Try.prog w = .ok (.agg #[.int .i64 0, .int .i64 0, .bool false, .slice none 0 0, .slice none 0 0, .int .i64 0, .int .i64 0]) w := fun _ => by kernel_rfl
theorem ag_5 : ∀ w, (isAgg 5).run Try.prog w = .ok false w := fun _ => by kernel_rfl
theorem ff_93_0 : ∀ q w, (Instr.fieldAt 93 (.pointer (some q)) 0).run Try.prog w = .ok (.pointer (some (q.add 0))) w := fun _ _ => by kernel_rfl
theorem sz_93 : ∀ w, (sizeOf 93).run Try.prog w = .ok 3 w := fun _ => by kernel_rfl
theorem ag_93 : ∀ w, (isAgg 93).run Try.prog w = .ok true w := fun _ => by kernel_rfl
theorem zv_93 : ∀ w, (zeroValue 93).run Try.prog w = .ok (.agg #[.slice none 0 0, .slice none 0 0, .int .i64 0]) w := fun _ => by kernel_rfl
theorem ff_93_1 : ∀ q w, (Instr.fieldAt 93 (.pointer (some q)) 1).run Try.prog w = .ok (.pointer (some (q.add 1))) w := fun _ _ => by kernel_rfl
theorem ff_93_2 : ∀ q w, (Instr.fieldAt 93 (.pointer (some q)) 2).run Try.prog w = .ok (.pointer (some (q.add 2))) w := fun _ _ => by kernel_rfl
theorem ua_129 : Try.prog.underlying 129 = some (.array 256 47) := Try.underlying129
theorem ff_131_2 : ∀ q w, (Instr.fieldAt 131 (.pointer (some q)) 2).run Try.prog w = .ok (.pointer (some (q.add 513))) w := fun _ _ => by kernel_rfl
theorem ff_131_1 : ∀ q w, (Instr.fieldAt 131 (.pointer (some q)) 1).run Try.prog w = .ok (.pointer (some (q.add 1))) w := fun _ _ => by kernel_rfl
theorem ua_128 : Try.prog.underlying 128 = some (.array 512 55) := Try.underlying128
theorem sz_55 : ∀ w, (sizeOf 55).run Try.prog w = .ok 1 w := fun _ => by kernel_rfl
theorem ag_55 : ∀ w, (isAgg 55).run Try.prog w = .ok false w := fun _ => by kernel_rfl
theorem zv_30 : ∀ w, (zeroValue 30).run Try.prog w = .ok (.agg #[.int .i64 0, .slice none 0 0, .slice none 0 0, .int .i64 0]) w := fun _ => by kernel_rfl
theorem sz_32 : ∀ w, (sizeOf 32).run Try.prog w = .ok 8 w := fun _ => by kernel_rfl
theorem ag_32 : ∀ w, (isAgg 32).run Try.prog w = .ok true w := fun _ => by kernel_rfl
theorem zv_32 : ∀ w, (zeroValue 32).run Try.prog w = .ok (.agg #[.int .i64 0, .int .i64 0, .int .i64 0, .int .i64 0, .int .i64 0, .slice none 0 0, .slice none 0 0, .int .i64 0]) w := fun _ => by kernel_rfl
theorem ff_32_2 : ∀ q w, (Instr.fieldAt 32 (.pointer (some q)) 2).run Try.prog w = .ok (.pointer (some (q.add 2))) w := fun _ _ => by kernel_rfl
theorem ff_32_3 : ∀ q w, (Instr.fieldAt 32 (.pointer (some q)) 3).run Try.prog w = .ok (.pointer (some (q.add 3))) w := fun _ _ => by kernel_rfl
theorem ff_32_4 : ∀ q w, (Instr.fieldAt 32 (.pointer (some q)) 4).run Try.prog w = .ok (.pointer (some (q.add 4))) w := fun _ _ => by kernel_rfl
theorem zv_53 : ∀ w, (zeroValue 53).run Try.prog w = .ok (.agg ((List.replicate 16 ([.bool false, .int .i64 0, .int .i64 0, .int .i64 0, .int .i64 0, .int .i64 0, .slice none 0 0, .slice none 0 0, .int .i64 0, .bool false, .slice none 0 0, .slice none 0 0, .int .i64 0, .int .i64 0] : List Value)).flatten).toArray) w := fun _ => by kernel_rfl
theorem ua_53 : Try.prog.underlying 53 = some (.array 16 52) := Try.underlying53
theorem sz_52 : ∀ w, (sizeOf 52).run Try.prog w = .ok 14 w := fun _ => by kernel_rfl
theorem ff_52_0 : ∀ q w, (Instr.fieldAt 52 (.pointer (some q)) 0).run Try.prog w = .ok (.pointer (some (q.add 0))) w := fun _ _ => by kernel_rfl
theorem ag_52 : ∀ w, (isAgg 52).run Try.prog w = .ok true w := fun _ => by kernel_rfl
theorem zv_52 : ∀ w, (zeroValue 52).run Try.prog w = .ok (.agg #[.bool false, .int .i64 0, .int .i64 0, .int .i64 0, .int .i64 0, .int .i64 0, .slice none 0 0, .slice none 0 0, .int .i64 0, .bool false, .slice none 0 0, .slice none 0 0, .int .i64 0, .int .i64 0]) w := fun _ => by kernel_rfl
theorem ff_52_1 : ∀ q w, (Instr.fieldAt 52 (.pointer (some q)) 1).run Try.prog w = .ok (.pointer (some (q.add 1))) w := fun _ _ => by kernel_rfl
theorem ff_52_2 : ∀ q w, (Instr.fieldAt 52 (.pointer (some q)) 2).run Try.prog w = .ok (.pointer (some (q.add 9))) w := fun _ _ => by kernel_rfl
theorem bd_52_b_0_i64i64i64i64i64ssi64_1_bssi64i64_2 (x1 : Bool) (x2 : Int) (x3 : Int) (x4 : Int) (x5 : Int) (x6 : Int) (A7 : Option Addr) (l7 C7 : Nat) (A8 : Option Addr) (l8 C8 : Nat) (x9 : Int) (x10 : Bool) (A11 : Option Addr) (l11 C11 : Nat) (A12 : Option Addr) (l12 C12 : Nat) (x13 : Int) (x14 : Int) : ∀ w, (Instr.build 52 [(0, .bool x1), (1, .agg #[.int .i64 x2, .int .i64 x3, .int .i64 x4, .int .i64 x5, .int .i64 x6, .slice A7 l7 C7, .slice A8 l8 C8, .int .i64 x9]), (2, .agg #[.bool x10, .slice A11 l11 C11, .slice A12 l12 C12, .int .i64 x13, .int .i64 x14])].toArray).run Try.prog w = .ok (.agg #[.bool x1, .int .i64 x2, .int .i64 x3, .int .i64 x4, .int .i64 x5, .int .i64 x6, .slice A7 l7 C7, .slice A8 l8 C8, .int .i64 x9, .bool x10, .slice A11 l11 C11, .slice A12 l12 C12, .int .i64 x13, .int .i64 x14]) w := fun _ => by kernel_rfl
end Go.Proofs.Ythankpjbfpcldaa.G
namespace Go.Proofs.Ythankpjbfpcldaa.G
open Go Go.RowKit
set_option linter.unusedVariables false
set_option linter.unusedSimpArgs false
set_option maxRecDepth 100000
set_option maxHeartbeats 40000000
theorem haulagelaw14_get.calls {m : Nat} {c0 : Nat → Nat} {w0 : World} {a1 : ByteArray} (hm0 : 0 < m) (B0 : CB m c0 w0) (jr22 : Nat) (bjr22 : jr22 < m) (r : api_Op) (H : haulagelaw14_get.f a1 = some r) : Calls Try.prog 34 #[.string a1] w0 (fun e w_ => ∃ (c_ : Nat → Nat) (A0_ : Option Addr) (C0_ : Nat) (A2_ : Option Addr) (C2_ : Nat), e = .returned (.agg #[.int .i64 r.Kind, .slice A0_ r.Key.length C0_, .slice A2_ r.Value.length C2_, .int .i64 r.Rev]) ∧ Ev (fun x => False) c0 w0 c_ w_ ∧ CB m c_ w_ ∧ SL false (Kint .u8) 0 0 c_ w_ A0_ C0_ r.Key ∧ SL true (Kint .u8) jr22 0 c_ w_ A2_ C2_ r.Value) := by
 unfold haulagelaw14_get.f at H
 have B := B0.mono (show m ≤ m + 2 by omega)
 have E : Ev (fun x => False ∨ m ≤ x) c0 w0 c0 w0 := Ev.refl
 refine enter (N := 6) (l := [.string a1]) Try.func34 rfl rfl (nb rfl) fun a F => ?_
 refine wp_seq_k fun K2 hK2 => reg ?_
 refine q_eff F rfl rfl (by decide) (e_alloc F zv_30 c0 (m + 1)) ?_
 rintro v w4 a ⟨c3, qa5, rfl, E6, h7, B8⟩ F
 replace B := B8 _ B lm
 replace E := E.trans E6 nx
 replace h7 : AT true (m + 1) c3 w4 qa5 [.int .i64 0, .slice none 0 0, .slice none 0 0, .int .i64 0] := h7
 refine nil (hK2 _ _ ?_)
 refine wp_seq_k fun K10 hK10 => reg ?_
 refine qm F fun a F => ?_
 replace H := ifN H
 obtain ⟨g11, H⟩ := H
 refine q_eff F rfl rfl (by decide) (e_strBytes F Try.underlying9 Try.underlying28 Try.underlying5 rfl (by unfold maxLen; omega) c3 0 0) ?_
 rintro v w13 a ⟨c12, A14, C15, rfl, E16, h17, B18⟩ F
 replace B := B18 _ B (pl hm0)
 replace h7 := h7.ev E16 nq
 replace E := E.trans E16 nx
 refine qv F (r_build (v := .agg #[.int .i64 1, .slice A14 (sb a1).length C15, .slice none 0 0, .int .i64 0]) F [(0, .int .i64 1), (1, .slice A14 (sb a1).length C15)] (by exact ⟨rfl, rfl, rfl, rfl, trivial⟩) (fun w => by kernel_rfl)) fun a F => ?_
 refine q_eff0 F rfl rfl (e_storeN0 (us := [.int .i64 1, .slice A14 (sb a1).length C15, .slice none 0 0, .int .i64 0]) F rfl rfl sz_30 h7 (nb rfl) (one_all rfl)) ?_
 rintro w19 a ⟨E20, h7, Z21⟩ F
 replace B := B.size Z21
 replace h17 := h17.ev E20 ne_zm ne_zm
 replace E := E.trans E20 lc1
 replace h7 : AT true (m + 1) c12 w19 qa5 [.int .i64 1, .slice A14 (sb a1).length C15, .slice none 0 0, .int .i64 0] := h7
 refine nil (hK10 _ _ ?_)
 refine wp_ret ?_
 replace H := si H
 subst H
 refine outR1 F rfl ⟨_, rfl, lv_agg (cs := [.int .i64 1, .slice A14 (sb a1).length C15, .slice none 0 0, .int .i64 0]) ag_30 sz_30 h7⟩ ?_
 exact ⟨cf (fun x_ => if x_ < m then x_ else 0) c12, A14, C15, none, 0, rfl, E.lv B0, cfb, SL.rc h17.r cfk cfk, SL.nil⟩
theorem haulagelaw14_num.calls {m : Nat} {c0 : Nat → Nat} {w0 : World} {a1 : Int} (hm0 : 0 < m) (B0 : CB m c0 w0) (r : Int) (H : haulagelaw14_num.f a1 = some r) : Calls Try.prog 11 #[.int .i64 a1] w0 (fun e w_ => ∃ (c_ : Nat → Nat), e = .returned (.int .i64 r) ∧ Ev (fun x => False) c0 w0 c_ w_ ∧ CB m c_ w_) := by
 unfold haulagelaw14_num.f at H
 have B := B0.mono (show m ≤ m + 1 by omega)
 have E : Ev (fun x => False ∨ m ≤ x) c0 w0 c0 w0 := Ev.refl
 refine enter (N := 4) (l := [.int .i64 a1]) Try.func11 rfl rfl (nb rfl) fun a F => ?_
 refine wp_seq_k fun K2 hK2 => reg ?_
 refine qa F fun a F => ?_
 refine nil (hK2 _ _ ?_)
 refine wp_seq_k fun K3 hK3 => reg ?_
 refine qm F fun a F => ?_
 refine qa F fun a F => ?_
 refine nil (hK3 _ _ ?_)
 refine wp_ret ?_
 replace H := si H
 subst H
 refine out1 F rfl rfl ?_
 exact ⟨cf (fun x_ => if x_ < m then x_ else 0) c0, rfl, E.lv B0, cfb⟩
theorem haulagelaw14_put.calls {m : Nat} {c0 : Nat → Nat} {w0 : World} {a1 : ByteArray} {a2 : ByteArray} (hm0 : 0 < m) (B0 : CB m c0 w0) (r : api_Op) (H : haulagelaw14_put.f a1 a2 = some r) : Calls Try.prog 33 #[.string a1, .string a2] w0 (fun e w_ => ∃ (c_ : Nat → Nat) (A0_ : Option Addr) (C0_ : Nat) (A2_ : Option Addr) (C2_ : Nat), e = .returned (.agg #[.int .i64 r.Kind, .slice A0_ r.Key.length C0_, .slice A2_ r.Value.length C2_, .int .i64 r.Rev]) ∧ Ev (fun x => False) c0 w0 c_ w_ ∧ CB m c_ w_ ∧ SL false (Kint .u8) 0 0 c_ w_ A0_ C0_ r.Key ∧ SL false (Kint .u8) 0 0 c_ w_ A2_ C2_ r.Value) := by
 unfold haulagelaw14_put.f at H
 have B := B0.mono (show m ≤ m + 2 by omega)
 have E : Ev (fun x => False ∨ m ≤ x) c0 w0 c0 w0 := Ev.refl
 refine enter (N := 10) (l := [.string a1, .string a2]) Try.func33 rfl rfl (nb rfl) fun a F => ?_
 refine wp_seq_k fun K3 hK3 => reg ?_
 refine q_eff F rfl rfl (by decide) (e_alloc F zv_30 c0 (m + 1)) ?_
 rintro v w5 a ⟨c4, qa6, rfl, E7, h8, B9⟩ F
 replace B := B9 _ B lm
 replace E := E.trans E7 nx
 replace h8 : AT true (m + 1) c4 w5 qa6 [.int .i64 0, .slice none 0 0, .slice none 0 0, .int .i64 0] := h8
 refine nil (hK3 _ _ ?_)
 refine wp_seq_k fun K11 hK11 => reg ?_
 refine qm F fun a F => ?_
 replace H := ifN H
 obtain ⟨g12, H⟩ := H
 refine q_eff F rfl rfl (by decide) (e_strBytes F Try.underlying9 Try.underlying28 Try.underlying5 rfl (by unfold maxLen; omega) c4 0 0) ?_
 rintro v w14 a ⟨c13, A15, C16, rfl, E17, h18, B19⟩ F
 replace B := B19 _ B (pl hm0)
 replace h8 := h8.ev E17 nq
 replace E := E.trans E17 nx
 refine qm F fun a F => ?_
 replace H := ifN H
 obtain ⟨g20, H⟩ := H
 refine q_eff F rfl rfl (by decide) (e_strBytes F Try.underlying9 Try.underlying28 Try.underlying5 rfl (by unfold maxLen; omega) c13 0 0) ?_
 rintro v w22 a ⟨c21, A23, C24, rfl, E25, h26, B27⟩ F
 replace B := B27 _ B (pl hm0)
 replace h8 := h8.ev E25 nq
 replace h18 := h18.ev E25 nq nq
 replace E := E.trans E25 nx
 refine qv F (r_build (v := .agg #[.int .i64 2, .slice A15 (sb a1).length C16, .slice A23 (sb a2).length C24, .int .i64 0]) F [(0, .int .i64 2), (1, .slice A15 (sb a1).length C16), (2, .slice A23 (sb a2).length C24)] (by exact ⟨rfl, rfl, rfl, rfl, rfl, rfl, trivial⟩) (fun w => by kernel_rfl)) fun a F => ?_
 refine q_eff0 F rfl rfl (e_storeN0 (us := [.int .i64 2, .slice A15 (sb a1).length C16, .slice A23 (sb a2).length C24, .int .i64 0]) F rfl rfl sz_30 h8 (nb rfl) (one_all rfl)) ?_
 rintro w28 a ⟨E29, h8, Z30⟩ F
 replace B := B.size Z30
 replace h18 := h18.ev E29 ne_zm ne_zm
 replace h26 := h26.ev E29 ne_zm ne_zm
 replace E := E.trans E29 lc1
 replace h8 : AT true (m + 1) c21 w28 qa6 [.int .i64 2, .slice A15 (sb a1).length C16, .slice A23 (sb a2).length C24, .int .i64 0] := h8
 refine nil (hK11 _ _ ?_)
 refine wp_ret ?_
 replace H := si H
 subst H
 refine outR1 F rfl ⟨_, rfl, lv_agg (cs := [.int .i64 2, .slice A15 (sb a1).length C16, .slice A23 (sb a2).length C24, .int .i64 0]) ag_30 sz_30 h8⟩ ?_
 exact ⟨cf (fun x_ => if x_ < m then x_ else 0) c21, A15, C16, A23, C24, rfl, E.lv B0, cfb, SL.rc h18.r cfk cfk, SL.rc h26.r cfk cfk⟩
theorem haulagelaw14_same.calls (k : Nat) {m : Nat} {c0 : Nat → Nat} {w0 : World} {A2 : Option Addr} {C3 : Nat} {A6 : Option Addr} {C7 : Nat} {a1 : List Int} {a5 : List Int} (hm0 : 0 < m) (B0 : CB m c0 w0) (h4 : SL false (Kint .u8) 0 0 c0 w0 A2 C3 a1) (h8 : SL false (Kint .u8) 0 0 c0 w0 A6 C7 a5) (r : Bool) (H : haulagelaw14_same.f k a1 a5 = some r) : Calls Try.prog 23 #[.slice A2 a1.length C3, .slice A6 a5.length C7] w0 (fun e w_ => ∃ (c_ : Nat → Nat), e = .returned (.bool r) ∧ Ev (fun x => False) c0 w0 c_ w_ ∧ CB m c_ w_) := by
 unfold haulagelaw14_same.f at H
 have B := B0.mono (show m ≤ m + 1 by omega)
 have E : Ev (fun x => False ∨ m ≤ x) c0 w0 c0 w0 := Ev.refl
 refine enter (N := 26) (l := [.slice A2 a1.length C3, .slice A6 a5.length C7]) Try.func23 rfl rfl (nb rfl) fun a F => ?_
 refine wp_seq_k fun K9 hK9 => reg ?_
 refine qa F fun a F => ?_
 refine nil (hK9 _ _ ?_)
 refine wp_seq_k fun K10 hK10 => ?_
 refine wp_seq_k fun K11 hK11 => reg ?_
 refine qm F fun a F => ?_
 refine qv F (r_lensl F Try.underlying28 rfl) fun a F => ?_
 refine qm F fun a F => ?_
 refine qv F (r_lensl F Try.underlying28 rfl) fun a F => ?_
 refine qv F (r_neq F rfl rfl) fun a F => ?_
 refine nil (hK11 _ _ ?_)
 by_cases hb12 : (a1.length : Int) = (a5.length : Int)
 ·replace H := ip hb12 H
  refine wp_cond_false (fb F (congrArg not (dt hb12))) (wp_skip (hK10 _ _ ?_))
  refine wp_seq_k fun K14 hK14 => ?_
  refine wp_seq_k fun K15 hK15 => reg ?_
  refine qa F fun a F => ?_
  refine nil (hK15 _ _ ?_)
  refine wp_block ?_
  obtain ⟨x27, HL, HR26⟩ := bind_some H
  have J54 : ∀ (c55 : Nat → Nat) (w56 : World) (a : Act), Fr a 26 [] → Ev (fun x => False ∨ m ≤ x) c0 w0 c55 w56 → CB (m + 1) c55 w56 → haulagelaw14_same.j2 = some r → K14 a w56 := by
   intro c55 w56 a  F E B  H
   unfold haulagelaw14_same.j2 at H
   refine hK14 _ _ ?_
   refine wp_seq_k fun K57 hK57 => reg ?_
   refine qa F fun a F => ?_
   refine nil (hK57 _ _ ?_)
   refine wp_ret ?_
   replace H := si H
   subst H
   refine out1 F rfl rfl ?_
   exact ⟨cf (fun x_ => if x_ < m then x_ else 0) c55, rfl, E.lv B0, cfb⟩
  refine loop_fuel (I := fun n a w => ∃ (i17 : Int) (c : Nat → Nat), Fr a 26 [(0, .slice A2 a1.length C3), (1, .slice A6 a5.length C7), (5, .int .i64 i17)] ∧ Ev (fun x => False ∨ m ≤ x) c0 w0 c w ∧ CB (m + 1) c w ∧ SL false (Kint .u8) 0 0 c w A2 C3 a1 ∧ SL false (Kint .u8) 0 0 c w A6 C7 a5 ∧ loop (fun (s_ : Int) => haulagelaw14_same.b1 a1 a5 s_) n i17 = some x27) (k := k) ⟨0, c0, F.sub ⟨rfl, rfl, rfl, trivial⟩, E, B, h4, h8, HL⟩ ?_
  clear HL H E F B
  intro n24 X20 hX20 a w19 ⟨i17, c18, F, E, B, h4, h8, HL⟩
  obtain ⟨n25, ctl23, rfl, HB, HN21, HD22⟩ := loop_some HL
  have H : haulagelaw14_same.b1 a1 a5 i17 = some ctl23 := HB
  clear HB HL
  unfold haulagelaw14_same.b1 at H
  refine wp_seq_k fun K28 hK28 => ?_
  refine wp_seq_k fun K29 hK29 => reg ?_
  refine qm F fun a F => ?_
  refine qm F fun a F => ?_
  refine qv F (r_lensl F Try.underlying28 rfl) fun a F => ?_
  refine qv F (r_lss F rfl rfl) fun a F => ?_
  refine nil (hK29 _ _ ?_)
  by_cases hb30 : i17 < (a1.length : Int)
  ·replace H := ip hb30 H
   refine wp_cond_true (fb F (dt hb30)) (wp_skip (hK28 _ _ ?_))
   refine wp_seq_k fun K31 hK31 => ?_
   refine wp_block ?_
   refine wp_seq_k fun K32 hK32 => ?_
   refine regD (SB No c18 w19) 9 (.q 0 (.q 1 (.q 2 (.q 3 (.q 4 (.q 5 (.q 6 (.q 7 (.q 8 .nil))))))))) Try_hm (by decide +kernel) ?_
   intro w33 w1_ w2_ w3_ w4_
   have E34 : Ev No c18 w19 c18 w33 := Ev.same w1_ w2_ w3_ w4_
   replace B := B.same w1_
   have zh4 := h4
   have zh8 := h8
   have ER : Ev No c18 w19 c18 w33 := Ev.same w1_ w2_ w3_ w4_
   replace h4 := h4.ev E34 nq nq
   replace h8 := h8.ev E34 nq nq
   replace E := E.trans E34 nx
   refine dm F ER.sb fun a F => ?_
   refine dm F ER.sb fun a F => ?_
   replace H := ifN H
   obtain ⟨g35, H⟩ := H
   obtain ⟨ad36, cs37, e38, h39, r40⟩ := SL.at zh4 i17 g35.1 g35.2
   obtain rfl : cs37 = [.int .u8 (rd a1 i17)] := r40
   obtain ⟨qa41, qqa41⟩ : ∃ q, q = (ad36.add (i17.toNat * 1)) := ⟨_, rfl⟩
   have h39 : AT false 0 c18 w19 qa41 [.int .u8 (rd a1 i17)] := by rw [qqa41]; exact h39
   have zh39 := h39
   refine dq F (fun wq hS => r_indexAddr' F Try.underlying28 sz_5 rfl rfl g35.1 g35.2 e38 qqa41) ER.sb fun a F => ?_
   refine dq F (fun wq hS => r_load F rfl ag_5 (AT.cell0 (AT.sb zh39 hS nq) rfl)) ER.sb fun a F => ?_
   refine dm F ER.sb fun a F => ?_
   refine dm F ER.sb fun a F => ?_
   replace H := ifN H
   obtain ⟨g43, H⟩ := H
   obtain ⟨ad44, cs45, e46, h47, r48⟩ := SL.at zh8 i17 g43.1 g43.2
   obtain rfl : cs45 = [.int .u8 (rd a5 i17)] := r48
   obtain ⟨qa49, qqa49⟩ : ∃ q, q = (ad44.add (i17.toNat * 1)) := ⟨_, rfl⟩
   have h47 : AT false 0 c18 w19 qa49 [.int .u8 (rd a5 i17)] := by rw [qqa49]; exact h47
   have zh47 := h47
   refine dq F (fun wq hS => r_indexAddr' F Try.underlying28 sz_5 rfl rfl g43.1 g43.2 e46 qqa49) ER.sb fun a F => ?_
   refine dq F (fun wq hS => r_load F rfl ag_5 (AT.cell0 (AT.sb zh47 hS nq) rfl)) ER.sb fun a F => ?_
   refine dq F (fun wq hS => r_neq F rfl rfl) ER.sb fun a F => ?_
   refine d_nil ?_
   refine hK32 _ _ ?_
   replace F : Fr a 26 [(0, .slice A2 a1.length C3), (1, .slice A6 a5.length C7), (5, .int .i64 i17), (25, .bool (!decide ((rd a1 i17) = (rd a5 i17))))] := F.sub ⟨rfl, rfl, rfl, rfl, trivial⟩
   by_cases hb51 : (rd a1 i17) = (rd a5 i17)
   ·replace H := ip hb51 H
    refine wp_cond_false (fb F (congrArg not (dt hb51))) (wp_skip (hK31 _ _ ?_))
    refine reg ?_
    refine qm F fun a F => ?_
    refine qv F (r_add F rfl rfl) fun a F => ?_
    refine qa F fun a F => ?_
    refine nil ?_
    replace H := HN21 _ (si H).symm
    exact hX20 _ _ _ (Nat.lt_succ_self _) ⟨(IntKind.i64.wrap (i17 + 1)), c18, F.sub ⟨rfl, rfl, rfl, trivial⟩, E, B, h4, h8, H⟩
   replace H := im hb51 H
   refine wp_cond_true (fb F (congrArg not (dz hb51))) ?_
   refine wp_seq_k fun K52 hK52 => reg ?_
   refine qa F fun a F => ?_
   refine nil (hK52 _ _ ?_)
   refine wp_ret ?_
   refine inbR ?_
   refine thenR ?_
   refine thenR ?_
   refine inbR ?_
   refine thenR ?_
   have hx_ := HD22 _ (si H).symm
   have H := HR26
   rw [← hx_] at H
   replace H : some false = some r := H
   replace H := si H
   subst H
   refine out1 F rfl rfl ?_
   exact ⟨cf (fun x_ => if x_ < m then x_ else 0) c18, rfl, E.lv B0, cfb⟩
  replace H := im hb30 H
  refine wp_cond_false (fb F (dz hb30)) ?_
  refine wp_exit ?_
  refine thenE ?_
  refine thenE ?_
  refine inbE ?_
  have hx_ := HD22 _ (si H).symm
  have H := HR26
  rw [← hx_] at H
  exact J54 c18 w19 a  (F.sub trivial) E B  H
 replace H := im hb12 H
 refine wp_cond_true (fb F (congrArg not (dz hb12))) ?_
 refine wp_seq_k fun K13 hK13 => reg ?_
 refine qa F fun a F => ?_
 refine nil (hK13 _ _ ?_)
 refine wp_ret ?_
 refine thenR ?_
 replace H := si H
 subst H
 refine out1 F rfl rfl ?_
 exact ⟨cf (fun x_ => if x_ < m then x_ else 0) c0, rfl, E.lv B0, cfb⟩
theorem haulagelaw14_sameAnswer.calls (k : Nat) {m : Nat} {c0 : Nat → Nat} {w0 : World} {A2 : Option Addr} {C3 : Nat} {A5 : Option Addr} {C6 : Nat} {A9 : Option Addr} {C10 : Nat} {A12 : Option Addr} {C13 : Nat} {a1 : api_Answer} {a8 : api_Answer} (hm0 : 0 < m) (B0 : CB m c0 w0) (h4 : SL false (Kint .u8) 0 0 c0 w0 A2 C3 a1.Key) (h7 : SL false (Kint .u8) 0 0 c0 w0 A5 C6 a1.Value) (h11 : SL false (Kint .u8) 0 0 c0 w0 A9 C10 a8.Key) (h14 : SL false (Kint .u8) 0 0 c0 w0 A12 C13 a8.Value) (r : Bool) (H : haulagelaw14_sameAnswer.f k a1 a8 = some r) : Calls Try.prog 13 #[.agg #[.bool a1.Done, .slice A2 a1.Key.length C3, .slice A5 a1.Value.length C6, .int .i64 a1.Rev, .int .i64 a1.At], .agg #[.bool a8.Done, .slice A9 a8.Key.length C10, .slice A12 a8.Value.length C13, .int .i64 a8.Rev, .int .i64 a8.At]] w0 (fun e w_ => ∃ (c_ : Nat → Nat), e = .returned (.bool r) ∧ Ev (fun x => False) c0 w0 c_ w_ ∧ CB m c_ w_) := by
 unfold haulagelaw14_sameAnswer.f at H
 have B := B0.mono (show m ≤ m + 3 by omega)
 have E : Ev (fun x => False ∨ m ≤ x) c0 w0 c0 w0 := Ev.refl
 refine enter (N := 38) (l := [.agg #[.bool a1.Done, .slice A2 a1.Key.length C3, .slice A5 a1.Value.length C6, .int .i64 a1.Rev, .int .i64 a1.At], .agg #[.bool a8.Done, .slice A9 a8.Key.length C10, .slice A12 a8.Value.length C13, .int .i64 a8.Rev, .int .i64 a8.At]]) Try.func13 rfl rfl (nb rfl) fun a F => ?_
 refine wp_seq_k fun K15 hK15 => reg ?_
 refine q_eff F rfl rfl (by decide) (e_box F (v := .agg #[.bool a1.Done, .slice A2 a1.Key.length C3, .slice A5 a1.Value.length C6, .int .i64 a1.Rev, .int .i64 a1.At]) rfl c0 (m + 1)) ?_
 rintro v w17 a ⟨c16, qa18, rfl, E19, h20, B21⟩ F
 replace B := B21 _ B lm
 replace h4 := h4.ev E19 nq nq
 replace h7 := h7.ev E19 nq nq
 replace h11 := h11.ev E19 nq nq
 replace h14 := h14.ev E19 nq nq
 replace E := E.trans E19 nx
 replace h20 : AT true (m + 1) c16 w17 qa18 [.bool a1.Done, .slice A2 a1.Key.length C3, .slice A5 a1.Value.length C6, .int .i64 a1.Rev, .int .i64 a1.At] := h20
 refine q_eff F rfl rfl (by decide) (e_box F (v := .agg #[.bool a8.Done, .slice A9 a8.Key.length C10, .slice A12 a8.Value.length C13, .int .i64 a8.Rev, .int .i64 a8.At]) rfl c16 (m + 2)) ?_
 rintro v w24 a ⟨c23, qa25, rfl, E26, h27, B28⟩ F
 replace B := B28 _ B lm
 replace h4 := h4.ev E26 nq nq
 replace h7 := h7.ev E26 nq nq
 replace h11 := h11.ev E26 nq nq
 replace h14 := h14.ev E26 nq nq
 replace h20 := h20.ev E26 nq
 replace E := E.trans E26 nx
 replace h27 : AT true (m + 2) c23 w24 qa25 [.bool a8.Done, .slice A9 a8.Key.length C10, .slice A12 a8.Value.length C13, .int .i64 a8.Rev, .int .i64 a8.At] := h27
 refine qa F fun a F => ?_
 refine nil (hK15 _ _ ?_)
 refine wp_seq_k fun K30 hK30 => reg ?_
 refine qf F ff_34_0 fun a F => ?_
 refine qv F (r_load F rfl ag_4 (AT.cell h20 rfl)) fun a F => ?_
 refine qf F ff_34_0 fun a F => ?_
 refine qv F (r_load F rfl ag_4 (AT.cell h27 rfl)) fun a F => ?_
 refine qv F (r_beql F Try.underlying4 rfl rfl) fun a F => ?_
 refine qm F fun a F => ?_
 by_cases hb31 : (a1.Done == a8.Done) = true
 ·replace H := ip hb31 H
  refine qy F hb31 ?_
  refine qf F ff_34_1 fun a F => ?_
  refine qy F hb31 ?_
  refine qv F (r_load F rfl ag_28 (AT.cell h20 rfl)) fun a F => ?_
  refine qy F hb31 ?_
  refine qf F ff_34_1 fun a F => ?_
  refine qy F hb31 ?_
  refine qv F (r_load F rfl ag_28 (AT.cell h27 rfl)) fun a F => ?_
  obtain ⟨t32, q33, H⟩ := bind_some H
  refine qy F hb31 ?_
  refine qc F Try.func23 (haulagelaw14_same.calls k (m := m + 3) (pl hm0) B h4 h11 _ q33) ?_
  rintro e w35 ⟨c34, rfl, E36, B37⟩
  refine ⟨_, rfl, fun a F => ?_⟩
  have B := B37
  replace h7 := h7.ev E36 nq nq
  replace h14 := h14.ev E36 nq nq
  replace h20 := h20.ev E36 nq
  replace h27 := h27.ev E36 nq
  replace E := E.trans E36 nx
  refine qv F (r_pick_t F rfl hb31 rfl) fun a F => ?_
  refine qm F fun a F => ?_
  by_cases hb39 : t32 = true
  ·replace H := ip hb39 H
   refine qy F hb39 ?_
   refine qf F ff_34_2 fun a F => ?_
   refine qy F hb39 ?_
   refine qv F (r_load F rfl ag_28 (AT.cell h20 rfl)) fun a F => ?_
   refine qy F hb39 ?_
   refine qf F ff_34_2 fun a F => ?_
   refine qy F hb39 ?_
   refine qv F (r_load F rfl ag_28 (AT.cell h27 rfl)) fun a F => ?_
   obtain ⟨t40, q41, H⟩ := bind_some H
   refine qy F hb39 ?_
   refine qc F Try.func23 (haulagelaw14_same.calls k (m := m + 3) (pl hm0) B h7 h14 _ q41) ?_
   rintro e w43 ⟨c42, rfl, E44, B45⟩
   refine ⟨_, rfl, fun a F => ?_⟩
   have B := B45
   replace h20 := h20.ev E44 nq
   replace h27 := h27.ev E44 nq
   replace E := E.trans E44 nx
   refine qv F (r_pick_t F rfl hb39 rfl) fun a F => ?_
   refine qm F fun a F => ?_
   by_cases hb47 : t40 = true
   ·replace H := ip hb47 H
    refine qy F hb47 ?_
    refine qf F ff_34_3 fun a F => ?_
    refine qy F hb47 ?_
    refine qv F (r_load F rfl ag_3 (AT.cell h20 rfl)) fun a F => ?_
    refine qy F hb47 ?_
    refine qf F ff_34_3 fun a F => ?_
    refine qy F hb47 ?_
    refine qv F (r_load F rfl ag_3 (AT.cell h27 rfl)) fun a F => ?_
    refine qy F hb47 ?_
    refine qv F (r_eql F rfl rfl) fun a F => ?_
    refine qv F (r_pick_t F rfl hb47 rfl) fun a F => ?_
    refine qm F fun a F => ?_
    by_cases hb48 : a1.Rev = a8.Rev
    ·replace H := ip hb48 H
     refine qy F (dt hb48) ?_
     refine qf F ff_34_4 fun a F => ?_
     refine qy F (dt hb48) ?_
     refine qv F (r_load F rfl ag_3 (AT.cell h20 rfl)) fun a F => ?_
     refine qy F (dt hb48) ?_
     refine qf F ff_34_4 fun a F => ?_
     refine qy F (dt hb48) ?_
     refine qv F (r_load F rfl ag_3 (AT.cell h27 rfl)) fun a F => ?_
     refine qy F (dt hb48) ?_
     refine qv F (r_eql F rfl rfl) fun a F => ?_
     refine qv F (r_pick_t F rfl (dt hb48) rfl) fun a F => ?_
     refine qa F fun a F => ?_
     refine nil (hK30 _ _ ?_)
     replace F : Fr a 38 [(4, .bool (decide (a1.At = a8.At)))] := F.sub ⟨rfl, trivial⟩
     refine wp_ret ?_
     replace H := si H
     subst H
     refine out1 F rfl rfl ?_
     exact ⟨cf (fun x_ => if x_ < m then x_ else 0) c42, rfl, E.lv B0, cfb⟩
    replace H := im hb48 H
    refine qn F (dz hb48) fun a F => ?_
    refine qn F (dz hb48) fun a F => ?_
    refine qn F (dz hb48) fun a F => ?_
    refine qn F (dz hb48) fun a F => ?_
    refine qn F (dz hb48) fun a F => ?_
    refine qv F (r_pick_f F rfl (dz hb48) rfl) fun a F => ?_
    refine qa F fun a F => ?_
    refine nil (hK30 _ _ ?_)
    replace F : Fr a 38 [(4, .bool false)] := F.sub ⟨rfl, trivial⟩
    refine wp_ret ?_
    replace H := si H
    subst H
    refine out1 F rfl rfl ?_
    exact ⟨cf (fun x_ => if x_ < m then x_ else 0) c42, rfl, E.lv B0, cfb⟩
   replace H := im hb47 H
   refine qn F (bfalse hb47) fun a F => ?_
   refine qn F (bfalse hb47) fun a F => ?_
   refine qn F (bfalse hb47) fun a F => ?_
   refine qn F (bfalse hb47) fun a F => ?_
   refine qn F (bfalse hb47) fun a F => ?_
   refine qv F (r_pick_f F rfl (bfalse hb47) rfl) fun a F => ?_
   refine qm F fun a F => ?_
   refine qn F rfl fun a F => ?_
   refine qn F rfl fun a F => ?_
   refine qn F rfl fun a F => ?_
   refine qn F rfl fun a F => ?_
   refine qn F rfl fun a F => ?_
   refine qv F (r_pick_f F rfl rfl rfl) fun a F => ?_
   refine qa F fun a F => ?_
   refine nil (hK30 _ _ ?_)
   replace F : Fr a 38 [(4, .bool false)] := F.sub ⟨rfl, trivial⟩
   refine wp_ret ?_
   replace H := si H
   subst H
   refine out1 F rfl rfl ?_
   exact ⟨cf (fun x_ => if x_ < m then x_ else 0) c42, rfl, E.lv B0, cfb⟩
  replace H := im hb39 H
  refine qn F (bfalse hb39) fun a F => ?_
  refine qn F (bfalse hb39) fun a F => ?_
  refine qn F (bfalse hb39) fun a F => ?_
  refine qn F (bfalse hb39) fun a F => ?_
  refine qn F (bfalse hb39) fun a F => ?_
  refine qv F (r_pick_f F rfl (bfalse hb39) rfl) fun a F => ?_
  refine qm F fun a F => ?_
  refine qn F rfl fun a F => ?_
  refine qn F rfl fun a F => ?_
  refine qn F rfl fun a F => ?_
  refine qn F rfl fun a F => ?_
  refine qn F rfl fun a F => ?_
  refine qv F (r_pick_f F rfl rfl rfl) fun a F => ?_
  refine qm F fun a F => ?_
  refine qn F rfl fun a F => ?_
  refine qn F rfl fun a F => ?_
  refine qn F rfl fun a F => ?_
  refine qn F rfl fun a F => ?_
  refine qn F rfl fun a F => ?_
  refine qv F (r_pick_f F rfl rfl rfl) fun a F => ?_
  refine qa F fun a F => ?_
  refine nil (hK30 _ _ ?_)
  replace F : Fr a 38 [(4, .bool false)] := F.sub ⟨rfl, trivial⟩
  refine wp_ret ?_
  replace H := si H
  subst H
  refine out1 F rfl rfl ?_
  exact ⟨cf (fun x_ => if x_ < m then x_ else 0) c34, rfl, E.lv B0, cfb⟩
 replace H := im hb31 H
 refine qn F (bfalse hb31) fun a F => ?_
 refine qn F (bfalse hb31) fun a F => ?_
 refine qn F (bfalse hb31) fun a F => ?_
 refine qn F (bfalse hb31) fun a F => ?_
 refine qn F (bfalse hb31) fun a F => ?_
 refine qv F (r_pick_f F rfl (bfalse hb31) rfl) fun a F => ?_
 refine qm F fun a F => ?_
 refine qn F rfl fun a F => ?_
 refine qn F rfl fun a F => ?_
 refine qn F rfl fun a F => ?_
 refine qn F rfl fun a F => ?_
 refine qn F rfl fun a F => ?_
 refine qv F (r_pick_f F rfl rfl rfl) fun a F => ?_
 refine qm F fun a F => ?_
 refine qn F rfl fun a F => ?_
 refine qn F rfl fun a F => ?_
 refine qn F rfl fun a F => ?_
 refine qn F rfl fun a F => ?_
 refine qn F rfl fun a F => ?_
 refine qv F (r_pick_f F rfl rfl rfl) fun a F => ?_
 refine qm F fun a F => ?_
 refine qn F rfl fun a F => ?_
 refine qn F rfl fun a F => ?_
 refine qn F rfl fun a F => ?_
 refine qn F rfl fun a F => ?_
 refine qn F rfl fun a F => ?_
 refine qv F (r_pick_f F rfl rfl rfl) fun a F => ?_
 refine qa F fun a F => ?_
 refine nil (hK30 _ _ ?_)
 replace F : Fr a 38 [(4, .bool false)] := F.sub ⟨rfl, trivial⟩
 refine wp_ret ?_
 replace H := si H
 subst H
 refine out1 F rfl rfl ?_
 exact ⟨cf (fun x_ => if x_ < m then x_ else 0) c23, rfl, E.lv B0, cfb⟩
theorem tree_New.calls {m : Nat} {c0 : Nat → Nat} {w0 : World} (hm0 : 0 < m) (B0 : CB m c0 w0) (r : Tr) (H : tree_New.f = some r) : Calls Try.prog 35 #[] w0 (fun e w_ => ∃ (c_ : Nat → Nat) (P0_ : Option Addr), e = .returned (.pointer P0_) ∧ Ev (fun x => False) c0 w0 c_ w_ ∧ CB m c_ w_ ∧ TR 0 c_ w_ P0_ r) := by
 unfold tree_New.f at H
 have B := B0.mono (show m ≤ m + 1 by omega)
 have E : Ev (fun x => False ∨ m ≤ x) c0 w0 c0 w0 := Ev.refl
 refine enter (N := 1) (l := []) Try.func35 rfl rfl (nb rfl) fun a F => ?_
 refine wp_seq_k fun K1 hK1 => reg ?_
 refine qa F fun a F => ?_
 refine nil (hK1 _ _ ?_)
 refine wp_seq_k fun K2 hK2 => reg ?_
 refine qa F fun a F => ?_
 refine nil (hK2 _ _ ?_)
 refine wp_ret ?_
 replace H := si H
 subst H
 refine out1 F rfl rfl ?_
 exact ⟨cf (fun x_ => if x_ < m then x_ else 0) c0, none, rfl, E.lv B0, cfb, TR.nil⟩
theorem table_New.calls {m : Nat} {c0 : Nat → Nat} {w0 : World} (hm0 : 0 < m) (B0 : CB m c0 w0) (jr20 : Nat) (bjr20 : jr20 < m) (r : (Option Tab)) (H : table_New.f = some r) : Calls Try.prog 8 #[] w0 (fun e w_ => ∃ (c_ : Nat → Nat) (P0_ : Option Addr), e = .returned (.pointer P0_) ∧ Ev (fun x => False) c0 w0 c_ w_ ∧ CB m c_ w_ ∧ TB jr20 c_ w_ P0_ r) := by
 unfold table_New.f at H
 have B := B0.mono (show m ≤ m + 2 by omega)
 have E : Ev (fun x => False ∨ m ≤ x) c0 w0 c0 w0 := Ev.refl
 refine enter (N := 4) (l := []) Try.func8 rfl rfl (nb rfl) fun a F => ?_
 refine wp_seq_k fun K1 hK1 => reg ?_
 refine qa F fun a F => ?_
 refine nil (hK1 _ _ ?_)
 refine wp_seq_k fun K2 hK2 => reg ?_
 obtain ⟨t3, q4, H⟩ := bind_some H
 refine qc F Try.func35 (tree_New.calls (m := m + 2) (pl hm0) B _ q4) ?_
 rintro e w6 ⟨c5, p9, rfl, E7, B8, h10⟩
 refine ⟨_, rfl, fun a F => ?_⟩
 have B := B8
 replace E := E.trans E7 nx
 refine qv F (r_build (v := .agg #[.pointer p9, .int .i64 0, .int .i64 0]) F [(0, .pointer p9)] (by exact ⟨rfl, rfl, trivial⟩) (fun w => by kernel_rfl)) fun a F => ?_
 refine q_eff F rfl rfl (by decide) (e_box F (v := .agg #[.pointer p9, .int .i64 0, .int .i64 0]) rfl c5 (m + 1)) ?_
 rintro v w13 a ⟨c12, qa14, rfl, E15, h16, B17⟩ F
 replace B := B17 _ B lm
 replace h10 := h10.ev E15 nq nq
 replace E := E.trans E15 nx
 replace h16 : AT true (m + 1) c12 w13 qa14 [.pointer p9, .int .i64 0, .int .i64 0] := h16
 refine qa F fun a F => ?_
 refine nil (hK2 _ _ ?_)
 refine wp_ret ?_
 have h19 : TB (m + 1) c12 w13 (some qa14) (some (Tab.mk t3 0 0)) := TB.mk h16 h10
 replace H := si H
 subst H
 refine out1 F rfl rfl ?_
 exact ⟨cf (fun x_ => if x_ = m + 1 then jr20 else if x_ < m then x_ else 0) c12, (some qa14), rfl, E.lv B0, cfb, TB.rc h19 cfk cfk⟩
theorem shard_New.calls {m : Nat} {c0 : Nat → Nat} {w0 : World} (hm0 : 0 < m) (B0 : CB m c0 w0) (jr21 : Nat) (bjr21 : jr21 < m) (jr22 : Nat) (bjr22 : jr22 < m) (r : (Option Sha)) (H : shard_New.f = some r) : Calls Try.prog 7 #[] w0 (fun e w_ => ∃ (c_ : Nat → Nat) (P0_ : Option Addr), e = .returned (.pointer P0_) ∧ Ev (fun x => False) c0 w0 c_ w_ ∧ CB m c_ w_ ∧ SH jr21 jr22 c_ w_ P0_ r) := by
 unfold shard_New.f at H
 have B := B0.mono (show m ≤ m + 3 by omega)
 have E : Ev (fun x => False ∨ m ≤ x) c0 w0 c0 w0 := Ev.refl
 refine enter (N := 4) (l := []) Try.func7 rfl rfl (nb rfl) fun a F => ?_
 refine wp_seq_k fun K1 hK1 => reg ?_
 refine qa F fun a F => ?_
 refine nil (hK1 _ _ ?_)
 refine wp_seq_k fun K2 hK2 => reg ?_
 obtain ⟨t3, q4, H⟩ := bind_some H
 refine qc F Try.func8 (table_New.calls (m := m + 3) (pl hm0) B (m + 1) lm _ q4) ?_
 rintro e w6 ⟨c5, p9, rfl, E7, B8, h10⟩
 refine ⟨_, rfl, fun a F => ?_⟩
 have B := B8
 replace E := E.trans E7 nx
 have h12 : AR K_api_Seat 0 c5 w6 ((List.replicate 16 ([.int .i64 0, .int .i64 0, .bool false, .slice none 0 0, .slice none 0 0, .int .i64 0, .int .i64 0] : List Value)).flatten) 16 (List.replicate 16 (api_Seat.mk 0 0 (api_Answer.mk false [] [] 0 0) : api_Seat)) := AR.zero (by exact ⟨none, 0, none, 0, rfl, SL.nil, SL.nil⟩) 16
 refine qv F (r_build (v := .agg (([.pointer p9] : List Value) ++ (((List.replicate 16 ([.int .i64 0, .int .i64 0, .bool false, .slice none 0 0, .slice none 0 0, .int .i64 0, .int .i64 0] : List Value)).flatten) ++ (([] : List Value)))).toArray) F [(0, .pointer p9)] (by exact ⟨rfl, rfl, trivial⟩) (fun w => by kernel_rfl)) fun a F => ?_
 refine q_eff F rfl rfl (by decide) (e_box F (v := .agg (([.pointer p9] : List Value) ++ (((List.replicate 16 ([.int .i64 0, .int .i64 0, .bool false, .slice none 0 0, .slice none 0 0, .int .i64 0, .int .i64 0] : List Value)).flatten) ++ (([] : List Value)))).toArray) rfl c5 (m + 2)) ?_
 rintro v w14 a ⟨c13, qa15, rfl, E16, h17, B18⟩ F
 replace B := B18 _ B lm
 replace h10 := h10.ev E16 nq nq
 replace h12 := h12.ev E16 nq
 replace E := E.trans E16 nx
 replace h17 : AT true (m + 2) c13 w14 qa15 (([.pointer p9] : List Value) ++ (((List.replicate 16 ([.int .i64 0, .int .i64 0, .bool false, .slice none 0 0, .slice none 0 0, .int .i64 0, .int .i64 0] : List Value)).flatten) ++ (([] : List Value)))) := h17
 refine qa F fun a F => ?_
 refine nil (hK2 _ _ ?_)
 refine wp_ret ?_
 have h20 : SH (m + 2) (m + 1) c13 w14 (some qa15) (some (Sha.mk t3 (List.replicate 16 (api_Seat.mk 0 0 (api_Answer.mk false [] [] 0 0) : api_Seat)))) := SH.mk h17 h10 h12
 replace H := si H
 subst H
 refine out1 F rfl rfl ?_
 exact ⟨cf (fun x_ => if x_ = m + 2 then jr21 else if x_ = m + 1 then jr22 else if x_ < m then x_ else 0) c13, (some qa15), rfl, E.lv B0, cfb, SH.rc h20 cfk cfk cfk⟩
theorem table_Table_Copy.calls {m : Nat} {c0 : Nat → Nat} {w0 : World} {j4 : Nat} {p2 : Option Addr} {a1 : Option Tab} (hm0 : 0 < m) (B0 : CB m c0 w0) (h3 : TB j4 c0 w0 p2 a1) (bj4 : j4 < m) (jr31 : Nat) (bjr31 : jr31 < m) (r : (Option Tab)) (H : table_Table_Copy.f a1 = some r) : Calls Try.prog 56 #[.pointer p2] w0 (fun e w_ => ∃ (c_ : Nat → Nat) (P0_ : Option Addr), e = .returned (.pointer P0_) ∧ Ev (fun x => False) c0 w0 c_ w_ ∧ CB m c_ w_ ∧ TB jr31 c_ w_ P0_ r) := by
 unfold table_Table_Copy.f at H
 have B := B0.mono (show m ≤ m + 2 by omega)
 have E : Ev (fun x => False ∨ m ≤ x) c0 w0 c0 w0 := Ev.refl
 refine enter (N := 9) (l := [.pointer p2]) Try.func56 rfl rfl (nb rfl) fun a F => ?_
 refine wp_seq_k fun K5 hK5 => reg ?_
 refine qa F fun a F => ?_
 refine nil (hK5 _ _ ?_)
 refine wp_seq_k fun K6 hK6 => ?_
 refine wp_seq_k fun K7 hK7 => reg ?_
 refine qm F fun a F => ?_
 refine qv F (r_peqlA F Try.underlying26 rfl rfl (TB.isNone h3)) fun a F => ?_
 refine nil (hK7 _ _ ?_)
 by_cases hb8 : (Option.isNone a1) = true
 ·replace H := ip hb8 H
  refine wp_cond_true (fb F hb8) ?_
  refine wp_seq_k fun K9 hK9 => reg ?_
  refine qa F fun a F => ?_
  refine nil (hK9 _ _ ?_)
  refine wp_ret ?_
  refine thenR ?_
  replace H := si H
  subst H
  refine out1 F rfl rfl ?_
  exact ⟨cf (fun x_ => if x_ = m + 1 then jr31 else if x_ < m then x_ else 0) c0, none, rfl, E.lv B0, cfb, TB.nil⟩
 replace H := im hb8 H
 refine wp_cond_false (fb F (bfalse hb8)) (wp_skip (hK6 _ _ ?_))
 refine wp_seq_k fun K10 hK10 => reg ?_
 refine qm F fun a F => ?_
 obtain ⟨ob11, e12, H⟩ := bind_some H
 have z13 := h3
 rw [e12] at z13
 obtain ⟨ad14, p16, rfl, hat15, h17⟩ := TB.some z13
 refine qv F (r_nil F rfl) fun a F => ?_
 refine qv F (r_loads (cs := [.pointer p16, .int .i64 ob11.rev, .int .i64 ob11.size]) F rfl ag_82 sz_82 hat15) fun a F => ?_
 refine q_eff F rfl rfl (by decide) (e_alloc F zv_82 c0 (m + 1)) ?_
 rintro v w20 a ⟨c19, qa21, rfl, E22, h23, B24⟩ F
 replace B := B24 _ B lm
 replace h17 := h17.ev E22 nq nq
 replace E := E.trans E22 nx
 replace h23 : AT true (m + 1) c19 w20 qa21 [.pointer none, .int .i64 0, .int .i64 0] := h23
 refine q_eff0 F rfl rfl (e_storeN0 (us := [.pointer p16, .int .i64 ob11.rev, .int .i64 ob11.size]) F rfl rfl sz_82 h23 (nb rfl) (one_all rfl)) ?_
 rintro w26 a ⟨E27, h23, Z28⟩ F
 replace B := B.size Z28
 replace h17 := h17.ev E27 ne_zm ne_zm
 replace E := E.trans E27 lc1
 replace h23 : AT true (m + 1) c19 w26 qa21 [.pointer p16, .int .i64 ob11.rev, .int .i64 ob11.size] := h23
 refine nil (hK10 _ _ ?_)
 refine wp_seq_k fun K29 hK29 => reg ?_
 refine qa F fun a F => ?_
 refine nil (hK29 _ _ ?_)
 refine wp_ret ?_
 have h30 : TB (m + 1) c19 w26 (some qa21) (some (Tab.mk ob11.rows ob11.rev ob11.size)) := TB.mk h23 h17
 replace H := si H
 subst H
 refine out1 F rfl rfl ?_
 exact ⟨cf (fun x_ => if x_ = m + 1 then jr31 else if x_ < m then x_ else 0) c19, (some qa21), rfl, E.lv B0, cfb, TB.rc h30 cfk cfk⟩
theorem shard_Shard_Copy.calls {m : Nat} {c0 : Nat → Nat} {w0 : World} {j4 : Nat} {j5 : Nat} {p2 : Option Addr} {a1 : Option Sha} (hm0 : 0 < m) (B0 : CB m c0 w0) (h3 : SH j4 j5 c0 w0 p2 a1) (bj4 : j4 < m) (bj5 : j5 < m ∧ j5 ≠ j4) (jr42 : Nat) (bjr42 : jr42 < m) (jr43 : Nat) (bjr43 : jr43 < m) (r : (Option Sha)) (H : shard_Shard_Copy.f a1 = some r) : Calls Try.prog 30 #[.pointer p2] w0 (fun e w_ => ∃ (c_ : Nat → Nat) (P0_ : Option Addr), e = .returned (.pointer P0_) ∧ Ev (fun x => False) c0 w0 c_ w_ ∧ CB m c_ w_ ∧ SH jr42 jr43 c_ w_ P0_ r) := by
 unfold shard_Shard_Copy.f at H
 have B := B0.mono (show m ≤ m + 3 by omega)
 have E : Ev (fun x => False ∨ m ≤ x) c0 w0 c0 w0 := Ev.refl
 refine enter (N := 16) (l := [.pointer p2]) Try.func30 rfl rfl (nb rfl) fun a F => ?_
 refine wp_seq_k fun K6 hK6 => reg ?_
 refine qa F fun a F => ?_
 refine nil (hK6 _ _ ?_)
 refine wp_seq_k fun K7 hK7 => ?_
 refine wp_seq_k fun K8 hK8 => reg ?_
 refine qm F fun a F => ?_
 refine qv F (r_peqlA F Try.underlying24 rfl rfl (SH.isNone h3)) fun a F => ?_
 refine nil (hK8 _ _ ?_)
 by_cases hb9 : (Option.isNone a1) = true
 ·replace H := ip hb9 H
  refine wp_cond_true (fb F hb9) ?_
  refine wp_seq_k fun K10 hK10 => reg ?_
  refine qa F fun a F => ?_
  refine nil (hK10 _ _ ?_)
  refine wp_ret ?_
  refine thenR ?_
  replace H := si H
  subst H
  refine out1 F rfl rfl ?_
  exact ⟨cf (fun x_ => if x_ = m + 2 then jr42 else if x_ = m + 1 then jr43 else if x_ < m then x_ else 0) c0, none, rfl, E.lv B0, cfb, SH.nil⟩
 replace H := im hb9 H
 refine wp_cond_false (fb F (bfalse hb9)) (wp_skip (hK7 _ _ ?_))
 refine wp_seq_k fun K11 hK11 => ?_
 obtain ⟨ob12, e13, H⟩ := bind_some H
 have z14 := h3
 rw [e13] at z14
 obtain ⟨ad15, p17, cs19, rfl, hat16, h18, h20⟩ := SH.some z14
 refine regD (SB No c0 w0) 12 (.q 0 (.q 1 (.q 2 (.q 3 (.q 5 (.q 6 (.q 7 (.q 8 (.e 4 (.q 9 (.e 10 (.q 11 .nil)))))))))))) Try_hm (by decide +kernel) ?_
 intro w22 w1_ w2_ w3_ w4_
 have E23 : Ev No c0 w0 c0 w22 := Ev.same w1_ w2_ w3_ w4_
 replace B := B.same w1_
 have zhat16 := hat16
 have ER : Ev No c0 w0 c0 w22 := Ev.same w1_ w2_ w3_ w4_
 replace h18 := h18.ev E23 nq nq
 replace h20 := h20.ev E23 nq
 replace E := E.trans E23 nx
 refine dm F ER.sb fun a F => ?_
 refine dq F (fun wq hS => r_nil F rfl) ER.sb fun a F => ?_
 refine df F ff_76_0 ER.sb fun a F => ?_
 refine dq F (fun wq hS => r_load F rfl ag_26 (AT.cell (AT.ev zhat16 hS nq) rfl)) ER.sb fun a F => ?_
 refine dm F ER.sb fun a F => ?_
 refine dq F (fun wq hS => r_nil F rfl) ER.sb fun a F => ?_
 refine df F ff_76_1 ER.sb fun a F => ?_
 refine dq F (fun wq hS => r_loadsS (cs := cs19) F rfl ag_74 sz_74 (h20.1 : cs19.length = 112) (AT.seg (AT.ev zhat16 hS nq) rfl (h20.1 : cs19.length = 112))) ER.sb fun a F => ?_
 refine d_e ?_
 obtain ⟨t24, q25, H⟩ := bind_some H
 refine oc F Try.func56 (table_Table_Copy.calls (m := m + 3) (pl hm0) B h18 (Nat.lt_add_right _ bj5.1) (m + 1) lm _ q25) ?_
 rintro e w27 ⟨c26, p30, rfl, E28, B29, h31⟩
 refine ⟨_, rfl, fun a F => ?_⟩
 have B := B29
 replace ER := ER.trans E28 nx
 replace h20 := h20.ev E28 nq
 replace E := E.trans E28 nx
 refine ⟨fun _ => ER.sb, ?_⟩
 refine d_q F rfl rfl rfl (by decide) (fun wq hS => r_build (v := .agg (([.pointer p30] : List Value) ++ (cs19 ++ (([] : List Value)))).toArray) F [(0, .pointer p30), (1, .agg cs19.toArray)] (by exact ⟨rfl, rfl, rfl, rfl, trivial⟩) (build_parts bp_76 (by exact ⟨0, ([.pointer p30] : List Value), rfl, rfl, (by have l0_ : ((List.replicate 16 ([.int .i64 0, .int .i64 0, .bool false, .slice none 0 0, .slice none 0 0, .int .i64 0, .int .i64 0] : List Value)).flatten).length = 112 := (by simp); simp only [List.length_append, List.length_cons, List.length_nil, l0_] <;> omega), (([.pointer p30] : List Value) ++ (((List.replicate 16 ([.int .i64 0, .int .i64 0, .bool false, .slice none 0 0, .slice none 0 0, .int .i64 0, .int .i64 0] : List Value)).flatten) ++ (([] : List Value)))), rfl, ⟨1, cs19, congrArg (fun n_ => some (1, n_)) (Eq.symm (h20.1 : cs19.length = 112)), rfl, (by have l0_ : ((List.replicate 16 ([.int .i64 0, .int .i64 0, .bool false, .slice none 0 0, .slice none 0 0, .int .i64 0, .int .i64 0] : List Value)).flatten).length = 112 := (by simp); have lx_ : cs19.length = 112 := (h20.1 : cs19.length = 112); simp only [List.length_append, List.length_cons, List.length_nil, l0_, lx_] <;> omega), (([.pointer p30] : List Value) ++ (cs19 ++ (([] : List Value)))), (lay_seg (pre := ([.pointer p30] : List Value)) rfl (by rw [show ((List.replicate 16 ([.int .i64 0, .int .i64 0, .bool false, .slice none 0 0, .slice none 0 0, .int .i64 0, .int .i64 0] : List Value)).flatten).length = 112 from (by simp), show cs19.length = 112 from (h20.1 : cs19.length = 112)])), rfl⟩⟩))) ER.sb fun a F => ?_
 refine d_e ?_
 refine o_eff F rfl rfl rfl (by decide) (e_box F (v := .agg (([.pointer p30] : List Value) ++ (cs19 ++ (([] : List Value)))).toArray) rfl c26 (m + 2)) ?_
 rintro v w35 a ⟨c34, qa36, rfl, E37, h38, B39⟩ F
 replace B := B39 _ B lm
 replace ER := ER.trans E37 nx
 replace h20 := h20.ev E37 nq
 replace h31 := h31.ev E37 nq nq
 replace E := E.trans E37 nx
 replace h38 : AT true (m + 2) c34 w35 qa36 (([.pointer p30] : List Value) ++ (cs19 ++ (([] : List Value)))) := h38
 refine ⟨fun _ => ER.sb, ?_⟩
 refine da F ER.sb fun a F => ?_
 refine d_nil ?_
 refine hK11 _ _ ?_
 replace F : Fr a 16 [(2, .pointer (some qa36))] := F.sub ⟨rfl, trivial⟩
 refine wp_ret ?_
 have h41 : SH (m + 2) (m + 1) c34 w35 (some qa36) (some (Sha.mk t24 ob12.seats)) := SH.mk h38 h31 h20
 replace H := si H
 subst H
 refine out1 F rfl rfl ?_
 exact ⟨cf (fun x_ => if x_ = m + 2 then jr42 else if x_ = m + 1 then jr43 else if x_ < m then x_ else 0) c34, (some qa36), rfl, E.lv B0, cfb, SH.rc h41 cfk cfk cfk⟩
theorem shard_numSize.calls (k : Nat) {m : Nat} {c0 : Nat → Nat} {w0 : World} {a1 : Int} (hm0 : 0 < m) (B0 : CB m c0 w0) (r : Int) (H : shard_numSize.f k a1 = some r) : Calls Try.prog 58 #[.int .i64 a1] w0 (fun e w_ => ∃ (c_ : Nat → Nat), e = .returned (.int .i64 r) ∧ Ev (fun x => False) c0 w0 c_ w_ ∧ CB m c_ w_) := by
 unfold shard_numSize.f at H
 have B := B0.mono (show m ≤ m + 1 by omega)
 have E : Ev (fun x => False ∨ m ≤ x) c0 w0 c0 w0 := Ev.refl
 refine enter (N := 11) (l := [.int .i64 a1]) Try.func58 rfl rfl (nb rfl) fun a F => ?_
 refine wp_seq_k fun K2 hK2 => reg ?_
 refine qa F fun a F => ?_
 refine nil (hK2 _ _ ?_)
 refine wp_seq_k fun K3 hK3 => reg ?_
 refine qa F fun a F => ?_
 refine nil (hK3 _ _ ?_)
 refine wp_seq_k fun K4 hK4 => ?_
 refine wp_block ?_
 obtain ⟨x16, HL, HR15⟩ := bind_some H
 have J24 : ∀ (c25 : Nat → Nat) (w26 : World) (a : Act) (i23 : Int), Fr a 11 [(3, .int .i64 i23)] → Ev (fun x => False ∨ m ≤ x) c0 w0 c25 w26 → CB (m + 1) c25 w26 → shard_numSize.j2 i23 = some r → K4 a w26 := by
  intro c25 w26 a i23 F E B  H
  unfold shard_numSize.j2 at H
  refine hK4 _ _ ?_
  refine wp_seq_k fun K27 hK27 => reg ?_
  refine qm F fun a F => ?_
  refine qa F fun a F => ?_
  refine nil (hK27 _ _ ?_)
  refine wp_ret ?_
  replace H := si H
  subst H
  refine out1 F rfl rfl ?_
  exact ⟨cf (fun x_ => if x_ < m then x_ else 0) c25, rfl, E.lv B0, cfb⟩
 refine loop_fuel (I := fun n a w => ∃ (i5 : Int) (i6 : Int) (c : Nat → Nat), Fr a 11 [(0, .int .i64 i5), (3, .int .i64 i6)] ∧ Ev (fun x => False ∨ m ≤ x) c0 w0 c w ∧ CB (m + 1) c w ∧ loop (fun (s_ : Int × Int) => shard_numSize.b1 s_.1 s_.2) n (i5, i6) = some x16) (k := k) ⟨a1, 1, c0, F.sub ⟨rfl, rfl, trivial⟩, E, B, HL⟩ ?_
 clear HL H E F B
 intro n13 X9 hX9 a w8 ⟨i5, i6, c7, F, E, B, HL⟩
 obtain ⟨n14, ctl12, rfl, HB, HN10, HD11⟩ := loop_some HL
 have H : shard_numSize.b1 i5 i6 = some ctl12 := HB
 clear HB HL
 unfold shard_numSize.b1 at H
 refine wp_seq_k fun K17 hK17 => ?_
 refine wp_seq_k fun K18 hK18 => reg ?_
 refine qm F fun a F => ?_
 refine qv F (r_geq F rfl rfl) fun a F => ?_
 refine nil (hK18 _ _ ?_)
 by_cases hb19 : 128 ≤ i5
 ·replace H := ip hb19 H
  refine wp_cond_true (fb F (dt hb19)) (wp_skip (hK17 _ _ ?_))
  refine wp_seq_k fun K20 hK20 => ?_
  refine wp_block ?_
  refine reg ?_
  refine qm F fun a F => ?_
  refine qv F (r_add F rfl rfl) fun a F => ?_
  refine qa F fun a F => ?_
  refine nil (hK20 _ _ ?_)
  refine reg ?_
  refine qm F fun a F => ?_
  refine qv F (r_shr F rfl rfl (by decide)) fun a F => ?_
  refine qa F fun a F => ?_
  refine nil ?_
  replace H := HN10 _ (si H).symm
  exact hX9 _ _ _ (Nat.lt_succ_self _) ⟨(shr .i64 i5 7), (IntKind.i64.wrap (i6 + 1)), c7, F.sub ⟨rfl, rfl, trivial⟩, E, B, H⟩
 replace H := im hb19 H
 refine wp_cond_false (fb F (dz hb19)) ?_
 refine wp_exit ?_
 refine thenE ?_
 refine thenE ?_
 refine inbE ?_
 have hx_ := HD11 _ (si H).symm
 have H := HR15
 rw [← hx_] at H
 exact J24 c7 w8 a i6 (F.sub ⟨rfl, trivial⟩) E B  H
theorem parcel_New.calls {m : Nat} {c0 : Nat → Nat} {w0 : World} {a1 : Int} (hm0 : 0 < m) (B0 : CB m c0 w0) (jr12 : Nat) (bjr12 : jr12 < m) (jr13 : Nat) (bjr13 : jr13 < m) (r : (Option Wri)) (H : parcel_New.f a1 = some r) : Calls Try.prog 46 #[.int .i64 a1] w0 (fun e w_ => ∃ (c_ : Nat → Nat) (P0_ : Option Addr), e = .returned (.pointer P0_) ∧ Ev (fun x => False) c0 w0 c_ w_ ∧ CB m c_ w_ ∧ WR jr12 jr13 c_ w_ P0_ r) := by
 unfold parcel_New.f at H
 have B := B0.mono (show m ≤ m + 3 by omega)
 have E : Ev (fun x => False ∨ m ≤ x) c0 w0 c0 w0 := Ev.refl
 refine enter (N := 7) (l := [.int .i64 a1]) Try.func46 rfl rfl (nb rfl) fun a F => ?_
 refine wp_seq_k fun K2 hK2 => reg ?_
 refine qa F fun a F => ?_
 refine nil (hK2 _ _ ?_)
 refine wp_seq_k fun K3 hK3 => reg ?_
 refine qm F fun a F => ?_
 refine qv F (r_max F rfl rfl) fun a F => ?_
 refine qv F (r_build (v := .agg #[.int .i64 (max a1 0), .slice none 0 0, .slice none 0 0, .int .i64 0]) F [(0, .int .i64 (max a1 0))] (by exact ⟨rfl, rfl, trivial⟩) (fun w => by kernel_rfl)) fun a F => ?_
 refine q_eff F rfl rfl (by decide) (e_box F (v := .agg #[.int .i64 (max a1 0), .slice none 0 0, .slice none 0 0, .int .i64 0]) rfl c0 (m + 1)) ?_
 rintro v w5 a ⟨c4, qa6, rfl, E7, h8, B9⟩ F
 replace B := B9 _ B lm
 replace E := E.trans E7 nx
 replace h8 : AT true (m + 1) c4 w5 qa6 [.int .i64 (max a1 0), .slice none 0 0, .slice none 0 0, .int .i64 0] := h8
 refine qa F fun a F => ?_
 refine nil (hK3 _ _ ?_)
 refine wp_ret ?_
 have h11 : WR (m + 1) (m + 2) c4 w5 (some qa6) (some (Wri.mk (max a1 0) [] [] 0)) := WR.mk h8 SL.nil SL.nil
 replace H := si H
 subst H
 refine out1 F rfl rfl ?_
 exact ⟨cf (fun x_ => if x_ = m + 1 then jr12 else if x_ = m + 2 then jr13 else if x_ < m then x_ else 0) c4, (some qa6), rfl, E.lv B0, cfb, WR.rc h11 cfk cfk cfk⟩
theorem parcel_Writer_Done.calls {m : Nat} {c0 : Nat → Nat} {w0 : World} {j4 : Nat} {j5 : Nat} {p2 : Option Addr} {a1 : Option Wri} (hm0 : 0 < m) (B0 : CB m c0 w0) (h3 : WR j4 j5 c0 w0 p2 a1) (bj4 : j4 < m) (bj5 : j5 < m ∧ j5 ≠ j4) (jr46 : Nat) (bjr46 : jr46 < m) (r : (List Int) × Int) (H : parcel_Writer_Done.f a1 = some r) : Calls Try.prog 50 #[.pointer p2] w0 (fun e w_ => ∃ (c_ : Nat → Nat) (A0_ : Option Addr) (C0_ : Nat), e = .returned (.tuple #[.slice A0_ r.1.length C0_, .int .i64 r.2]) ∧ Ev (fun x => False) c0 w0 c_ w_ ∧ CB m c_ w_ ∧ SL true (Kint .u8) jr46 0 c_ w_ A0_ C0_ r.1) := by
 unfold parcel_Writer_Done.f at H
 have B := B0.mono (show m ≤ m + 2 by omega)
 have E : Ev (fun x => False ∨ m ≤ x) c0 w0 c0 w0 := Ev.refl
 refine enter (N := 38) (l := [.pointer p2]) Try.func50 rfl rfl (nb rfl) fun a F => ?_
 refine wp_seq_k fun K6 hK6 => reg ?_
 refine qa F fun a F => ?_
 refine qa F fun a F => ?_
 refine nil (hK6 _ _ ?_)
 refine wp_seq_k fun K7 hK7 => ?_
 refine wp_block ?_
 refine wp_seq_k fun K8 hK8 => reg ?_
 refine qm F fun a F => ?_
 refine qv F (r_peqlA F Try.underlying97 rfl rfl (WR.isNone h3)) fun a F => ?_
 refine qa F fun a F => ?_
 refine nil (hK8 _ _ ?_)
 by_cases hb9 : (Option.isNone a1) = true
 ·replace H := ip hb9 H
  refine wp_cond_true (fb F hb9) ?_
  refine wp_seq_k fun K10 hK10 => reg ?_
  refine qa F fun a F => ?_
  refine qa F fun a F => ?_
  refine nil (hK10 _ _ ?_)
  refine wp_ret ?_
  refine inbR ?_
  refine thenR ?_
  replace H := si H
  subst H
  refine out2 F rfl rfl rfl ?_
  exact ⟨cf (fun x_ => if x_ = m + 1 then jr46 else if x_ < m then x_ else 0) c0, none, 0, rfl, E.lv B0, cfb, SL.nil⟩
 replace H := im hb9 H
 refine wp_cond_false (fb F (bfalse hb9)) ?_
 refine wp_seq_k fun K11 hK11 => reg ?_
 refine qm F fun a F => ?_
 obtain ⟨ob12, e13, H⟩ := bind_some H
 have z14 := h3
 rw [e13] at z14
 obtain ⟨ad15, A17, C18, A20, C21, rfl, hat16, h19, h22⟩ := WR.some z14
 refine qv F (r_nil F rfl) fun a F => ?_
 refine qf F ff_121_3 fun a F => ?_
 refine qv F (r_load F rfl ag_39 (AT.cell hat16 rfl)) fun a F => ?_
 refine qv F (r_neq F rfl rfl) fun a F => ?_
 refine qa F fun a F => ?_
 refine nil (hK11 _ _ ?_)
 replace F : Fr a 38 [(0, .pointer (some ad15)), (8, .bool (!decide (ob12.fault = 0)))] := F.sub ⟨rfl, rfl, trivial⟩
 by_cases hb24 : ob12.fault = 0
 ·replace H := ip hb24 H
  refine wp_cond_false (fb F (congrArg not (dt hb24))) ?_
  refine wp_seq_k fun K25 hK25 => reg ?_
  refine qm F fun a F => ?_
  refine qv F (r_nil F rfl) fun a F => ?_
  refine qf F ff_121_2 fun a F => ?_
  refine qv F (r_load F rfl ag_119 (AT.cell hat16 rfl)) fun a F => ?_
  refine qv F (r_lensl F Try.underlying119 rfl) fun a F => ?_
  refine qv F (r_gtr F rfl rfl) fun a F => ?_
  refine qa F fun a F => ?_
  refine nil (hK25 _ _ ?_)
  by_cases hb26 : 0 < (ob12.open_.length : Int)
  ·replace H := ip hb26 H
   refine wp_cond_true (fb F (dt hb26)) ?_
   refine wp_seq_k fun K27 hK27 => reg ?_
   refine qa F fun a F => ?_
   refine qa F fun a F => ?_
   refine nil (hK27 _ _ ?_)
   replace F : Fr a 38 [(2, .slice none 0 0), (3, .int .i64 12)] := F.sub ⟨rfl, rfl, trivial⟩
   refine wp_ret ?_
   refine inbR ?_
   refine thenR ?_
   replace H := si H
   subst H
   refine out2 F rfl rfl rfl ?_
   exact ⟨cf (fun x_ => if x_ = m + 1 then jr46 else if x_ < m then x_ else 0) c0, none, 0, rfl, E.lv B0, cfb, SL.nil⟩
  replace H := im hb26 H
  refine wp_cond_false (fb F (dz hb26)) (wp_skip (hK7 _ _ ?_))
  replace F : Fr a 38 [(0, .pointer (some ad15))] := F.sub ⟨rfl, trivial⟩
  refine wp_seq_k fun K31 hK31 => reg ?_
  refine qm F fun a F => ?_
  refine qv F (r_nil F rfl) fun a F => ?_
  refine qf F ff_121_1 fun a F => ?_
  refine qv F (r_load F rfl ag_28 (AT.cell hat16 rfl)) fun a F => ?_
  refine qv F (r_lensl F Try.underlying28 rfl) fun a F => ?_
  replace H := ifN H
  obtain ⟨g32, H⟩ := H
  refine q_eff F rfl rfl (by decide) (e_make (k := (Kint .u8)) (x0 := 0) F et_28 rfl rfl (fun _ _ _ => rfl) (by decide) g32 c0 (m + 1) 0) ?_
  rintro v w34 a ⟨c33, A35, C36, rfl, E37, h38, B39⟩ F
  replace B := B39 _ B lm
  replace h19 := h19.ev E37 nq nq
  replace hat16 := hat16.ev E37 nq
  replace E := E.trans E37 nx
  refine qa F fun a F => ?_
  refine nil (hK31 _ _ ?_)
  refine wp_seq_k fun K40 hK40 => reg ?_
  refine qm F fun a F => ?_
  refine qm F fun a F => ?_
  refine qv F (r_nil F rfl) fun a F => ?_
  refine qf F ff_121_1 fun a F => ?_
  refine qv F (r_load F rfl ag_28 (AT.cell hat16 rfl)) fun a F => ?_
  refine q_eff F rfl rfl (by decide) (e_copy (k := (Kint .u8)) (xs := (List.replicate (ob12.b.length : Int).toNat (0 : Int))) (ys := ob12.b) F et_28 rfl rfl h38 h19 ne_zm) ?_
  rintro v w41 a ⟨rfl, E42, h38, Z43⟩ F
  replace B := B.size Z43
  replace E := E.trans E42 lc1
  have hl44 : (List.replicate (ob12.b.length : Int).toNat (0 : Int)).length = (ob12.b.take (List.replicate (ob12.b.length : Int).toNat (0 : Int)).length ++ (List.replicate (ob12.b.length : Int).toNat (0 : Int)).drop ob12.b.length).length := by simp <;> omega
  rw [hl44] at F
  refine nil (hK40 _ _ ?_)
  replace F : Fr a 38 [(4, .slice A35 (ob12.b.take (List.replicate (ob12.b.length : Int).toNat (0 : Int)).length ++ (List.replicate (ob12.b.length : Int).toNat (0 : Int)).drop ob12.b.length).length C36)] := F.sub ⟨rfl, trivial⟩
  refine wp_seq_k fun K45 hK45 => reg ?_
  refine qm F fun a F => ?_
  refine qa F fun a F => ?_
  refine qa F fun a F => ?_
  refine nil (hK45 _ _ ?_)
  refine wp_ret ?_
  replace H := si H
  subst H
  refine out2 F rfl rfl rfl ?_
  exact ⟨cf (fun x_ => if x_ = m + 1 then jr46 else if x_ < m then x_ else 0) c33, A35, C36, rfl, E.lv B0, cfb, SL.rc h38 cfk cfk⟩
 replace H := im hb24 H
 refine wp_cond_true (fb F (congrArg not (dz hb24))) ?_
 refine wp_seq_k fun K28 hK28 => ?_
 refine regD (SB No c0 w0) 6 (.q 0 (.q 1 (.q 2 (.q 3 (.q 4 (.q 5 .nil)))))) Try_hm (by decide +kernel) ?_
 intro w29 w1_ w2_ w3_ w4_
 have E30 : Ev No c0 w0 c0 w29 := Ev.same w1_ w2_ w3_ w4_
 replace B := B.same w1_
 have zhat16 := hat16
 have ER : Ev No c0 w0 c0 w29 := Ev.same w1_ w2_ w3_ w4_
 replace E := E.trans E30 nx
 refine dm F ER.sb fun a F => ?_
 refine dq F (fun wq hS => r_nil F rfl) ER.sb fun a F => ?_
 refine df F ff_121_3 ER.sb fun a F => ?_
 refine dq F (fun wq hS => r_load F rfl ag_39 (AT.cell (AT.sb zhat16 hS nq) rfl)) ER.sb fun a F => ?_
 refine da F ER.sb fun a F => ?_
 refine da F ER.sb fun a F => ?_
 refine d_nil ?_
 refine hK28 _ _ ?_
 refine wp_ret ?_
 refine inbR ?_
 refine thenR ?_
 replace H := si H
 subst H
 refine out2 F rfl rfl rfl ?_
 exact ⟨cf (fun x_ => if x_ = m + 1 then jr46 else if x_ < m then x_ else 0) c0, none, 0, rfl, E.lv B0, cfb, SL.nil⟩
theorem parcel_Writer_whole.calls {m : Nat} {c0 : Nat → Nat} {w0 : World} {j4 : Nat} {j5 : Nat} {p2 : Option Addr} {a1 : Option Wri} (hm0 : 0 < m) (B0 : CB m c0 w0) (h3 : WR j4 j5 c0 w0 p2 a1) (bj4 : j4 < m) (bj5 : j5 < m ∧ j5 ≠ j4) (r : Bool) (H : parcel_Writer_whole.f a1 = some r) : Calls Try.prog 90 #[.pointer p2] w0 (fun e w_ => ∃ (c_ : Nat → Nat), e = .returned (.bool r) ∧ Ev (fun x => False) c0 w0 c_ w_ ∧ CB m c_ w_) := by
 unfold parcel_Writer_whole.f at H
 have B := B0.mono (show m ≤ m + 1 by omega)
 have E : Ev (fun x => False ∨ m ≤ x) c0 w0 c0 w0 := Ev.refl
 refine enter (N := 12) (l := [.pointer p2]) Try.func90 rfl rfl (nb rfl) fun a F => ?_
 refine wp_seq_k fun K6 hK6 => reg ?_
 refine qa F fun a F => ?_
 refine nil (hK6 _ _ ?_)
 refine wp_seq_k fun K7 hK7 => reg ?_
 refine qm F fun a F => ?_
 refine qv F (r_pneqA F Try.underlying97 rfl rfl (WR.isNone h3)) fun a F => ?_
 refine qm F fun a F => ?_
 by_cases hb8 : (Option.isNone a1) = true
 ·replace H := ip hb8 H
  refine qn F (congrArg not hb8) fun a F => ?_
  refine qn F (congrArg not hb8) fun a F => ?_
  refine qn F (congrArg not hb8) fun a F => ?_
  refine qn F (congrArg not hb8) fun a F => ?_
  refine qn F (congrArg not hb8) fun a F => ?_
  refine qv F (r_pick_f F rfl (congrArg not hb8) rfl) fun a F => ?_
  refine qa F fun a F => ?_
  refine nil (hK7 _ _ ?_)
  replace F : Fr a 12 [(2, .bool false)] := F.sub ⟨rfl, trivial⟩
  refine wp_ret ?_
  replace H := si H
  subst H
  refine out1 F rfl rfl ?_
  exact ⟨cf (fun x_ => if x_ < m then x_ else 0) c0, rfl, E.lv B0, cfb⟩
 replace H := im hb8 H
 refine qy F (congrArg not (bfalse hb8)) ?_
 refine qm F fun a F => ?_
 obtain ⟨ob9, e10, H⟩ := bind_some H
 have z11 := h3
 rw [e10] at z11
 obtain ⟨ad12, A14, C15, A17, C18, rfl, hat13, h16, h19⟩ := WR.some z11
 refine qy F (congrArg not (bfalse hb8)) ?_
 refine qv F (r_nil F rfl) fun a F => ?_
 refine qy F (congrArg not (bfalse hb8)) ?_
 refine qf F ff_121_3 fun a F => ?_
 refine qy F (congrArg not (bfalse hb8)) ?_
 refine qv F (r_load F rfl ag_39 (AT.cell hat13 rfl)) fun a F => ?_
 refine qy F (congrArg not (bfalse hb8)) ?_
 refine qv F (r_eql F rfl rfl) fun a F => ?_
 refine qv F (r_pick_t F rfl (congrArg not (bfalse hb8)) rfl) fun a F => ?_
 refine qa F fun a F => ?_
 refine nil (hK7 _ _ ?_)
 replace F : Fr a 12 [(2, .bool (decide (ob9.fault = 0)))] := F.sub ⟨rfl, trivial⟩
 refine wp_ret ?_
 replace H := si H
 subst H
 refine out1 F rfl rfl ?_
 exact ⟨cf (fun x_ => if x_ < m then x_ else 0) c0, rfl, E.lv B0, cfb⟩
theorem parcel_Writer_lay.calls {m : Nat} {c0 : Nat → Nat} {w0 : World} {j4 : Nat} {j5 : Nat} {p2 : Option Addr} {A7 : Option Addr} {C8 : Nat} {a1 : Option Wri} {a6 : List Int} (hm0 : 0 < m) (B0 : CB m c0 w0) (h3 : WR j4 j5 c0 w0 p2 a1) (h9 : SL false (Kint .u8) 0 0 c0 w0 A7 C8 a6) (bj4 : 0 < j4 ∧ j4 < m) (bj5 : 0 < j5 ∧ j5 < m ∧ j5 ≠ j4) (r : (Option Wri)) (H : parcel_Writer_lay.f a1 a6 = some r) : Calls Try.prog 68 #[.pointer p2, .slice A7 a6.length C8] w0 (fun e w_ => ∃ (c_ : Nat → Nat), e = .returned (.tuple #[]) ∧ Ev (fun x => (x = j4 ∨ x = j5)) c0 w0 c_ w_ ∧ CB m c_ w_ ∧ WR j4 j5 c_ w_ p2 r) := by
 unfold parcel_Writer_lay.f at H
 have B := B0.mono (show m ≤ m + 1 by omega)
 have E : Ev (fun x => (x = j4 ∨ x = j5) ∨ m ≤ x) c0 w0 c0 w0 := Ev.refl
 refine enter (N := 34) (l := [.pointer p2, .slice A7 a6.length C8]) Try.func68 rfl rfl (nb rfl) fun a F => ?_
 refine wp_block ?_
 refine wp_seq_k fun K10 hK10 => reg ?_
 refine qm F fun a F => ?_
 obtain ⟨t11, q12, H⟩ := bind_some H
 refine qc F Try.func90 (parcel_Writer_whole.calls (m := m + 1) (pl hm0) B h3 (Nat.lt_add_right _ bj4.2) ⟨(Nat.lt_add_right _ bj5.2.1), bj5.2.2⟩ _ q12) ?_
 rintro e w14 ⟨c13, rfl, E15, B16⟩
 refine ⟨_, rfl, fun a F => ?_⟩
 have B := B16
 replace h3 := h3.ev E15 nq nq nq
 replace h9 := h9.ev E15 nq nq
 replace E := E.trans E15 nx
 refine qv F (r_not F rfl) fun a F => ?_
 refine qa F fun a F => ?_
 refine nil (hK10 _ _ ?_)
 by_cases hb18 : t11 = true
 ·replace H := ip hb18 H
  refine wp_cond_false (fb F (congrArg not hb18)) ?_
  refine wp_seq_k fun K19 hK19 => ?_
  obtain ⟨ob20, e21, H⟩ := bind_some H
  have z22 := h3
  rw [e21] at z22
  obtain ⟨ad23, A25, C26, A28, C29, rfl, hat24, h27, h30⟩ := WR.some z22
  refine regD (SB No c13 w14) 14 (.q 0 (.q 1 (.q 2 (.q 3 (.q 4 (.q 5 (.q 6 (.q 7 (.q 8 (.q 9 (.q 10 (.q 11 (.q 12 (.q 13 .nil)))))))))))))) Try_hm (by decide +kernel) ?_
  intro w32 w1_ w2_ w3_ w4_
  have E33 : Ev No c13 w14 c13 w32 := Ev.same w1_ w2_ w3_ w4_
  replace B := B.same w1_
  have zhat24 := hat24
  have ER : Ev No c13 w14 c13 w32 := Ev.same w1_ w2_ w3_ w4_
  replace h9 := h9.ev E33 nq nq
  replace h27 := h27.ev E33 nq nq
  replace h30 := h30.ev E33 nq nq
  replace hat24 := hat24.ev E33 nq
  replace E := E.trans E33 nx
  refine dm F ER.sb fun a F => ?_
  refine dq F (fun wq hS => r_lensl F Try.underlying28 rfl) ER.sb fun a F => ?_
  refine dm F ER.sb fun a F => ?_
  refine dq F (fun wq hS => r_nil F rfl) ER.sb fun a F => ?_
  refine df F ff_121_0 ER.sb fun a F => ?_
  refine dq F (fun wq hS => r_load F rfl ag_3 (AT.cell (AT.sb zhat24 hS nq) rfl)) ER.sb fun a F => ?_
  refine dm F ER.sb fun a F => ?_
  refine dq F (fun wq hS => r_nil F rfl) ER.sb fun a F => ?_
  refine df F ff_121_1 ER.sb fun a F => ?_
  refine dq F (fun wq hS => r_load F rfl ag_28 (AT.cell (AT.sb zhat24 hS nq) rfl)) ER.sb fun a F => ?_
  refine dq F (fun wq hS => r_lensl F Try.underlying28 rfl) ER.sb fun a F => ?_
  refine dq F (fun wq hS => r_sub F rfl rfl) ER.sb fun a F => ?_
  refine dq F (fun wq hS => r_gtr F rfl rfl) ER.sb fun a F => ?_
  refine da F ER.sb fun a F => ?_
  refine d_nil ?_
  refine hK19 _ _ ?_
  replace F : Fr a 34 [(0, .pointer (some ad23)), (1, .slice A7 a6.length C8), (17, .bool (decide ((IntKind.i64.wrap (ob20.room - (ob20.b.length : Int))) < (a6.length : Int))))] := F.sub ⟨rfl, rfl, rfl, trivial⟩
  by_cases hb34 : (IntKind.i64.wrap (ob20.room - (ob20.b.length : Int))) < (a6.length : Int)
  ·replace H := ip hb34 H
   refine wp_cond_true (fb F (dt hb34)) ?_
   refine reg ?_
   refine qm F fun a F => ?_
   refine qv F (r_nil F rfl) fun a F => ?_
   refine qf F ff_121_3 fun a F => ?_
   refine q_eff0 F rfl rfl (e_store F rfl rfl sz_39 hat24 (nb rfl) rfl) ?_
   rintro w35 a ⟨E36, hat24, Z37⟩ F
   replace B := B.size Z37
   replace h27 := h27.ev E36 bj5.2.2 (ne_z bj4.1)
   replace h30 := h30.ev E36 (ne_z bj4.1) (ne_z bj4.1)
   replace E := E.trans E36 (fun x (q : x = j4) => Or.inl (Or.inl q))
   replace hat24 : AT true j4 c13 w35 ad23 [.int .i64 ob20.room, .slice A25 ob20.b.length C26, .slice A28 ob20.open_.length C29, .int .i64 13] := hat24
   refine nil ?_
   have h38 : WR j4 j5 c13 w35 (some ad23) (some (Wri.mk ob20.room ob20.b ob20.open_ 13)) := WR.mk hat24 h27 h30
   replace H := si H
   subst H
   first | refine out0n F rfl ?_ | refine inbN (out0n F rfl ?_) | refine inbN (inbN (out0n F rfl ?_)) | refine inbN (inbN (inbN (out0n F rfl ?_)))
   exact ⟨cf (fun x_ => if x_ < m then x_ else 0) c13, rfl, E.lv B0, cfb, WR.rc h38 cfk cfk cfk⟩
  replace H := im hb34 H
  refine wp_cond_false (fb F (dz hb34)) ?_
  refine reg ?_
  refine qm F fun a F => ?_
  refine qm F fun a F => ?_
  refine qv F (r_nil F rfl) fun a F => ?_
  refine qf F ff_121_1 fun a F => ?_
  refine qv F (r_load F rfl ag_28 (AT.cell hat24 rfl)) fun a F => ?_
  refine qm F fun a F => ?_
  replace H := ifN H
  obtain ⟨g39, H⟩ := H
  refine q_eff F rfl rfl (by decide) (e_append (k := (Kint .u8)) (xs := ob20.b) (ys := a6) (c := c13) (j := j5) (i := 0) F et_28 rfl rfl h27 h9 g39 (len_ok g39) (ne_z bj5.1)) ?_
  rintro v w41 a ⟨c40, A42, C43, rfl, E44, h45, B46⟩ F
  replace B := B46 _ B (Nat.lt_add_right _ bj5.2.1)
  replace h30 := h30.ev E44 (ne_z bj5.1) (ne_z bj5.1)
  replace hat24 := hat24.ev E44 (Ne.symm bj5.2.2)
  replace E := E.trans E44 (fun x (q : x = j5) => Or.inl (Or.inr (q)))
  refine qv F (r_nil F rfl) fun a F => ?_
  refine qf F ff_121_1 fun a F => ?_
  refine q_eff0 F rfl rfl (e_store F rfl rfl sz_28 hat24 (nb rfl) rfl) ?_
  rintro w47 a ⟨E48, hat24, Z49⟩ F
  replace B := B.size Z49
  replace h30 := h30.ev E48 (ne_z bj4.1) (ne_z bj4.1)
  replace h45 := h45.ev E48 bj5.2.2 (ne_z bj4.1)
  replace E := E.trans E48 (fun x (q : x = j4) => Or.inl (Or.inl q))
  replace hat24 : AT true j4 c40 w47 ad23 [.int .i64 ob20.room, .slice A42 (ob20.b ++ a6).length C43, .slice A28 ob20.open_.length C29, .int .i64 ob20.fault] := hat24
  refine nil ?_
  have h50 : WR j4 j5 c40 w47 (some ad23) (some (Wri.mk ob20.room (ob20.b ++ a6) ob20.open_ ob20.fault)) := WR.mk hat24 h45 h30
  replace H := si H
  subst H
  first | refine out0n F rfl ?_ | refine inbN (out0n F rfl ?_) | refine inbN (inbN (out0n F rfl ?_)) | refine inbN (inbN (inbN (out0n F rfl ?_)))
  exact ⟨cf (fun x_ => if x_ < m then x_ else 0) c40, rfl, E.lv B0, cfb, WR.rc h50 cfk cfk cfk⟩
 replace H := im hb18 H
 refine wp_cond_true (fb F (congrArg not (bfalse hb18))) ?_
 refine wp_skip ?_
 replace H := si H
 subst H
 first | refine out0n F rfl ?_ | refine inbN (out0n F rfl ?_) | refine inbN (inbN (out0n F rfl ?_)) | refine inbN (inbN (inbN (out0n F rfl ?_)))
 exact ⟨cf (fun x_ => if x_ < m then x_ else 0) c13, rfl, E.lv B0, cfb, WR.rc h3 cfk cfk cfk⟩
theorem parcel_Writer_refuse.calls {m : Nat} {c0 : Nat → Nat} {w0 : World} {j4 : Nat} {j5 : Nat} {p2 : Option Addr} {a1 : Option Wri} {a6 : Int} (hm0 : 0 < m) (B0 : CB m c0 w0) (h3 : WR j4 j5 c0 w0 p2 a1) (bj4 : 0 < j4 ∧ j4 < m) (bj5 : 0 < j5 ∧ j5 < m ∧ j5 ≠ j4) (r : (Option Wri)) (H : parcel_Writer_refuse.f a1 a6 = some r) : Calls Try.prog 77 #[.pointer p2, .int .i64 a6] w0 (fun e w_ => ∃ (c_ : Nat → Nat), e = .returned (.tuple #[]) ∧ Ev (fun x => (x = j4 ∨ x = j5)) c0 w0 c_ w_ ∧ CB m c_ w_ ∧ WR j4 j5 c_ w_ p2 r) := by
 unfold parcel_Writer_refuse.f at H
 have B := B0.mono (show m ≤ m + 1 by omega)
 have E : Ev (fun x => (x = j4 ∨ x = j5) ∨ m ≤ x) c0 w0 c0 w0 := Ev.refl
 refine enter (N := 10) (l := [.pointer p2, .int .i64 a6]) Try.func77 rfl rfl (nb rfl) fun a F => ?_
 refine wp_seq_k fun K7 hK7 => reg ?_
 refine qm F fun a F => ?_
 obtain ⟨t8, q9, H⟩ := bind_some H
 refine qc F Try.func90 (parcel_Writer_whole.calls (m := m + 1) (pl hm0) B h3 (Nat.lt_add_right _ bj4.2) ⟨(Nat.lt_add_right _ bj5.2.1), bj5.2.2⟩ _ q9) ?_
 rintro e w11 ⟨c10, rfl, E12, B13⟩
 refine ⟨_, rfl, fun a F => ?_⟩
 have B := B13
 replace h3 := h3.ev E12 nq nq nq
 replace E := E.trans E12 nx
 refine nil (hK7 _ _ ?_)
 by_cases hb15 : t8 = true
 ·replace H := ip hb15 H
  refine wp_cond_true (fb F hb15) ?_
  refine reg ?_
  refine qm F fun a F => ?_
  refine qm F fun a F => ?_
  obtain ⟨ob16, e17, H⟩ := bind_some H
  have z18 := h3
  rw [e17] at z18
  obtain ⟨ad19, A21, C22, A24, C25, rfl, hat20, h23, h26⟩ := WR.some z18
  refine qv F (r_nil F rfl) fun a F => ?_
  refine qf F ff_121_3 fun a F => ?_
  refine q_eff0 F rfl rfl (e_store F rfl rfl sz_39 hat20 (nb rfl) rfl) ?_
  rintro w28 a ⟨E29, hat20, Z30⟩ F
  replace B := B.size Z30
  replace h23 := h23.ev E29 bj5.2.2 (ne_z bj4.1)
  replace h26 := h26.ev E29 (ne_z bj4.1) (ne_z bj4.1)
  replace E := E.trans E29 (fun x (q : x = j4) => Or.inl (Or.inl q))
  replace hat20 : AT true j4 c10 w28 ad19 [.int .i64 ob16.room, .slice A21 ob16.b.length C22, .slice A24 ob16.open_.length C25, .int .i64 a6] := hat20
  refine nil ?_
  have h31 : WR j4 j5 c10 w28 (some ad19) (some (Wri.mk ob16.room ob16.b ob16.open_ a6)) := WR.mk hat20 h23 h26
  replace H := si H
  subst H
  first | refine out0n F rfl ?_ | refine inbN (out0n F rfl ?_) | refine inbN (inbN (out0n F rfl ?_)) | refine inbN (inbN (inbN (out0n F rfl ?_)))
  exact ⟨cf (fun x_ => if x_ < m then x_ else 0) c10, rfl, E.lv B0, cfb, WR.rc h31 cfk cfk cfk⟩
 replace H := im hb15 H
 refine wp_cond_false (fb F (bfalse hb15)) ?_
 refine wp_skip ?_
 replace H := si H
 subst H
 first | refine out0n F rfl ?_ | refine inbN (out0n F rfl ?_) | refine inbN (inbN (out0n F rfl ?_)) | refine inbN (inbN (inbN (out0n F rfl ?_)))
 exact ⟨cf (fun x_ => if x_ < m then x_ else 0) c10, rfl, E.lv B0, cfb, WR.rc h3 cfk cfk cfk⟩
theorem parcel_Writer_Byte.calls {m : Nat} {c0 : Nat → Nat} {w0 : World} {j4 : Nat} {j5 : Nat} {p2 : Option Addr} {a1 : Option Wri} {a6 : Int} (hm0 : 0 < m) (B0 : CB m c0 w0) (h3 : WR j4 j5 c0 w0 p2 a1) (bj4 : 0 < j4 ∧ j4 < m) (bj5 : 0 < j5 ∧ j5 < m ∧ j5 ≠ j4) (r : (Option Wri)) (H : parcel_Writer_Byte.f a1 a6 = some r) : Calls Try.prog 71 #[.pointer p2, .int .i64 a6] w0 (fun e w_ => ∃ (c_ : Nat → Nat), e = .returned (.tuple #[]) ∧ Ev (fun x => (x = j4 ∨ x = j5)) c0 w0 c_ w_ ∧ CB m c_ w_ ∧ WR j4 j5 c_ w_ p2 r) := by
 unfold parcel_Writer_Byte.f at H
 have B := B0.mono (show m ≤ m + 1 by omega)
 have E : Ev (fun x => (x = j4 ∨ x = j5) ∨ m ≤ x) c0 w0 c0 w0 := Ev.refl
 refine enter (N := 17) (l := [.pointer p2, .int .i64 a6]) Try.func71 rfl rfl (nb rfl) fun a F => ?_
 refine wp_seq_k fun K7 hK7 => ?_
 refine wp_seq_k fun K8 hK8 => ?_
 have J11 : ∀ (c12 : Nat → Nat) (w13 : World) (a : Act) (b10 : Bool), Fr a 17 [(0, .pointer p2), (1, .int .i64 a6), (9, .bool b10)] → Ev (fun x => (x = j4 ∨ x = j5) ∨ m ≤ x) c0 w0 c12 w13 → CB (m + 1) c12 w13 → WR j4 j5 c12 w13 p2 a1 → parcel_Writer_Byte.j1 a1 a6 b10 = some r → K8 a w13 := by
  intro c12 w13 a b10 F E B h3 H
  unfold parcel_Writer_Byte.j1 at H
  refine hK8 _ _ ?_
  by_cases hb14 : b10 = true
  ·replace H := ip hb14 H
   refine wp_cond_true (fb F hb14) ?_
   refine wp_seq_k fun K15 hK15 => reg ?_
   refine qm F fun a F => ?_
   obtain ⟨t16, q17, H⟩ := bind_some H
   refine qc F Try.func77 (parcel_Writer_refuse.calls (m := m + 1) (pl hm0) B h3 ⟨bj4.1, (Nat.lt_add_right _ bj4.2)⟩ ⟨bj5.1, (Nat.lt_add_right _ bj5.2.1), bj5.2.2⟩ _ q17) ?_
   rintro e w19 ⟨c18, rfl, E20, B21, h22⟩
   refine ⟨_, rfl, fun a F => ?_⟩
   have B := B21
   replace E := E.trans E20 (fun x (q : x = j4 ∨ x = j5) => q.elim (fun q => Or.inl (Or.inl q)) (fun q => Or.inl (Or.inr (q))))
   refine nil (hK15 _ _ ?_)
   refine wp_ret ?_
   refine thenR ?_
   replace H := si H
   subst H
   refine out0 F rfl ?_
   exact ⟨cf (fun x_ => if x_ < m then x_ else 0) c18, rfl, E.lv B0, cfb, WR.rc h22 cfk cfk cfk⟩
  replace H := im hb14 H
  refine wp_cond_false (fb F (bfalse hb14)) (wp_skip (hK7 _ _ ?_))
  refine reg ?_
  refine qm F fun a F => ?_
  refine qm F fun a F => ?_
  refine qv F (r_convi F Try.underlying5 rfl rfl) fun a F => ?_
  refine q_eff F rfl rfl (by decide) (e_buildSlice (n := 1) (e := 5) (c := c12) (k := (Kint .u8)) (i := 0) F [(0, .int .u8 (IntKind.u8.wrap a6))] [.int .u8 (IntKind.u8.wrap a6)] ([IntKind.u8.wrap a6] : List Int) (by exact ⟨rfl, rfl, trivial⟩) (fun w => by kernel_rfl) rfl (by decide) rfl ⟨rfl, trivial⟩ (fun q => q) 0) ?_
  rintro v w25 a ⟨c24, A26, C27, rfl, E28, h29, B30⟩ F
  replace B := B30 _ B (pl hm0)
  replace h3 := h3.ev E28 nq nq nq
  replace E := E.trans E28 nx
  obtain ⟨t31, q32, H⟩ := bind_some H
  refine qc F Try.func68 (parcel_Writer_lay.calls (m := m + 1) (pl hm0) B h3 h29.r ⟨bj4.1, (Nat.lt_add_right _ bj4.2)⟩ ⟨bj5.1, (Nat.lt_add_right _ bj5.2.1), bj5.2.2⟩ _ q32) ?_
  rintro e w34 ⟨c33, rfl, E35, B36, h37⟩
  refine ⟨_, rfl, fun a F => ?_⟩
  have B := B36
  replace E := E.trans E35 (fun x (q : x = j4 ∨ x = j5) => q.elim (fun q => Or.inl (Or.inl q)) (fun q => Or.inl (Or.inr (q))))
  refine nil ?_
  replace H := si H
  subst H
  first | refine out0n F rfl ?_ | refine inbN (out0n F rfl ?_) | refine inbN (inbN (out0n F rfl ?_)) | refine inbN (inbN (inbN (out0n F rfl ?_)))
  exact ⟨cf (fun x_ => if x_ < m then x_ else 0) c33, rfl, E.lv B0, cfb, WR.rc h37 cfk cfk cfk⟩
 refine reg ?_
 refine qm F fun a F => ?_
 refine qv F (r_lss F rfl rfl) fun a F => ?_
 refine qm F fun a F => ?_
 by_cases hb9 : a6 < 0
 ·replace H := ip hb9 H
  refine qn F (dt hb9) fun a F => ?_
  refine qn F (dt hb9) fun a F => ?_
  refine qv F (r_pick_t F rfl (dt hb9) rfl) fun a F => ?_
  refine nil ?_
  exact J11 c0 w0 a true (F.sub ⟨rfl, rfl, rfl, trivial⟩) E B h3 H
 replace H := im hb9 H
 refine qy F (dz hb9) ?_
 refine qm F fun a F => ?_
 refine qy F (dz hb9) ?_
 refine qv F (r_gtr F rfl rfl) fun a F => ?_
 refine qv F (r_pick_f F rfl (dz hb9) rfl) fun a F => ?_
 refine nil ?_
 exact J11 c0 w0 a (decide (255 < a6)) (F.sub ⟨rfl, rfl, rfl, trivial⟩) E B h3 H
theorem parcel_form.calls (k : Nat) {m : Nat} {c0 : Nat → Nat} {w0 : World} {a1 : Int} (hm0 : 0 < m) (B0 : CB m c0 w0) (jr76 : Nat) (bjr76 : jr76 < m) (r : (List Int)) (H : parcel_form.f k a1 = some r) : Calls Try.prog 70 #[.int .u64 a1] w0 (fun e w_ => ∃ (c_ : Nat → Nat) (A0_ : Option Addr) (C0_ : Nat), e = .returned (.slice A0_ r.length C0_) ∧ Ev (fun x => False) c0 w0 c_ w_ ∧ CB m c_ w_ ∧ SL true (Kint .u8) jr76 0 c_ w_ A0_ C0_ r) := by
 unfold parcel_form.f at H
 have B := B0.mono (show m ≤ m + 2 by omega)
 have E : Ev (fun x => False ∨ m ≤ x) c0 w0 c0 w0 := Ev.refl
 refine enter (N := 20) (l := [.int .u64 a1]) Try.func70 rfl rfl (nb rfl) fun a F => ?_
 refine wp_seq_k fun K2 hK2 => reg ?_
 refine qa F fun a F => ?_
 refine nil (hK2 _ _ ?_)
 refine wp_seq_k fun K3 hK3 => reg ?_
 replace H := ifN H
 obtain ⟨g4, H⟩ := H
 refine q_eff F rfl rfl (by decide) (e_make (k := (Kint .u8)) (x0 := 0) F et_28 rfl rfl (fun _ _ _ => rfl) (by decide) g4 c0 (m + 1) 0) ?_
 rintro v w6 a ⟨c5, A7, C8, rfl, E9, h10, B11⟩ F
 replace B := B11 _ B lm
 replace E := E.trans E9 nx
 refine qa F fun a F => ?_
 refine nil (hK3 _ _ ?_)
 refine wp_seq_k fun K12 hK12 => ?_
 refine wp_block ?_
 obtain ⟨x27, HL, HR26⟩ := bind_some H
 have J57 : ∀ (c58 : Nat → Nat) (w59 : World) (a : Act) (i52 : Int) (l54 : List Int) (A55 : Option Addr) (C56 : Nat), Fr a 20 [(0, .int .u64 i52), (3, .slice A55 l54.length C56)] → Ev (fun x => False ∨ m ≤ x) c0 w0 c58 w59 → CB (m + 2) c58 w59 → SL true (Kint .u8) (m + 1) 0 c58 w59 A55 C56 l54 → parcel_form.j2 i52 l54 = some r → K12 a w59 := by
  intro c58 w59 a i52 l54 A55 C56 F E B h53 H
  unfold parcel_form.j2 at H
  refine hK12 _ _ ?_
  refine wp_seq_k fun K60 hK60 => reg ?_
  refine qm F fun a F => ?_
  refine qm F fun a F => ?_
  refine qv F (r_convi F Try.underlying5 rfl rfl) fun a F => ?_
  refine q_eff F rfl rfl (by decide) (e_buildSlice (n := 1) (e := 5) (c := c58) (k := (Kint .u8)) (i := 0) F [(0, .int .u8 (IntKind.u8.wrap i52))] [.int .u8 (IntKind.u8.wrap i52)] ([IntKind.u8.wrap i52] : List Int) (by exact ⟨rfl, rfl, trivial⟩) (fun w => by kernel_rfl) rfl (by decide) rfl ⟨rfl, trivial⟩ (fun q => q) 0) ?_
  rintro v w62 a ⟨c61, A63, C64, rfl, E65, h66, B67⟩ F
  replace B := B67 _ B (pl hm0)
  replace h53 := h53.ev E65 nq nq
  replace E := E.trans E65 nx
  replace H := ifN H
  obtain ⟨g68, H⟩ := H
  refine q_eff F rfl rfl (by decide) (e_append (k := (Kint .u8)) (xs := l54) (ys := [IntKind.u8.wrap i52]) (c := c61) (j := (m + 1)) (i := 0) F et_28 rfl rfl h53 h66 g68 (len_ok g68) ne_zm) ?_
  rintro v w70 a ⟨c69, A71, C72, rfl, E73, h74, B75⟩ F
  replace B := B75 _ B lm
  replace E := E.trans E73 lc1
  refine qa F fun a F => ?_
  refine nil (hK60 _ _ ?_)
  refine wp_ret ?_
  replace H := si H
  subst H
  refine out1 F rfl rfl ?_
  exact ⟨cf (fun x_ => if x_ = m + 1 then jr76 else if x_ < m then x_ else 0) c69, A71, C72, rfl, E.lv B0, cfb, SL.rc h74 cfk cfk⟩
 refine loop_fuel (I := fun n a w => ∃ (i13 : Int) (l14 : List Int) (A15 : Option Addr) (C16 : Nat) (c : Nat → Nat), Fr a 20 [(0, .int .u64 i13), (3, .slice A15 l14.length C16)] ∧ Ev (fun x => False ∨ m ≤ x) c0 w0 c w ∧ CB (m + 2) c w ∧ SL true (Kint .u8) (m + 1) 0 c w A15 C16 l14 ∧ loop (fun (s_ : Int × (List Int)) => parcel_form.b1 s_.1 s_.2) n (i13, l14) = some x27) (k := k) ⟨a1, (List.replicate (0 : Int).toNat (0 : Int)), A7, C8, c5, F.sub ⟨rfl, rfl, trivial⟩, E, B, h10, HL⟩ ?_
 clear HL H E F B
 intro n24 X20 hX20 a w19 ⟨i13, l14, A15, C16, c18, F, E, B, h17, HL⟩
 obtain ⟨n25, ctl23, rfl, HB, HN21, HD22⟩ := loop_some HL
 have H : parcel_form.b1 i13 l14 = some ctl23 := HB
 clear HB HL
 unfold parcel_form.b1 at H
 refine wp_seq_k fun K28 hK28 => ?_
 refine wp_seq_k fun K29 hK29 => reg ?_
 refine qm F fun a F => ?_
 refine qv F (r_gtr F rfl rfl) fun a F => ?_
 refine nil (hK29 _ _ ?_)
 by_cases hb30 : 127 < i13
 ·replace H := ip hb30 H
  refine wp_cond_true (fb F (dt hb30)) (wp_skip (hK28 _ _ ?_))
  refine wp_block ?_
  refine wp_seq_k fun K31 hK31 => reg ?_
  refine qm F fun a F => ?_
  refine qm F fun a F => ?_
  refine qv F (r_convi F Try.underlying5 rfl rfl) fun a F => ?_
  refine qv F (r_or F rfl rfl) fun a F => ?_
  refine q_eff F rfl rfl (by decide) (e_buildSlice (n := 1) (e := 5) (c := c18) (k := (Kint .u8)) (i := 0) F [(0, .int .u8 (bor .u8 (IntKind.u8.wrap i13) 128))] [.int .u8 (bor .u8 (IntKind.u8.wrap i13) 128)] ([bor .u8 (IntKind.u8.wrap i13) 128] : List Int) (by exact ⟨rfl, rfl, trivial⟩) (fun w => by kernel_rfl) rfl (by decide) rfl ⟨rfl, trivial⟩ (fun q => q) 0) ?_
  rintro v w33 a ⟨c32, A34, C35, rfl, E36, h37, B38⟩ F
  replace B := B38 _ B (pl hm0)
  replace h17 := h17.ev E36 nq nq
  replace E := E.trans E36 nx
  replace H := ifN H
  obtain ⟨g39, H⟩ := H
  refine q_eff F rfl rfl (by decide) (e_append (k := (Kint .u8)) (xs := l14) (ys := [bor .u8 (IntKind.u8.wrap i13) 128]) (c := c32) (j := (m + 1)) (i := 0) F et_28 rfl rfl h17 h37 g39 (len_ok g39) ne_zm) ?_
  rintro v w41 a ⟨c40, A42, C43, rfl, E44, h45, B46⟩ F
  replace B := B46 _ B lm
  replace E := E.trans E44 lc1
  refine qa F fun a F => ?_
  refine nil (hK31 _ _ ?_)
  replace F : Fr a 20 [(0, .int .u64 i13), (3, .slice A42 (l14 ++ [bor .u8 (IntKind.u8.wrap i13) 128]).length C43)] := F.sub ⟨rfl, rfl, trivial⟩
  refine reg ?_
  refine qm F fun a F => ?_
  refine qv F (r_shr F rfl rfl (by decide)) fun a F => ?_
  refine qa F fun a F => ?_
  refine nil ?_
  replace H := HN21 _ (si H).symm
  exact hX20 _ _ _ (Nat.lt_succ_self _) ⟨(shr .u64 i13 7), (l14 ++ [bor .u8 (IntKind.u8.wrap i13) 128]), A42, C43, c40, F.sub ⟨rfl, rfl, trivial⟩, E, B, h45, H⟩
 replace H := im hb30 H
 refine wp_cond_false (fb F (dz hb30)) ?_
 refine wp_exit ?_
 refine thenE ?_
 refine thenE ?_
 refine inbE ?_
 have hx_ := HD22 _ (si H).symm
 have H := HR26
 rw [← hx_] at H
 exact J57 c18 w19 a i13 l14 A15 C16 (F.sub ⟨rfl, rfl, trivial⟩) E B h17 H
theorem parcel_Writer_Num.calls (k : Nat) {m : Nat} {c0 : Nat → Nat} {w0 : World} {j4 : Nat} {j5 : Nat} {p2 : Option Addr} {a1 : Option Wri} {a6 : Int} (hm0 : 0 < m) (B0 : CB m c0 w0) (h3 : WR j4 j5 c0 w0 p2 a1) (bj4 : 0 < j4 ∧ j4 < m) (bj5 : 0 < j5 ∧ j5 < m ∧ j5 ≠ j4) (r : (Option Wri)) (H : parcel_Writer_Num.f k a1 a6 = some r) : Calls Try.prog 54 #[.pointer p2, .int .u64 a6] w0 (fun e w_ => ∃ (c_ : Nat → Nat), e = .returned (.tuple #[]) ∧ Ev (fun x => (x = j4 ∨ x = j5)) c0 w0 c_ w_ ∧ CB m c_ w_ ∧ WR j4 j5 c_ w_ p2 r) := by
 unfold parcel_Writer_Num.f at H
 have B := B0.mono (show m ≤ m + 1 by omega)
 have E : Ev (fun x => (x = j4 ∨ x = j5) ∨ m ≤ x) c0 w0 c0 w0 := Ev.refl
 refine enter (N := 8) (l := [.pointer p2, .int .u64 a6]) Try.func54 rfl rfl (nb rfl) fun a F => ?_
 refine reg ?_
 refine qm F fun a F => ?_
 refine qm F fun a F => ?_
 obtain ⟨t7, q8, H⟩ := bind_some H
 refine qc F Try.func70 (parcel_form.calls k (m := m + 1) (pl hm0) B 0 (pl hm0) _ q8) ?_
 rintro e w10 ⟨c9, A13, C14, rfl, E11, B12, h15⟩
 refine ⟨_, rfl, fun a F => ?_⟩
 have B := B12
 replace h3 := h3.ev E11 nq nq nq
 replace E := E.trans E11 nx
 obtain ⟨t17, q18, H⟩ := bind_some H
 refine qc F Try.func68 (parcel_Writer_lay.calls (m := m + 1) (pl hm0) B h3 h15.r ⟨bj4.1, (Nat.lt_add_right _ bj4.2)⟩ ⟨bj5.1, (Nat.lt_add_right _ bj5.2.1), bj5.2.2⟩ _ q18) ?_
 rintro e w20 ⟨c19, rfl, E21, B22, h23⟩
 refine ⟨_, rfl, fun a F => ?_⟩
 have B := B22
 replace E := E.trans E21 (fun x (q : x = j4 ∨ x = j5) => q.elim (fun q => Or.inl (Or.inl q)) (fun q => Or.inl (Or.inr (q))))
 refine nil ?_
 replace H := si H
 subst H
 first | refine out0n F rfl ?_ | refine inbN (out0n F rfl ?_) | refine inbN (inbN (out0n F rfl ?_)) | refine inbN (inbN (inbN (out0n F rfl ?_)))
 exact ⟨cf (fun x_ => if x_ < m then x_ else 0) c19, rfl, E.lv B0, cfb, WR.rc h23 cfk cfk cfk⟩
end Go.Proofs.Ythankpjbfpcldaa.G
namespace Go.Proofs.Ythankpjbfpcldaa.G
open Go Go.RowKit
set_option linter.unusedVariables false
set_option linter.unusedSimpArgs false
set_option maxHeartbeats 1000000 in
theorem slices_Grow.calls {m : Nat} {c0 : Nat → Nat} {w0 : World} {n : Int} (hm0 : 0 < m) (B0 : CB m c0 w0) (h1 : SL false (Kint .u8) 0 0 c0 w0 none 0 ([] : List Int)) (jr : Nat) (bjr : jr < m) (r : List Int) (H : slices_Grow.f [] n = some r) :
    Calls Try.prog 91 #[.slice none 0 0, .int .i64 n] w0 (fun e w_ => ∃ (c_ : Nat → Nat) (A0_ : Option Addr) (C0_ : Nat), e = .returned (.slice A0_ r.length C0_) ∧ Ev (fun x => False) c0 w0 c_ w_ ∧ CB m c_ w_ ∧ SL true (Kint .u8) jr 0 c_ w_ A0_ C0_ r) := by
  unfold slices_Grow.f at H
  obtain ⟨⟨g0, g1, _⟩, H⟩ := ifN H
  have H := Option.some.inj H
  subst H
  have B := B0.mono (show m ≤ m + 2 by omega)
  have E : Ev (fun x => False ∨ m ≤ x) c0 w0 c0 w0 := Ev.refl
  refine enter (N := 27) (l := [.slice none 0 0, .int .i64 n]) Try.func91 rfl rfl (Nat.le_of_ble_eq_true rfl) fun a F => ?_
  refine wp_seq_k fun K1 hK1 => ?_
  refine reg ?_
  refine q_val F rfl rfl (by decide) (r_assign F rfl) fun a F => ?_
  refine nil ?_
  refine hK1 _ _ ?_
  refine wp_seq_k fun K2 hK2 => ?_
  refine wp_seq_k fun K3 hK3 => ?_
  refine reg ?_
  refine q_val F rfl rfl (by decide) (r_move F rfl) fun a F => ?_
  refine q_val F rfl rfl (by decide) (r_lss F rfl rfl) fun a F => ?_
  refine nil ?_
  refine hK3 _ _ ?_
  refine wp_cond_false ((F.ev rfl).trans (congrArg Value.bool (decide_eq_false (by omega)))) ?_
  refine wp_skip ?_
  refine hK2 _ _ ?_
  refine wp_seq_k fun K5 hK5 => ?_
  refine wp_seq_k fun K4 hK4 => ?_
  refine reg ?_
  refine q_val F rfl rfl (by decide) (r_move F rfl) fun a F => ?_
  refine q_val F rfl rfl (by decide) (r_move F rfl) fun a F => ?_
  refine q_val F rfl rfl (by decide) (r_capsl F Try.underlying28 rfl) fun a F => ?_
  refine q_val F rfl rfl (by decide) (r_move F rfl) fun a F => ?_
  refine q_val F rfl rfl (by decide) (r_lensl F Try.underlying28 rfl) fun a F => ?_
  refine q_val F rfl rfl (by decide) (r_sub F rfl rfl) fun a F => ?_
  refine q_val F rfl rfl (by decide) (r_sub F rfl rfl) fun a F => ?_
  have hw : IntKind.i64.wrap (n - IntKind.i64.wrap (((0 : Nat) : Int) - ((0 : Nat) : Int))) = n := by simp only [IntKind.wrap_i64]; omega
  rw [hw] at F
  refine q_val F rfl rfl (by decide) (r_assign F rfl) fun a F => ?_
  refine nil ?_
  refine hK4 _ _ ?_
  refine wp_seq_k fun K6 hK6 => ?_
  refine reg ?_
  refine q_val F rfl rfl (by decide) (r_move F rfl) fun a F => ?_
  refine q_val F rfl rfl (by decide) (r_gtr F rfl rfl) fun a F => ?_
  refine nil ?_
  refine hK6 _ _ ?_
  by_cases hn : 0 < n
  · refine wp_cond_true ((F.ev rfl).trans (congrArg Value.bool (decide_eq_true hn))) ?_
    obtain ⟨k, rfl⟩ := Int.eq_ofNat_of_zero_le g0
    refine reg ?_
    refine q_val F rfl rfl (by decide) (r_move F rfl) fun a F => ?_
    refine q_val F rfl rfl (by decide) (r_move F rfl) fun a F => ?_
    refine q_val F rfl rfl (by decide) (r_capsl F Try.underlying28 rfl) fun a F => ?_
    refine q_val F rfl rfl (by decide) (r_slice (A := none) (xs := ([] : List Int)) (cap := 0) (vl := none) (vh := some (.int .i64 ((0 : Nat) : Int))) (vm := none) F rfl rfl rfl rfl (v := .slice none 0 0) (fun w => by kernel_rfl)) fun a F => ?_
    refine q_val F rfl rfl (by decide) (r_move F rfl) fun a F => ?_
    refine q_eff F rfl rfl (by decide) (e_growz (k := Kint .u8) (x0 := (0 : Int)) (n := k) F et_28 Try.underlying3 rfl rfl (fun _ _ _ => rfl) (by omega) (by omega) (by unfold maxLen; omega) c0 (m + 1) 0) ?_
    rintro v w1 a ⟨c1, A1, C1, rfl, E1, h2, B1⟩ F
    have B := B1 _ B (by omega)
    have E := E.trans E1 (fun x q => q.elim)
    refine q_val F rfl rfl (by decide) (r_move F rfl) fun a F => ?_
    refine q_val F rfl rfl (by decide) (r_lensl F Try.underlying28 rfl) fun a F => ?_
    obtain ⟨A2, C2, hr, h3⟩ := cut_h (kh := .i64) Try.underlying28 sz_5 h2 (h := ((0 : Nat) : Int)) ⟨by omega, by omega⟩
    refine q_val F rfl rfl (by decide) (r_slice (vl := none) (vh := some (.int .i64 ((0 : Nat) : Int))) (vm := none) F rfl rfl rfl rfl hr) fun a F => ?_
    refine q_val F rfl rfl (by decide) (r_assign F rfl) fun a F => ?_
    refine nil ?_
    refine hK5 _ _ ?_
    refine wp_seq_k fun K7 hK7 => ?_
    refine reg ?_
    refine q_val F rfl rfl (by decide) (r_move F rfl) fun a F => ?_
    refine q_val F rfl rfl (by decide) (r_assign F rfl) fun a F => ?_
    refine nil ?_
    refine hK7 _ _ ?_
    refine wp_ret ?_
    refine out1 F rfl rfl ?_
    exact ⟨fun b_ => (fun x_ => if x_ = m + 1 then jr else if x_ < m then x_ else 0) (c1 b_), A2, C2, rfl, E.leave B0 (fun x_ => if x_ = m + 1 then jr else if x_ < m then x_ else 0) (by intro x_ hx_; show (if x_ = m + 1 then jr else if x_ < m then x_ else 0) = x_; ((repeat' split) <;> omega)), (fun b_ hb_ => by show (if (c1 b_) = m + 1 then jr else if (c1 b_) < m then (c1 b_) else 0) < m; ((repeat' split) <;> omega)),
      SL.rc h3 (fun k_ hk_ => by show (if (c1 k_) = m + 1 then jr else if (c1 k_) < m then (c1 k_) else 0) = _; rw [hk_]; ((repeat' split) <;> omega)) (fun k_ hk_ => by show (if (c1 k_) = m + 1 then jr else if (c1 k_) < m then (c1 k_) else 0) = _; rw [hk_]; ((repeat' split) <;> omega))⟩
  · refine wp_cond_false ((F.ev rfl).trans (congrArg Value.bool (decide_eq_false hn))) ?_
    refine wp_skip ?_
    refine hK5 _ _ ?_
    refine wp_seq_k fun K7 hK7 => ?_
    refine reg ?_
    refine q_val F rfl rfl (by decide) (r_move F rfl) fun a F => ?_
    refine q_val F rfl rfl (by decide) (r_assign F rfl) fun a F => ?_
    refine nil ?_
    refine hK7 _ _ ?_
    refine wp_ret ?_
    refine out1 F rfl rfl ?_
    exact ⟨c0, none, 0, rfl, Ev.refl, B0, SL.nil⟩
end Go.Proofs.Ythankpjbfpcldaa.G
namespace Go.Proofs.Ythankpjbfpcldaa.G
open Go Go.RowKit
set_option linter.unusedVariables false
set_option linter.unusedSimpArgs false
set_option maxRecDepth 100000
set_option maxHeartbeats 40000000
theorem slices_Concat.calls (k : Nat) {m : Nat} {c0 : Nat → Nat} {w0 : World} {j5 : Nat} {j6 : Nat} {A2 : Option Addr} {C3 : Nat} {a1 : List (List Int)} (hm0 : 0 < m) (B0 : CB m c0 w0) (h4 : SL false (Kslice (Kint .u8)) j5 j6 c0 w0 A2 C3 a1) (bj5 : j5 < m) (bj6 : j6 < m) (jr113 : Nat) (bjr113 : jr113 < m) (r : (List Int)) (H : slices_Concat.f k a1 = some r) : Calls Try.prog 69 #[.slice A2 a1.length C3] w0 (fun e w_ => ∃ (c_ : Nat → Nat) (A0_ : Option Addr) (C0_ : Nat), e = .returned (.slice A0_ r.length C0_) ∧ Ev (fun x => False) c0 w0 c_ w_ ∧ CB m c_ w_ ∧ SL true (Kint .u8) jr113 0 c_ w_ A0_ C0_ r) := by
 unfold slices_Concat.f at H
 have B := B0.mono (show m ≤ m + 2 by omega)
 have E : Ev (fun x => False ∨ m ≤ x) c0 w0 c0 w0 := Ev.refl
 refine enter (N := 36) (l := [.slice A2 a1.length C3]) Try.func69 rfl rfl (nb rfl) fun a F => ?_
 refine wp_seq_k fun K7 hK7 => reg ?_
 refine qa F fun a F => ?_
 refine nil (hK7 _ _ ?_)
 refine wp_seq_k fun K8 hK8 => reg ?_
 refine qa F fun a F => ?_
 refine nil (hK8 _ _ ?_)
 refine wp_seq_k fun K9 hK9 => ?_
 refine wp_seq_k fun K10 hK10 => reg ?_
 refine qm F fun a F => ?_
 refine qv F (r_lensl F Try.underlying60 rfl) fun a F => ?_
 refine qm F fun a F => ?_
 refine nil (hK10 _ _ ?_)
 refine wp_block ?_
 obtain ⟨x22, HL, HR21⟩ := bind_some H
 have J45 : ∀ (c46 : Nat → Nat) (w47 : World) (a : Act) (i44 : Int), Fr a 36 [(0, .slice A2 a1.length C3), (3, .int .i64 i44)] → Ev (fun x => False ∨ m ≤ x) c0 w0 c46 w47 → CB (m + 2) c46 w47 → SL false (Kslice (Kint .u8)) j5 j6 c46 w47 A2 C3 a1 → slices_Concat.j2 k a1 i44 = some r → K9 a w47 := by
  intro c46 w47 a i44 F E B h4 H
  unfold slices_Concat.j2 at H
  refine hK9 _ _ ?_
  refine wp_seq_k fun K48 hK48 => reg ?_
  refine qm F fun a F => ?_
  obtain ⟨t49, q50, H⟩ := bind_some H
  refine qc F Try.func91 (slices_Grow.calls (m := m + 2) (pl hm0) B SL.nil (m + 1) lm _ q50) ?_
  rintro e w52 ⟨c51, A55, C56, rfl, E53, B54, h57⟩
  refine ⟨_, rfl, fun a F => ?_⟩
  have B := B54
  replace h4 := h4.ev E53 nq nq
  replace E := E.trans E53 nx
  refine qa F fun a F => ?_
  refine nil (hK48 _ _ ?_)
  refine wp_seq_k fun K59 hK59 => ?_
  refine wp_seq_k fun K60 hK60 => reg ?_
  refine qm F fun a F => ?_
  refine qv F (r_lensl F Try.underlying60 rfl) fun a F => ?_
  refine qm F fun a F => ?_
  refine nil (hK60 _ _ ?_)
  refine wp_block ?_
  obtain ⟨x75, HL, HR74⟩ := bind_some H
  have J109 : ∀ (c110 : Nat → Nat) (w111 : World) (a : Act) (l106 : List Int) (A107 : Option Addr) (C108 : Nat), Fr a 36 [(6, .slice A107 l106.length C108)] → Ev (fun x => False ∨ m ≤ x) c0 w0 c110 w111 → CB (m + 2) c110 w111 → SL true (Kint .u8) (m + 1) 0 c110 w111 A107 C108 l106 → slices_Concat.j4 l106 = some r → K59 a w111 := by
   intro c110 w111 a l106 A107 C108 F E B h105 H
   unfold slices_Concat.j4 at H
   refine hK59 _ _ ?_
   refine wp_seq_k fun K112 hK112 => reg ?_
   refine qm F fun a F => ?_
   refine qa F fun a F => ?_
   refine nil (hK112 _ _ ?_)
   refine wp_ret ?_
   replace H := si H
   subst H
   refine out1 F rfl rfl ?_
   exact ⟨cf (fun x_ => if x_ = m + 1 then jr113 else if x_ < m then x_ else 0) c110, A107, C108, rfl, E.lv B0, cfb, SL.rc h105 cfk cfk⟩
  refine loop_fuel (I := fun n a w => ∃ (l61 : List Int) (A62 : Option Addr) (C63 : Nat) (i65 : Int) (c : Nat → Nat), Fr a 36 [(6, .slice A62 l61.length C63), (25, .slice A2 a1.length C3), (26, .int .i64 (a1.length : Int)), (27, .int .i64 i65)] ∧ Ev (fun x => False ∨ m ≤ x) c0 w0 c w ∧ CB (m + 2) c w ∧ SL false (Kslice (Kint .u8)) j5 j6 c w A2 C3 a1 ∧ SL true (Kint .u8) (m + 1) 0 c w A62 C63 l61 ∧ loop (fun (s_ : (List Int) × Int) => slices_Concat.b3 a1 s_.1 s_.2) n (l61, i65) = some x75) (k := k) ⟨t49, A55, C56, 0, c51, F.sub ⟨rfl, rfl, rfl, rfl, trivial⟩, E, B, h4, h57, HL⟩ ?_
  clear HL H E F B
  intro n72 X68 hX68 a w67 ⟨l61, A62, C63, i65, c66, F, E, B, h4, h64, HL⟩
  obtain ⟨n73, ctl71, rfl, HB, HN69, HD70⟩ := loop_some HL
  have H : slices_Concat.b3 a1 l61 i65 = some ctl71 := HB
  clear HB HL
  unfold slices_Concat.b3 at H
  refine wp_seq_k fun K76 hK76 => reg ?_
  refine qv F (r_lss F rfl rfl) fun a F => ?_
  refine nil (hK76 _ _ ?_)
  refine wp_seq_k fun K77 hK77 => ?_
  by_cases hb78 : i65 < (a1.length : Int)
  ·replace H := ip hb78 H
   refine wp_cond_true (fb F (dt hb78)) (wp_skip (hK77 _ _ ?_))
   refine wp_seq_k fun K79 hK79 => ?_
   refine wp_block ?_
   refine wp_seq_k fun K80 hK80 => reg ?_
   replace H := ifN H
   obtain ⟨g81, H⟩ := H
   obtain ⟨ad82, cs83, e84, h85, r86⟩ := SL.at h4 i65 g81.1 g81.2
   obtain ⟨A87, C88, rfl, h89⟩ := r86
   replace h89 := SL.fl (i' := 0) h89 (fun q => q)
   obtain ⟨qa90, qqa90⟩ : ∃ q, q = (ad82.add (i65.toNat * 1)) := ⟨_, rfl⟩
   have h85 : AT false j5 c66 w67 qa90 [.slice A87 (rd a1 i65).length C88] := by rw [qqa90]; exact h85
   refine qv F (r_indexAddr' F Try.underlying60 sz_28 rfl rfl g81.1 g81.2 e84 qqa90) fun a F => ?_
   refine qv F (r_load F rfl ag_28 (AT.cell0 h85 rfl)) fun a F => ?_
   refine qa F fun a F => ?_
   refine nil (hK80 _ _ ?_)
   refine reg ?_
   refine qm F fun a F => ?_
   refine qm F fun a F => ?_
   replace H := ifN H
   obtain ⟨g92, H⟩ := H
   refine q_eff F rfl rfl (by decide) (e_append (k := (Kint .u8)) (xs := l61) (ys := (rd a1 i65)) (c := c66) (j := (m + 1)) (i := 0) F et_28 rfl rfl h64 h89 g92 (len_ok g92) ne_zm) ?_
   rintro v w94 a ⟨c93, A95, C96, rfl, E97, h98, B99⟩ F
   replace B := B99 _ B lm
   replace h4 := h4.ev E97 (ne_pm bj5) (ne_pm bj6)
   replace E := E.trans E97 lc1
   refine qa F fun a F => ?_
   refine nil (hK79 _ _ ?_)
   refine reg ?_
   refine qv F (r_add F rfl rfl) fun a F => ?_
   refine qm F fun a F => ?_
   refine nil ?_
   replace H := HN69 _ (si H).symm
   exact hX68 _ _ _ (Nat.lt_succ_self _) ⟨(l61 ++ (rd a1 i65)), A95, C96, (IntKind.i64.wrap (i65 + 1)), c93, F.sub ⟨rfl, rfl, rfl, rfl, trivial⟩, E, B, h4, h98, H⟩
  replace H := im hb78 H
  refine wp_cond_false (fb F (dz hb78)) ?_
  refine wp_exit ?_
  refine thenE ?_
  refine thenE ?_
  refine inbE ?_
  have hx_ := HD70 _ (si H).symm
  have H := HR74
  rw [← hx_] at H
  exact J109 c66 w67 a l61 A62 C63 (F.sub ⟨rfl, trivial⟩) E B h64 H
 refine loop_fuel (I := fun n a w => ∃ (i11 : Int) (i12 : Int) (c : Nat → Nat), Fr a 36 [(0, .slice A2 a1.length C3), (3, .int .i64 i11), (9, .slice A2 a1.length C3), (10, .int .i64 (a1.length : Int)), (11, .int .i64 i12)] ∧ Ev (fun x => False ∨ m ≤ x) c0 w0 c w ∧ CB (m + 2) c w ∧ SL false (Kslice (Kint .u8)) j5 j6 c w A2 C3 a1 ∧ loop (fun (s_ : Int × Int) => slices_Concat.b1 a1 s_.1 s_.2) n (i11, i12) = some x22) (k := k) ⟨0, 0, c0, F.sub ⟨rfl, rfl, rfl, rfl, rfl, trivial⟩, E, B, h4, HL⟩ ?_
 clear HL H E F B
 intro n19 X15 hX15 a w14 ⟨i11, i12, c13, F, E, B, h4, HL⟩
 obtain ⟨n20, ctl18, rfl, HB, HN16, HD17⟩ := loop_some HL
 have H : slices_Concat.b1 a1 i11 i12 = some ctl18 := HB
 clear HB HL
 unfold slices_Concat.b1 at H
 refine wp_seq_k fun K23 hK23 => reg ?_
 refine qv F (r_lss F rfl rfl) fun a F => ?_
 refine nil (hK23 _ _ ?_)
 refine wp_seq_k fun K24 hK24 => ?_
 by_cases hb25 : i12 < (a1.length : Int)
 ·replace H := ip hb25 H
  refine wp_cond_true (fb F (dt hb25)) (wp_skip (hK24 _ _ ?_))
  refine wp_seq_k fun K26 hK26 => ?_
  refine wp_block ?_
  refine wp_seq_k fun K27 hK27 => reg ?_
  replace H := ifN H
  obtain ⟨g28, H⟩ := H
  obtain ⟨ad29, cs30, e31, h32, r33⟩ := SL.at h4 i12 g28.1 g28.2
  obtain ⟨A34, C35, rfl, h36⟩ := r33
  obtain ⟨qa37, qqa37⟩ : ∃ q, q = (ad29.add (i12.toNat * 1)) := ⟨_, rfl⟩
  have h32 : AT false j5 c13 w14 qa37 [.slice A34 (rd a1 i12).length C35] := by rw [qqa37]; exact h32
  refine qv F (r_indexAddr' F Try.underlying60 sz_28 rfl rfl g28.1 g28.2 e31 qqa37) fun a F => ?_
  refine qv F (r_load F rfl ag_28 (AT.cell0 h32 rfl)) fun a F => ?_
  refine qa F fun a F => ?_
  refine nil (hK27 _ _ ?_)
  refine wp_seq_k fun K39 hK39 => reg ?_
  refine qm F fun a F => ?_
  refine qm F fun a F => ?_
  refine qv F (r_lensl F Try.underlying28 rfl) fun a F => ?_
  refine qv F (r_add F rfl rfl) fun a F => ?_
  refine qa F fun a F => ?_
  refine nil (hK39 _ _ ?_)
  replace F : Fr a 36 [(0, .slice A2 a1.length C3), (3, .int .i64 (IntKind.i64.wrap (i11 + ((rd a1 i12).length : Int)))), (9, .slice A2 a1.length C3), (10, .int .i64 (a1.length : Int)), (11, .int .i64 i12)] := F.sub ⟨rfl, rfl, rfl, rfl, rfl, trivial⟩
  refine wp_seq_k fun K40 hK40 => reg ?_
  refine qm F fun a F => ?_
  refine qv F (r_lss F rfl rfl) fun a F => ?_
  refine nil (hK40 _ _ ?_)
  by_cases hb41 : (IntKind.i64.wrap (i11 + ((rd a1 i12).length : Int))) < 0
  ·replace H := ip hb41 H
   refine wp_cond_true (fb F (dt hb41)) ?_
   refine reg ?_
   cases H
  replace H := im hb41 H
  refine wp_cond_false (fb F (dz hb41)) (wp_skip (hK26 _ _ ?_))
  refine reg ?_
  refine qv F (r_add F rfl rfl) fun a F => ?_
  refine qm F fun a F => ?_
  refine nil ?_
  replace H := HN16 _ (si H).symm
  exact hX15 _ _ _ (Nat.lt_succ_self _) ⟨(IntKind.i64.wrap (i11 + ((rd a1 i12).length : Int))), (IntKind.i64.wrap (i12 + 1)), c13, F.sub ⟨rfl, rfl, rfl, rfl, rfl, trivial⟩, E, B, h4, H⟩
 replace H := im hb25 H
 refine wp_cond_false (fb F (dz hb25)) ?_
 refine wp_exit ?_
 refine thenE ?_
 refine thenE ?_
 refine inbE ?_
 have hx_ := HD17 _ (si H).symm
 have H := HR21
 rw [← hx_] at H
 exact J45 c13 w14 a i11 (F.sub ⟨rfl, rfl, trivial⟩) E B h4 H
theorem parcel_Writer_Text.calls (k : Nat) {m : Nat} {c0 : Nat → Nat} {w0 : World} {j4 : Nat} {j5 : Nat} {p2 : Option Addr} {A7 : Option Addr} {C8 : Nat} {a1 : Option Wri} {a6 : List Int} (hm0 : 0 < m) (B0 : CB m c0 w0) (h3 : WR j4 j5 c0 w0 p2 a1) (h9 : SL false (Kint .u8) 0 0 c0 w0 A7 C8 a6) (bj4 : 0 < j4 ∧ j4 < m) (bj5 : 0 < j5 ∧ j5 < m ∧ j5 ≠ j4) (r : (Option Wri)) (H : parcel_Writer_Text.f k a1 a6 = some r) : Calls Try.prog 47 #[.pointer p2, .slice A7 a6.length C8] w0 (fun e w_ => ∃ (c_ : Nat → Nat), e = .returned (.tuple #[]) ∧ Ev (fun x => (x = j4 ∨ x = j5)) c0 w0 c_ w_ ∧ CB m c_ w_ ∧ WR j4 j5 c_ w_ p2 r) := by
 unfold parcel_Writer_Text.f at H
 have B := B0.mono (show m ≤ m + 1 by omega)
 have E : Ev (fun x => (x = j4 ∨ x = j5) ∨ m ≤ x) c0 w0 c0 w0 := Ev.refl
 refine enter (N := 13) (l := [.pointer p2, .slice A7 a6.length C8]) Try.func47 rfl rfl (nb rfl) fun a F => ?_
 refine reg ?_
 refine qm F fun a F => ?_
 refine qm F fun a F => ?_
 refine qv F (r_lensl F Try.underlying28 rfl) fun a F => ?_
 refine qv F (r_convi F Try.underlying55 rfl rfl) fun a F => ?_
 obtain ⟨t10, q11, H⟩ := bind_some H
 refine qc F Try.func70 (parcel_form.calls k (m := m + 1) (pl hm0) B 0 (pl hm0) _ q11) ?_
 rintro e w13 ⟨c12, A16, C17, rfl, E14, B15, h18⟩
 refine ⟨_, rfl, fun a F => ?_⟩
 have B := B15
 replace h3 := h3.ev E14 nq nq nq
 replace h9 := h9.ev E14 nq nq
 replace E := E.trans E14 nx
 refine qm F fun a F => ?_
 refine q_eff F rfl rfl (by decide) (e_buildSlice (n := 2) (e := 28) (c := c12) (k := (Kslice (Kint .u8))) (i := 0) F [(0, .slice A16 t10.length C17), (1, .slice A7 a6.length C8)] [.slice A16 t10.length C17, .slice A7 a6.length C8] ([t10, a6] : List (List Int)) (by exact ⟨rfl, rfl, rfl, rfl, trivial⟩) (fun w => by kernel_rfl) rfl (by decide) rfl ⟨⟨A16, C17, rfl, (SL.fl h18.r (fun q => q))⟩, ⟨A7, C8, rfl, (SL.fl h9 (fun q => q))⟩, trivial⟩ (fun q => q) 0) ?_
 rintro v w21 a ⟨c20, A22, C23, rfl, E24, h25, B26⟩ F
 replace B := B26 _ B (pl hm0)
 replace h3 := h3.ev E24 nq nq nq
 replace E := E.trans E24 nx
 obtain ⟨t27, q28, H⟩ := bind_some H
 refine qc F Try.func69 (slices_Concat.calls k (m := m + 1) (pl hm0) B h25.r (pl hm0) (pl hm0) 0 (pl hm0) _ q28) ?_
 rintro e w30 ⟨c29, A33, C34, rfl, E31, B32, h35⟩
 refine ⟨_, rfl, fun a F => ?_⟩
 have B := B32
 replace h3 := h3.ev E31 nq nq nq
 replace E := E.trans E31 nx
 obtain ⟨t37, q38, H⟩ := bind_some H
 refine qc F Try.func68 (parcel_Writer_lay.calls (m := m + 1) (pl hm0) B h3 h35.r ⟨bj4.1, (Nat.lt_add_right _ bj4.2)⟩ ⟨bj5.1, (Nat.lt_add_right _ bj5.2.1), bj5.2.2⟩ _ q38) ?_
 rintro e w40 ⟨c39, rfl, E41, B42, h43⟩
 refine ⟨_, rfl, fun a F => ?_⟩
 have B := B42
 replace E := E.trans E41 (fun x (q : x = j4 ∨ x = j5) => q.elim (fun q => Or.inl (Or.inl q)) (fun q => Or.inl (Or.inr (q))))
 refine nil ?_
 replace H := si H
 subst H
 first | refine out0n F rfl ?_ | refine inbN (out0n F rfl ?_) | refine inbN (inbN (out0n F rfl ?_)) | refine inbN (inbN (inbN (out0n F rfl ?_)))
 exact ⟨cf (fun x_ => if x_ < m then x_ else 0) c39, rfl, E.lv B0, cfb, WR.rc h43 cfk cfk cfk⟩
theorem shard_seats_lay.calls (k : Nat) {m : Nat} {c0 : Nat → Nat} {w0 : World} {j4 : Nat} {j8 : Nat} {j9 : Nat} {p2 : Option Addr} {p6 : Option Addr} {a1 : List api_Seat} {a5 : Option Wri} (hm0 : 0 < m) (B0 : CB m c0 w0) (h3 : SE j4 c0 w0 p2 a1) (h7 : WR j8 j9 c0 w0 p6 a5) (bj4 : j4 < m ∧ j4 ≠ j8 ∧ j4 ≠ j9) (bj8 : 0 < j8 ∧ j8 < m) (bj9 : 0 < j9 ∧ j9 < m ∧ j9 ≠ j8) (r : (Option Wri)) (H : shard_seats_lay.f k a1 a5 = some r) : Calls Try.prog 49 #[.pointer p2, .pointer p6] w0 (fun e w_ => ∃ (c_ : Nat → Nat), e = .returned (.tuple #[]) ∧ Ev (fun x => (x = j8 ∨ x = j9)) c0 w0 c_ w_ ∧ CB m c_ w_ ∧ WR j8 j9 c_ w_ p6 r) := by
 unfold shard_seats_lay.f at H
 have B := B0.mono (show m ≤ m + 3 by omega)
 have E : Ev (fun x => (x = j8 ∨ x = j9) ∨ m ≤ x) c0 w0 c0 w0 := Ev.refl
 refine enter (N := 76) (l := [.pointer p2, .pointer p6]) Try.func49 rfl rfl (nb rfl) fun a F => ?_
 refine wp_seq_k fun K10 hK10 => reg ?_
 refine qa F fun a F => ?_
 refine nil (hK10 _ _ ?_)
 refine wp_seq_k fun K11 hK11 => ?_
 refine wp_seq_k fun K12 hK12 => reg ?_
 refine qm F fun a F => ?_
 have z15 := h3
 obtain ⟨ad13, cs14, rfl, hat16, h17⟩ := z15
 refine qv F (r_nil F rfl) fun a F => ?_
 refine qm F fun a F => ?_
 refine nil (hK12 _ _ ?_)
 refine wp_block ?_
 obtain ⟨x30, HL, HR29⟩ := bind_some H
 have J64 : ∀ (c65 : Nat → Nat) (w66 : World) (a : Act) (i63 : Int), Fr a 76 [(0, .pointer (some ad13)), (1, .pointer p6), (4, .int .i64 i63)] → Ev (fun x => (x = j8 ∨ x = j9) ∨ m ≤ x) c0 w0 c65 w66 → CB (m + 3) c65 w66 → AT false j4 c65 w66 ad13 (([] : List Value) ++ (cs14 ++ (([] : List Value)))) → AR K_api_Seat 0 c65 w66 cs14 16 a1 → WR j8 j9 c65 w66 p6 a5 → shard_seats_lay.j2 k a1 a5 i63 = some r → K11 a w66 := by
  intro c65 w66 a i63 F E B hat16 h17 h7 H
  unfold shard_seats_lay.j2 at H
  refine hK11 _ _ ?_
  refine wp_seq_k fun K67 hK67 => reg ?_
  refine qm F fun a F => ?_
  refine qm F fun a F => ?_
  refine qv F (r_convi F Try.underlying55 rfl rfl) fun a F => ?_
  obtain ⟨t68, q69, H⟩ := bind_some H
  refine qc F Try.func54 (parcel_Writer_Num.calls k (m := m + 3) (pl hm0) B h7 ⟨bj8.1, (Nat.lt_add_right _ bj8.2)⟩ ⟨bj9.1, (Nat.lt_add_right _ bj9.2.1), bj9.2.2⟩ _ q69) ?_
  rintro e w71 ⟨c70, rfl, E72, B73, h74⟩
  refine ⟨_, rfl, fun a F => ?_⟩
  have B := B73
  replace hat16 := hat16.ev E72 (nor bj4.2.1 bj4.2.2)
  replace h17 := h17.ev E72 (nor (ne_z bj8.1) (ne_z bj9.1))
  replace E := E.trans E72 (fun x (q : x = j8 ∨ x = j9) => q.elim (fun q => Or.inl (Or.inl q)) (fun q => Or.inl (Or.inr (q))))
  refine nil (hK67 _ _ ?_)
  refine wp_seq_k fun K76 hK76 => reg ?_
  refine qm F fun a F => ?_
  refine qv F (r_nil F rfl) fun a F => ?_
  refine qm F fun a F => ?_
  refine nil (hK76 _ _ ?_)
  refine wp_block ?_
  obtain ⟨x210, HL, HR209⟩ := bind_some H
  have J307 : ∀ (c308 : Nat → Nat) (w309 : World) (a : Act) (o306 : Option Wri), Fr a 76 [] → Ev (fun x => (x = j8 ∨ x = j9) ∨ m ≤ x) c0 w0 c308 w309 → CB (m + 3) c308 w309 → WR j8 j9 c308 w309 p6 o306 → shard_seats_lay.j6 o306 = some r → (bodyPost Try.prog Try.f49 (fun e w_ => ∃ (c_ : Nat → Nat), e = .returned (.tuple #[]) ∧ Ev (fun x => (x = j8 ∨ x = j9)) c0 w0 c_ w_ ∧ CB m c_ w_ ∧ WR j8 j9 c_ w_ p6 r) .normal) a w309 := by
   intro c308 w309 a o306 F E B h305 H
   unfold shard_seats_lay.j6 at H
   replace H := si H
   subst H
   first | refine out0n F rfl ?_ | refine inbN (out0n F rfl ?_) | refine inbN (inbN (out0n F rfl ?_)) | refine inbN (inbN (inbN (out0n F rfl ?_)))
   exact ⟨cf (fun x_ => if x_ < m then x_ else 0) c308, rfl, E.lv B0, cfb, WR.rc h305 cfk cfk cfk⟩
  refine loop_fuel (I := fun n a w => ∃ (o199 : Option Wri) (i200 : Int) (c : Nat → Nat), Fr a 76 [(1, .pointer p6), (26, .pointer (some ad13)), (28, .int .i64 i200)] ∧ Ev (fun x => (x = j8 ∨ x = j9) ∨ m ≤ x) c0 w0 c w ∧ CB (m + 3) c w ∧ AT false j4 c w ad13 (([] : List Value) ++ (cs14 ++ (([] : List Value)))) ∧ AR K_api_Seat 0 c w cs14 16 a1 ∧ WR j8 j9 c w p6 o199 ∧ loop (fun (s_ : (Option Wri) × Int) => shard_seats_lay.b5 k a1 s_.1 s_.2) n (o199, i200) = some x210) (k := k) ⟨t68, 0, c70, F.sub ⟨rfl, rfl, rfl, trivial⟩, E, B, hat16, h17, h74, HL⟩ ?_
  clear HL H E F B
  intro n207 X203 hX203 a w202 ⟨o199, i200, c201, F, E, B, hat16, h17, h198, HL⟩
  obtain ⟨n208, ctl206, rfl, HB, HN204, HD205⟩ := loop_some HL
  have H : shard_seats_lay.b5 k a1 o199 i200 = some ctl206 := HB
  clear HB HL
  unfold shard_seats_lay.b5 at H
  refine wp_seq_k fun K211 hK211 => reg ?_
  refine qv F (r_lss F rfl rfl) fun a F => ?_
  refine nil (hK211 _ _ ?_)
  refine wp_seq_k fun K212 hK212 => ?_
  by_cases hb213 : i200 < 16
  ·replace H := ip hb213 H
   refine wp_cond_true (fb F (dt hb213)) (wp_skip (hK212 _ _ ?_))
   refine wp_seq_k fun K214 hK214 => ?_
   refine wp_block ?_
   refine wp_seq_k fun K215 hK215 => reg ?_
   refine qv F (r_nil F rfl) fun a F => ?_
   replace H := ifN H
   obtain ⟨g216, H⟩ := H
   obtain ⟨cs218, h219, r220⟩ := AR.at (off := 0) hat16 rfl h17 i200 g216.1 (by have g_ := g216.2; omega)
   obtain ⟨A222, C223, A225, C226, rfl, h224, h227⟩ := r220
   replace h224 := SL.fl (i' := 0) h224 (fun q => q)
   replace h227 := SL.fl (i' := 0) h227 (fun q => q)
   obtain ⟨qa221, qqa221⟩ : ∃ q, q = (ad13.add (0 + i200.toNat * 7)) := ⟨_, rfl⟩
   have h219 : AT false j4 c201 w202 qa221 [.int .i64 ((rd a1 i200).Client), .int .i64 ((rd a1 i200).Seq), .bool (((rd a1 i200).Answer).Done), .slice A222 (((rd a1 i200).Answer).Key).length C223, .slice A225 (((rd a1 i200).Answer).Value).length C226, .int .i64 (((rd a1 i200).Answer).Rev), .int .i64 (((rd a1 i200).Answer).At)] := by rw [qqa221]; exact h219
   refine qv F (r_indexArr0 F ua_74 sz_36 rfl rfl g216.1 (by have g_ := g216.2; omega) qqa221) fun a F => ?_
   refine qv F (r_loads (cs := [.int .i64 ((rd a1 i200).Client), .int .i64 ((rd a1 i200).Seq), .bool (((rd a1 i200).Answer).Done), .slice A222 (((rd a1 i200).Answer).Key).length C223, .slice A225 (((rd a1 i200).Answer).Value).length C226, .int .i64 (((rd a1 i200).Answer).Rev), .int .i64 (((rd a1 i200).Answer).At)]) F rfl ag_36 sz_36 h219) fun a F => ?_
   refine q_eff F rfl rfl (by decide) (e_alloc F zv_36 c201 (m + 2)) ?_
   rintro v w230 a ⟨c229, qa108, rfl, E231, h110, B232⟩ F
   replace B := B232 _ B lm
   replace hat16 := hat16.ev E231 nq
   replace h17 := h17.ev E231 nq
   replace h198 := h198.ev E231 nq nq nq
   replace h224 := h224.ev E231 nq nq
   replace h227 := h227.ev E231 nq nq
   replace E := E.trans E231 nx
   replace h110 : AT true (m + 2) c229 w230 qa108 [.int .i64 0, .int .i64 0, .bool false, .slice none 0 0, .slice none 0 0, .int .i64 0, .int .i64 0] := h110
   refine q_eff0 F rfl rfl (e_storeN0 (us := [.int .i64 ((rd a1 i200).Client), .int .i64 ((rd a1 i200).Seq), .bool (((rd a1 i200).Answer).Done), .slice A222 (((rd a1 i200).Answer).Key).length C223, .slice A225 (((rd a1 i200).Answer).Value).length C226, .int .i64 (((rd a1 i200).Answer).Rev), .int .i64 (((rd a1 i200).Answer).At)]) F rfl rfl sz_36 h110 (nb rfl) (one_all rfl)) ?_
   rintro w233 a ⟨E234, h110, Z235⟩ F
   replace B := B.size Z235
   replace hat16 := hat16.ev E234 (ne_pm bj4.1)
   replace h17 := h17.ev E234 ne_zm
   replace h198 := h198.ev E234 (ne_pm bj8.2) (ne_pm bj9.2.1) ne_zm
   replace h224 := h224.ev E234 ne_zm ne_zm
   replace h227 := h227.ev E234 ne_zm ne_zm
   replace E := E.trans E234 lc1
   replace h110 : AT true (m + 2) c229 w233 qa108 [.int .i64 ((rd a1 i200).Client), .int .i64 ((rd a1 i200).Seq), .bool (((rd a1 i200).Answer).Done), .slice A222 (((rd a1 i200).Answer).Key).length C223, .slice A225 (((rd a1 i200).Answer).Value).length C226, .int .i64 (((rd a1 i200).Answer).Rev), .int .i64 (((rd a1 i200).Answer).At)] := h110
   refine nil (hK215 _ _ ?_)
   refine wp_seq_k fun K236 hK236 => ?_
   refine wp_seq_k fun K237 hK237 => reg ?_
   refine qf F ff_36_1 fun a F => ?_
   refine qv F (r_load F rfl ag_3 (AT.cell h110 rfl)) fun a F => ?_
   refine qv F (r_eql F rfl rfl) fun a F => ?_
   refine nil (hK237 _ _ ?_)
   by_cases hb238 : ((rd a1 i200).Seq) = 0
   ·replace H := ip hb238 H
    refine wp_cond_true (fb F (dt hb238)) ?_
    refine wp_exit ?_
    refine thenE ?_
    refine inbE ?_
    refine hK214 _ _ ?_
    replace F : Fr a 76 [(1, .pointer p6), (26, .pointer (some ad13)), (28, .int .i64 i200)] := F.sub ⟨rfl, rfl, rfl, trivial⟩
    refine reg ?_
    refine qv F (r_add F rfl rfl) fun a F => ?_
    refine qm F fun a F => ?_
    refine nil ?_
    replace H := HN204 _ (si H).symm
    exact hX203 _ _ _ (Nat.lt_succ_self _) ⟨o199, (IntKind.i64.wrap (i200 + 1)), c229, F.sub ⟨rfl, rfl, rfl, trivial⟩, E, B, hat16, h17, h198, H⟩
   replace H := im hb238 H
   refine wp_cond_false (fb F (dz hb238)) (wp_skip (hK236 _ _ ?_))
   refine wp_seq_k fun K239 hK239 => reg ?_
   refine qm F fun a F => ?_
   refine qf F ff_36_0 fun a F => ?_
   refine qv F (r_load F rfl ag_3 (AT.cell h110 rfl)) fun a F => ?_
   refine qv F (r_convi F Try.underlying55 rfl rfl) fun a F => ?_
   obtain ⟨t120, q121, H⟩ := bind_some H
   refine qc F Try.func54 (parcel_Writer_Num.calls k (m := m + 3) (pl hm0) B h198 ⟨bj8.1, (Nat.lt_add_right _ bj8.2)⟩ ⟨bj9.1, (Nat.lt_add_right _ bj9.2.1), bj9.2.2⟩ _ q121) ?_
   rintro e w241 ⟨c240, rfl, E242, B243, h244⟩
   refine ⟨_, rfl, fun a F => ?_⟩
   have B := B243
   replace hat16 := hat16.ev E242 (nor bj4.2.1 bj4.2.2)
   replace h17 := h17.ev E242 (nor (ne_z bj8.1) (ne_z bj9.1))
   replace h224 := h224.ev E242 (nor (ne_z bj8.1) (ne_z bj9.1)) (nor (ne_z bj8.1) (ne_z bj9.1))
   replace h227 := h227.ev E242 (nor (ne_z bj8.1) (ne_z bj9.1)) (nor (ne_z bj8.1) (ne_z bj9.1))
   replace h110 := h110.ev E242 (nor (ne_mp bj8.2) (ne_mp bj9.2.1))
   replace E := E.trans E242 (fun x (q : x = j8 ∨ x = j9) => q.elim (fun q => Or.inl (Or.inl q)) (fun q => Or.inl (Or.inr (q))))
   refine nil (hK239 _ _ ?_)
   replace F : Fr a 76 [(1, .pointer p6), (8, .pointer (some qa108)), (26, .pointer (some ad13)), (28, .int .i64 i200)] := F.sub ⟨rfl, rfl, rfl, rfl, trivial⟩
   refine wp_seq_k fun K246 hK246 => reg ?_
   refine qm F fun a F => ?_
   refine qf F ff_36_1 fun a F => ?_
   refine qv F (r_load F rfl ag_3 (AT.cell h110 rfl)) fun a F => ?_
   refine qv F (r_convi F Try.underlying55 rfl rfl) fun a F => ?_
   obtain ⟨t129, q130, H⟩ := bind_some H
   refine qc F Try.func54 (parcel_Writer_Num.calls k (m := m + 3) (pl hm0) B h244 ⟨bj8.1, (Nat.lt_add_right _ bj8.2)⟩ ⟨bj9.1, (Nat.lt_add_right _ bj9.2.1), bj9.2.2⟩ _ q130) ?_
   rintro e w248 ⟨c247, rfl, E249, B250, h251⟩
   refine ⟨_, rfl, fun a F => ?_⟩
   have B := B250
   replace hat16 := hat16.ev E249 (nor bj4.2.1 bj4.2.2)
   replace h17 := h17.ev E249 (nor (ne_z bj8.1) (ne_z bj9.1))
   replace h224 := h224.ev E249 (nor (ne_z bj8.1) (ne_z bj9.1)) (nor (ne_z bj8.1) (ne_z bj9.1))
   replace h227 := h227.ev E249 (nor (ne_z bj8.1) (ne_z bj9.1)) (nor (ne_z bj8.1) (ne_z bj9.1))
   replace h110 := h110.ev E249 (nor (ne_mp bj8.2) (ne_mp bj9.2.1))
   replace E := E.trans E249 (fun x (q : x = j8 ∨ x = j9) => q.elim (fun q => Or.inl (Or.inl q)) (fun q => Or.inl (Or.inr (q))))
   refine nil (hK246 _ _ ?_)
   refine wp_seq_k fun K253 hK253 => ?_
   have J271 : ∀ (c272 : Nat → Nat) (w273 : World) (a : Act) (o270 : Option Wri), Fr a 76 [(1, .pointer p6), (8, .pointer (some qa108)), (26, .pointer (some ad13)), (28, .int .i64 i200)] → Ev (fun x => (x = j8 ∨ x = j9) ∨ m ≤ x) c0 w0 c272 w273 → CB (m + 3) c272 w273 → AT true (m + 2) c272 w273 qa108 [.int .i64 ((rd a1 i200).Client), .int .i64 ((rd a1 i200).Seq), .bool (((rd a1 i200).Answer).Done), .slice A222 (((rd a1 i200).Answer).Key).length C223, .slice A225 (((rd a1 i200).Answer).Value).length C226, .int .i64 (((rd a1 i200).Answer).Rev), .int .i64 (((rd a1 i200).Answer).At)] → AT false j4 c272 w273 ad13 (([] : List Value) ++ (cs14 ++ (([] : List Value)))) → SL false (Kint .u8) 0 0 c272 w273 A222 C223 (((rd a1 i200).Answer).Key) → SL false (Kint .u8) 0 0 c272 w273 A225 C226 (((rd a1 i200).Answer).Value) → AR K_api_Seat 0 c272 w273 cs14 16 a1 → WR j8 j9 c272 w273 p6 o270 → shard_seats_lay.j4 k a1 i200 o270 = some ctl206 → K253 a w273 := by
    intro c272 w273 a o270 F E B h110 hat16 h224 h227 h17 h269 H
    unfold shard_seats_lay.j4 at H
    refine hK253 _ _ ?_
    refine wp_seq_k fun K274 hK274 => reg ?_
    refine qm F fun a F => ?_
    refine qf F ff_36_2 fun a F => ?_
    refine qv F (r_fieldAddr2 F h110 rfl ff_34_1) fun a F => ?_
    refine qv F (r_load F rfl ag_28 (AT.cell h110 rfl)) fun a F => ?_
    obtain ⟨t163, q164, H⟩ := bind_some H
    refine qc F Try.func47 (parcel_Writer_Text.calls k (m := m + 3) (pl hm0) B h269 h224 ⟨bj8.1, (Nat.lt_add_right _ bj8.2)⟩ ⟨bj9.1, (Nat.lt_add_right _ bj9.2.1), bj9.2.2⟩ _ q164) ?_
    rintro e w276 ⟨c275, rfl, E277, B278, h279⟩
    refine ⟨_, rfl, fun a F => ?_⟩
    have B := B278
    replace h110 := h110.ev E277 (nor (ne_mp bj8.2) (ne_mp bj9.2.1))
    replace hat16 := hat16.ev E277 (nor bj4.2.1 bj4.2.2)
    replace h227 := h227.ev E277 (nor (ne_z bj8.1) (ne_z bj9.1)) (nor (ne_z bj8.1) (ne_z bj9.1))
    replace h17 := h17.ev E277 (nor (ne_z bj8.1) (ne_z bj9.1))
    replace E := E.trans E277 (fun x (q : x = j8 ∨ x = j9) => q.elim (fun q => Or.inl (Or.inl q)) (fun q => Or.inl (Or.inr (q))))
    refine nil (hK274 _ _ ?_)
    refine wp_seq_k fun K281 hK281 => reg ?_
    refine qm F fun a F => ?_
    refine qf F ff_36_2 fun a F => ?_
    refine qv F (r_fieldAddr2 F h110 rfl ff_34_2) fun a F => ?_
    refine qv F (r_load F rfl ag_28 (AT.cell h110 rfl)) fun a F => ?_
    obtain ⟨t172, q173, H⟩ := bind_some H
    refine qc F Try.func47 (parcel_Writer_Text.calls k (m := m + 3) (pl hm0) B h279 h227 ⟨bj8.1, (Nat.lt_add_right _ bj8.2)⟩ ⟨bj9.1, (Nat.lt_add_right _ bj9.2.1), bj9.2.2⟩ _ q173) ?_
    rintro e w283 ⟨c282, rfl, E284, B285, h286⟩
    refine ⟨_, rfl, fun a F => ?_⟩
    have B := B285
    replace h110 := h110.ev E284 (nor (ne_mp bj8.2) (ne_mp bj9.2.1))
    replace hat16 := hat16.ev E284 (nor bj4.2.1 bj4.2.2)
    replace h17 := h17.ev E284 (nor (ne_z bj8.1) (ne_z bj9.1))
    replace E := E.trans E284 (fun x (q : x = j8 ∨ x = j9) => q.elim (fun q => Or.inl (Or.inl q)) (fun q => Or.inl (Or.inr (q))))
    refine nil (hK281 _ _ ?_)
    replace F : Fr a 76 [(1, .pointer p6), (8, .pointer (some qa108)), (26, .pointer (some ad13)), (28, .int .i64 i200)] := F.sub ⟨rfl, rfl, rfl, rfl, trivial⟩
    refine wp_seq_k fun K288 hK288 => reg ?_
    refine qm F fun a F => ?_
    refine qf F ff_36_2 fun a F => ?_
    refine qv F (r_fieldAddr2 F h110 rfl ff_34_3) fun a F => ?_
    refine qv F (r_load F rfl ag_3 (AT.cell h110 rfl)) fun a F => ?_
    refine qv F (r_convi F Try.underlying55 rfl rfl) fun a F => ?_
    obtain ⟨t181, q182, H⟩ := bind_some H
    refine qc F Try.func54 (parcel_Writer_Num.calls k (m := m + 3) (pl hm0) B h286 ⟨bj8.1, (Nat.lt_add_right _ bj8.2)⟩ ⟨bj9.1, (Nat.lt_add_right _ bj9.2.1), bj9.2.2⟩ _ q182) ?_
    rintro e w290 ⟨c289, rfl, E291, B292, h293⟩
    refine ⟨_, rfl, fun a F => ?_⟩
    have B := B292
    replace h110 := h110.ev E291 (nor (ne_mp bj8.2) (ne_mp bj9.2.1))
    replace hat16 := hat16.ev E291 (nor bj4.2.1 bj4.2.2)
    replace h17 := h17.ev E291 (nor (ne_z bj8.1) (ne_z bj9.1))
    replace E := E.trans E291 (fun x (q : x = j8 ∨ x = j9) => q.elim (fun q => Or.inl (Or.inl q)) (fun q => Or.inl (Or.inr (q))))
    refine nil (hK288 _ _ ?_)
    refine reg ?_
    refine qm F fun a F => ?_
    refine qf F ff_36_2 fun a F => ?_
    refine qv F (r_fieldAddr2 F h110 rfl ff_34_4) fun a F => ?_
    refine qv F (r_load F rfl ag_3 (AT.cell h110 rfl)) fun a F => ?_
    refine qv F (r_convi F Try.underlying55 rfl rfl) fun a F => ?_
    obtain ⟨t189, q190, H⟩ := bind_some H
    refine qc F Try.func54 (parcel_Writer_Num.calls k (m := m + 3) (pl hm0) B h293 ⟨bj8.1, (Nat.lt_add_right _ bj8.2)⟩ ⟨bj9.1, (Nat.lt_add_right _ bj9.2.1), bj9.2.2⟩ _ q190) ?_
    rintro e w296 ⟨c295, rfl, E297, B298, h299⟩
    refine ⟨_, rfl, fun a F => ?_⟩
    have B := B298
    replace hat16 := hat16.ev E297 (nor bj4.2.1 bj4.2.2)
    replace h17 := h17.ev E297 (nor (ne_z bj8.1) (ne_z bj9.1))
    replace E := E.trans E297 (fun x (q : x = j8 ∨ x = j9) => q.elim (fun q => Or.inl (Or.inl q)) (fun q => Or.inl (Or.inr (q))))
    refine nil (hK214 _ _ ?_)
    replace F : Fr a 76 [(1, .pointer p6), (26, .pointer (some ad13)), (28, .int .i64 i200)] := F.sub ⟨rfl, rfl, rfl, trivial⟩
    refine reg ?_
    refine qv F (r_add F rfl rfl) fun a F => ?_
    refine qm F fun a F => ?_
    refine nil ?_
    replace H := HN204 _ (si H).symm
    exact hX203 _ _ _ (Nat.lt_succ_self _) ⟨t189, (IntKind.i64.wrap (i200 + 1)), c295, F.sub ⟨rfl, rfl, rfl, trivial⟩, E, B, hat16, h17, h299, H⟩
   refine wp_seq_k fun K254 hK254 => reg ?_
   refine qf F ff_36_2 fun a F => ?_
   refine qv F (r_fieldAddr2 F h110 rfl ff_34_0) fun a F => ?_
   refine qv F (r_load F rfl ag_4 (AT.cell h110 rfl)) fun a F => ?_
   refine nil (hK254 _ _ ?_)
   by_cases hb255 : (((rd a1 i200).Answer).Done) = true
   ·replace H := ip hb255 H
    refine wp_cond_true (fb F hb255) ?_
    refine reg ?_
    refine qm F fun a F => ?_
    obtain ⟨t140, q141, H⟩ := bind_some H
    refine qc F Try.func71 (parcel_Writer_Byte.calls (m := m + 3) (pl hm0) B h251 ⟨bj8.1, (Nat.lt_add_right _ bj8.2)⟩ ⟨bj9.1, (Nat.lt_add_right _ bj9.2.1), bj9.2.2⟩ _ q141) ?_
    rintro e w257 ⟨c256, rfl, E258, B259, h260⟩
    refine ⟨_, rfl, fun a F => ?_⟩
    have B := B259
    replace hat16 := hat16.ev E258 (nor bj4.2.1 bj4.2.2)
    replace h17 := h17.ev E258 (nor (ne_z bj8.1) (ne_z bj9.1))
    replace h224 := h224.ev E258 (nor (ne_z bj8.1) (ne_z bj9.1)) (nor (ne_z bj8.1) (ne_z bj9.1))
    replace h227 := h227.ev E258 (nor (ne_z bj8.1) (ne_z bj9.1)) (nor (ne_z bj8.1) (ne_z bj9.1))
    replace h110 := h110.ev E258 (nor (ne_mp bj8.2) (ne_mp bj9.2.1))
    replace E := E.trans E258 (fun x (q : x = j8 ∨ x = j9) => q.elim (fun q => Or.inl (Or.inl q)) (fun q => Or.inl (Or.inr (q))))
    refine nil ?_
    exact J271 c256 w257 a t140 (F.sub ⟨rfl, rfl, rfl, rfl, trivial⟩) E B h110 hat16 h224 h227 h17 h260 H
   replace H := im hb255 H
   refine wp_cond_false (fb F (bfalse hb255)) ?_
   refine reg ?_
   refine qm F fun a F => ?_
   obtain ⟨t148, q149, H⟩ := bind_some H
   refine qc F Try.func71 (parcel_Writer_Byte.calls (m := m + 3) (pl hm0) B h251 ⟨bj8.1, (Nat.lt_add_right _ bj8.2)⟩ ⟨bj9.1, (Nat.lt_add_right _ bj9.2.1), bj9.2.2⟩ _ q149) ?_
   rintro e w263 ⟨c262, rfl, E264, B265, h266⟩
   refine ⟨_, rfl, fun a F => ?_⟩
   have B := B265
   replace hat16 := hat16.ev E264 (nor bj4.2.1 bj4.2.2)
   replace h17 := h17.ev E264 (nor (ne_z bj8.1) (ne_z bj9.1))
   replace h224 := h224.ev E264 (nor (ne_z bj8.1) (ne_z bj9.1)) (nor (ne_z bj8.1) (ne_z bj9.1))
   replace h227 := h227.ev E264 (nor (ne_z bj8.1) (ne_z bj9.1)) (nor (ne_z bj8.1) (ne_z bj9.1))
   replace h110 := h110.ev E264 (nor (ne_mp bj8.2) (ne_mp bj9.2.1))
   replace E := E.trans E264 (fun x (q : x = j8 ∨ x = j9) => q.elim (fun q => Or.inl (Or.inl q)) (fun q => Or.inl (Or.inr (q))))
   refine nil ?_
   exact J271 c262 w263 a t148 (F.sub ⟨rfl, rfl, rfl, rfl, trivial⟩) E B h110 hat16 h224 h227 h17 h266 H
  replace H := im hb213 H
  refine wp_cond_false (fb F (dz hb213)) ?_
  refine wp_exit ?_
  refine thenE ?_
  refine thenE ?_
  refine inbE ?_
  have hx_ := HD205 _ (si H).symm
  have H := HR209
  rw [← hx_] at H
  exact J307 c201 w202 a o199 (F.sub trivial) E B h198 H
 refine loop_fuel (I := fun n a w => ∃ (i19 : Int) (i20 : Int) (c : Nat → Nat), Fr a 76 [(0, .pointer (some ad13)), (1, .pointer p6), (4, .int .i64 i19), (9, .pointer (some ad13)), (11, .int .i64 i20)] ∧ Ev (fun x => (x = j8 ∨ x = j9) ∨ m ≤ x) c0 w0 c w ∧ CB (m + 3) c w ∧ AT false j4 c w ad13 (([] : List Value) ++ (cs14 ++ (([] : List Value)))) ∧ AR K_api_Seat 0 c w cs14 16 a1 ∧ WR j8 j9 c w p6 a5 ∧ loop (fun (s_ : Int × Int) => shard_seats_lay.b1 a1 s_.1 s_.2) n (i19, i20) = some x30) (k := k) ⟨0, 0, c0, F.sub ⟨rfl, rfl, rfl, rfl, rfl, trivial⟩, E, B, hat16, h17, h7, HL⟩ ?_
 clear HL H E F B
 intro n27 X23 hX23 a w22 ⟨i19, i20, c21, F, E, B, hat16, h17, h7, HL⟩
 obtain ⟨n28, ctl26, rfl, HB, HN24, HD25⟩ := loop_some HL
 have H : shard_seats_lay.b1 a1 i19 i20 = some ctl26 := HB
 clear HB HL
 unfold shard_seats_lay.b1 at H
 refine wp_seq_k fun K31 hK31 => reg ?_
 refine qv F (r_lss F rfl rfl) fun a F => ?_
 refine nil (hK31 _ _ ?_)
 refine wp_seq_k fun K32 hK32 => ?_
 by_cases hb33 : i20 < 16
 ·replace H := ip hb33 H
  refine wp_cond_true (fb F (dt hb33)) (wp_skip (hK32 _ _ ?_))
  refine wp_seq_k fun K34 hK34 => ?_
  refine wp_block ?_
  refine wp_seq_k fun K35 hK35 => reg ?_
  refine qv F (r_nil F rfl) fun a F => ?_
  replace H := ifN H
  obtain ⟨g36, H⟩ := H
  obtain ⟨cs38, h39, r40⟩ := AR.at (off := 0) hat16 rfl h17 i20 g36.1 (by have g_ := g36.2; omega)
  obtain ⟨A42, C43, A45, C46, rfl, h44, h47⟩ := r40
  obtain ⟨qa41, qqa41⟩ : ∃ q, q = (ad13.add (0 + i20.toNat * 7)) := ⟨_, rfl⟩
  have h39 : AT false j4 c21 w22 qa41 [.int .i64 ((rd a1 i20).Client), .int .i64 ((rd a1 i20).Seq), .bool (((rd a1 i20).Answer).Done), .slice A42 (((rd a1 i20).Answer).Key).length C43, .slice A45 (((rd a1 i20).Answer).Value).length C46, .int .i64 (((rd a1 i20).Answer).Rev), .int .i64 (((rd a1 i20).Answer).At)] := by rw [qqa41]; exact h39
  refine qv F (r_indexArr0 F ua_74 sz_36 rfl rfl g36.1 (by have g_ := g36.2; omega) qqa41) fun a F => ?_
  refine qv F (r_loads (cs := [.int .i64 ((rd a1 i20).Client), .int .i64 ((rd a1 i20).Seq), .bool (((rd a1 i20).Answer).Done), .slice A42 (((rd a1 i20).Answer).Key).length C43, .slice A45 (((rd a1 i20).Answer).Value).length C46, .int .i64 (((rd a1 i20).Answer).Rev), .int .i64 (((rd a1 i20).Answer).At)]) F rfl ag_36 sz_36 h39) fun a F => ?_
  refine q_eff F rfl rfl (by decide) (e_alloc F zv_36 c21 (m + 1)) ?_
  rintro v w50 a ⟨c49, qa51, rfl, E52, h53, B54⟩ F
  replace B := B54 _ B lm
  replace hat16 := hat16.ev E52 nq
  replace h17 := h17.ev E52 nq
  replace h7 := h7.ev E52 nq nq nq
  replace E := E.trans E52 nx
  replace h53 : AT true (m + 1) c49 w50 qa51 [.int .i64 0, .int .i64 0, .bool false, .slice none 0 0, .slice none 0 0, .int .i64 0, .int .i64 0] := h53
  refine q_eff0 F rfl rfl (e_storeN0 (us := [.int .i64 ((rd a1 i20).Client), .int .i64 ((rd a1 i20).Seq), .bool (((rd a1 i20).Answer).Done), .slice A42 (((rd a1 i20).Answer).Key).length C43, .slice A45 (((rd a1 i20).Answer).Value).length C46, .int .i64 (((rd a1 i20).Answer).Rev), .int .i64 (((rd a1 i20).Answer).At)]) F rfl rfl sz_36 h53 (nb rfl) (one_all rfl)) ?_
  rintro w56 a ⟨E57, h53, Z58⟩ F
  replace B := B.size Z58
  replace hat16 := hat16.ev E57 (ne_pm bj4.1)
  replace h17 := h17.ev E57 ne_zm
  replace h7 := h7.ev E57 (ne_pm bj8.2) (ne_pm bj9.2.1) ne_zm
  replace E := E.trans E57 lc1
  replace h53 : AT true (m + 1) c49 w56 qa51 [.int .i64 ((rd a1 i20).Client), .int .i64 ((rd a1 i20).Seq), .bool (((rd a1 i20).Answer).Done), .slice A42 (((rd a1 i20).Answer).Key).length C43, .slice A45 (((rd a1 i20).Answer).Value).length C46, .int .i64 (((rd a1 i20).Answer).Rev), .int .i64 (((rd a1 i20).Answer).At)] := h53
  refine nil (hK35 _ _ ?_)
  refine wp_seq_k fun K59 hK59 => reg ?_
  refine qf F ff_36_1 fun a F => ?_
  refine qv F (r_load F rfl ag_3 (AT.cell h53 rfl)) fun a F => ?_
  refine qv F (r_gtr F rfl rfl) fun a F => ?_
  refine nil (hK59 _ _ ?_)
  by_cases hb60 : 0 < ((rd a1 i20).Seq)
  ·replace H := ip hb60 H
   refine wp_cond_true (fb F (dt hb60)) ?_
   refine reg ?_
   refine qm F fun a F => ?_
   refine qv F (r_add F rfl rfl) fun a F => ?_
   refine qa F fun a F => ?_
   refine nil (hK34 _ _ ?_)
   replace F : Fr a 76 [(0, .pointer (some ad13)), (1, .pointer p6), (4, .int .i64 (IntKind.i64.wrap (i19 + 1))), (9, .pointer (some ad13)), (11, .int .i64 i20)] := F.sub ⟨rfl, rfl, rfl, rfl, rfl, trivial⟩
   refine reg ?_
   refine qv F (r_add F rfl rfl) fun a F => ?_
   refine qm F fun a F => ?_
   refine nil ?_
   replace H := HN24 _ (si H).symm
   exact hX23 _ _ _ (Nat.lt_succ_self _) ⟨(IntKind.i64.wrap (i19 + 1)), (IntKind.i64.wrap (i20 + 1)), c49, F.sub ⟨rfl, rfl, rfl, rfl, rfl, trivial⟩, E, B, hat16, h17, h7, H⟩
  replace H := im hb60 H
  refine wp_cond_false (fb F (dz hb60)) (wp_skip (hK34 _ _ ?_))
  replace F : Fr a 76 [(0, .pointer (some ad13)), (1, .pointer p6), (4, .int .i64 i19), (9, .pointer (some ad13)), (11, .int .i64 i20)] := F.sub ⟨rfl, rfl, rfl, rfl, rfl, trivial⟩
  refine reg ?_
  refine qv F (r_add F rfl rfl) fun a F => ?_
  refine qm F fun a F => ?_
  refine nil ?_
  replace H := HN24 _ (si H).symm
  exact hX23 _ _ _ (Nat.lt_succ_self _) ⟨i19, (IntKind.i64.wrap (i20 + 1)), c49, F.sub ⟨rfl, rfl, rfl, rfl, rfl, trivial⟩, E, B, hat16, h17, h7, H⟩
 replace H := im hb33 H
 refine wp_cond_false (fb F (dz hb33)) ?_
 refine wp_exit ?_
 refine thenE ?_
 refine thenE ?_
 refine inbE ?_
 have hx_ := HD25 _ (si H).symm
 have H := HR29
 rw [← hx_] at H
 exact J64 c21 w22 a i19 (F.sub ⟨rfl, rfl, rfl, trivial⟩) E B hat16 h17 h7 H
theorem shard_seats_bytes.calls (k : Nat) {m : Nat} {c0 : Nat → Nat} {w0 : World} {j4 : Nat} {p2 : Option Addr} {a1 : List api_Seat} (hm0 : 0 < m) (B0 : CB m c0 w0) (h3 : SE j4 c0 w0 p2 a1) (bj4 : j4 < m) (r : (List Int)) (H : shard_seats_bytes.f k a1 = some r) : Calls Try.prog 59 #[.pointer p2] w0 (fun e w_ => ∃ (c_ : Nat → Nat) (A0_ : Option Addr) (C0_ : Nat), e = .returned (.slice A0_ r.length C0_) ∧ Ev (fun x => False) c0 w0 c_ w_ ∧ CB m c_ w_ ∧ SL false (Kint .u8) 0 0 c_ w_ A0_ C0_ r) := by
 unfold shard_seats_bytes.f at H
 have B := B0.mono (show m ≤ m + 3 by omega)
 have E : Ev (fun x => False ∨ m ≤ x) c0 w0 c0 w0 := Ev.refl
 refine enter (N := 16) (l := [.pointer p2]) Try.func59 rfl rfl (nb rfl) fun a F => ?_
 refine wp_seq_k fun K5 hK5 => reg ?_
 refine qa F fun a F => ?_
 refine nil (hK5 _ _ ?_)
 refine wp_seq_k fun K6 hK6 => reg ?_
 obtain ⟨t7, q8, H⟩ := bind_some H
 refine qc F Try.func46 (parcel_New.calls (m := m + 3) (pl hm0) B (m + 1) lm (m + 2) lm _ q8) ?_
 rintro e w10 ⟨c9, p13, rfl, E11, B12, h14⟩
 refine ⟨_, rfl, fun a F => ?_⟩
 have B := B12
 replace h3 := h3.ev E11 nq nq
 replace E := E.trans E11 nx
 refine qa F fun a F => ?_
 refine nil (hK6 _ _ ?_)
 refine wp_seq_k fun K16 hK16 => reg ?_
 refine qm F fun a F => ?_
 refine qm F fun a F => ?_
 obtain ⟨t17, q18, H⟩ := bind_some H
 refine qc F Try.func49 (shard_seats_lay.calls k (m := m + 3) (pl hm0) B h3 h14 ⟨(Nat.lt_add_right _ bj4), (ne_pm bj4), (ne_pm bj4)⟩ ⟨(pl hm0), lm⟩ ⟨(pl hm0), lm, mm⟩ _ q18) ?_
 rintro e w20 ⟨c19, rfl, E21, B22, h23⟩
 refine ⟨_, rfl, fun a F => ?_⟩
 have B := B22
 replace E := E.trans E21 lc2
 refine nil (hK16 _ _ ?_)
 refine wp_seq_k fun K25 hK25 => reg ?_
 refine qm F fun a F => ?_
 obtain ⟨t26, q27, H⟩ := bind_some H
 refine qc F Try.func50 (parcel_Writer_Done.calls (m := m + 3) (pl hm0) B h23 lm ⟨lm, mm⟩ 0 (pl hm0) _ q27) ?_
 rintro e w29 ⟨c28, A32, C33, rfl, E30, B31, h34⟩
 refine ⟨_, rfl, fun a F => ?_⟩
 have B := B31
 replace E := E.trans E30 nx
 refine qm F fun a F => ?_
 refine qv F (r_extract F rfl rfl) fun a F => ?_
 refine qv F (r_extract F rfl rfl) fun a F => ?_
 refine qa F fun a F => ?_
 refine qa F fun a F => ?_
 refine nil (hK25 _ _ ?_)
 replace F : Fr a 16 [(4, .slice A32 t26.1.length C33)] := F.sub ⟨rfl, trivial⟩
 refine wp_seq_k fun K36 hK36 => reg ?_
 refine qm F fun a F => ?_
 refine qa F fun a F => ?_
 refine nil (hK36 _ _ ?_)
 refine wp_ret ?_
 replace H := si H
 subst H
 refine out1 F rfl rfl ?_
 exact ⟨cf (fun x_ => if x_ < m then x_ else 0) c28, A32, C33, rfl, E.lv B0, cfb, SL.rc h34.r cfk cfk⟩
theorem table_num.calls (k : Nat) {m : Nat} {c0 : Nat → Nat} {w0 : World} {a1 : Int} (hm0 : 0 < m) (B0 : CB m c0 w0) (r : Int) (H : table_num.f k a1 = some r) : Calls Try.prog 83 #[.int .i64 a1] w0 (fun e w_ => ∃ (c_ : Nat → Nat), e = .returned (.int .i64 r) ∧ Ev (fun x => False) c0 w0 c_ w_ ∧ CB m c_ w_) := by
 unfold table_num.f at H
 have B := B0.mono (show m ≤ m + 1 by omega)
 have E : Ev (fun x => False ∨ m ≤ x) c0 w0 c0 w0 := Ev.refl
 refine enter (N := 11) (l := [.int .i64 a1]) Try.func83 rfl rfl (nb rfl) fun a F => ?_
 refine wp_seq_k fun K2 hK2 => reg ?_
 refine qa F fun a F => ?_
 refine nil (hK2 _ _ ?_)
 refine wp_seq_k fun K3 hK3 => reg ?_
 refine qa F fun a F => ?_
 refine nil (hK3 _ _ ?_)
 refine wp_seq_k fun K4 hK4 => ?_
 refine wp_block ?_
 obtain ⟨x16, HL, HR15⟩ := bind_some H
 have J24 : ∀ (c25 : Nat → Nat) (w26 : World) (a : Act) (i23 : Int), Fr a 11 [(3, .int .i64 i23)] → Ev (fun x => False ∨ m ≤ x) c0 w0 c25 w26 → CB (m + 1) c25 w26 → table_num.j2 i23 = some r → K4 a w26 := by
  intro c25 w26 a i23 F E B  H
  unfold table_num.j2 at H
  refine hK4 _ _ ?_
  refine wp_seq_k fun K27 hK27 => reg ?_
  refine qm F fun a F => ?_
  refine qa F fun a F => ?_
  refine nil (hK27 _ _ ?_)
  refine wp_ret ?_
  replace H := si H
  subst H
  refine out1 F rfl rfl ?_
  exact ⟨cf (fun x_ => if x_ < m then x_ else 0) c25, rfl, E.lv B0, cfb⟩
 refine loop_fuel (I := fun n a w => ∃ (i5 : Int) (i6 : Int) (c : Nat → Nat), Fr a 11 [(0, .int .i64 i5), (3, .int .i64 i6)] ∧ Ev (fun x => False ∨ m ≤ x) c0 w0 c w ∧ CB (m + 1) c w ∧ loop (fun (s_ : Int × Int) => table_num.b1 s_.1 s_.2) n (i5, i6) = some x16) (k := k) ⟨a1, 1, c0, F.sub ⟨rfl, rfl, trivial⟩, E, B, HL⟩ ?_
 clear HL H E F B
 intro n13 X9 hX9 a w8 ⟨i5, i6, c7, F, E, B, HL⟩
 obtain ⟨n14, ctl12, rfl, HB, HN10, HD11⟩ := loop_some HL
 have H : table_num.b1 i5 i6 = some ctl12 := HB
 clear HB HL
 unfold table_num.b1 at H
 refine wp_seq_k fun K17 hK17 => ?_
 refine wp_seq_k fun K18 hK18 => reg ?_
 refine qm F fun a F => ?_
 refine qv F (r_gtr F rfl rfl) fun a F => ?_
 refine nil (hK18 _ _ ?_)
 by_cases hb19 : 127 < i5
 ·replace H := ip hb19 H
  refine wp_cond_true (fb F (dt hb19)) (wp_skip (hK17 _ _ ?_))
  refine wp_seq_k fun K20 hK20 => ?_
  refine wp_block ?_
  refine reg ?_
  refine qm F fun a F => ?_
  refine qv F (r_add F rfl rfl) fun a F => ?_
  refine qa F fun a F => ?_
  refine nil (hK20 _ _ ?_)
  refine reg ?_
  refine qm F fun a F => ?_
  refine qv F (r_shr F rfl rfl (by decide)) fun a F => ?_
  refine qa F fun a F => ?_
  refine nil ?_
  replace H := HN10 _ (si H).symm
  exact hX9 _ _ _ (Nat.lt_succ_self _) ⟨(shr .i64 i5 7), (IntKind.i64.wrap (i6 + 1)), c7, F.sub ⟨rfl, rfl, trivial⟩, E, B, H⟩
 replace H := im hb19 H
 refine wp_cond_false (fb F (dz hb19)) ?_
 refine wp_exit ?_
 refine thenE ?_
 refine thenE ?_
 refine inbE ?_
 have hx_ := HD11 _ (si H).symm
 have H := HR15
 rw [← hx_] at H
 exact J24 c7 w8 a i6 (F.sub ⟨rfl, trivial⟩) E B  H
theorem tree_Tree_Len.calls {m : Nat} {c0 : Nat → Nat} {w0 : World} {p2 : Option Addr} {a1 : Tr} (hm0 : 0 < m) (B0 : CB m c0 w0) (h3 : TR 0 c0 w0 p2 a1) (r : Int) (H : tree_Tree_Len.f a1 = some r) : Calls Try.prog 45 #[.pointer p2] w0 (fun e w_ => ∃ (c_ : Nat → Nat), e = .returned (.int .i64 r) ∧ Ev (fun x => False) c0 w0 c_ w_ ∧ CB m c_ w_) := by
 unfold tree_Tree_Len.f at H
 have B := B0.mono (show m ≤ m + 1 by omega)
 have E : Ev (fun x => False ∨ m ≤ x) c0 w0 c0 w0 := Ev.refl
 refine enter (N := 9) (l := [.pointer p2]) Try.func45 rfl rfl (nb rfl) fun a F => ?_
 refine wp_seq_k fun K4 hK4 => reg ?_
 refine qa F fun a F => ?_
 refine nil (hK4 _ _ ?_)
 refine wp_seq_k fun K5 hK5 => ?_
 refine wp_seq_k fun K6 hK6 => reg ?_
 refine qm F fun a F => ?_
 refine qv F (r_peqlA F Try.underlying77 rfl rfl (TR.isNil h3)) fun a F => ?_
 refine nil (hK6 _ _ ?_)
 by_cases hb7 : (Tr.isNil a1) = true
 ·replace H := ip hb7 H
  refine wp_cond_true (fb F hb7) ?_
  refine wp_seq_k fun K8 hK8 => reg ?_
  refine qa F fun a F => ?_
  refine nil (hK8 _ _ ?_)
  refine wp_ret ?_
  refine thenR ?_
  replace H := si H
  subst H
  refine out1 F rfl rfl ?_
  exact ⟨cf (fun x_ => if x_ < m then x_ else 0) c0, rfl, E.lv B0, cfb⟩
 replace H := im hb7 H
 refine wp_cond_false (fb F (bfalse hb7)) (wp_skip (hK5 _ _ ?_))
 refine wp_seq_k fun K9 hK9 => reg ?_
 refine qm F fun a F => ?_
 replace H := cs_some H
 obtain ⟨tl10, tr11, tk12, tv13, ts14, td15, e16, H⟩ := H
 have z17 := h3
 rw [e16] at z17
 obtain ⟨ad21, lp22, rp23, A18, C19, rfl, hat24, h20, hl25, hr26⟩ := TR.node z17
 refine qv F (r_nil F rfl) fun a F => ?_
 refine qf F ff_112_4 fun a F => ?_
 refine qv F (r_load F rfl ag_3 (AT.cell hat24 rfl)) fun a F => ?_
 refine qa F fun a F => ?_
 refine nil (hK9 _ _ ?_)
 refine wp_ret ?_
 replace H := si H
 subst H
 refine out1 F rfl rfl ?_
 exact ⟨cf (fun x_ => if x_ < m then x_ else 0) c0, rfl, E.lv B0, cfb⟩
theorem table_Table_Size.calls (k : Nat) {m : Nat} {c0 : Nat → Nat} {w0 : World} {j4 : Nat} {p2 : Option Addr} {a1 : Option Tab} (hm0 : 0 < m) (B0 : CB m c0 w0) (h3 : TB j4 c0 w0 p2 a1) (bj4 : j4 < m) (r : Int) (H : table_Table_Size.f k a1 = some r) : Calls Try.prog 57 #[.pointer p2] w0 (fun e w_ => ∃ (c_ : Nat → Nat), e = .returned (.int .i64 r) ∧ Ev (fun x => False) c0 w0 c_ w_ ∧ CB m c_ w_) := by
 unfold table_Table_Size.f at H
 have B := B0.mono (show m ≤ m + 1 by omega)
 have E : Ev (fun x => False ∨ m ≤ x) c0 w0 c0 w0 := Ev.refl
 refine enter (N := 22) (l := [.pointer p2]) Try.func57 rfl rfl (nb rfl) fun a F => ?_
 refine wp_seq_k fun K5 hK5 => reg ?_
 refine qa F fun a F => ?_
 refine nil (hK5 _ _ ?_)
 refine wp_seq_k fun K6 hK6 => ?_
 refine wp_seq_k fun K7 hK7 => reg ?_
 refine qm F fun a F => ?_
 refine qv F (r_peqlA F Try.underlying26 rfl rfl (TB.isNone h3)) fun a F => ?_
 refine nil (hK7 _ _ ?_)
 by_cases hb8 : (Option.isNone a1) = true
 ·replace H := ip hb8 H
  refine wp_cond_true (fb F hb8) ?_
  refine wp_seq_k fun K9 hK9 => reg ?_
  refine qa F fun a F => ?_
  refine nil (hK9 _ _ ?_)
  refine wp_ret ?_
  refine thenR ?_
  replace H := si H
  subst H
  refine out1 F rfl rfl ?_
  exact ⟨cf (fun x_ => if x_ < m then x_ else 0) c0, rfl, E.lv B0, cfb⟩
 replace H := im hb8 H
 refine wp_cond_false (fb F (bfalse hb8)) (wp_skip (hK6 _ _ ?_))
 refine wp_seq_k fun K10 hK10 => ?_
 obtain ⟨ob11, e12, H⟩ := bind_some H
 have z13 := h3
 rw [e12] at z13
 obtain ⟨ad14, p16, rfl, hat15, h17⟩ := TB.some z13
 refine regD (SB No c0 w0) 18 (.q 0 (.q 1 (.q 2 (.q 3 (.q 5 (.q 6 (.q 7 (.q 8 (.q 12 (.q 13 (.q 14 (.q 15 (.e 4 (.e 9 (.e 10 (.q 11 (.q 16 (.q 17 .nil)))))))))))))))))) Try_hm (by decide +kernel) ?_
 intro w19 w1_ w2_ w3_ w4_
 have E20 : Ev No c0 w0 c0 w19 := Ev.same w1_ w2_ w3_ w4_
 replace B := B.same w1_
 have zhat15 := hat15
 have ER : Ev No c0 w0 c0 w19 := Ev.same w1_ w2_ w3_ w4_
 replace h17 := h17.ev E20 nq nq
 replace E := E.trans E20 nx
 refine dm F ER.sb fun a F => ?_
 refine dq F (fun wq hS => r_nil F rfl) ER.sb fun a F => ?_
 refine df F ff_82_1 ER.sb fun a F => ?_
 refine dq F (fun wq hS => r_load F rfl ag_3 (AT.cell (AT.sb zhat15 hS nq) rfl)) ER.sb fun a F => ?_
 refine dm F ER.sb fun a F => ?_
 refine dq F (fun wq hS => r_nil F rfl) ER.sb fun a F => ?_
 refine df F ff_82_0 ER.sb fun a F => ?_
 refine dq F (fun wq hS => r_load F rfl ag_77 (AT.cell (AT.sb zhat15 hS nq) rfl)) ER.sb fun a F => ?_
 refine dm F ER.sb fun a F => ?_
 refine dq F (fun wq hS => r_nil F rfl) ER.sb fun a F => ?_
 refine df F ff_82_2 ER.sb fun a F => ?_
 refine dq F (fun wq hS => r_load F rfl ag_3 (AT.cell (AT.sb zhat15 hS nq) rfl)) ER.sb fun a F => ?_
 refine d_e ?_
 obtain ⟨t21, q22, H⟩ := bind_some H
 refine oc F Try.func83 (table_num.calls k (m := m + 1) (pl hm0) B _ q22) ?_
 rintro e w24 ⟨c23, rfl, E25, B26⟩
 refine ⟨_, rfl, fun a F => ?_⟩
 have B := B26
 replace ER := ER.trans E25 nx
 replace h17 := h17.ev E25 nq nq
 replace E := E.trans E25 nx
 refine ⟨fun _ => ER.sb, ?_⟩
 refine d_e ?_
 obtain ⟨t28, q29, H⟩ := bind_some H
 refine oc F Try.func45 (tree_Tree_Len.calls (m := m + 1) (pl hm0) B h17 _ q29) ?_
 rintro e w31 ⟨c30, rfl, E32, B33⟩
 refine ⟨_, rfl, fun a F => ?_⟩
 have B := B33
 replace ER := ER.trans E32 nx
 replace E := E.trans E32 nx
 refine ⟨fun _ => ER.sb, ?_⟩
 refine d_e ?_
 obtain ⟨t35, q36, H⟩ := bind_some H
 refine oc F Try.func83 (table_num.calls k (m := m + 1) (pl hm0) B _ q36) ?_
 rintro e w38 ⟨c37, rfl, E39, B40⟩
 refine ⟨_, rfl, fun a F => ?_⟩
 have B := B40
 replace ER := ER.trans E39 nx
 replace E := E.trans E39 nx
 refine ⟨fun _ => ER.sb, ?_⟩
 refine dq F (fun wq hS => r_add F rfl rfl) ER.sb fun a F => ?_
 refine dq F (fun wq hS => r_add F rfl rfl) ER.sb fun a F => ?_
 refine da F ER.sb fun a F => ?_
 refine d_nil ?_
 refine hK10 _ _ ?_
 replace F : Fr a 22 [(2, .int .i64 (IntKind.i64.wrap ((IntKind.i64.wrap (t21 + t35)) + ob11.size)))] := F.sub ⟨rfl, trivial⟩
 refine wp_ret ?_
 replace H := si H
 subst H
 refine out1 F rfl rfl ?_
 exact ⟨cf (fun x_ => if x_ < m then x_ else 0) c37, rfl, E.lv B0, cfb⟩
theorem shard_Shard_Size.calls (k : Nat) {m : Nat} {c0 : Nat → Nat} {w0 : World} {j4 : Nat} {j5 : Nat} {p2 : Option Addr} {a1 : Option Sha} (hm0 : 0 < m) (B0 : CB m c0 w0) (h3 : SH j4 j5 c0 w0 p2 a1) (bj4 : j4 < m) (bj5 : j5 < m ∧ j5 ≠ j4) (r : Int) (H : shard_Shard_Size.f k a1 = some r) : Calls Try.prog 32 #[.pointer p2] w0 (fun e w_ => ∃ (c_ : Nat → Nat), e = .returned (.int .i64 r) ∧ Ev (fun x => False) c0 w0 c_ w_ ∧ CB m c_ w_) := by
 unfold shard_Shard_Size.f at H
 have B := B0.mono (show m ≤ m + 1 by omega)
 have E : Ev (fun x => False ∨ m ≤ x) c0 w0 c0 w0 := Ev.refl
 refine enter (N := 21) (l := [.pointer p2]) Try.func32 rfl rfl (nb rfl) fun a F => ?_
 refine wp_seq_k fun K6 hK6 => reg ?_
 refine qa F fun a F => ?_
 refine nil (hK6 _ _ ?_)
 refine wp_seq_k fun K7 hK7 => ?_
 refine wp_seq_k fun K8 hK8 => reg ?_
 refine qm F fun a F => ?_
 refine qv F (r_peqlA F Try.underlying24 rfl rfl (SH.isNone h3)) fun a F => ?_
 refine nil (hK8 _ _ ?_)
 by_cases hb9 : (Option.isNone a1) = true
 ·replace H := ip hb9 H
  refine wp_cond_true (fb F hb9) ?_
  refine wp_seq_k fun K10 hK10 => reg ?_
  refine qa F fun a F => ?_
  refine nil (hK10 _ _ ?_)
  refine wp_ret ?_
  refine thenR ?_
  replace H := si H
  subst H
  refine out1 F rfl rfl ?_
  exact ⟨cf (fun x_ => if x_ < m then x_ else 0) c0, rfl, E.lv B0, cfb⟩
 replace H := im hb9 H
 refine wp_cond_false (fb F (bfalse hb9)) (wp_skip (hK7 _ _ ?_))
 refine wp_seq_k fun K11 hK11 => reg ?_
 refine qm F fun a F => ?_
 obtain ⟨ob12, e13, H⟩ := bind_some H
 have z14 := h3
 rw [e13] at z14
 obtain ⟨ad15, p17, cs19, rfl, hat16, h18, h20⟩ := SH.some z14
 refine qv F (r_nil F rfl) fun a F => ?_
 refine qf F ff_76_0 fun a F => ?_
 refine qv F (r_load F rfl ag_26 (AT.cell hat16 rfl)) fun a F => ?_
 obtain ⟨t22, q23, H⟩ := bind_some H
 refine qc F Try.func57 (table_Table_Size.calls k (m := m + 1) (pl hm0) B h18 (Nat.lt_add_right _ bj5.1) _ q23) ?_
 rintro e w25 ⟨c24, rfl, E26, B27⟩
 refine ⟨_, rfl, fun a F => ?_⟩
 have B := B27
 replace h20 := h20.ev E26 nq
 replace hat16 := hat16.ev E26 nq
 replace E := E.trans E26 nx
 refine qa F fun a F => ?_
 refine nil (hK11 _ _ ?_)
 replace F : Fr a 21 [(0, .pointer (some ad15)), (3, .int .i64 t22)] := F.sub ⟨rfl, rfl, trivial⟩
 refine wp_seq_k fun K29 hK29 => ?_
 refine regD (SB No c24 w25) 11 (.q 0 (.q 2 (.q 4 (.q 5 (.q 6 (.e 1 (.q 3 (.e 7 (.q 8 (.q 9 (.q 10 .nil))))))))))) Try_hm (by decide +kernel) ?_
 intro w30 w1_ w2_ w3_ w4_
 have E31 : Ev No c24 w25 c24 w30 := Ev.same w1_ w2_ w3_ w4_
 replace B := B.same w1_
 have ER : Ev No c24 w25 c24 w30 := Ev.same w1_ w2_ w3_ w4_
 replace h20 := h20.ev E31 nq
 replace hat16 := hat16.ev E31 nq
 replace E := E.trans E31 nx
 refine dm F ER.sb fun a F => ?_
 refine dm F ER.sb fun a F => ?_
 refine dm F ER.sb fun a F => ?_
 refine dq F (fun wq hS => r_nil F rfl) ER.sb fun a F => ?_
 refine df F ff_76_1 ER.sb fun a F => ?_
 refine d_e ?_
 obtain ⟨t32, q33, H⟩ := bind_some H
 refine oc F Try.func58 (shard_numSize.calls k (m := m + 1) (pl hm0) B _ q33) ?_
 rintro e w35 ⟨c34, rfl, E36, B37⟩
 refine ⟨_, rfl, fun a F => ?_⟩
 have B := B37
 replace ER := ER.trans E36 nx
 replace h20 := h20.ev E36 nq
 replace hat16 := hat16.ev E36 nq
 replace E := E.trans E36 nx
 refine ⟨fun _ => ER.sb, ?_⟩
 refine dq F (fun wq hS => r_add F rfl rfl) ER.sb fun a F => ?_
 refine d_e ?_
 have h39 : SE j4 c34 w35 (some (ad15.add 1)) ob12.seats := SE.mk (AT.seg hat16 rfl (h20.1 : cs19.length = 112)) h20
 obtain ⟨t40, q41, H⟩ := bind_some H
 refine oc F Try.func59 (shard_seats_bytes.calls k (m := m + 1) (pl hm0) B h39 (Nat.lt_add_right _ bj4) _ q41) ?_
 rintro e w43 ⟨c42, A46, C47, rfl, E44, B45, h48⟩
 refine ⟨_, rfl, fun a F => ?_⟩
 have B := B45
 replace ER := ER.trans E44 nx
 replace E := E.trans E44 nx
 refine ⟨fun _ => ER.sb, ?_⟩
 refine dq F (fun wq hS => r_lensl F Try.underlying28 rfl) ER.sb fun a F => ?_
 refine dq F (fun wq hS => r_add F rfl rfl) ER.sb fun a F => ?_
 refine da F ER.sb fun a F => ?_
 refine d_nil ?_
 refine hK29 _ _ ?_
 replace F : Fr a 21 [(2, .int .i64 (IntKind.i64.wrap ((IntKind.i64.wrap (t32 + t22)) + (t40.length : Int))))] := F.sub ⟨rfl, trivial⟩
 refine wp_ret ?_
 replace H := si H
 subst H
 refine out1 F rfl rfl ?_
 exact ⟨cf (fun x_ => if x_ < m then x_ else 0) c42, rfl, E.lv B0, cfb⟩
end Go.Proofs.Ythankpjbfpcldaa.G
namespace Go.Proofs.Ythankpjbfpcldaa.G
open Go Go.RowKit
set_option linter.unusedVariables false
set_option linter.unusedSimpArgs false
section
variable {P : Program} {a : Act} {N : Nat} {L : List (Nat × Value)} {D : List Deferred} {w w' : World} {v u : Value} {x y : Operand} {d : Option Tmp} {t ty : TypeId} {pos : String} {af : Array Edge} {gd : Option (Nat × Bool)}
theorem r_sleqB (F : Fr a N L D) {A : Option Addr} {n c : Nat} {e yt : TypeId} (hu : P.underlying t = some (.slice e)) (hx : ev L x = some (.slice A n c)) (hy : ev L y = some (.slice none 0 0)) : (execOp a.eval { dst := d, op := .binOp .eql t x y yt, type := ty, pos := pos, after := af, guard := gd }).run P w = .ok (.value (.bool A.isNone)) w := by
  have h : (binOp .eql t (.slice A n c) (.slice none 0 0)).run P w = .ok (.bool A.isNone) w := by
    simp only [binOp]
    simp [Op.equal, Op.maxDepth, Lib.run_equalIn_slice_nil w 9999 t e A n c 0 0 hu]
  simp [execOp, F.ev hx, F.ev hy, eqGuard, h]
end
theorem SL.none_nilB {α : Type} {e : K α} {own : Bool} {j i : Nat} {c : Nat → Nat} {w : World} {cap : Nat} {xs : List α} (h : SL own e j i c w none cap xs) : xs = [] := by
  obtain ⟨cs, h2, h3, h4, h5, h6⟩ := h
  rcases h5 with h5 | ⟨a, e, _⟩
  · subst h5
    have := e.pos
    have h : cap * e.sz = 0 := h4.symm
    rcases Nat.mul_eq_zero.1 h with h | h
    · exact List.eq_nil_of_length_eq_zero (by omega)
    · omega
  · cases e
theorem slices_Clone.calls {m : Nat} {c0 : Nat → Nat} {w0 : World} {j1 : Nat} {A2 : Option Addr} {C3 : Nat} {a1 : List Int} (hm0 : 0 < m) (B0 : CB m c0 w0) (h4 : SL false (Kint .u8) j1 0 c0 w0 A2 C3 a1) (bj1 : j1 < m) (jr : Nat) (bjr : jr < m) (r : List Int) (H : slices_Clone.f a1 = some r) :
    Calls Try.prog 60 #[.slice A2 a1.length C3] w0 (fun e w_ => ∃ (c_ : Nat → Nat) (A0_ : Option Addr) (C0_ : Nat), e = .returned (.slice A0_ r.length C0_) ∧ Ev (fun x => False) c0 w0 c_ w_ ∧ CB m c_ w_ ∧ SL true (Kint .u8) jr 0 c_ w_ A0_ C0_ r) := by
  unfold slices_Clone.f at H
  obtain ⟨g, H⟩ := ifN H
  have H := Option.some.inj H
  subst H
  have B := B0.mono (show m ≤ m + 2 by omega)
  have E : Ev (fun x => False ∨ m ≤ x) c0 w0 c0 w0 := Ev.refl
  refine enter (N := 8) (l := [.slice A2 a1.length C3]) Try.func60 rfl rfl (Nat.le_of_ble_eq_true rfl) fun a F => ?_
  refine wp_seq_k fun K5 hK5 => ?_
  refine reg ?_
  refine q_val F rfl rfl (by decide) (r_assign F rfl) fun a F => ?_
  refine nil ?_
  refine hK5 _ _ ?_
  refine wp_seq_k fun K6 hK6 => ?_
  refine wp_seq_k fun K7 hK7 => ?_
  refine reg ?_
  refine q_val F rfl rfl (by decide) (r_move F rfl) fun a F => ?_
  refine q_val F rfl rfl (by decide) (r_sleqB F Try.underlying28 rfl rfl) fun a F => ?_
  refine nil ?_
  refine hK7 _ _ ?_
  cases A2 with
  | none =>
    have e := h4.none_nilB
    subst e
    refine wp_cond_true (F.ev rfl) ?_
    refine wp_seq_k fun K8 hK8 => ?_
    refine reg ?_
    refine q_val F rfl rfl (by decide) (r_assign F rfl) fun a F => ?_
    refine nil ?_
    refine hK8 _ _ ?_
    refine wp_ret ?_
    refine thenR ?_
    refine out1 F rfl rfl ?_
    exact ⟨c0, none, 0, rfl, Ev.refl, B0, SL.nil⟩
  | some q =>
    refine wp_cond_false (F.ev rfl) ?_
    refine wp_skip ?_
    refine hK6 _ _ ?_
    refine wp_seq_k fun K9 hK9 => ?_
    refine reg ?_
    refine q_eff F rfl rfl (by decide) (e_buildSlice (e := 5) (c := c0) (k := Kint .u8) (i := 0) F [] [] ([] : List Int) (by exact trivial) (fun w => by kernel_rfl) rfl (by decide) rfl trivial (fun q => q) (m + 1)) ?_
    rintro v w1 a ⟨c1, A1, C1, rfl, E1, h1, B1⟩ F
    have B := B1 _ B (by omega)
    have h4 := SL.ev h4 E1 (fun q => q.elim) (fun q => q.elim)
    have E := E.trans E1 (fun x q => q.elim)
    refine q_val F rfl rfl (by decide) (r_move F rfl) fun a F => ?_
    refine q_eff F rfl rfl (by decide) (e_append (k := Kint .u8) (xs := []) (ys := a1) (c := c1) (j := m + 1) (i := 0) F et_28 rfl rfl h1 h4 (by simpa using g) (by have g_ := g; unfold maxLen; simp at g_ ⊢; omega) (by omega)) ?_
    rintro v w2 a ⟨c2, A3, C4, rfl, E2, h2, B2⟩ F
    have B := B2 _ B (by omega)
    have E := E.trans E2 (fun x q => by replace q : x = m + 1 := q; show False ∨ m ≤ x; omega)
    refine q_val F rfl rfl (by decide) (r_assign F rfl) fun a F => ?_
    refine nil ?_
    refine hK9 _ _ ?_
    refine wp_ret ?_
    refine out1 F rfl rfl ?_
    rw [List.nil_append] at h2 ⊢
    exact ⟨fun b_ => (fun x_ => if x_ = m + 1 then jr else if x_ < m then x_ else 0) (c2 b_), A3, C4, rfl, E.leave B0 (fun x_ => if x_ = m + 1 then jr else if x_ < m then x_ else 0) (by intro x_ hx_; show (if x_ = m + 1 then jr else if x_ < m then x_ else 0) = x_; ((repeat' split) <;> omega)), (fun b_ hb_ => by show (if (c2 b_) = m + 1 then jr else if (c2 b_) < m then (c2 b_) else 0) < m; ((repeat' split) <;> omega)), SL.rc h2 (fun k_ hk_ => by show (if (c2 k_) = m + 1 then jr else if (c2 k_) < m then (c2 k_) else 0) = _; rw [hk_]; ((repeat' split) <;> omega)) (fun k_ hk_ => by show (if (c2 k_) = m + 1 then jr else if (c2 k_) < m then (c2 k_) else 0) = _; rw [hk_]; ((repeat' split) <;> omega))⟩
end Go.Proofs.Ythankpjbfpcldaa.G
namespace Go.Proofs.Ythankpjbfpcldaa.G
open Go Go.RowKit
set_option linter.unusedVariables false
set_option linter.unusedSimpArgs false
set_option maxRecDepth 100000
set_option maxHeartbeats 40000000
theorem shard_own.calls {m : Nat} {c0 : Nat → Nat} {w0 : World} {A2 : Option Addr} {C3 : Nat} {A5 : Option Addr} {C6 : Nat} {a1 : api_Seat} (hm0 : 0 < m) (B0 : CB m c0 w0) (h4 : SL false (Kint .u8) 0 0 c0 w0 A2 C3 a1.Answer.Key) (h7 : SL false (Kint .u8) 0 0 c0 w0 A5 C6 a1.Answer.Value) (r : api_Seat) (H : shard_own.f a1 = some r) : Calls Try.prog 36 #[.agg #[.int .i64 a1.Client, .int .i64 a1.Seq, .bool a1.Answer.Done, .slice A2 a1.Answer.Key.length C3, .slice A5 a1.Answer.Value.length C6, .int .i64 a1.Answer.Rev, .int .i64 a1.Answer.At]] w0 (fun e w_ => ∃ (c_ : Nat → Nat) (A0_ : Option Addr) (C0_ : Nat) (A2_ : Option Addr) (C2_ : Nat), e = .returned (.agg #[.int .i64 r.Client, .int .i64 r.Seq, .bool r.Answer.Done, .slice A0_ r.Answer.Key.length C0_, .slice A2_ r.Answer.Value.length C2_, .int .i64 r.Answer.Rev, .int .i64 r.Answer.At]) ∧ Ev (fun x => False) c0 w0 c_ w_ ∧ CB m c_ w_ ∧ SL false (Kint .u8) 0 0 c_ w_ A0_ C0_ r.Answer.Key ∧ SL false (Kint .u8) 0 0 c_ w_ A2_ C2_ r.Answer.Value) := by
 unfold shard_own.f at H
 have B := B0.mono (show m ≤ m + 3 by omega)
 have E : Ev (fun x => False ∨ m ≤ x) c0 w0 c0 w0 := Ev.refl
 refine enter (N := 16) (l := [.agg #[.int .i64 a1.Client, .int .i64 a1.Seq, .bool a1.Answer.Done, .slice A2 a1.Answer.Key.length C3, .slice A5 a1.Answer.Value.length C6, .int .i64 a1.Answer.Rev, .int .i64 a1.Answer.At]]) Try.func36 rfl rfl (nb rfl) fun a F => ?_
 refine wp_seq_k fun K8 hK8 => reg ?_
 refine q_eff F rfl rfl (by decide) (e_box F (v := .agg #[.int .i64 a1.Client, .int .i64 a1.Seq, .bool a1.Answer.Done, .slice A2 a1.Answer.Key.length C3, .slice A5 a1.Answer.Value.length C6, .int .i64 a1.Answer.Rev, .int .i64 a1.Answer.At]) rfl c0 (m + 1)) ?_
 rintro v w10 a ⟨c9, qa11, rfl, E12, h13, B14⟩ F
 replace B := B14 _ B lm
 replace h4 := h4.ev E12 nq nq
 replace h7 := h7.ev E12 nq nq
 replace E := E.trans E12 nx
 replace h13 : AT true (m + 1) c9 w10 qa11 [.int .i64 a1.Client, .int .i64 a1.Seq, .bool a1.Answer.Done, .slice A2 a1.Answer.Key.length C3, .slice A5 a1.Answer.Value.length C6, .int .i64 a1.Answer.Rev, .int .i64 a1.Answer.At] := h13
 refine q_eff F rfl rfl (by decide) (e_alloc F zv_36 c9 (m + 2)) ?_
 rintro v w17 a ⟨c16, qa18, rfl, E19, h20, B21⟩ F
 replace B := B21 _ B lm
 replace h4 := h4.ev E19 nq nq
 replace h7 := h7.ev E19 nq nq
 replace h13 := h13.ev E19 nq
 replace E := E.trans E19 nx
 replace h20 : AT true (m + 2) c16 w17 qa18 [.int .i64 0, .int .i64 0, .bool false, .slice none 0 0, .slice none 0 0, .int .i64 0, .int .i64 0] := h20
 refine nil (hK8 _ _ ?_)
 refine wp_seq_k fun K23 hK23 => ?_
 refine regD (SB (fun x => x = m + 1) c16 w17) 13 (.q 0 (.q 1 (.q 4 (.q 5 (.f 2 (.f 3 (.e 6 (.q 8 (.q 9 (.e 7 (.e 10 (.e 11 (.q 12 (.e 13 .nil)))))))) 6 (.e 3 (.q 8 (.q 9 (.e 7 (.e 10 (.e 11 (.q 12 (.e 13 .nil))))))))) 6 (.e 2 (.e 3 (.q 8 (.q 9 (.e 7 (.e 10 (.e 11 (.q 12 (.e 13 .nil)))))))))))))) Try_hm (by decide +kernel) ?_
 intro w28 w1_ w2_ w3_ w4_
 have E29 : Ev No c16 w17 c16 w28 := Ev.same w1_ w2_ w3_ w4_
 replace B := B.same w1_
 have ER : Ev (fun x => x = m + 1) c16 w17 c16 w28 := Ev.same w1_ w2_ w3_ w4_
 replace h4 := h4.ev E29 nq nq
 replace h7 := h7.ev E29 nq nq
 replace h13 := h13.ev E29 nq
 replace h20 := h20.ev E29 nq
 replace E := E.trans E29 nx
 refine df F ff_36_2 ER.sb fun a F => ?_
 refine dq F (fun wq hS => r_fieldAddr2 F h13 rfl ff_34_1) ER.sb fun a F => ?_
 refine df F ff_36_2 ER.sb fun a F => ?_
 refine dq F (fun wq hS => r_fieldAddr2 F h13 rfl ff_34_2) ER.sb fun a F => ?_
 refine d_f ?_ ?_
 ·refine o_val F rfl rfl rfl (by decide) (r_load F rfl ag_28 (AT.cell h13 rfl)) fun a F => ?_
  refine ⟨fun _ => ER.sb, ?_⟩
  refine d_f ?_ ?_
  ·obtain ⟨t30, q31, H⟩ := bind_some H
   refine oc F Try.func60 (slices_Clone.calls (m := m + 3) (pl hm0) B h4 (by omega) 0 (pl hm0) _ q31) ?_
   rintro e w33 ⟨c32, A36, C37, rfl, E34, B35, h38⟩
   refine ⟨_, rfl, fun a F => ?_⟩
   have B := B35
   replace ER := ER.trans E34 nx
   replace h7 := h7.ev E34 nq nq
   replace h13 := h13.ev E34 nq
   replace h20 := h20.ev E34 nq
   replace E := E.trans E34 nx
   refine ⟨fun _ => ER.sb, ?_⟩
   refine d_e ?_
   refine o_val F rfl rfl rfl (by decide) (r_load F rfl ag_28 (AT.cell h13 rfl)) fun a F => ?_
   refine ⟨fun _ => ER.sb, ?_⟩
   refine df F ff_36_2 ER.sb fun a F => ?_
   refine dq F (fun wq hS => r_fieldAddr2 F h13 rfl ff_34_1) ER.sb fun a F => ?_
   refine d_e ?_
   obtain ⟨t40, q41, H⟩ := bind_some H
   refine oc F Try.func60 (slices_Clone.calls (m := m + 3) (pl hm0) B h7 (by omega) 0 (pl hm0) _ q41) ?_
   rintro e w43 ⟨c42, A46, C47, rfl, E44, B45, h48⟩
   refine ⟨_, rfl, fun a F => ?_⟩
   have B := B45
   replace ER := ER.trans E44 nx
   replace h13 := h13.ev E44 nq
   replace h20 := h20.ev E44 nq
   replace h38 := h38.ev E44 nq nq
   replace E := E.trans E44 nx
   refine ⟨fun _ => ER.sb, ?_⟩
   refine d_e ?_
   refine o_eff0 F rfl rfl rfl (e_store F rfl rfl sz_28 h13 (nb rfl) rfl) ?_
   rintro w50 a ⟨E51, h13, Z52⟩ F
   replace B := B.size Z52
   replace ER := ER.trans E51 (fun x q => by replace q : x = m + 1 := q; show x = m + 1; omega)
   replace h20 := h20.ev E51 mm
   replace h38 := h38.ev E51 ne_zm ne_zm
   replace h48 := h48.ev E51 ne_zm ne_zm
   replace E := E.trans E51 lc1
   replace h13 : AT true (m + 1) c42 w50 qa11 [.int .i64 a1.Client, .int .i64 a1.Seq, .bool a1.Answer.Done, .slice A36 t30.length C37, .slice A5 a1.Answer.Value.length C6, .int .i64 a1.Answer.Rev, .int .i64 a1.Answer.At] := h13
   refine ⟨fun _ => ER.sb, ?_⟩
   refine d_e ?_
   refine o_val F rfl rfl rfl (by decide) (r_fieldAddr F rfl ff_36_2) fun a F => ?_
   refine ⟨fun _ => ER.sb, ?_⟩
   refine dq F (fun wq hS => r_fieldAddr2 F h13 rfl ff_34_2) ER.sb fun a F => ?_
   refine d_e ?_
   refine o_eff0 F rfl rfl rfl (e_store F rfl rfl sz_28 h13 (nb rfl) rfl) ?_
   rintro w53 a ⟨E54, h13, Z55⟩ F
   replace B := B.size Z55
   replace ER := ER.trans E54 (fun x q => by replace q : x = m + 1 := q; show x = m + 1; omega)
   replace h20 := h20.ev E54 mm
   replace h38 := h38.ev E54 ne_zm ne_zm
   replace h48 := h48.ev E54 ne_zm ne_zm
   replace E := E.trans E54 lc1
   replace h13 : AT true (m + 1) c42 w53 qa11 [.int .i64 a1.Client, .int .i64 a1.Seq, .bool a1.Answer.Done, .slice A36 t30.length C37, .slice A46 t40.length C47, .int .i64 a1.Answer.Rev, .int .i64 a1.Answer.At] := h13
   refine ⟨fun q => absurd rfl q, ?_⟩
   refine d_nil ?_
   refine hK23 _ _ ?_
   replace F : Fr a 16 [(1, .pointer (some qa11)), (2, .pointer (some qa18))] := F.sub ⟨rfl, rfl, trivial⟩
   refine wp_seq_k fun K100 hK100 => reg ?_
   refine qv F (r_loads (cs := [.int .i64 a1.Client, .int .i64 a1.Seq, .bool a1.Answer.Done, .slice A36 t30.length C37, .slice A46 t40.length C47, .int .i64 a1.Answer.Rev, .int .i64 a1.Answer.At]) F rfl ag_36 sz_36 h13) fun a F => ?_
   refine q_eff0 F rfl rfl (e_storeN0 (us := [.int .i64 a1.Client, .int .i64 a1.Seq, .bool a1.Answer.Done, .slice A36 t30.length C37, .slice A46 t40.length C47, .int .i64 a1.Answer.Rev, .int .i64 a1.Answer.At]) F rfl rfl sz_36 h20 (nb rfl) (one_all rfl)) ?_
   rintro w101 a ⟨E102, h20, Z103⟩ F
   replace B := B.size Z103
   replace h38 := h38.ev E102 ne_zm ne_zm
   replace h48 := h48.ev E102 ne_zm ne_zm
   replace E := E.trans E102 lc1
   replace h20 : AT true (m + 2) c42 w101 qa18 [.int .i64 a1.Client, .int .i64 a1.Seq, .bool a1.Answer.Done, .slice A36 t30.length C37, .slice A46 t40.length C47, .int .i64 a1.Answer.Rev, .int .i64 a1.Answer.At] := h20
   refine nil (hK100 _ _ ?_)
   refine wp_ret ?_
   replace H := si H
   subst H
   refine outR1 F rfl ⟨_, rfl, lv_agg (cs := [.int .i64 a1.Client, .int .i64 a1.Seq, .bool a1.Answer.Done, .slice A36 t30.length C37, .slice A46 t40.length C47, .int .i64 a1.Answer.Rev, .int .i64 a1.Answer.At]) ag_36 sz_36 h20⟩ ?_
   exact ⟨cf (fun x_ => if x_ < m then x_ else 0) c42, A36, C37, A46, C47, rfl, E.lv B0, cfb, SL.rc h38.r cfk cfk, SL.rc h48.r cfk cfk⟩
  obtain ⟨t30, q31, H⟩ := bind_some H
  refine o_val F rfl rfl rfl (by decide) (r_load F rfl ag_28 (AT.cell h13 rfl)) fun a F => ?_
  refine ⟨fun _ => ER.sb, ?_⟩
  refine d_e ?_
  refine oc F Try.func60 (slices_Clone.calls (m := m + 3) (pl hm0) B h4 (by omega) 0 (pl hm0) _ q31) ?_
  rintro e w57 ⟨c56, A60, C61, rfl, E58, B59, h62⟩
  refine ⟨_, rfl, fun a F => ?_⟩
  have B := B59
  replace ER := ER.trans E58 nx
  replace h7 := h7.ev E58 nq nq
  replace h13 := h13.ev E58 nq
  replace h20 := h20.ev E58 nq
  replace E := E.trans E58 nx
  refine ⟨fun _ => ER.sb, ?_⟩
  refine df F ff_36_2 ER.sb fun a F => ?_
  refine dq F (fun wq hS => r_fieldAddr2 F h13 rfl ff_34_1) ER.sb fun a F => ?_
  refine d_e ?_
  obtain ⟨t40, q41, H⟩ := bind_some H
  refine oc F Try.func60 (slices_Clone.calls (m := m + 3) (pl hm0) B h7 (by omega) 0 (pl hm0) _ q41) ?_
  rintro e w65 ⟨c64, A68, C69, rfl, E66, B67, h70⟩
  refine ⟨_, rfl, fun a F => ?_⟩
  have B := B67
  replace ER := ER.trans E66 nx
  replace h13 := h13.ev E66 nq
  replace h20 := h20.ev E66 nq
  replace h62 := h62.ev E66 nq nq
  replace E := E.trans E66 nx
  refine ⟨fun _ => ER.sb, ?_⟩
  refine d_e ?_
  refine o_eff0 F rfl rfl rfl (e_store F rfl rfl sz_28 h13 (nb rfl) rfl) ?_
  rintro w72 a ⟨E73, h13, Z74⟩ F
  replace B := B.size Z74
  replace ER := ER.trans E73 (fun x q => by replace q : x = m + 1 := q; show x = m + 1; omega)
  replace h20 := h20.ev E73 mm
  replace h62 := h62.ev E73 ne_zm ne_zm
  replace h70 := h70.ev E73 ne_zm ne_zm
  replace E := E.trans E73 lc1
  replace h13 : AT true (m + 1) c64 w72 qa11 [.int .i64 a1.Client, .int .i64 a1.Seq, .bool a1.Answer.Done, .slice A60 t30.length C61, .slice A5 a1.Answer.Value.length C6, .int .i64 a1.Answer.Rev, .int .i64 a1.Answer.At] := h13
  refine ⟨fun _ => ER.sb, ?_⟩
  refine d_e ?_
  refine o_val F rfl rfl rfl (by decide) (r_fieldAddr F rfl ff_36_2) fun a F => ?_
  refine ⟨fun _ => ER.sb, ?_⟩
  refine dq F (fun wq hS => r_fieldAddr2 F h13 rfl ff_34_2) ER.sb fun a F => ?_
  refine d_e ?_
  refine o_eff0 F rfl rfl rfl (e_store F rfl rfl sz_28 h13 (nb rfl) rfl) ?_
  rintro w75 a ⟨E76, h13, Z77⟩ F
  replace B := B.size Z77
  replace ER := ER.trans E76 (fun x q => by replace q : x = m + 1 := q; show x = m + 1; omega)
  replace h20 := h20.ev E76 mm
  replace h62 := h62.ev E76 ne_zm ne_zm
  replace h70 := h70.ev E76 ne_zm ne_zm
  replace E := E.trans E76 lc1
  replace h13 : AT true (m + 1) c64 w75 qa11 [.int .i64 a1.Client, .int .i64 a1.Seq, .bool a1.Answer.Done, .slice A60 t30.length C61, .slice A68 t40.length C69, .int .i64 a1.Answer.Rev, .int .i64 a1.Answer.At] := h13
  refine ⟨fun q => absurd rfl q, ?_⟩
  refine d_nil ?_
  refine hK23 _ _ ?_
  replace F : Fr a 16 [(1, .pointer (some qa11)), (2, .pointer (some qa18))] := F.sub ⟨rfl, rfl, trivial⟩
  refine wp_seq_k fun K104 hK104 => reg ?_
  refine qv F (r_loads (cs := [.int .i64 a1.Client, .int .i64 a1.Seq, .bool a1.Answer.Done, .slice A60 t30.length C61, .slice A68 t40.length C69, .int .i64 a1.Answer.Rev, .int .i64 a1.Answer.At]) F rfl ag_36 sz_36 h13) fun a F => ?_
  refine q_eff0 F rfl rfl (e_storeN0 (us := [.int .i64 a1.Client, .int .i64 a1.Seq, .bool a1.Answer.Done, .slice A60 t30.length C61, .slice A68 t40.length C69, .int .i64 a1.Answer.Rev, .int .i64 a1.Answer.At]) F rfl rfl sz_36 h20 (nb rfl) (one_all rfl)) ?_
  rintro w105 a ⟨E106, h20, Z107⟩ F
  replace B := B.size Z107
  replace h62 := h62.ev E106 ne_zm ne_zm
  replace h70 := h70.ev E106 ne_zm ne_zm
  replace E := E.trans E106 lc1
  replace h20 : AT true (m + 2) c64 w105 qa18 [.int .i64 a1.Client, .int .i64 a1.Seq, .bool a1.Answer.Done, .slice A60 t30.length C61, .slice A68 t40.length C69, .int .i64 a1.Answer.Rev, .int .i64 a1.Answer.At] := h20
  refine nil (hK104 _ _ ?_)
  refine wp_ret ?_
  replace H := si H
  subst H
  refine outR1 F rfl ⟨_, rfl, lv_agg (cs := [.int .i64 a1.Client, .int .i64 a1.Seq, .bool a1.Answer.Done, .slice A60 t30.length C61, .slice A68 t40.length C69, .int .i64 a1.Answer.Rev, .int .i64 a1.Answer.At]) ag_36 sz_36 h20⟩ ?_
  exact ⟨cf (fun x_ => if x_ < m then x_ else 0) c64, A60, C61, A68, C69, rfl, E.lv B0, cfb, SL.rc h62.r cfk cfk, SL.rc h70.r cfk cfk⟩
 refine o_val F rfl rfl rfl (by decide) (r_load F rfl ag_28 (AT.cell h13 rfl)) fun a F => ?_
 refine ⟨fun _ => ER.sb, ?_⟩
 refine d_e ?_
 refine o_val F rfl rfl rfl (by decide) (r_load F rfl ag_28 (AT.cell h13 rfl)) fun a F => ?_
 refine ⟨fun _ => ER.sb, ?_⟩
 refine d_e ?_
 obtain ⟨t30, q31, H⟩ := bind_some H
 refine oc F Try.func60 (slices_Clone.calls (m := m + 3) (pl hm0) B h4 (by omega) 0 (pl hm0) _ q31) ?_
 rintro e w79 ⟨c78, A82, C83, rfl, E80, B81, h84⟩
 refine ⟨_, rfl, fun a F => ?_⟩
 have B := B81
 replace ER := ER.trans E80 nx
 replace h7 := h7.ev E80 nq nq
 replace h13 := h13.ev E80 nq
 replace h20 := h20.ev E80 nq
 replace E := E.trans E80 nx
 refine ⟨fun _ => ER.sb, ?_⟩
 refine df F ff_36_2 ER.sb fun a F => ?_
 refine dq F (fun wq hS => r_fieldAddr2 F h13 rfl ff_34_1) ER.sb fun a F => ?_
 refine d_e ?_
 obtain ⟨t40, q41, H⟩ := bind_some H
 refine oc F Try.func60 (slices_Clone.calls (m := m + 3) (pl hm0) B h7 (by omega) 0 (pl hm0) _ q41) ?_
 rintro e w87 ⟨c86, A90, C91, rfl, E88, B89, h92⟩
 refine ⟨_, rfl, fun a F => ?_⟩
 have B := B89
 replace ER := ER.trans E88 nx
 replace h13 := h13.ev E88 nq
 replace h20 := h20.ev E88 nq
 replace h84 := h84.ev E88 nq nq
 replace E := E.trans E88 nx
 refine ⟨fun _ => ER.sb, ?_⟩
 refine d_e ?_
 refine o_eff0 F rfl rfl rfl (e_store F rfl rfl sz_28 h13 (nb rfl) rfl) ?_
 rintro w94 a ⟨E95, h13, Z96⟩ F
 replace B := B.size Z96
 replace ER := ER.trans E95 (fun x q => by replace q : x = m + 1 := q; show x = m + 1; omega)
 replace h20 := h20.ev E95 mm
 replace h84 := h84.ev E95 ne_zm ne_zm
 replace h92 := h92.ev E95 ne_zm ne_zm
 replace E := E.trans E95 lc1
 replace h13 : AT true (m + 1) c86 w94 qa11 [.int .i64 a1.Client, .int .i64 a1.Seq, .bool a1.Answer.Done, .slice A82 t30.length C83, .slice A5 a1.Answer.Value.length C6, .int .i64 a1.Answer.Rev, .int .i64 a1.Answer.At] := h13
 refine ⟨fun _ => ER.sb, ?_⟩
 refine d_e ?_
 refine o_val F rfl rfl rfl (by decide) (r_fieldAddr F rfl ff_36_2) fun a F => ?_
 refine ⟨fun _ => ER.sb, ?_⟩
 refine dq F (fun wq hS => r_fieldAddr2 F h13 rfl ff_34_2) ER.sb fun a F => ?_
 refine d_e ?_
 refine o_eff0 F rfl rfl rfl (e_store F rfl rfl sz_28 h13 (nb rfl) rfl) ?_
 rintro w97 a ⟨E98, h13, Z99⟩ F
 replace B := B.size Z99
 replace ER := ER.trans E98 (fun x q => by replace q : x = m + 1 := q; show x = m + 1; omega)
 replace h20 := h20.ev E98 mm
 replace h84 := h84.ev E98 ne_zm ne_zm
 replace h92 := h92.ev E98 ne_zm ne_zm
 replace E := E.trans E98 lc1
 replace h13 : AT true (m + 1) c86 w97 qa11 [.int .i64 a1.Client, .int .i64 a1.Seq, .bool a1.Answer.Done, .slice A82 t30.length C83, .slice A90 t40.length C91, .int .i64 a1.Answer.Rev, .int .i64 a1.Answer.At] := h13
 refine ⟨fun q => absurd rfl q, ?_⟩
 refine d_nil ?_
 refine hK23 _ _ ?_
 replace F : Fr a 16 [(1, .pointer (some qa11)), (2, .pointer (some qa18))] := F.sub ⟨rfl, rfl, trivial⟩
 refine wp_seq_k fun K108 hK108 => reg ?_
 refine qv F (r_loads (cs := [.int .i64 a1.Client, .int .i64 a1.Seq, .bool a1.Answer.Done, .slice A82 t30.length C83, .slice A90 t40.length C91, .int .i64 a1.Answer.Rev, .int .i64 a1.Answer.At]) F rfl ag_36 sz_36 h13) fun a F => ?_
 refine q_eff0 F rfl rfl (e_storeN0 (us := [.int .i64 a1.Client, .int .i64 a1.Seq, .bool a1.Answer.Done, .slice A82 t30.length C83, .slice A90 t40.length C91, .int .i64 a1.Answer.Rev, .int .i64 a1.Answer.At]) F rfl rfl sz_36 h20 (nb rfl) (one_all rfl)) ?_
 rintro w109 a ⟨E110, h20, Z111⟩ F
 replace B := B.size Z111
 replace h84 := h84.ev E110 ne_zm ne_zm
 replace h92 := h92.ev E110 ne_zm ne_zm
 replace E := E.trans E110 lc1
 replace h20 : AT true (m + 2) c86 w109 qa18 [.int .i64 a1.Client, .int .i64 a1.Seq, .bool a1.Answer.Done, .slice A82 t30.length C83, .slice A90 t40.length C91, .int .i64 a1.Answer.Rev, .int .i64 a1.Answer.At] := h20
 refine nil (hK108 _ _ ?_)
 refine wp_ret ?_
 replace H := si H
 subst H
 refine outR1 F rfl ⟨_, rfl, lv_agg (cs := [.int .i64 a1.Client, .int .i64 a1.Seq, .bool a1.Answer.Done, .slice A82 t30.length C83, .slice A90 t40.length C91, .int .i64 a1.Answer.Rev, .int .i64 a1.Answer.At]) ag_36 sz_36 h20⟩ ?_
 exact ⟨cf (fun x_ => if x_ < m then x_ else 0) c86, A82, C83, A90, C91, rfl, E.lv B0, cfb, SL.rc h84.r cfk cfk, SL.rc h92.r cfk cfk⟩
theorem table_Right.calls {m : Nat} {c0 : Nat → Nat} {w0 : World} {A2 : Option Addr} {C3 : Nat} {A5 : Option Addr} {C6 : Nat} {a1 : api_Op} (hm0 : 0 < m) (B0 : CB m c0 w0) (h4 : SL false (Kint .u8) 0 0 c0 w0 A2 C3 a1.Key) (h7 : SL false (Kint .u8) 0 0 c0 w0 A5 C6 a1.Value) (r : Bool) (H : table_Right.f a1 = some r) : Calls Try.prog 24 #[.agg #[.int .i64 a1.Kind, .slice A2 a1.Key.length C3, .slice A5 a1.Value.length C6, .int .i64 a1.Rev]] w0 (fun e w_ => ∃ (c_ : Nat → Nat), e = .returned (.bool r) ∧ Ev (fun x => False) c0 w0 c_ w_ ∧ CB m c_ w_) := by
 unfold table_Right.f at H
 have B := B0.mono (show m ≤ m + 2 by omega)
 have E : Ev (fun x => False ∨ m ≤ x) c0 w0 c0 w0 := Ev.refl
 refine enter (N := 57) (l := [.agg #[.int .i64 a1.Kind, .slice A2 a1.Key.length C3, .slice A5 a1.Value.length C6, .int .i64 a1.Rev]]) Try.func24 rfl rfl (nb rfl) fun a F => ?_
 refine wp_seq_k fun K8 hK8 => reg ?_
 refine q_eff F rfl rfl (by decide) (e_box F (v := .agg #[.int .i64 a1.Kind, .slice A2 a1.Key.length C3, .slice A5 a1.Value.length C6, .int .i64 a1.Rev]) rfl c0 (m + 1)) ?_
 rintro v w10 a ⟨c9, qa11, rfl, E12, h13, B14⟩ F
 replace B := B14 _ B lm
 replace h4 := h4.ev E12 nq nq
 replace h7 := h7.ev E12 nq nq
 replace E := E.trans E12 nx
 replace h13 : AT true (m + 1) c9 w10 qa11 [.int .i64 a1.Kind, .slice A2 a1.Key.length C3, .slice A5 a1.Value.length C6, .int .i64 a1.Rev] := h13
 refine qa F fun a F => ?_
 refine nil (hK8 _ _ ?_)
 refine wp_seq_k fun K16 hK16 => ?_
 have J21 : ∀ (c22 : Nat → Nat) (w23 : World) (a : Act) (b20 : Bool), Fr a 57 [(1, .pointer (some qa11)), (3, .bool b20), (4, .bool (decide ((a1.Value.length : Int) ≤ 256))), (5, .bool (decide (a1.Rev = 0)))] → Ev (fun x => False ∨ m ≤ x) c0 w0 c22 w23 → CB (m + 2) c22 w23 → AT true (m + 1) c22 w23 qa11 [.int .i64 a1.Kind, .slice A2 a1.Key.length C3, .slice A5 a1.Value.length C6, .int .i64 a1.Rev] → SL false (Kint .u8) 0 0 c22 w23 A2 C3 a1.Key → SL false (Kint .u8) 0 0 c22 w23 A5 C6 a1.Value → table_Right.j1 a1 b20 = some r → K16 a w23 := by
  intro c22 w23 a b20 F E B h13 h4 h7 H
  unfold table_Right.j1 at H
  refine hK16 _ _ ?_
  refine wp_seq_k fun K24 hK24 => ?_
  have J61 : ∀ (c62 : Nat → Nat) (w63 : World) (a : Act) (b58 : Bool) (b59 : Bool) (b60 : Bool), Fr a 57 [(3, .bool b58), (4, .bool b59), (5, .bool b60)] → Ev (fun x => False ∨ m ≤ x) c0 w0 c62 w63 → CB (m + 2) c62 w63 → table_Right.j4 b58 b59 b60 = some r → K24 a w63 := by
   intro c62 w63 a b58 b59 b60 F E B  H
   unfold table_Right.j4 at H
   refine hK24 _ _ ?_
   refine wp_seq_k fun K64 hK64 => reg ?_
   refine qm F fun a F => ?_
   refine qm F fun a F => ?_
   by_cases hb65 : b58 = true
   ·replace H := ip hb65 H
    refine qy F hb65 ?_
    refine qm F fun a F => ?_
    refine qv F (r_pick_t F rfl hb65 rfl) fun a F => ?_
    refine qm F fun a F => ?_
    by_cases hb66 : b59 = true
    ·replace H := ip hb66 H
     refine qy F hb66 ?_
     refine qm F fun a F => ?_
     refine qv F (r_pick_t F rfl hb66 rfl) fun a F => ?_
     refine qa F fun a F => ?_
     refine nil (hK64 _ _ ?_)
     replace F : Fr a 57 [(2, .bool b60)] := F.sub ⟨rfl, trivial⟩
     refine wp_ret ?_
     replace H := si H
     subst H
     refine out1 F rfl rfl ?_
     exact ⟨cf (fun x_ => if x_ < m then x_ else 0) c62, rfl, E.lv B0, cfb⟩
    replace H := im hb66 H
    refine qn F (bfalse hb66) fun a F => ?_
    refine qv F (r_pick_f F rfl (bfalse hb66) rfl) fun a F => ?_
    refine qa F fun a F => ?_
    refine nil (hK64 _ _ ?_)
    replace F : Fr a 57 [(2, .bool false)] := F.sub ⟨rfl, trivial⟩
    refine wp_ret ?_
    replace H := si H
    subst H
    refine out1 F rfl rfl ?_
    exact ⟨cf (fun x_ => if x_ < m then x_ else 0) c62, rfl, E.lv B0, cfb⟩
   replace H := im hb65 H
   refine qn F (bfalse hb65) fun a F => ?_
   refine qv F (r_pick_f F rfl (bfalse hb65) rfl) fun a F => ?_
   refine qm F fun a F => ?_
   refine qn F rfl fun a F => ?_
   refine qv F (r_pick_f F rfl rfl rfl) fun a F => ?_
   refine qa F fun a F => ?_
   refine nil (hK64 _ _ ?_)
   replace F : Fr a 57 [(2, .bool false)] := F.sub ⟨rfl, trivial⟩
   refine wp_ret ?_
   replace H := si H
   subst H
   refine out1 F rfl rfl ?_
   exact ⟨cf (fun x_ => if x_ < m then x_ else 0) c62, rfl, E.lv B0, cfb⟩
  refine wp_seq_k fun K25 hK25 => reg ?_
  refine qf F ff_30_0 fun a F => ?_
  refine qv F (r_load F rfl ag_3 (AT.cell h13 rfl)) fun a F => ?_
  refine nil (hK25 _ _ ?_)
  refine wp_block ?_
  refine wp_seq_k fun K26 hK26 => ?_
  refine wp_block ?_
  refine wp_seq_k fun K27 hK27 => ?_
  have J52 : ∀ (c53 : Nat → Nat) (w54 : World) (a : Act) (b51 : Bool), Fr a 57 [(1, .pointer (some qa11)), (3, .bool b51), (5, .bool (decide (a1.Rev = 0)))] → Ev (fun x => False ∨ m ≤ x) c0 w0 c53 w54 → CB (m + 2) c53 w54 → AT true (m + 1) c53 w54 qa11 [.int .i64 a1.Kind, .slice A2 a1.Key.length C3, .slice A5 a1.Value.length C6, .int .i64 a1.Rev] → SL false (Kint .u8) 0 0 c53 w54 A2 C3 a1.Key → SL false (Kint .u8) 0 0 c53 w54 A5 C6 a1.Value → table_Right.j3 a1 b51 = some r → K27 a w54 := by
   intro c53 w54 a b51 F E B h13 h4 h7 H
   unfold table_Right.j3 at H
   refine hK27 _ _ ?_
   refine wp_seq_k fun K55 hK55 => reg ?_
   refine qf F ff_30_2 fun a F => ?_
   refine qv F (r_load F rfl ag_28 (AT.cell h13 rfl)) fun a F => ?_
   refine qv F (r_lensl F Try.underlying28 rfl) fun a F => ?_
   refine qv F (r_eql F rfl rfl) fun a F => ?_
   refine qa F fun a F => ?_
   refine nil (hK55 _ _ ?_)
   refine wp_exit ?_
   refine inbNe (by decide) ?_
   refine thenE ?_
   refine inbE ?_
   exact J61 c53 w54 a b51 (decide ((a1.Value.length : Int) = 0)) (decide (a1.Rev = 0)) (F.sub ⟨rfl, rfl, rfl, trivial⟩) E B  H
  refine wp_block ?_
  refine wp_seq_k fun K28 hK28 => ?_
  refine wp_block ?_
  refine wp_seq_k fun K29 hK29 => ?_
  refine wp_block ?_
  refine wp_seq_k fun K30 hK30 => ?_
  refine wp_block ?_
  refine wp_seq_k fun K31 hK31 => ?_
  refine wp_seq_k fun K32 hK32 => ?_
  refine wp_seq_k fun K33 hK33 => reg ?_
  refine qv F (r_eql F rfl rfl) fun a F => ?_
  refine qa F fun a F => ?_
  refine nil (hK33 _ _ ?_)
  by_cases hb34 : a1.Kind = 4
  ·replace H := ip hb34 H
   refine wp_cond_true (fb F (dt hb34)) ?_
   refine wp_exit ?_
   refine thenE ?_
   refine thenE ?_
   refine inbE ?_
   refine hK30 _ _ ?_
   refine wp_seq_k fun K49 hK49 => reg ?_
   refine qf F ff_30_3 fun a F => ?_
   refine qv F (r_load F rfl ag_3 (AT.cell h13 rfl)) fun a F => ?_
   refine qv F (r_geq F rfl rfl) fun a F => ?_
   refine qm F fun a F => ?_
   by_cases hb50 : 0 ≤ a1.Rev
   ·replace H := ip hb50 H
    refine qy F (dt hb50) ?_
    refine qf F ff_30_3 fun a F => ?_
    refine qy F (dt hb50) ?_
    refine qv F (r_load F rfl ag_3 (AT.cell h13 rfl)) fun a F => ?_
    refine qy F (dt hb50) ?_
    refine qv F (r_leq F rfl rfl) fun a F => ?_
    refine qv F (r_pick_t F rfl (dt hb50) rfl) fun a F => ?_
    refine qa F fun a F => ?_
    refine nil (hK49 _ _ ?_)
    replace F : Fr a 57 [(3, .bool b20), (4, .bool (decide ((a1.Value.length : Int) ≤ 256))), (5, .bool (decide (a1.Rev ≤ 1099511627776)))] := F.sub ⟨rfl, rfl, rfl, trivial⟩
    refine wp_exit ?_
    refine inbNe (by decide) ?_
    refine thenE ?_
    refine inbNe (by decide) ?_
    refine thenE ?_
    refine inbNe (by decide) ?_
    refine thenE ?_
    refine inbNe (by decide) ?_
    refine thenE ?_
    refine inbE ?_
    exact J61 c22 w23 a b20 (decide ((a1.Value.length : Int) ≤ 256)) (decide (a1.Rev ≤ 1099511627776)) (F.sub ⟨rfl, rfl, rfl, trivial⟩) E B  H
   replace H := im hb50 H
   refine qn F (dz hb50) fun a F => ?_
   refine qn F (dz hb50) fun a F => ?_
   refine qn F (dz hb50) fun a F => ?_
   refine qv F (r_pick_f F rfl (dz hb50) rfl) fun a F => ?_
   refine qa F fun a F => ?_
   refine nil (hK49 _ _ ?_)
   replace F : Fr a 57 [(3, .bool b20), (4, .bool (decide ((a1.Value.length : Int) ≤ 256))), (5, .bool false)] := F.sub ⟨rfl, rfl, rfl, trivial⟩
   refine wp_exit ?_
   refine inbNe (by decide) ?_
   refine thenE ?_
   refine inbNe (by decide) ?_
   refine thenE ?_
   refine inbNe (by decide) ?_
   refine thenE ?_
   refine inbNe (by decide) ?_
   refine thenE ?_
   refine inbE ?_
   exact J61 c22 w23 a b20 (decide ((a1.Value.length : Int) ≤ 256)) false (F.sub ⟨rfl, rfl, rfl, trivial⟩) E B  H
  replace H := im hb34 H
  refine wp_cond_false (fb F (dz hb34)) (wp_skip (hK32 _ _ ?_))
  refine wp_seq_k fun K35 hK35 => ?_
  refine wp_seq_k fun K36 hK36 => reg ?_
  refine qv F (r_eql F rfl rfl) fun a F => ?_
  refine qa F fun a F => ?_
  refine nil (hK36 _ _ ?_)
  by_cases hb37 : a1.Kind = 2
  ·replace H := ip hb37 H
   refine wp_cond_true (fb F (dt hb37)) ?_
   refine wp_exit ?_
   refine thenE ?_
   refine thenE ?_
   refine inbNe (by decide) ?_
   refine thenE ?_
   refine inbE ?_
   refine hK29 _ _ ?_
   refine wp_exit ?_
   refine inbNe (by decide) ?_
   refine thenE ?_
   refine inbNe (by decide) ?_
   refine thenE ?_
   refine inbNe (by decide) ?_
   refine thenE ?_
   refine inbE ?_
   exact J61 c22 w23 a b20 (decide ((a1.Value.length : Int) ≤ 256)) (decide (a1.Rev = 0)) (F.sub ⟨rfl, rfl, rfl, trivial⟩) E B  H
  replace H := im hb37 H
  refine wp_cond_false (fb F (dz hb37)) (wp_skip (hK35 _ _ ?_))
  refine wp_seq_k fun K38 hK38 => ?_
  refine wp_seq_k fun K39 hK39 => reg ?_
  refine qv F (r_eql F rfl rfl) fun a F => ?_
  refine qa F fun a F => ?_
  refine nil (hK39 _ _ ?_)
  by_cases hb40 : a1.Kind = 5
  ·replace H := ip hb40 H
   refine wp_cond_true (fb F (dt hb40)) ?_
   refine wp_exit ?_
   refine thenE ?_
   refine thenE ?_
   refine inbNe (by decide) ?_
   refine thenE ?_
   refine inbNe (by decide) ?_
   refine thenE ?_
   refine inbE ?_
   refine hK28 _ _ ?_
   replace F : Fr a 57 [(1, .pointer (some qa11)), (5, .bool (decide (a1.Rev = 0)))] := F.sub ⟨rfl, rfl, trivial⟩
   refine reg ?_
   refine qf F ff_30_1 fun a F => ?_
   refine qv F (r_load F rfl ag_28 (AT.cell h13 rfl)) fun a F => ?_
   refine qv F (r_lensl F Try.underlying28 rfl) fun a F => ?_
   refine qv F (r_leq F rfl rfl) fun a F => ?_
   refine qa F fun a F => ?_
   refine nil ?_
   exact J52 c22 w23 a (decide ((a1.Key.length : Int) ≤ 65)) (F.sub ⟨rfl, rfl, rfl, trivial⟩) E B h13 h4 h7 H
  replace H := im hb40 H
  refine wp_cond_false (fb F (dz hb40)) (wp_skip (hK38 _ _ ?_))
  replace F : Fr a 57 [(1, .pointer (some qa11)), (3, .bool b20), (5, .bool (decide (a1.Rev = 0))), (24, .int .i64 a1.Kind)] := F.sub ⟨rfl, rfl, rfl, rfl, trivial⟩
  refine wp_seq_k fun K41 hK41 => ?_
  have J45 : ∀ (c46 : Nat → Nat) (w47 : World) (a : Act) (b44 : Bool), Fr a 57 [(1, .pointer (some qa11)), (3, .bool b20), (5, .bool (decide (a1.Rev = 0))), (31, .bool b44)] → Ev (fun x => False ∨ m ≤ x) c0 w0 c46 w47 → CB (m + 2) c46 w47 → AT true (m + 1) c46 w47 qa11 [.int .i64 a1.Kind, .slice A2 a1.Key.length C3, .slice A5 a1.Value.length C6, .int .i64 a1.Rev] → SL false (Kint .u8) 0 0 c46 w47 A2 C3 a1.Key → SL false (Kint .u8) 0 0 c46 w47 A5 C6 a1.Value → table_Right.j2 a1 b20 b44 = some r → K41 a w47 := by
   intro c46 w47 a b44 F E B h13 h4 h7 H
   unfold table_Right.j2 at H
   refine hK41 _ _ ?_
   by_cases hb48 : b44 = true
   ·replace H := ip hb48 H
    refine wp_cond_true (fb F hb48) ?_
    refine wp_exit ?_
    refine thenE ?_
    refine inbNe (by decide) ?_
    refine thenE ?_
    refine inbNe (by decide) ?_
    refine thenE ?_
    refine inbNe (by decide) ?_
    refine thenE ?_
    refine inbE ?_
    exact J52 c46 w47 a b20 (F.sub ⟨rfl, rfl, rfl, trivial⟩) E B h13 h4 h7 H
   replace H := im hb48 H
   refine wp_cond_false (fb F (bfalse hb48)) (wp_skip (hK31 _ _ ?_))
   refine wp_exit ?_
   refine inbNe (by decide) ?_
   refine thenE ?_
   refine inbNe (by decide) ?_
   refine thenE ?_
   refine inbNe (by decide) ?_
   refine thenE ?_
   refine inbNe (by decide) ?_
   refine thenE ?_
   refine inbE ?_
   refine hK26 _ _ ?_
   refine wp_seq_k fun K56 hK56 => ?_
   refine wp_seq_k fun K57 hK57 => reg ?_
   refine qa F fun a F => ?_
   refine nil (hK57 _ _ ?_)
   refine wp_ret ?_
   refine thenR ?_
   refine inbR ?_
   refine thenR ?_
   replace H := si H
   subst H
   refine out1 F rfl rfl ?_
   exact ⟨cf (fun x_ => if x_ < m then x_ else 0) c46, rfl, E.lv B0, cfb⟩
  refine wp_seq_k fun K42 hK42 => reg ?_
  refine qv F (r_eql F rfl rfl) fun a F => ?_
  refine qa F fun a F => ?_
  refine nil (hK42 _ _ ?_)
  by_cases hb43 : a1.Kind = 1
  ·replace H := ip hb43 H
   refine wp_cond_true (fb F (dt hb43)) ?_
   refine wp_skip ?_
   exact J45 c22 w23 a (decide (a1.Kind = 1)) (F.sub ⟨rfl, rfl, rfl, rfl, trivial⟩) E B h13 h4 h7 H
  replace H := im hb43 H
  refine wp_cond_false (fb F (dz hb43)) ?_
  refine reg ?_
  refine qv F (r_eql F rfl rfl) fun a F => ?_
  refine qa F fun a F => ?_
  refine nil ?_
  exact J45 c22 w23 a (decide (a1.Kind = 3)) (F.sub ⟨rfl, rfl, rfl, rfl, trivial⟩) E B h13 h4 h7 H
 refine regD (SB No c9 w10) 20 (.q 0 (.q 1 (.q 2 (.q 3 (.q 4 (.q 5 (.q 6 (.q 7 (.q 8 (.q 9 (.q 10 (.q 11 (.q 12 (.q 13 (.q 14 (.q 15 (.q 16 (.q 17 (.q 18 (.q 19 .nil)))))))))))))))))))) Try_hm (by decide +kernel) ?_
 intro w17 w1_ w2_ w3_ w4_
 have E18 : Ev No c9 w10 c9 w17 := Ev.same w1_ w2_ w3_ w4_
 replace B := B.same w1_
 have zh13 := h13
 have ER : Ev No c9 w10 c9 w17 := Ev.same w1_ w2_ w3_ w4_
 replace h4 := h4.ev E18 nq nq
 replace h7 := h7.ev E18 nq nq
 replace h13 := h13.ev E18 nq
 replace E := E.trans E18 nx
 refine df F ff_30_1 ER.sb fun a F => ?_
 refine dq F (fun wq hS => r_load F rfl ag_28 (AT.cell (AT.sb zh13 hS nq) rfl)) ER.sb fun a F => ?_
 refine dq F (fun wq hS => r_lensl F Try.underlying28 rfl) ER.sb fun a F => ?_
 refine dq F (fun wq hS => r_gtr F rfl rfl) ER.sb fun a F => ?_
 refine dm F ER.sb fun a F => ?_
 by_cases hb19 : 0 < (a1.Key.length : Int)
 ·replace H := ip hb19 H
  refine dy F (dt hb19) (fun wq hS => r_fieldAddr F rfl ff_30_1) ER.sb fun a F => ?_
  refine dy F (dt hb19) (fun wq hS => r_load F rfl ag_28 (AT.cell (AT.sb zh13 hS nq) rfl)) ER.sb fun a F => ?_
  refine dy F (dt hb19) (fun wq hS => r_lensl F Try.underlying28 rfl) ER.sb fun a F => ?_
  refine dy F (dt hb19) (fun wq hS => r_leq F rfl rfl) ER.sb fun a F => ?_
  refine dq F (fun wq hS => r_pick_t F rfl (dt hb19) rfl) ER.sb fun a F => ?_
  refine df F ff_30_2 ER.sb fun a F => ?_
  refine dq F (fun wq hS => r_load F rfl ag_28 (AT.cell (AT.sb zh13 hS nq) rfl)) ER.sb fun a F => ?_
  refine dq F (fun wq hS => r_lensl F Try.underlying28 rfl) ER.sb fun a F => ?_
  refine dq F (fun wq hS => r_leq F rfl rfl) ER.sb fun a F => ?_
  refine df F ff_30_3 ER.sb fun a F => ?_
  refine dq F (fun wq hS => r_load F rfl ag_3 (AT.cell (AT.sb zh13 hS nq) rfl)) ER.sb fun a F => ?_
  refine dq F (fun wq hS => r_eql F rfl rfl) ER.sb fun a F => ?_
  refine da F ER.sb fun a F => ?_
  refine da F ER.sb fun a F => ?_
  refine da F ER.sb fun a F => ?_
  refine d_nil ?_
  exact J21 c9 w17 a (decide ((a1.Key.length : Int) ≤ 64)) (F.sub ⟨rfl, rfl, rfl, rfl, trivial⟩) E B h13 h4 h7 H
 replace H := im hb19 H
 refine dn F (dz hb19) ER.sb fun a F => ?_
 refine dn F (dz hb19) ER.sb fun a F => ?_
 refine dn F (dz hb19) ER.sb fun a F => ?_
 refine dn F (dz hb19) ER.sb fun a F => ?_
 refine dq F (fun wq hS => r_pick_f F rfl (dz hb19) rfl) ER.sb fun a F => ?_
 refine df F ff_30_2 ER.sb fun a F => ?_
 refine dq F (fun wq hS => r_load F rfl ag_28 (AT.cell (AT.sb zh13 hS nq) rfl)) ER.sb fun a F => ?_
 refine dq F (fun wq hS => r_lensl F Try.underlying28 rfl) ER.sb fun a F => ?_
 refine dq F (fun wq hS => r_leq F rfl rfl) ER.sb fun a F => ?_
 refine df F ff_30_3 ER.sb fun a F => ?_
 refine dq F (fun wq hS => r_load F rfl ag_3 (AT.cell (AT.sb zh13 hS nq) rfl)) ER.sb fun a F => ?_
 refine dq F (fun wq hS => r_eql F rfl rfl) ER.sb fun a F => ?_
 refine da F ER.sb fun a F => ?_
 refine da F ER.sb fun a F => ?_
 refine da F ER.sb fun a F => ?_
 refine d_nil ?_
 exact J21 c9 w17 a false (F.sub ⟨rfl, rfl, rfl, rfl, trivial⟩) E B h13 h4 h7 H
end Go.Proofs.Ythankpjbfpcldaa.G
namespace Go.Proofs.Ythankpjbfpcldaa.G
open Go Go.RowKit
set_option linter.unusedVariables false
set_option linter.unusedSimpArgs false
section
variable {P : Program} {a : Act} {N : Nat} {L : List (Nat × Value)} {D : List Deferred} {w w' : World} {v u : Value} {x y : Operand} {d : Option Tmp} {t ty : TypeId} {pos : String} {af : Array Edge} {gd : Option (Nat × Bool)}
theorem r_sleq (F : Fr a N L D) {A : Option Addr} {n c : Nat} {e yt : TypeId} (hu : P.underlying t = some (.slice e)) (hx : ev L x = some (.slice A n c)) (hy : ev L y = some (.slice none 0 0)) : (execOp a.eval { dst := d, op := .binOp .eql t x y yt, type := ty, pos := pos, after := af, guard := gd }).run P w = .ok (.value (.bool A.isNone)) w := by
  have h : (binOp .eql t (.slice A n c) (.slice none 0 0)).run P w = .ok (.bool A.isNone) w := by
    simp only [binOp]
    simp [Op.equal, Op.maxDepth, Lib.run_equalIn_slice_nil w 9999 t e A n c 0 0 hu]
  simp [execOp, F.ev hx, F.ev hy, eqGuard, h]
end
theorem SL.none_nil {α : Type} {e : K α} {own : Bool} {j i : Nat} {c : Nat → Nat} {w : World} {cap : Nat} {xs : List α} (h : SL own e j i c w none cap xs) : xs = [] := by
  obtain ⟨cs, h2, h3, h4, h5, h6⟩ := h
  rcases h5 with h5 | ⟨a, e, _⟩
  · subst h5
    have := e.pos
    have h : cap * e.sz = 0 := h4.symm
    rcases Nat.mul_eq_zero.1 h with h | h
    · exact List.eq_nil_of_length_eq_zero (by omega)
    · omega
  · cases e
theorem bytes_Clone.calls {m : Nat} {c0 : Nat → Nat} {w0 : World} {j1 : Nat} {A2 : Option Addr} {C3 : Nat} {a1 : List Int} (hm0 : 0 < m) (B0 : CB m c0 w0) (h4 : SL false (Kint .u8) j1 0 c0 w0 A2 C3 a1) (bj1 : j1 < m) (jr : Nat) (bjr : jr < m) (r : List Int) (H : bytes_Clone.f a1 = some r) :
    Calls Try.prog 42 #[.slice A2 a1.length C3] w0 (fun e w_ => ∃ (c_ : Nat → Nat) (A0_ : Option Addr) (C0_ : Nat), e = .returned (.slice A0_ r.length C0_) ∧ Ev (fun x => False) c0 w0 c_ w_ ∧ CB m c_ w_ ∧ SL true (Kint .u8) jr 0 c_ w_ A0_ C0_ r) := by
  unfold bytes_Clone.f at H
  obtain ⟨g, H⟩ := ifN H
  have H := Option.some.inj H
  subst H
  have B := B0.mono (show m ≤ m + 2 by omega)
  have E : Ev (fun x => False ∨ m ≤ x) c0 w0 c0 w0 := Ev.refl
  refine enter (N := 8) (l := [.slice A2 a1.length C3]) Try.func42 rfl rfl (Nat.le_of_ble_eq_true rfl) fun a F => ?_
  refine wp_seq_k fun K5 hK5 => ?_
  refine reg ?_
  refine q_val F rfl rfl (by decide) (r_assign F rfl) fun a F => ?_
  refine nil ?_
  refine hK5 _ _ ?_
  refine wp_seq_k fun K6 hK6 => ?_
  refine wp_seq_k fun K7 hK7 => ?_
  refine reg ?_
  refine q_val F rfl rfl (by decide) (r_move F rfl) fun a F => ?_
  refine q_val F rfl rfl (by decide) (r_sleq F Try.underlying28 rfl rfl) fun a F => ?_
  refine nil ?_
  refine hK7 _ _ ?_
  cases A2 with
  | none =>
    have e := h4.none_nil
    subst e
    refine wp_cond_true (F.ev rfl) ?_
    refine wp_seq_k fun K8 hK8 => ?_
    refine reg ?_
    refine q_val F rfl rfl (by decide) (r_assign F rfl) fun a F => ?_
    refine nil ?_
    refine hK8 _ _ ?_
    refine wp_ret ?_
    refine thenR ?_
    refine out1 F rfl rfl ?_
    exact ⟨c0, none, 0, rfl, Ev.refl, B0, SL.nil⟩
  | some q =>
    refine wp_cond_false (F.ev rfl) ?_
    refine wp_skip ?_
    refine hK6 _ _ ?_
    refine wp_seq_k fun K9 hK9 => ?_
    refine reg ?_
    refine q_eff F rfl rfl (by decide) (e_buildSlice (e := 5) (c := c0) (k := Kint .u8) (i := 0) F [] [] ([] : List Int) (by exact trivial) (fun w => by kernel_rfl) rfl (by decide) rfl trivial (fun q => q) (m + 1)) ?_
    rintro v w1 a ⟨c1, A1, C1, rfl, E1, h1, B1⟩ F
    have B := B1 _ B (by omega)
    have h4 := SL.ev h4 E1 (fun q => q.elim) (fun q => q.elim)
    have E := E.trans E1 (fun x q => q.elim)
    refine q_val F rfl rfl (by decide) (r_move F rfl) fun a F => ?_
    refine q_eff F rfl rfl (by decide) (e_append (k := Kint .u8) (xs := []) (ys := a1) (c := c1) (j := m + 1) (i := 0) F et_28 rfl rfl h1 h4 (by simpa using g) (by have g_ := g; unfold maxLen; simp at g_ ⊢; omega) (by omega)) ?_
    rintro v w2 a ⟨c2, A3, C4, rfl, E2, h2, B2⟩ F
    have B := B2 _ B (by omega)
    have E := E.trans E2 (fun x q => by replace q : x = m + 1 := q; show False ∨ m ≤ x; omega)
    refine q_val F rfl rfl (by decide) (r_assign F rfl) fun a F => ?_
    refine nil ?_
    refine hK9 _ _ ?_
    refine wp_ret ?_
    refine out1 F rfl rfl ?_
    rw [List.nil_append] at h2 ⊢
    exact ⟨fun b_ => (fun x_ => if x_ = m + 1 then jr else if x_ < m then x_ else 0) (c2 b_), A3, C4, rfl, E.leave B0 (fun x_ => if x_ = m + 1 then jr else if x_ < m then x_ else 0) (by intro x_ hx_; show (if x_ = m + 1 then jr else if x_ < m then x_ else 0) = x_; ((repeat' split) <;> omega)), (fun b_ hb_ => by show (if (c2 b_) = m + 1 then jr else if (c2 b_) < m then (c2 b_) else 0) < m; ((repeat' split) <;> omega)), SL.rc h2 (fun k_ hk_ => by show (if (c2 k_) = m + 1 then jr else if (c2 k_) < m then (c2 k_) else 0) = _; rw [hk_]; ((repeat' split) <;> omega)) (fun k_ hk_ => by show (if (c2 k_) = m + 1 then jr else if (c2 k_) < m then (c2 k_) else 0) = _; rw [hk_]; ((repeat' split) <;> omega))⟩
end Go.Proofs.Ythankpjbfpcldaa.G
namespace Go.Proofs.Ythankpjbfpcldaa.G
open Go Go.RowKit
set_option linter.unusedVariables false
set_option linter.unusedSimpArgs false
set_option maxRecDepth 100000
set_option maxHeartbeats 40000000
theorem table_long.calls (k : Nat) {m : Nat} {c0 : Nat → Nat} {w0 : World} {A3 : Option Addr} {C4 : Nat} {a1 : ByteArray} {a2 : table_cell} (hm0 : 0 < m) (B0 : CB m c0 w0) (h5 : SL false (Kint .u8) 0 0 c0 w0 A3 C4 a2.value) (r : Int) (H : table_long.f k a1 a2 = some r) : Calls Try.prog 63 #[.string a1, .agg #[.slice A3 a2.value.length C4, .int .i64 a2.rev]] w0 (fun e w_ => ∃ (c_ : Nat → Nat), e = .returned (.int .i64 r) ∧ Ev (fun x => False) c0 w0 c_ w_ ∧ CB m c_ w_) := by
 unfold table_long.f at H
 have B := B0.mono (show m ≤ m + 2 by omega)
 have E : Ev (fun x => False ∨ m ≤ x) c0 w0 c0 w0 := Ev.refl
 refine enter (N := 24) (l := [.string a1, .agg #[.slice A3 a2.value.length C4, .int .i64 a2.rev]]) Try.func63 rfl rfl (nb rfl) fun a F => ?_
 refine wp_seq_k fun K6 hK6 => reg ?_
 refine q_eff F rfl rfl (by decide) (e_box F (v := .agg #[.slice A3 a2.value.length C4, .int .i64 a2.rev]) rfl c0 (m + 1)) ?_
 rintro v w8 a ⟨c7, qa9, rfl, E10, h11, B12⟩ F
 replace B := B12 _ B lm
 replace E := E.trans E10 nx
 replace h11 : AT true (m + 1) c7 w8 qa9 [.slice A3 a2.value.length C4, .int .i64 a2.rev] := h11
 refine qa F fun a F => ?_
 refine nil (hK6 _ _ ?_)
 refine wp_seq_k fun K14 hK14 => ?_
 refine regD (SB No c7 w8) 20 (.q 0 (.q 1 (.q 3 (.q 4 (.q 6 (.q 7 (.q 8 (.q 11 (.q 12 (.q 13 (.q 15 (.q 16 (.e 2 (.q 5 (.e 9 (.q 10 (.q 14 (.e 17 (.q 18 (.q 19 .nil)))))))))))))))))))) Try_hm (by decide +kernel) ?_
 intro w15 w1_ w2_ w3_ w4_
 have E16 : Ev No c7 w8 c7 w15 := Ev.same w1_ w2_ w3_ w4_
 replace B := B.same w1_
 have zh11 := h11
 have ER : Ev No c7 w8 c7 w15 := Ev.same w1_ w2_ w3_ w4_
 replace E := E.trans E16 nx
 refine dm F ER.sb fun a F => ?_
 refine dq F (fun wq hS => r_lenstr F Try.underlying9 rfl) ER.sb fun a F => ?_
 refine dm F ER.sb fun a F => ?_
 refine dq F (fun wq hS => r_lenstr F Try.underlying9 rfl) ER.sb fun a F => ?_
 refine df F ff_80_0 ER.sb fun a F => ?_
 refine dq F (fun wq hS => r_load F rfl ag_28 (AT.cell (AT.sb zh11 hS nq) rfl)) ER.sb fun a F => ?_
 refine dq F (fun wq hS => r_lensl F Try.underlying28 rfl) ER.sb fun a F => ?_
 refine df F ff_80_0 ER.sb fun a F => ?_
 refine dq F (fun wq hS => r_load F rfl ag_28 (AT.cell (AT.sb zh11 hS nq) rfl)) ER.sb fun a F => ?_
 refine dq F (fun wq hS => r_lensl F Try.underlying28 rfl) ER.sb fun a F => ?_
 refine df F ff_80_1 ER.sb fun a F => ?_
 refine dq F (fun wq hS => r_load F rfl ag_3 (AT.cell (AT.sb zh11 hS nq) rfl)) ER.sb fun a F => ?_
 refine d_e ?_
 obtain ⟨t17, q18, H⟩ := bind_some H
 refine oc F Try.func83 (table_num.calls k (m := m + 2) (pl hm0) B _ q18) ?_
 rintro e w20 ⟨c19, rfl, E21, B22⟩
 refine ⟨_, rfl, fun a F => ?_⟩
 have B := B22
 replace ER := ER.trans E21 nx
 replace E := E.trans E21 nx
 refine ⟨fun _ => ER.sb, ?_⟩
 refine dq F (fun wq hS => r_add F rfl rfl) ER.sb fun a F => ?_
 refine d_e ?_
 obtain ⟨t24, q25, H⟩ := bind_some H
 refine oc F Try.func83 (table_num.calls k (m := m + 2) (pl hm0) B _ q25) ?_
 rintro e w27 ⟨c26, rfl, E28, B29⟩
 refine ⟨_, rfl, fun a F => ?_⟩
 have B := B29
 replace ER := ER.trans E28 nx
 replace E := E.trans E28 nx
 refine ⟨fun _ => ER.sb, ?_⟩
 refine dq F (fun wq hS => r_add F rfl rfl) ER.sb fun a F => ?_
 refine dq F (fun wq hS => r_add F rfl rfl) ER.sb fun a F => ?_
 refine d_e ?_
 obtain ⟨t31, q32, H⟩ := bind_some H
 refine oc F Try.func83 (table_num.calls k (m := m + 2) (pl hm0) B _ q32) ?_
 rintro e w34 ⟨c33, rfl, E35, B36⟩
 refine ⟨_, rfl, fun a F => ?_⟩
 have B := B36
 replace ER := ER.trans E35 nx
 replace E := E.trans E35 nx
 refine ⟨fun _ => ER.sb, ?_⟩
 refine dq F (fun wq hS => r_add F rfl rfl) ER.sb fun a F => ?_
 refine da F ER.sb fun a F => ?_
 refine d_nil ?_
 refine hK14 _ _ ?_
 replace F : Fr a 24 [(4, .int .i64 (IntKind.i64.wrap ((IntKind.i64.wrap ((IntKind.i64.wrap ((IntKind.i64.wrap (t17 + (a1.size : Int))) + t24)) + (a2.value.length : Int))) + t31)))] := F.sub ⟨rfl, trivial⟩
 refine wp_ret ?_
 replace H := si H
 subst H
 refine out1 F rfl rfl ?_
 exact ⟨cf (fun x_ => if x_ < m then x_ else 0) c33, rfl, E.lv B0, cfb⟩
theorem cmp_isNaN.calls {m : Nat} {c0 : Nat → Nat} {w0 : World} {a1 : ByteArray} (hm0 : 0 < m) (B0 : CB m c0 w0) (r : Bool) (H : cmp_isNaN.f a1 = some r) : Calls Try.prog 86 #[.string a1] w0 (fun e w_ => ∃ (c_ : Nat → Nat), e = .returned (.bool r) ∧ Ev (fun x => False) c0 w0 c_ w_ ∧ CB m c_ w_) := by
 unfold cmp_isNaN.f at H
 have B := B0.mono (show m ≤ m + 1 by omega)
 have E : Ev (fun x => False ∨ m ≤ x) c0 w0 c0 w0 := Ev.refl
 refine enter (N := 6) (l := [.string a1]) Try.func86 rfl rfl (nb rfl) fun a F => ?_
 refine wp_seq_k fun K2 hK2 => reg ?_
 refine qa F fun a F => ?_
 refine nil (hK2 _ _ ?_)
 refine wp_seq_k fun K3 hK3 => reg ?_
 refine qm F fun a F => ?_
 refine qm F fun a F => ?_
 refine qv F (r_sneq F rfl rfl) fun a F => ?_
 refine qa F fun a F => ?_
 refine nil (hK3 _ _ ?_)
 refine wp_ret ?_
 replace H := si H
 subst H
 refine out1 F rfl rfl ?_
 exact ⟨cf (fun x_ => if x_ < m then x_ else 0) c0, rfl, E.lv B0, cfb⟩
theorem cmp_Compare.calls {m : Nat} {c0 : Nat → Nat} {w0 : World} {a1 : ByteArray} {a2 : ByteArray} (hm0 : 0 < m) (B0 : CB m c0 w0) (r : Int) (H : cmp_Compare.f a1 a2 = some r) : Calls Try.prog 62 #[.string a1, .string a2] w0 (fun e w_ => ∃ (c_ : Nat → Nat), e = .returned (.int .i64 r) ∧ Ev (fun x => False) c0 w0 c_ w_ ∧ CB m c_ w_) := by
 unfold cmp_Compare.f at H
 have B := B0.mono (show m ≤ m + 1 by omega)
 have E : Ev (fun x => False ∨ m ≤ x) c0 w0 c0 w0 := Ev.refl
 refine enter (N := 20) (l := [.string a1, .string a2]) Try.func62 rfl rfl (nb rfl) fun a F => ?_
 refine wp_seq_k fun K3 hK3 => reg ?_
 refine qa F fun a F => ?_
 refine nil (hK3 _ _ ?_)
 refine wp_seq_k fun K4 hK4 => reg ?_
 refine qm F fun a F => ?_
 obtain ⟨t5, q6, H⟩ := bind_some H
 refine qc F Try.func86 (cmp_isNaN.calls (m := m + 1) (pl hm0) B _ q6) ?_
 rintro e w8 ⟨c7, rfl, E9, B10⟩
 refine ⟨_, rfl, fun a F => ?_⟩
 have B := B10
 replace E := E.trans E9 nx
 refine qa F fun a F => ?_
 refine nil (hK4 _ _ ?_)
 refine wp_seq_k fun K12 hK12 => reg ?_
 refine qm F fun a F => ?_
 obtain ⟨t13, q14, H⟩ := bind_some H
 refine qc F Try.func86 (cmp_isNaN.calls (m := m + 1) (pl hm0) B _ q14) ?_
 rintro e w16 ⟨c15, rfl, E17, B18⟩
 refine ⟨_, rfl, fun a F => ?_⟩
 have B := B18
 replace E := E.trans E17 nx
 refine qa F fun a F => ?_
 refine nil (hK12 _ _ ?_)
 refine wp_seq_k fun K20 hK20 => ?_
 refine wp_seq_k fun K21 hK21 => reg ?_
 refine qm F fun a F => ?_
 refine nil (hK21 _ _ ?_)
 by_cases hb22 : t5 = true
 ·replace H := ip hb22 H
  refine wp_cond_true (fb F hb22) ?_
  refine wp_seq_k fun K23 hK23 => ?_
  refine wp_seq_k fun K24 hK24 => reg ?_
  refine qm F fun a F => ?_
  refine nil (hK24 _ _ ?_)
  replace F : Fr a 20 [(12, .bool t13)] := F.sub ⟨rfl, trivial⟩
  by_cases hb25 : t13 = true
  ·replace H := ip hb25 H
   refine wp_cond_true (fb F hb25) ?_
   refine wp_seq_k fun K26 hK26 => reg ?_
   refine qa F fun a F => ?_
   refine nil (hK26 _ _ ?_)
   refine wp_ret ?_
   refine thenR ?_
   refine thenR ?_
   replace H := si H
   subst H
   refine out1 F rfl rfl ?_
   exact ⟨cf (fun x_ => if x_ < m then x_ else 0) c15, rfl, E.lv B0, cfb⟩
  replace H := im hb25 H
  refine wp_cond_false (fb F (bfalse hb25)) (wp_skip (hK23 _ _ ?_))
  refine wp_seq_k fun K27 hK27 => reg ?_
  refine qa F fun a F => ?_
  refine nil (hK27 _ _ ?_)
  refine wp_ret ?_
  refine thenR ?_
  replace H := si H
  subst H
  refine out1 F rfl rfl ?_
  exact ⟨cf (fun x_ => if x_ < m then x_ else 0) c15, rfl, E.lv B0, cfb⟩
 replace H := im hb22 H
 refine wp_cond_false (fb F (bfalse hb22)) (wp_skip (hK20 _ _ ?_))
 refine wp_seq_k fun K28 hK28 => ?_
 refine wp_seq_k fun K29 hK29 => reg ?_
 refine qm F fun a F => ?_
 refine nil (hK29 _ _ ?_)
 replace F : Fr a 20 [(0, .string a1), (1, .string a2), (13, .bool t13)] := F.sub ⟨rfl, rfl, rfl, trivial⟩
 by_cases hb30 : t13 = true
 ·replace H := ip hb30 H
  refine wp_cond_true (fb F hb30) ?_
  refine wp_seq_k fun K31 hK31 => reg ?_
  refine qa F fun a F => ?_
  refine nil (hK31 _ _ ?_)
  refine wp_ret ?_
  refine thenR ?_
  replace H := si H
  subst H
  refine out1 F rfl rfl ?_
  exact ⟨cf (fun x_ => if x_ < m then x_ else 0) c15, rfl, E.lv B0, cfb⟩
 replace H := im hb30 H
 refine wp_cond_false (fb F (bfalse hb30)) (wp_skip (hK28 _ _ ?_))
 refine wp_seq_k fun K32 hK32 => ?_
 refine wp_seq_k fun K33 hK33 => reg ?_
 refine qm F fun a F => ?_
 refine qm F fun a F => ?_
 refine qv F (r_slss F rfl rfl) fun a F => ?_
 refine nil (hK33 _ _ ?_)
 by_cases hb34 : (Op.bytesLess a1.toList a2.toList) = true
 ·replace H := ip hb34 H
  refine wp_cond_true (fb F hb34) ?_
  refine wp_seq_k fun K35 hK35 => reg ?_
  refine qa F fun a F => ?_
  refine nil (hK35 _ _ ?_)
  refine wp_ret ?_
  refine thenR ?_
  replace H := si H
  subst H
  refine out1 F rfl rfl ?_
  exact ⟨cf (fun x_ => if x_ < m then x_ else 0) c15, rfl, E.lv B0, cfb⟩
 replace H := im hb34 H
 refine wp_cond_false (fb F (bfalse hb34)) (wp_skip (hK32 _ _ ?_))
 refine wp_seq_k fun K36 hK36 => ?_
 refine wp_seq_k fun K37 hK37 => reg ?_
 refine qm F fun a F => ?_
 refine qm F fun a F => ?_
 refine qv F (r_sgtr F rfl rfl) fun a F => ?_
 refine nil (hK37 _ _ ?_)
 replace F : Fr a 20 [(19, .bool (!(Op.bytesLess a1.toList a2.toList || (a1.toList == a2.toList))))] := F.sub ⟨rfl, trivial⟩
 by_cases hb38 : (Op.bytesLess a1.toList a2.toList || (a1.toList == a2.toList)) = true
 ·replace H := ip hb38 H
  refine wp_cond_false (fb F (congrArg not hb38)) (wp_skip (hK36 _ _ ?_))
  refine wp_seq_k fun K40 hK40 => reg ?_
  refine qa F fun a F => ?_
  refine nil (hK40 _ _ ?_)
  refine wp_ret ?_
  replace H := si H
  subst H
  refine out1 F rfl rfl ?_
  exact ⟨cf (fun x_ => if x_ < m then x_ else 0) c15, rfl, E.lv B0, cfb⟩
 replace H := im hb38 H
 refine wp_cond_true (fb F (congrArg not (bfalse hb38))) ?_
 refine wp_seq_k fun K39 hK39 => reg ?_
 refine qa F fun a F => ?_
 refine nil (hK39 _ _ ?_)
 refine wp_ret ?_
 refine thenR ?_
 replace H := si H
 subst H
 refine out1 F rfl rfl ?_
 exact ⟨cf (fun x_ => if x_ < m then x_ else 0) c15, rfl, E.lv B0, cfb⟩
theorem tree_Tree_Depth.calls {m : Nat} {c0 : Nat → Nat} {w0 : World} {p2 : Option Addr} {a1 : Tr} (hm0 : 0 < m) (B0 : CB m c0 w0) (h3 : TR 0 c0 w0 p2 a1) (r : Int) (H : tree_Tree_Depth.f a1 = some r) : Calls Try.prog 96 #[.pointer p2] w0 (fun e w_ => ∃ (c_ : Nat → Nat), e = .returned (.int .i64 r) ∧ Ev (fun x => False) c0 w0 c_ w_ ∧ CB m c_ w_) := by
 unfold tree_Tree_Depth.f at H
 have B := B0.mono (show m ≤ m + 1 by omega)
 have E : Ev (fun x => False ∨ m ≤ x) c0 w0 c0 w0 := Ev.refl
 refine enter (N := 9) (l := [.pointer p2]) Try.func96 rfl rfl (nb rfl) fun a F => ?_
 refine wp_seq_k fun K4 hK4 => reg ?_
 refine qa F fun a F => ?_
 refine nil (hK4 _ _ ?_)
 refine wp_seq_k fun K5 hK5 => ?_
 refine wp_seq_k fun K6 hK6 => reg ?_
 refine qm F fun a F => ?_
 refine qv F (r_peqlA F Try.underlying77 rfl rfl (TR.isNil h3)) fun a F => ?_
 refine nil (hK6 _ _ ?_)
 by_cases hb7 : (Tr.isNil a1) = true
 ·replace H := ip hb7 H
  refine wp_cond_true (fb F hb7) ?_
  refine wp_seq_k fun K8 hK8 => reg ?_
  refine qa F fun a F => ?_
  refine nil (hK8 _ _ ?_)
  refine wp_ret ?_
  refine thenR ?_
  replace H := si H
  subst H
  refine out1 F rfl rfl ?_
  exact ⟨cf (fun x_ => if x_ < m then x_ else 0) c0, rfl, E.lv B0, cfb⟩
 replace H := im hb7 H
 refine wp_cond_false (fb F (bfalse hb7)) (wp_skip (hK5 _ _ ?_))
 refine wp_seq_k fun K9 hK9 => reg ?_
 refine qm F fun a F => ?_
 replace H := cs_some H
 obtain ⟨tl10, tr11, tk12, tv13, ts14, td15, e16, H⟩ := H
 have z17 := h3
 rw [e16] at z17
 obtain ⟨ad21, lp22, rp23, A18, C19, rfl, hat24, h20, hl25, hr26⟩ := TR.node z17
 refine qv F (r_nil F rfl) fun a F => ?_
 refine qf F ff_112_5 fun a F => ?_
 refine qv F (r_load F rfl ag_3 (AT.cell hat24 rfl)) fun a F => ?_
 refine qa F fun a F => ?_
 refine nil (hK9 _ _ ?_)
 refine wp_ret ?_
 replace H := si H
 subst H
 refine out1 F rfl rfl ?_
 exact ⟨cf (fun x_ => if x_ < m then x_ else 0) c0, rfl, E.lv B0, cfb⟩
theorem tree_node.calls {m : Nat} {c0 : Nat → Nat} {w0 : World} {p2 : Option Addr} {A6 : Option Addr} {C7 : Nat} {p10 : Option Addr} {a1 : Tr} {a4 : ByteArray} {a5 : table_cell} {a9 : Tr} (hm0 : 0 < m) (B0 : CB m c0 w0) (h3 : TR 0 c0 w0 p2 a1) (h8 : SL false (Kint .u8) 0 0 c0 w0 A6 C7 a5.value) (h11 : TR 0 c0 w0 p10 a9) (r : Tr) (H : tree_node.f a1 a4 a5 a9 = some r) : Calls Try.prog 89 #[.pointer p2, .string a4, .agg #[.slice A6 a5.value.length C7, .int .i64 a5.rev], .pointer p10] w0 (fun e w_ => ∃ (c_ : Nat → Nat) (P0_ : Option Addr), e = .returned (.pointer P0_) ∧ Ev (fun x => False) c0 w0 c_ w_ ∧ CB m c_ w_ ∧ TR 0 c_ w_ P0_ r) := by
 unfold tree_node.f at H
 have B := B0.mono (show m ≤ m + 2 by omega)
 have E : Ev (fun x => False ∨ m ≤ x) c0 w0 c0 w0 := Ev.refl
 refine enter (N := 27) (l := [.pointer p2, .string a4, .agg #[.slice A6 a5.value.length C7, .int .i64 a5.rev], .pointer p10]) Try.func89 rfl rfl (nb rfl) fun a F => ?_
 refine wp_seq_k fun K12 hK12 => reg ?_
 refine q_eff F rfl rfl (by decide) (e_box F (v := .agg #[.slice A6 a5.value.length C7, .int .i64 a5.rev]) rfl c0 (m + 1)) ?_
 rintro v w14 a ⟨c13, qa15, rfl, E16, h17, B18⟩ F
 replace B := B18 _ B lm
 replace h3 := h3.ev E16 nq nq
 replace h8 := h8.ev E16 nq nq
 replace h11 := h11.ev E16 nq nq
 replace E := E.trans E16 nx
 replace h17 : AT true (m + 1) c13 w14 qa15 [.slice A6 a5.value.length C7, .int .i64 a5.rev] := h17
 refine qa F fun a F => ?_
 refine nil (hK12 _ _ ?_)
 refine wp_seq_k fun K20 hK20 => ?_
 refine regD (SB No c13 w14) 19 (.q 0 (.q 1 (.q 2 (.q 3 (.q 4 (.q 7 (.q 10 (.q 12 (.e 5 (.q 6 (.e 8 (.q 9 (.e 11 (.e 13 (.q 14 (.q 15 (.q 16 (.e 17 (.q 18 .nil))))))))))))))))))) Try_hm (by decide +kernel) ?_
 intro w21 w1_ w2_ w3_ w4_
 have E22 : Ev No c13 w14 c13 w21 := Ev.same w1_ w2_ w3_ w4_
 replace B := B.same w1_
 have zh17 := h17
 have ER : Ev No c13 w14 c13 w21 := Ev.same w1_ w2_ w3_ w4_
 replace h3 := h3.ev E22 nq nq
 replace h8 := h8.ev E22 nq nq
 replace h11 := h11.ev E22 nq nq
 replace E := E.trans E22 nx
 refine dm F ER.sb fun a F => ?_
 refine dm F ER.sb fun a F => ?_
 refine dm F ER.sb fun a F => ?_
 refine dq F (fun wq hS => r_loads (cs := [.slice A6 a5.value.length C7, .int .i64 a5.rev]) F rfl ag_80 sz_80 (AT.sb zh17 hS nq)) ER.sb fun a F => ?_
 refine dm F ER.sb fun a F => ?_
 refine dm F ER.sb fun a F => ?_
 refine dm F ER.sb fun a F => ?_
 refine dm F ER.sb fun a F => ?_
 refine d_e ?_
 obtain ⟨t23, q24, H⟩ := bind_some H
 refine oc F Try.func45 (tree_Tree_Len.calls (m := m + 2) (pl hm0) B h3 _ q24) ?_
 rintro e w26 ⟨c25, rfl, E27, B28⟩
 refine ⟨_, rfl, fun a F => ?_⟩
 have B := B28
 replace ER := ER.trans E27 nx
 replace h3 := h3.ev E27 nq nq
 replace h8 := h8.ev E27 nq nq
 replace h11 := h11.ev E27 nq nq
 replace E := E.trans E27 nx
 refine ⟨fun _ => ER.sb, ?_⟩
 refine dq F (fun wq hS => r_add F rfl rfl) ER.sb fun a F => ?_
 refine d_e ?_
 obtain ⟨t30, q31, H⟩ := bind_some H
 refine oc F Try.func45 (tree_Tree_Len.calls (m := m + 2) (pl hm0) B h11 _ q31) ?_
 rintro e w33 ⟨c32, rfl, E34, B35⟩
 refine ⟨_, rfl, fun a F => ?_⟩
 have B := B35
 replace ER := ER.trans E34 nx
 replace h3 := h3.ev E34 nq nq
 replace h8 := h8.ev E34 nq nq
 replace h11 := h11.ev E34 nq nq
 replace E := E.trans E34 nx
 refine ⟨fun _ => ER.sb, ?_⟩
 refine dq F (fun wq hS => r_add F rfl rfl) ER.sb fun a F => ?_
 refine d_e ?_
 obtain ⟨t37, q38, H⟩ := bind_some H
 refine oc F Try.func96 (tree_Tree_Depth.calls (m := m + 2) (pl hm0) B h3 _ q38) ?_
 rintro e w40 ⟨c39, rfl, E41, B42⟩
 refine ⟨_, rfl, fun a F => ?_⟩
 have B := B42
 replace ER := ER.trans E41 nx
 replace h3 := h3.ev E41 nq nq
 replace h8 := h8.ev E41 nq nq
 replace h11 := h11.ev E41 nq nq
 replace E := E.trans E41 nx
 refine ⟨fun _ => ER.sb, ?_⟩
 refine d_e ?_
 obtain ⟨t44, q45, H⟩ := bind_some H
 refine oc F Try.func96 (tree_Tree_Depth.calls (m := m + 2) (pl hm0) B h11 _ q45) ?_
 rintro e w47 ⟨c46, rfl, E48, B49⟩
 refine ⟨_, rfl, fun a F => ?_⟩
 have B := B49
 replace ER := ER.trans E48 nx
 replace h3 := h3.ev E48 nq nq
 replace h8 := h8.ev E48 nq nq
 replace h11 := h11.ev E48 nq nq
 replace E := E.trans E48 nx
 refine ⟨fun _ => ER.sb, ?_⟩
 refine dq F (fun wq hS => r_max F rfl rfl) ER.sb fun a F => ?_
 refine dq F (fun wq hS => r_add F rfl rfl) ER.sb fun a F => ?_
 refine d_q F rfl rfl rfl (by decide) (fun wq hS => r_build (v := .agg #[.pointer p2, .pointer p10, .string a4, .slice A6 a5.value.length C7, .int .i64 a5.rev, .int .i64 (IntKind.i64.wrap ((IntKind.i64.wrap (t23 + 1)) + t30)), .int .i64 (IntKind.i64.wrap (1 + (max t37 t44)))]) F [(0, .pointer p2), (1, .pointer p10), (2, .string a4), (3, .agg #[.slice A6 a5.value.length C7, .int .i64 a5.rev]), (4, .int .i64 (IntKind.i64.wrap ((IntKind.i64.wrap (t23 + 1)) + t30))), (5, .int .i64 (IntKind.i64.wrap (1 + (max t37 t44))))] (by exact ⟨rfl, rfl, rfl, rfl, rfl, rfl, rfl, rfl, rfl, rfl, rfl, rfl, trivial⟩) (fun w => by kernel_rfl)) ER.sb fun a F => ?_
 refine d_e ?_
 refine o_eff F rfl rfl rfl (by decide) (e_box F (v := .agg #[.pointer p2, .pointer p10, .string a4, .slice A6 a5.value.length C7, .int .i64 a5.rev, .int .i64 (IntKind.i64.wrap ((IntKind.i64.wrap (t23 + 1)) + t30)), .int .i64 (IntKind.i64.wrap (1 + (max t37 t44)))]) rfl c46 0) ?_
 rintro v w52 a ⟨c51, qa53, rfl, E54, h55, B56⟩ F
 replace B := B56 _ B (pl hm0)
 replace ER := ER.trans E54 nx
 replace h3 := h3.ev E54 nq nq
 replace h8 := h8.ev E54 nq nq
 replace h11 := h11.ev E54 nq nq
 replace E := E.trans E54 nx
 replace h55 : AT true 0 c51 w52 qa53 [.pointer p2, .pointer p10, .string a4, .slice A6 a5.value.length C7, .int .i64 a5.rev, .int .i64 (IntKind.i64.wrap ((IntKind.i64.wrap (t23 + 1)) + t30)), .int .i64 (IntKind.i64.wrap (1 + (max t37 t44)))] := h55
 refine ⟨fun _ => ER.sb, ?_⟩
 refine da F ER.sb fun a F => ?_
 refine d_nil ?_
 refine hK20 _ _ ?_
 replace F : Fr a 27 [(8, .pointer (some qa53))] := F.sub ⟨rfl, trivial⟩
 refine wp_ret ?_
 have h58 : TR 0 c51 w52 (some qa53) (Tr.node a1 a9 a4 a5 (IntKind.i64.wrap ((IntKind.i64.wrap (t23 + 1)) + t30)) (IntKind.i64.wrap (1 + (max t37 t44)))) := TR.mk h55.r h8 h3 h11
 replace H := si H
 subst H
 refine out1 F rfl rfl ?_
 exact ⟨cf (fun x_ => if x_ < m then x_ else 0) c51, (some qa53), rfl, E.lv B0, cfb, TR.rc h58 cfk cfk⟩
theorem tree_turnLeft.calls {m : Nat} {c0 : Nat → Nat} {w0 : World} {p2 : Option Addr} {a1 : Tr} (hm0 : 0 < m) (B0 : CB m c0 w0) (h3 : TR 0 c0 w0 p2 a1) (r : Tr) (H : tree_turnLeft.f a1 = some r) : Calls Try.prog 98 #[.pointer p2] w0 (fun e w_ => ∃ (c_ : Nat → Nat) (P0_ : Option Addr), e = .returned (.pointer P0_) ∧ Ev (fun x => False) c0 w0 c_ w_ ∧ CB m c_ w_ ∧ TR 0 c_ w_ P0_ r) := by
 unfold tree_turnLeft.f at H
 have B := B0.mono (show m ≤ m + 1 by omega)
 have E : Ev (fun x => False ∨ m ≤ x) c0 w0 c0 w0 := Ev.refl
 refine enter (N := 38) (l := [.pointer p2]) Try.func98 rfl rfl (nb rfl) fun a F => ?_
 refine wp_seq_k fun K4 hK4 => reg ?_
 refine qa F fun a F => ?_
 refine nil (hK4 _ _ ?_)
 refine wp_seq_k fun K5 hK5 => reg ?_
 refine qm F fun a F => ?_
 replace H := cs_some H
 obtain ⟨tl6, tr7, tk8, tv9, ts10, td11, e12, H⟩ := H
 have z13 := h3
 rw [e12] at z13
 obtain ⟨ad17, lp18, rp19, A14, C15, rfl, hat20, h16, hl21, hr22⟩ := TR.node z13
 refine qv F (r_nil F rfl) fun a F => ?_
 refine qf F ff_112_1 fun a F => ?_
 refine qv F (r_load F rfl ag_77 (AT.cell hat20 rfl)) fun a F => ?_
 refine qa F fun a F => ?_
 refine nil (hK5 _ _ ?_)
 refine wp_seq_k fun K24 hK24 => ?_
 refine regD (SB No c0 w0) 31 (.q 0 (.q 1 (.q 2 (.q 3 (.q 4 (.q 5 (.q 6 (.q 7 (.q 8 (.q 9 (.q 10 (.q 11 (.q 12 (.q 13 (.q 14 (.q 15 (.q 17 (.q 18 (.q 19 (.q 20 (.q 21 (.q 22 (.q 23 (.q 24 (.q 25 (.q 26 (.q 27 (.q 28 (.e 16 (.e 29 (.q 30 .nil))))))))))))))))))))))))))))))) Try_hm (by decide +kernel) ?_
 intro w25 w1_ w2_ w3_ w4_
 have E26 : Ev No c0 w0 c0 w25 := Ev.same w1_ w2_ w3_ w4_
 replace B := B.same w1_
 have zhr22 := hr22
 have zhat20 := hat20
 have ER : Ev No c0 w0 c0 w25 := Ev.same w1_ w2_ w3_ w4_
 replace h16 := h16.ev E26 nq nq
 replace hl21 := hl21.ev E26 nq nq
 replace E := E.trans E26 nx
 refine dm F ER.sb fun a F => ?_
 refine dq F (fun wq hS => r_nil F rfl) ER.sb fun a F => ?_
 refine df F ff_112_0 ER.sb fun a F => ?_
 refine dq F (fun wq hS => r_load F rfl ag_77 (AT.cell (AT.sb zhat20 hS nq) rfl)) ER.sb fun a F => ?_
 refine dm F ER.sb fun a F => ?_
 refine dq F (fun wq hS => r_nil F rfl) ER.sb fun a F => ?_
 refine df F ff_112_2 ER.sb fun a F => ?_
 refine dq F (fun wq hS => r_load F rfl ag_9 (AT.cell (AT.sb zhat20 hS nq) rfl)) ER.sb fun a F => ?_
 refine dm F ER.sb fun a F => ?_
 refine dq F (fun wq hS => r_nil F rfl) ER.sb fun a F => ?_
 refine df F ff_112_3 ER.sb fun a F => ?_
 refine dq F (fun wq hS => r_loads (cs := [.slice A14 tv9.value.length C15, .int .i64 tv9.rev]) F rfl ag_80 sz_80 (AT.sub (AT.sb zhat20 hS nq) 3 2 (nb rfl))) ER.sb fun a F => ?_
 refine dm F ER.sb fun a F => ?_
 replace H := cs_some H
 obtain ⟨tl27, tr28, tk29, tv30, ts31, td32, e33, H⟩ := H
 have z34 := zhr22
 rw [e33] at z34
 obtain ⟨ad38, lp39, rp40, A35, C36, rfl, hat41, h37, hl42, hr43⟩ := TR.node z34
 replace h37 := h37.ev ER nq nq
 replace hl42 := hl42.ev ER nq nq
 replace hr43 := hr43.ev ER nq nq
 have zhat41 := hat41
 refine dq F (fun wq hS => r_nil F rfl) ER.sb fun a F => ?_
 refine df F ff_112_0 ER.sb fun a F => ?_
 refine dq F (fun wq hS => r_load F rfl ag_77 (AT.cell (AT.sb zhat41 hS nq) rfl)) ER.sb fun a F => ?_
 refine dm F ER.sb fun a F => ?_
 refine dq F (fun wq hS => r_nil F rfl) ER.sb fun a F => ?_
 refine df F ff_112_2 ER.sb fun a F => ?_
 refine dq F (fun wq hS => r_load F rfl ag_9 (AT.cell (AT.sb zhat41 hS nq) rfl)) ER.sb fun a F => ?_
 refine dm F ER.sb fun a F => ?_
 refine dq F (fun wq hS => r_nil F rfl) ER.sb fun a F => ?_
 refine df F ff_112_3 ER.sb fun a F => ?_
 refine dq F (fun wq hS => r_loads (cs := [.slice A35 tv30.value.length C36, .int .i64 tv30.rev]) F rfl ag_80 sz_80 (AT.sub (AT.sb zhat41 hS nq) 3 2 (nb rfl))) ER.sb fun a F => ?_
 refine dm F ER.sb fun a F => ?_
 refine dq F (fun wq hS => r_nil F rfl) ER.sb fun a F => ?_
 refine df F ff_112_1 ER.sb fun a F => ?_
 refine dq F (fun wq hS => r_load F rfl ag_77 (AT.cell (AT.sb zhat41 hS nq) rfl)) ER.sb fun a F => ?_
 refine d_e ?_
 obtain ⟨t45, q46, H⟩ := bind_some H
 refine oc F Try.func89 (tree_node.calls (m := m + 1) (pl hm0) B hl21 h16 hl42 _ q46) ?_
 rintro e w48 ⟨c47, p51, rfl, E49, B50, h52⟩
 refine ⟨_, rfl, fun a F => ?_⟩
 have B := B50
 replace ER := ER.trans E49 nx
 replace h37 := h37.ev E49 nq nq
 replace hr43 := hr43.ev E49 nq nq
 replace E := E.trans E49 nx
 refine ⟨fun _ => ER.sb, ?_⟩
 refine d_e ?_
 obtain ⟨t54, q55, H⟩ := bind_some H
 refine oc F Try.func89 (tree_node.calls (m := m + 1) (pl hm0) B h52 h37 hr43 _ q55) ?_
 rintro e w57 ⟨c56, p60, rfl, E58, B59, h61⟩
 refine ⟨_, rfl, fun a F => ?_⟩
 have B := B59
 replace ER := ER.trans E58 nx
 replace E := E.trans E58 nx
 refine ⟨fun _ => ER.sb, ?_⟩
 refine da F ER.sb fun a F => ?_
 refine d_nil ?_
 refine hK24 _ _ ?_
 replace F : Fr a 38 [(2, .pointer p60)] := F.sub ⟨rfl, trivial⟩
 refine wp_ret ?_
 replace H := si H
 subst H
 refine out1 F rfl rfl ?_
 exact ⟨cf (fun x_ => if x_ < m then x_ else 0) c56, p60, rfl, E.lv B0, cfb, TR.rc h61 cfk cfk⟩
theorem tree_turnRight.calls {m : Nat} {c0 : Nat → Nat} {w0 : World} {p2 : Option Addr} {a1 : Tr} (hm0 : 0 < m) (B0 : CB m c0 w0) (h3 : TR 0 c0 w0 p2 a1) (r : Tr) (H : tree_turnRight.f a1 = some r) : Calls Try.prog 97 #[.pointer p2] w0 (fun e w_ => ∃ (c_ : Nat → Nat) (P0_ : Option Addr), e = .returned (.pointer P0_) ∧ Ev (fun x => False) c0 w0 c_ w_ ∧ CB m c_ w_ ∧ TR 0 c_ w_ P0_ r) := by
 unfold tree_turnRight.f at H
 have B := B0.mono (show m ≤ m + 1 by omega)
 have E : Ev (fun x => False ∨ m ≤ x) c0 w0 c0 w0 := Ev.refl
 refine enter (N := 38) (l := [.pointer p2]) Try.func97 rfl rfl (nb rfl) fun a F => ?_
 refine wp_seq_k fun K4 hK4 => reg ?_
 refine qa F fun a F => ?_
 refine nil (hK4 _ _ ?_)
 refine wp_seq_k fun K5 hK5 => reg ?_
 refine qm F fun a F => ?_
 replace H := cs_some H
 obtain ⟨tl6, tr7, tk8, tv9, ts10, td11, e12, H⟩ := H
 have z13 := h3
 rw [e12] at z13
 obtain ⟨ad17, lp18, rp19, A14, C15, rfl, hat20, h16, hl21, hr22⟩ := TR.node z13
 refine qv F (r_nil F rfl) fun a F => ?_
 refine qf F ff_112_0 fun a F => ?_
 refine qv F (r_load F rfl ag_77 (AT.cell hat20 rfl)) fun a F => ?_
 refine qa F fun a F => ?_
 refine nil (hK5 _ _ ?_)
 refine wp_seq_k fun K24 hK24 => ?_
 refine regD (SB No c0 w0) 31 (.q 0 (.q 1 (.q 2 (.q 3 (.q 4 (.q 5 (.q 6 (.q 7 (.q 8 (.q 9 (.q 10 (.q 11 (.q 12 (.q 13 (.q 14 (.q 15 (.q 16 (.q 17 (.q 18 (.q 19 (.q 20 (.q 21 (.q 22 (.q 23 (.q 24 (.q 25 (.q 26 (.q 27 (.e 28 (.e 29 (.q 30 .nil))))))))))))))))))))))))))))))) Try_hm (by decide +kernel) ?_
 intro w25 w1_ w2_ w3_ w4_
 have E26 : Ev No c0 w0 c0 w25 := Ev.same w1_ w2_ w3_ w4_
 replace B := B.same w1_
 have zhl21 := hl21
 have zhat20 := hat20
 have ER : Ev No c0 w0 c0 w25 := Ev.same w1_ w2_ w3_ w4_
 replace h16 := h16.ev E26 nq nq
 replace hr22 := hr22.ev E26 nq nq
 replace E := E.trans E26 nx
 refine dm F ER.sb fun a F => ?_
 replace H := cs_some H
 obtain ⟨tl27, tr28, tk29, tv30, ts31, td32, e33, H⟩ := H
 have z34 := zhl21
 rw [e33] at z34
 obtain ⟨ad38, lp39, rp40, A35, C36, rfl, hat41, h37, hl42, hr43⟩ := TR.node z34
 replace h37 := h37.ev ER nq nq
 replace hl42 := hl42.ev ER nq nq
 replace hr43 := hr43.ev ER nq nq
 have zhat41 := hat41
 refine dq F (fun wq hS => r_nil F rfl) ER.sb fun a F => ?_
 refine df F ff_112_0 ER.sb fun a F => ?_
 refine dq F (fun wq hS => r_load F rfl ag_77 (AT.cell (AT.sb zhat41 hS nq) rfl)) ER.sb fun a F => ?_
 refine dm F ER.sb fun a F => ?_
 refine dq F (fun wq hS => r_nil F rfl) ER.sb fun a F => ?_
 refine df F ff_112_2 ER.sb fun a F => ?_
 refine dq F (fun wq hS => r_load F rfl ag_9 (AT.cell (AT.sb zhat41 hS nq) rfl)) ER.sb fun a F => ?_
 refine dm F ER.sb fun a F => ?_
 refine dq F (fun wq hS => r_nil F rfl) ER.sb fun a F => ?_
 refine df F ff_112_3 ER.sb fun a F => ?_
 refine dq F (fun wq hS => r_loads (cs := [.slice A35 tv30.value.length C36, .int .i64 tv30.rev]) F rfl ag_80 sz_80 (AT.sub (AT.sb zhat41 hS nq) 3 2 (nb rfl))) ER.sb fun a F => ?_
 refine dm F ER.sb fun a F => ?_
 refine dq F (fun wq hS => r_nil F rfl) ER.sb fun a F => ?_
 refine df F ff_112_1 ER.sb fun a F => ?_
 refine dq F (fun wq hS => r_load F rfl ag_77 (AT.cell (AT.sb zhat41 hS nq) rfl)) ER.sb fun a F => ?_
 refine dm F ER.sb fun a F => ?_
 refine dq F (fun wq hS => r_nil F rfl) ER.sb fun a F => ?_
 refine df F ff_112_2 ER.sb fun a F => ?_
 refine dq F (fun wq hS => r_load F rfl ag_9 (AT.cell (AT.sb zhat20 hS nq) rfl)) ER.sb fun a F => ?_
 refine dm F ER.sb fun a F => ?_
 refine dq F (fun wq hS => r_nil F rfl) ER.sb fun a F => ?_
 refine df F ff_112_3 ER.sb fun a F => ?_
 refine dq F (fun wq hS => r_loads (cs := [.slice A14 tv9.value.length C15, .int .i64 tv9.rev]) F rfl ag_80 sz_80 (AT.sub (AT.sb zhat20 hS nq) 3 2 (nb rfl))) ER.sb fun a F => ?_
 refine dm F ER.sb fun a F => ?_
 refine dq F (fun wq hS => r_nil F rfl) ER.sb fun a F => ?_
 refine df F ff_112_1 ER.sb fun a F => ?_
 refine dq F (fun wq hS => r_load F rfl ag_77 (AT.cell (AT.sb zhat20 hS nq) rfl)) ER.sb fun a F => ?_
 refine d_e ?_
 obtain ⟨t45, q46, H⟩ := bind_some H
 refine oc F Try.func89 (tree_node.calls (m := m + 1) (pl hm0) B hr43 h16 hr22 _ q46) ?_
 rintro e w48 ⟨c47, p51, rfl, E49, B50, h52⟩
 refine ⟨_, rfl, fun a F => ?_⟩
 have B := B50
 replace ER := ER.trans E49 nx
 replace h37 := h37.ev E49 nq nq
 replace hl42 := hl42.ev E49 nq nq
 replace E := E.trans E49 nx
 refine ⟨fun _ => ER.sb, ?_⟩
 refine d_e ?_
 obtain ⟨t54, q55, H⟩ := bind_some H
 refine oc F Try.func89 (tree_node.calls (m := m + 1) (pl hm0) B hl42 h37 h52 _ q55) ?_
 rintro e w57 ⟨c56, p60, rfl, E58, B59, h61⟩
 refine ⟨_, rfl, fun a F => ?_⟩
 have B := B59
 replace ER := ER.trans E58 nx
 replace E := E.trans E58 nx
 refine ⟨fun _ => ER.sb, ?_⟩
 refine da F ER.sb fun a F => ?_
 refine d_nil ?_
 refine hK24 _ _ ?_
 replace F : Fr a 38 [(2, .pointer p60)] := F.sub ⟨rfl, trivial⟩
 refine wp_ret ?_
 replace H := si H
 subst H
 refine out1 F rfl rfl ?_
 exact ⟨cf (fun x_ => if x_ < m then x_ else 0) c56, p60, rfl, E.lv B0, cfb, TR.rc h61 cfk cfk⟩
end Go.Proofs.Ythankpjbfpcldaa.G