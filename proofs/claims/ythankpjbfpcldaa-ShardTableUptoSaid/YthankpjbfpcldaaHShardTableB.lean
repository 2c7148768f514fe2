/- Words, contracts and plain laws on which the row of 'ShardTable' hangs (its '..UptoSaid': inputs of bulk at most 1048576). -/
import Derived.Test.YthankpjbfpcldaaHShardTableA
import Derived.WalkSpells
namespace Go.Proofs.Ythankpjbfpcldaa.G
open Go Go.RowKit
set_option linter.unusedVariables false
set_option linter.unusedSimpArgs false
def K_table_cell : K table_cell where
  sz := 2
  pos := by decide
  rep := fun i c w cs x => ∃ (A1 : Option Addr) (C2 : Nat), cs = [.slice A1 x.value.length C2, .int .i64 x.rev] ∧ SL false (Kint .u8) i i c w A1 C2 x.value
  ev := fun ⟨A1, C2, h_, h3⟩ E hi => ⟨A1, C2, h_, h3.ev E hi hi⟩
  rc := fun ⟨A1, C2, h_, h3⟩ hr => ⟨A1, C2, h_, h3.rc hr hr⟩
  len := fun ⟨A1, C2, h_, h3⟩ => by rw [h_]; rfl
  one := @fun i c w cs x ⟨A1, C2, h_, h3⟩ u hu => by rw [h_] at hu; exact one_all (us := [.slice A1 x.value.length C2, .int .i64 x.rev]) rfl u hu
def K_api_Op : K api_Op where
  sz := 4
  pos := by decide
  rep := fun i c w cs x => ∃ (A1 : Option Addr) (C2 : Nat) (A4 : Option Addr) (C5 : Nat), cs = [.int .i64 x.Kind, .slice A1 x.Key.length C2, .slice A4 x.Value.length C5, .int .i64 x.Rev] ∧ SL false (Kint .u8) i i c w A1 C2 x.Key ∧ SL false (Kint .u8) i i c w A4 C5 x.Value
  ev := fun ⟨A1, C2, A4, C5, h_, h3, h6⟩ E hi => ⟨A1, C2, A4, C5, h_, h3.ev E hi hi, h6.ev E hi hi⟩
  rc := fun ⟨A1, C2, A4, C5, h_, h3, h6⟩ hr => ⟨A1, C2, A4, C5, h_, h3.rc hr hr, h6.rc hr hr⟩
  len := fun ⟨A1, C2, A4, C5, h_, h3, h6⟩ => by rw [h_]; rfl
  one := @fun i c w cs x ⟨A1, C2, A4, C5, h_, h3, h6⟩ u hu => by rw [h_] at hu; exact one_all (us := [.int .i64 x.Kind, .slice A1 x.Key.length C2, .slice A4 x.Value.length C5, .int .i64 x.Rev]) rfl u hu
def K_api_Answer : K api_Answer where
  sz := 5
  pos := by decide
  rep := fun i c w cs x => ∃ (A1 : Option Addr) (C2 : Nat) (A4 : Option Addr) (C5 : Nat), cs = [.bool x.Done, .slice A1 x.Key.length C2, .slice A4 x.Value.length C5, .int .i64 x.Rev, .int .i64 x.At] ∧ SL false (Kint .u8) i i c w A1 C2 x.Key ∧ SL false (Kint .u8) i i c w A4 C5 x.Value
  ev := fun ⟨A1, C2, A4, C5, h_, h3, h6⟩ E hi => ⟨A1, C2, A4, C5, h_, h3.ev E hi hi, h6.ev E hi hi⟩
  rc := fun ⟨A1, C2, A4, C5, h_, h3, h6⟩ hr => ⟨A1, C2, A4, C5, h_, h3.rc hr hr, h6.rc hr hr⟩
  len := fun ⟨A1, C2, A4, C5, h_, h3, h6⟩ => by rw [h_]; rfl
  one := @fun i c w cs x ⟨A1, C2, A4, C5, h_, h3, h6⟩ u hu => by rw [h_] at hu; exact one_all (us := [.bool x.Done, .slice A1 x.Key.length C2, .slice A4 x.Value.length C5, .int .i64 x.Rev, .int .i64 x.At]) rfl u hu
def K_api_Row : K api_Row where
  sz := 3
  pos := by decide
  rep := fun i c w cs x => ∃ (A1 : Option Addr) (C2 : Nat) (A4 : Option Addr) (C5 : Nat), cs = [.slice A1 x.Key.length C2, .slice A4 x.Value.length C5, .int .i64 x.Rev] ∧ SL false (Kint .u8) i i c w A1 C2 x.Key ∧ SL false (Kint .u8) i i c w A4 C5 x.Value
  ev := fun ⟨A1, C2, A4, C5, h_, h3, h6⟩ E hi => ⟨A1, C2, A4, C5, h_, h3.ev E hi hi, h6.ev E hi hi⟩
  rc := fun ⟨A1, C2, A4, C5, h_, h3, h6⟩ hr => ⟨A1, C2, A4, C5, h_, h3.rc hr hr, h6.rc hr hr⟩
  len := fun ⟨A1, C2, A4, C5, h_, h3, h6⟩ => by rw [h_]; rfl
  one := @fun i c w cs x ⟨A1, C2, A4, C5, h_, h3, h6⟩ u hu => by rw [h_] at hu; exact one_all (us := [.slice A1 x.Key.length C2, .slice A4 x.Value.length C5, .int .i64 x.Rev]) rfl u hu
def K_api_Seat : K api_Seat where
  sz := 7
  pos := by decide
  rep := fun i c w cs x => ∃ (A1 : Option Addr) (C2 : Nat) (A4 : Option Addr) (C5 : Nat), cs = [.int .i64 x.Client, .int .i64 x.Seq, .bool x.Answer.Done, .slice A1 x.Answer.Key.length C2, .slice A4 x.Answer.Value.length C5, .int .i64 x.Answer.Rev, .int .i64 x.Answer.At] ∧ SL false (Kint .u8) i i c w A1 C2 x.Answer.Key ∧ SL false (Kint .u8) i i c w A4 C5 x.Answer.Value
  ev := fun ⟨A1, C2, A4, C5, h_, h3, h6⟩ E hi => ⟨A1, C2, A4, C5, h_, h3.ev E hi hi, h6.ev E hi hi⟩
  rc := fun ⟨A1, C2, A4, C5, h_, h3, h6⟩ hr => ⟨A1, C2, A4, C5, h_, h3.rc hr hr, h6.rc hr hr⟩
  len := fun ⟨A1, C2, A4, C5, h_, h3, h6⟩ => by rw [h_]; rfl
  one := @fun i c w cs x ⟨A1, C2, A4, C5, h_, h3, h6⟩ u hu => by rw [h_] at hu; exact one_all (us := [.int .i64 x.Client, .int .i64 x.Seq, .bool x.Answer.Done, .slice A1 x.Answer.Key.length C2, .slice A4 x.Answer.Value.length C5, .int .i64 x.Answer.Rev, .int .i64 x.Answer.At]) rfl u hu
def K_haulagelaw14_Step : K haulagelaw14_Step where
  sz := 8
  pos := by decide
  rep := fun i c w cs x => ∃ (A1 : Option Addr) (C2 : Nat) (A4 : Option Addr) (C5 : Nat), cs = [.int .i64 x.Who, .int .i64 x.Kind, .int .i64 x.Client, .int .i64 x.Seq, .int .i64 x.Op.Kind, .slice A1 x.Op.Key.length C2, .slice A4 x.Op.Value.length C5, .int .i64 x.Op.Rev] ∧ SL false (Kint .u8) i i c w A1 C2 x.Op.Key ∧ SL false (Kint .u8) i i c w A4 C5 x.Op.Value
  ev := fun ⟨A1, C2, A4, C5, h_, h3, h6⟩ E hi => ⟨A1, C2, A4, C5, h_, h3.ev E hi hi, h6.ev E hi hi⟩
  rc := fun ⟨A1, C2, A4, C5, h_, h3, h6⟩ hr => ⟨A1, C2, A4, C5, h_, h3.rc hr hr, h6.rc hr hr⟩
  len := fun ⟨A1, C2, A4, C5, h_, h3, h6⟩ => by rw [h_]; rfl
  one := @fun i c w cs x ⟨A1, C2, A4, C5, h_, h3, h6⟩ u hu => by rw [h_] at hu; exact one_all (us := [.int .i64 x.Who, .int .i64 x.Kind, .int .i64 x.Client, .int .i64 x.Seq, .int .i64 x.Op.Kind, .slice A1 x.Op.Key.length C2, .slice A4 x.Op.Value.length C5, .int .i64 x.Op.Rev]) rfl u hu
def TR (j : Nat) (c : Nat → Nat) (w : World) : Option Addr → Tr → Prop
  | p, .nil => p = none
  | p, .node l r k v s d => ∃ (a : Addr) (lp rp : Option Addr) (A1 : Option Addr) (C2 : Nat), p = some a ∧ AT false 0 c w a [.pointer lp, .pointer rp, .string k, .slice A1 v.value.length C2, .int .i64 v.rev, .int .i64 s, .int .i64 d] ∧ SL false (Kint .u8) 0 0 c w A1 C2 v.value ∧ TR j c w lp l ∧ TR j c w rp r
theorem TR.nil {j : Nat} {c : Nat → Nat} {w : World} : TR j c w none .nil := rfl
theorem TR.isNil {j : Nat} {c : Nat → Nat} {w : World} {p : Option Addr} {t : Tr} (h : TR j c w p t) : p.isNone = t.isNil := by
  cases t with
  | nil => have h : p = none := h; rw [h]; rfl
  | node l r k v s d => obtain ⟨a, lp, rp, A1, C2, e, _⟩ := h; rw [e]; rfl
theorem TR.node {c : Nat → Nat} {w : World} {p : Option Addr} {l r : Tr} {k : ByteArray} {v : table_cell} {s d : Int} (h : TR 0 c w p (.node l r k v s d)) : ∃ (a : Addr) (lp rp : Option Addr) (A1 : Option Addr) (C2 : Nat), p = some a ∧ AT false 0 c w a [.pointer lp, .pointer rp, .string k, .slice A1 v.value.length C2, .int .i64 v.rev, .int .i64 s, .int .i64 d] ∧ SL false (Kint .u8) 0 0 c w A1 C2 v.value ∧ TR 0 c w lp l ∧ TR 0 c w rp r := h
theorem TR.mk {c : Nat → Nat} {w : World} {a : Addr} {lp rp : Option Addr} {l r : Tr} {k : ByteArray} {v : table_cell} {s d : Int} {A1 : Option Addr} {C2 : Nat} (hat : AT false 0 c w a [.pointer lp, .pointer rp, .string k, .slice A1 v.value.length C2, .int .i64 v.rev, .int .i64 s, .int .i64 d]) (h3 : SL false (Kint .u8) 0 0 c w A1 C2 v.value) (hl : TR 0 c w lp l) (hr : TR 0 c w rp r) : TR 0 c w (some a) (.node l r k v s d) := ⟨a, lp, rp, A1, C2, rfl, hat, h3, hl, hr⟩
theorem TR.ev {M : Nat → Prop} {j : Nat} {c c' : Nat → Nat} {w w' : World} : ∀ {t : Tr} {p : Option Addr}, TR j c w p t → Ev M c w c' w' → ¬ M j → ¬ M 0 → TR j c' w' p t
  | .nil, _, h, _, _, _ => h
  | .node l r k v s d, _, ⟨a, lp, rp, A1, C2, e, hat, h3, hl, hr⟩, E, hj, h0 => ⟨a, lp, rp, A1, C2, e, hat.ev E h0, h3.ev E h0 h0, TR.ev hl E hj h0, TR.ev hr E hj h0⟩
theorem TR.rc {j j' : Nat} {c c' : Nat → Nat} {w : World} : ∀ {t : Tr} {p : Option Addr}, TR j c w p t → (∀ k, c k = j → c' k = j') → (∀ k, c k = 0 → c' k = 0) → TR j' c' w p t
  | .nil, _, h, _, _ => h
  | .node l r k v s d, _, ⟨a, lp, rp, A1, C2, e, hat, h3, hl, hr⟩, q, h0 => ⟨a, lp, rp, A1, C2, e, hat.rc h0, h3.rc h0 h0, TR.rc hl q h0, TR.rc hr q h0⟩
def ITR (j : Nat) (c : Nat → Nat) (w : World) (v : Value) : It → Prop
  | .all t => ∃ (q : Addr) (p : Option Addr), v = .func (.func 66) #[] #[.pointer (some q)] ∧ AT true j c w q [.pointer p] ∧ TR 0 c w p t
  | .from t k => ∃ (q0 q1 : Addr) (p : Option Addr), v = .func (.func 84) #[] #[.pointer (some q0), .pointer (some q1)] ∧ AT true j c w q0 [.pointer p] ∧ AT true j c w q1 [.string k] ∧ TR 0 c w p t
theorem ITR.ev {M : Nat → Prop} {j : Nat} {c c' : Nat → Nat} {w w' : World} {v : Value} : ∀ {i : It}, ITR j c w v i → Ev M c w c' w' → ¬ M j → ¬ M 0 → ITR j c' w' v i
  | .all t, ⟨q, p, e, h, ht⟩, E, hj, h0 => ⟨q, p, e, h.ev E hj, ht.ev E h0 h0⟩
  | .from t k, ⟨q, q1, p, e, h, h1, ht⟩, E, hj, h0 => ⟨q, q1, p, e, h.ev E hj, h1.ev E hj, ht.ev E h0 h0⟩
theorem ITR.rc {j j' : Nat} {c c' : Nat → Nat} {w : World} {v : Value} : ∀ {i : It}, ITR j c w v i → (∀ k, c k = j → c' k = j') → (∀ k, c k = 0 → c' k = 0) → ITR j' c' w v i
  | .all t, ⟨q, p, e, h, ht⟩, hr, h0 => ⟨q, p, e, h.rc hr, ht.rc h0 h0⟩
  | .from t k, ⟨q, q1, p, e, h, h1, ht⟩, hr, h0 => ⟨q, q1, p, e, h.rc hr, h1.rc hr, ht.rc h0 h0⟩
def WR (j i : Nat) (c : Nat → Nat) (w : World) (p : Option Addr) : Option Wri → Prop
  | none => p = none
  | some t => ∃ (a : Addr) (A1 : Option Addr) (C2 : Nat) (A4 : Option Addr) (C5 : Nat), p = some a ∧ AT true j c w a [.int .i64 t.room, .slice A1 t.b.length C2, .slice A4 t.open_.length C5, .int .i64 t.fault] ∧ SL true (Kint .u8) i 0 c w A1 C2 t.b ∧ SL false (Kint .i64) 0 0 c w A4 C5 t.open_
theorem WR.nil {j i : Nat} {c : Nat → Nat} {w : World} : WR j i c w none none := rfl
theorem WR.some {j i : Nat} {c : Nat → Nat} {w : World} {p : Option Addr} {t : Wri} (h : WR j i c w p (some t)) : ∃ (a : Addr) (A1 : Option Addr) (C2 : Nat) (A4 : Option Addr) (C5 : Nat), p = some a ∧ AT true j c w a [.int .i64 t.room, .slice A1 t.b.length C2, .slice A4 t.open_.length C5, .int .i64 t.fault] ∧ SL true (Kint .u8) i 0 c w A1 C2 t.b ∧ SL false (Kint .i64) 0 0 c w A4 C5 t.open_ := h
theorem WR.isNone {j i : Nat} {c : Nat → Nat} {w : World} {p : Option Addr} {o : Option Wri} (h : WR j i c w p o) : p.isNone = o.isNone := by
  cases o with
  | none => have h : p = none := h; rw [h]; rfl
  | some t => obtain ⟨a, A1, C2, A4, C5, e, _⟩ := h; rw [e]; rfl
theorem WR.ev {M : Nat → Prop} {j i : Nat} {c c' : Nat → Nat} {w w' : World} {p : Option Addr} {o : Option Wri} (h : WR j i c w p o) (E : Ev M c w c' w') (hj : ¬ M j) (hi : ¬ M i) (h0 : ¬ M 0) : WR j i c' w' p o := by
  cases o with
  | none => exact h
  | some t => obtain ⟨a, A1, C2, A4, C5, e, hat, h3, h6⟩ := h; exact ⟨a, A1, C2, A4, C5, e, hat.ev E hj, h3.ev E hi h0, h6.ev E h0 h0⟩
theorem WR.rc {j j' i i' : Nat} {c c' : Nat → Nat} {w : World} {p : Option Addr} {o : Option Wri} (h : WR j i c w p o) (hr : ∀ k, c k = j → c' k = j') (hi : ∀ k, c k = i → c' k = i') (h0 : ∀ k, c k = 0 → c' k = 0) : WR j' i' c' w p o := by
  cases o with
  | none => exact h
  | some t => obtain ⟨a, A1, C2, A4, C5, e, hat, h3, h6⟩ := h; exact ⟨a, A1, C2, A4, C5, e, hat.rc hr, h3.rc hi h0, h6.rc h0 h0⟩
theorem WR.mk {j i : Nat} {c : Nat → Nat} {w : World} {a : Addr} {t : Wri} {A1 : Option Addr} {C2 : Nat} {A4 : Option Addr} {C5 : Nat} (hat : AT true j c w a [.int .i64 t.room, .slice A1 t.b.length C2, .slice A4 t.open_.length C5, .int .i64 t.fault]) (h3 : SL true (Kint .u8) i 0 c w A1 C2 t.b) (h6 : SL false (Kint .i64) 0 0 c w A4 C5 t.open_) : WR j i c w (Option.some a) (Option.some t) := ⟨a, A1, C2, A4, C5, rfl, hat, h3, h6⟩
def TB (j : Nat) (c : Nat → Nat) (w : World) (p : Option Addr) : Option Tab → Prop
  | none => p = none
  | some t => ∃ (a : Addr) (p1 : Option Addr), p = some a ∧ AT true j c w a [.pointer p1, .int .i64 t.rev, .int .i64 t.size] ∧ TR 0 c w p1 t.rows
theorem TB.nil {j : Nat} {c : Nat → Nat} {w : World} : TB j c w none none := rfl
theorem TB.some {j : Nat} {c : Nat → Nat} {w : World} {p : Option Addr} {t : Tab} (h : TB j c w p (some t)) : ∃ (a : Addr) (p1 : Option Addr), p = some a ∧ AT true j c w a [.pointer p1, .int .i64 t.rev, .int .i64 t.size] ∧ TR 0 c w p1 t.rows := h
theorem TB.isNone {j : Nat} {c : Nat → Nat} {w : World} {p : Option Addr} {o : Option Tab} (h : TB j c w p o) : p.isNone = o.isNone := by
  cases o with
  | none => have h : p = none := h; rw [h]; rfl
  | some t => obtain ⟨a, p1, e, _⟩ := h; rw [e]; rfl
theorem TB.ev {M : Nat → Prop} {j : Nat} {c c' : Nat → Nat} {w w' : World} {p : Option Addr} {o : Option Tab} (h : TB j c w p o) (E : Ev M c w c' w') (hj : ¬ M j) (h0 : ¬ M 0) : TB j c' w' p o := by
  cases o with
  | none => exact h
  | some t => obtain ⟨a, p1, e, hat, h2⟩ := h; exact ⟨a, p1, e, hat.ev E hj, h2.ev E h0 h0⟩
theorem TB.rc {j j' : Nat} {c c' : Nat → Nat} {w : World} {p : Option Addr} {o : Option Tab} (h : TB j c w p o) (hr : ∀ k, c k = j → c' k = j') (h0 : ∀ k, c k = 0 → c' k = 0) : TB j' c' w p o := by
  cases o with
  | none => exact h
  | some t => obtain ⟨a, p1, e, hat, h2⟩ := h; exact ⟨a, p1, e, hat.rc hr, h2.rc h0 h0⟩
theorem TB.mk {j : Nat} {c : Nat → Nat} {w : World} {a : Addr} {t : Tab} {p1 : Option Addr} (hat : AT true j c w a [.pointer p1, .int .i64 t.rev, .int .i64 t.size]) (h2 : TR 0 c w p1 t.rows) : TB j c w (Option.some a) (Option.some t) := ⟨a, p1, rfl, hat, h2⟩
def CE (j : Nat) (c : Nat → Nat) (w : World) (p : Option Addr) : Option Cel → Prop
  | none => p = none
  | some t => ∃ (a : Addr) (A1 : Option Addr) (C2 : Nat), p = some a ∧ AT true j c w a [.slice A1 t.value.length C2, .int .i64 t.rev] ∧ SL false (Kint .u8) 0 0 c w A1 C2 t.value
theorem CE.nil {j : Nat} {c : Nat → Nat} {w : World} : CE j c w none none := rfl
theorem CE.some {j : Nat} {c : Nat → Nat} {w : World} {p : Option Addr} {t : Cel} (h : CE j c w p (some t)) : ∃ (a : Addr) (A1 : Option Addr) (C2 : Nat), p = some a ∧ AT true j c w a [.slice A1 t.value.length C2, .int .i64 t.rev] ∧ SL false (Kint .u8) 0 0 c w A1 C2 t.value := h
theorem CE.isNone {j : Nat} {c : Nat → Nat} {w : World} {p : Option Addr} {o : Option Cel} (h : CE j c w p o) : p.isNone = o.isNone := by
  cases o with
  | none => have h : p = none := h; rw [h]; rfl
  | some t => obtain ⟨a, A1, C2, e, _⟩ := h; rw [e]; rfl
theorem CE.ev {M : Nat → Prop} {j : Nat} {c c' : Nat → Nat} {w w' : World} {p : Option Addr} {o : Option Cel} (h : CE j c w p o) (E : Ev M c w c' w') (hj : ¬ M j) (h0 : ¬ M 0) : CE j c' w' p o := by
  cases o with
  | none => exact h
  | some t => obtain ⟨a, A1, C2, e, hat, h3⟩ := h; exact ⟨a, A1, C2, e, hat.ev E hj, h3.ev E h0 h0⟩
theorem CE.rc {j j' : Nat} {c c' : Nat → Nat} {w : World} {p : Option Addr} {o : Option Cel} (h : CE j c w p o) (hr : ∀ k, c k = j → c' k = j') (h0 : ∀ k, c k = 0 → c' k = 0) : CE j' c' w p o := by
  cases o with
  | none => exact h
  | some t => obtain ⟨a, A1, C2, e, hat, h3⟩ := h; exact ⟨a, A1, C2, e, hat.rc hr, h3.rc h0 h0⟩
theorem CE.mk {j : Nat} {c : Nat → Nat} {w : World} {a : Addr} {t : Cel} {A1 : Option Addr} {C2 : Nat} (hat : AT true j c w a [.slice A1 t.value.length C2, .int .i64 t.rev]) (h3 : SL false (Kint .u8) 0 0 c w A1 C2 t.value) : CE j c w (Option.some a) (Option.some t) := ⟨a, A1, C2, rfl, hat, h3⟩
def SE (j : Nat) (c : Nat → Nat) (w : World) (p : Option Addr) (o : List api_Seat) : Prop := ∃ (a : Addr) (cs : List Value), p = some a ∧ AT false j c w a ([] ++ (cs ++ ([]))) ∧ AR K_api_Seat 0 c w cs 16 o
theorem SE.ev {M : Nat → Prop} {j : Nat} {c c' : Nat → Nat} {w w' : World} {p : Option Addr} {o : List api_Seat} (h : SE j c w p o) (E : Ev M c w c' w') (hj : ¬ M j) (h0 : ¬ M 0) : SE j c' w' p o := by
  obtain ⟨a, cs, e, hat, hA⟩ := h
  exact ⟨a, cs, e, hat.ev E hj, hA.ev E h0⟩
theorem SE.rc {j j' : Nat} {c c' : Nat → Nat} {w : World} {p : Option Addr} {o : List api_Seat} (h : SE j c w p o) (hr : ∀ k, c k = j → c' k = j') (h0 : ∀ k, c k = 0 → c' k = 0) : SE j' c' w p o := by
  obtain ⟨a, cs, e, hat, hA⟩ := h
  exact ⟨a, cs, e, hat.rc hr, hA.rc h0⟩
theorem SE.mk {j : Nat} {c : Nat → Nat} {w : World} {a : Addr} {cs : List Value} {own : Bool} {o : List api_Seat} (hat : AT own j c w a cs) (hA : AR K_api_Seat 0 c w cs 16 o) : SE j c w (Option.some a) o := ⟨a, cs, rfl, hat.r.eqv (by simp), hA⟩
def SH (j i : Nat) (c : Nat → Nat) (w : World) (p : Option Addr) : Option Sha → Prop
  | none => p = none
  | some t => ∃ (a : Addr) (p1 : Option Addr) (cs3 : List Value), p = some a ∧ AT true j c w a (([.pointer p1] : List Value) ++ (cs3 ++ (([] : List Value)))) ∧ TB i c w p1 t.Table ∧ AR K_api_Seat 0 c w cs3 16 t.seats
theorem SH.nil {j i : Nat} {c : Nat → Nat} {w : World} : SH j i c w none none := rfl
theorem SH.some {j i : Nat} {c : Nat → Nat} {w : World} {p : Option Addr} {t : Sha} (h : SH j i c w p (some t)) : ∃ (a : Addr) (p1 : Option Addr) (cs3 : List Value), p = some a ∧ AT true j c w a (([.pointer p1] : List Value) ++ (cs3 ++ (([] : List Value)))) ∧ TB i c w p1 t.Table ∧ AR K_api_Seat 0 c w cs3 16 t.seats := h
theorem SH.isNone {j i : Nat} {c : Nat → Nat} {w : World} {p : Option Addr} {o : Option Sha} (h : SH j i c w p o) : p.isNone = o.isNone := by
  cases o with
  | none => have h : p = none := h; rw [h]; rfl
  | some t => obtain ⟨a, p1, cs3, e, _⟩ := h; rw [e]; rfl
theorem SH.ev {M : Nat → Prop} {j i : Nat} {c c' : Nat → Nat} {w w' : World} {p : Option Addr} {o : Option Sha} (h : SH j i c w p o) (E : Ev M c w c' w') (hj : ¬ M j) (hi : ¬ M i) (h0 : ¬ M 0) : SH j i c' w' p o := by
  cases o with
  | none => exact h
  | some t => obtain ⟨a, p1, cs3, e, hat, h2, h4⟩ := h; exact ⟨a, p1, cs3, e, hat.ev E hj, h2.ev E hi h0, h4.ev E h0⟩
theorem SH.rc {j j' i i' : Nat} {c c' : Nat → Nat} {w : World} {p : Option Addr} {o : Option Sha} (h : SH j i c w p o) (hr : ∀ k, c k = j → c' k = j') (hi : ∀ k, c k = i → c' k = i') (h0 : ∀ k, c k = 0 → c' k = 0) : SH j' i' c' w p o := by
  cases o with
  | none => exact h
  | some t => obtain ⟨a, p1, cs3, e, hat, h2, h4⟩ := h; exact ⟨a, p1, cs3, e, hat.rc hr, h2.rc hi h0, h4.rc h0⟩
theorem SH.mk {j i : Nat} {c : Nat → Nat} {w : World} {a : Addr} {t : Sha} {p1 : Option Addr} {cs3 : List Value} (hat : AT true j c w a (([.pointer p1] : List Value) ++ (cs3 ++ (([] : List Value))))) (h2 : TB i c w p1 t.Table) (h4 : AR K_api_Seat 0 c w cs3 16 t.seats) : SH j i c w (Option.some a) (Option.some t) := ⟨a, p1, cs3, rfl, hat, h2, h4⟩
theorem Try_hm : Try.prog.follows .mixedOrders = true := by kernel_rfl
theorem ff_112_4 : ∀ q w, (Instr.fieldAt 112 (.pointer (some q)) 4).run Try.prog w = .ok (.pointer (some (q.add 5))) w := fun _ _ => by kernel_rfl
theorem ag_3 : ∀ w, (isAgg 3).run Try.prog w = .ok false w := fun _ => by kernel_rfl
theorem ff_112_5 : ∀ q w, (Instr.fieldAt 112 (.pointer (some q)) 5).run Try.prog w = .ok (.pointer (some (q.add 6))) w := fun _ _ => by kernel_rfl
theorem ag_80 : ∀ w, (isAgg 80).run Try.prog w = .ok true w := fun _ => by kernel_rfl
theorem sz_80 : ∀ w, (sizeOf 80).run Try.prog w = .ok 2 w := fun _ => by kernel_rfl
theorem ff_112_1 : ∀ q w, (Instr.fieldAt 112 (.pointer (some q)) 1).run Try.prog w = .ok (.pointer (some (q.add 1))) w := fun _ _ => by kernel_rfl
theorem ag_77 : ∀ w, (isAgg 77).run Try.prog w = .ok false w := fun _ => by kernel_rfl
theorem ff_112_0 : ∀ q w, (Instr.fieldAt 112 (.pointer (some q)) 0).run Try.prog w = .ok (.pointer (some (q.add 0))) w := fun _ _ => by kernel_rfl
theorem ff_112_2 : ∀ q w, (Instr.fieldAt 112 (.pointer (some q)) 2).run Try.prog w = .ok (.pointer (some (q.add 2))) w := fun _ _ => by kernel_rfl
theorem ag_9 : ∀ w, (isAgg 9).run Try.prog w = .ok false w := fun _ => by kernel_rfl
theorem ff_112_3 : ∀ q w, (Instr.fieldAt 112 (.pointer (some q)) 3).run Try.prog w = .ok (.pointer (some (q.add 3))) w := fun _ _ => by kernel_rfl
theorem zv_80 : ∀ w, (zeroValue 80).run Try.prog w = .ok (.agg #[.slice none 0 0, .int .i64 0]) w := fun _ => by kernel_rfl
theorem ff_80_0 : ∀ q w, (Instr.fieldAt 80 (.pointer (some q)) 0).run Try.prog w = .ok (.pointer (some (q.add 0))) w := fun _ _ => by kernel_rfl
theorem ag_28 : ∀ w, (isAgg 28).run Try.prog w = .ok false w := fun _ => by kernel_rfl
theorem ff_80_1 : ∀ q w, (Instr.fieldAt 80 (.pointer (some q)) 1).run Try.prog w = .ok (.pointer (some (q.add 1))) w := fun _ _ => by kernel_rfl
theorem ff_30_0 : ∀ q w, (Instr.fieldAt 30 (.pointer (some q)) 0).run Try.prog w = .ok (.pointer (some (q.add 0))) w := fun _ _ => by kernel_rfl
theorem ff_30_1 : ∀ q w, (Instr.fieldAt 30 (.pointer (some q)) 1).run Try.prog w = .ok (.pointer (some (q.add 1))) w := fun _ _ => by kernel_rfl
theorem ff_30_2 : ∀ q w, (Instr.fieldAt 30 (.pointer (some q)) 2).run Try.prog w = .ok (.pointer (some (q.add 2))) w := fun _ _ => by kernel_rfl
theorem ff_30_3 : ∀ q w, (Instr.fieldAt 30 (.pointer (some q)) 3).run Try.prog w = .ok (.pointer (some (q.add 3))) w := fun _ _ => by kernel_rfl
theorem zv_9 : ∀ w, (zeroValue 9).run Try.prog w = .ok (.string .empty) w := fun _ => by kernel_rfl
theorem zv_4 : ∀ w, (zeroValue 4).run Try.prog w = .ok (.bool false) w := fun _ => by kernel_rfl
theorem sz_9 : ∀ w, (sizeOf 9).run Try.prog w = .ok 1 w := fun _ => by kernel_rfl
theorem sz_4 : ∀ w, (sizeOf 4).run Try.prog w = .ok 1 w := fun _ => by kernel_rfl
theorem ag_4 : ∀ w, (isAgg 4).run Try.prog w = .ok false w := fun _ => by kernel_rfl
theorem ag_82 : ∀ w, (isAgg 82).run Try.prog w = .ok true w := fun _ => by kernel_rfl
theorem sz_82 : ∀ w, (sizeOf 82).run Try.prog w = .ok 3 w := fun _ => by kernel_rfl
theorem zv_82 : ∀ w, (zeroValue 82).run Try.prog w = .ok (.agg #[.pointer none, .int .i64 0, .int .i64 0]) w := fun _ => by kernel_rfl
theorem ff_82_0 : ∀ q w, (Instr.fieldAt 82 (.pointer (some q)) 0).run Try.prog w = .ok (.pointer (some (q.add 0))) w := fun _ _ => by kernel_rfl
theorem ff_82_2 : ∀ q w, (Instr.fieldAt 82 (.pointer (some q)) 2).run Try.prog w = .ok (.pointer (some (q.add 2))) w := fun _ _ => by kernel_rfl
theorem sz_3 : ∀ w, (sizeOf 3).run Try.prog w = .ok 1 w := fun _ => by kernel_rfl
theorem sz_77 : ∀ w, (sizeOf 77).run Try.prog w = .ok 1 w := fun _ => by kernel_rfl
theorem zv_34 : ∀ w, (zeroValue 34).run Try.prog w = .ok (.agg #[.bool false, .slice none 0 0, .slice none 0 0, .int .i64 0, .int .i64 0]) w := fun _ => by kernel_rfl
theorem ff_82_1 : ∀ q w, (Instr.fieldAt 82 (.pointer (some q)) 1).run Try.prog w = .ok (.pointer (some (q.add 1))) w := fun _ _ => by kernel_rfl
theorem sz_34 : ∀ w, (sizeOf 34).run Try.prog w = .ok 5 w := fun _ => by kernel_rfl
theorem ff_34_1 : ∀ q w, (Instr.fieldAt 34 (.pointer (some q)) 1).run Try.prog w = .ok (.pointer (some (q.add 1))) w := fun _ _ => by kernel_rfl
theorem sz_28 : ∀ w, (sizeOf 28).run Try.prog w = .ok 1 w := fun _ => by kernel_rfl
theorem ff_34_2 : ∀ q w, (Instr.fieldAt 34 (.pointer (some q)) 2).run Try.prog w = .ok (.pointer (some (q.add 2))) w := fun _ _ => by kernel_rfl
theorem ff_34_3 : ∀ q w, (Instr.fieldAt 34 (.pointer (some q)) 3).run Try.prog w = .ok (.pointer (some (q.add 3))) w := fun _ _ => by kernel_rfl
theorem ag_34 : ∀ w, (isAgg 34).run Try.prog w = .ok true w := fun _ => by kernel_rfl
theorem ag_30 : ∀ w, (isAgg 30).run Try.prog w = .ok true w := fun _ => by kernel_rfl
theorem sz_30 : ∀ w, (sizeOf 30).run Try.prog w = .ok 4 w := fun _ => by kernel_rfl
theorem ff_34_0 : ∀ q w, (Instr.fieldAt 34 (.pointer (some q)) 0).run Try.prog w = .ok (.pointer (some (q.add 0))) w := fun _ _ => by kernel_rfl
theorem zv_47 : ∀ w, (zeroValue 47).run Try.prog w = .ok (.slice none 0 0) w := fun _ => by kernel_rfl
theorem ag_47 : ∀ w, (isAgg 47).run Try.prog w = .ok false w := fun _ => by kernel_rfl
theorem et_47 : ET Try.prog 47 93 3 56 (.agg #[.slice none 0 0, .slice none 0 0, .int .i64 0]) := ⟨Try.underlying47, info_parts' (by kernel_rfl), rfl⟩
theorem sz_47 : ∀ w, (sizeOf 47).run Try.prog w = .ok 1 w := fun _ => by kernel_rfl
theorem et_28 : ET Try.prog 28 5 1 1 (.int .u8 0) := ⟨Try.underlying28, info_parts' (by kernel_rfl), rfl⟩
theorem ff_121_3 : ∀ q w, (Instr.fieldAt 121 (.pointer (some q)) 3).run Try.prog w = .ok (.pointer (some (q.add 3))) w := fun _ _ => by kernel_rfl
theorem ag_39 : ∀ w, (isAgg 39).run Try.prog w = .ok false w := fun _ => by kernel_rfl
theorem sz_39 : ∀ w, (sizeOf 39).run Try.prog w = .ok 1 w := fun _ => by kernel_rfl
theorem ff_121_0 : ∀ q w, (Instr.fieldAt 121 (.pointer (some q)) 0).run Try.prog w = .ok (.pointer (some (q.add 0))) w := fun _ _ => by kernel_rfl
theorem ff_121_1 : ∀ q w, (Instr.fieldAt 121 (.pointer (some q)) 1).run Try.prog w = .ok (.pointer (some (q.add 1))) w := fun _ _ => by kernel_rfl
theorem sz_5 : ∀ w, (sizeOf 5).run Try.prog w = .ok 1 w := fun _ => by kernel_rfl
theorem ff_121_2 : ∀ q w, (Instr.fieldAt 121 (.pointer (some q)) 2).run Try.prog w = .ok (.pointer (some (q.add 2))) w := fun _ _ => by kernel_rfl
theorem ag_119 : ∀ w, (isAgg 119).run Try.prog w = .ok false w := fun _ => by kernel_rfl
theorem zv_97 : ∀ w, (zeroValue 97).run Try.prog w = .ok (.pointer none) w := fun _ => by kernel_rfl
theorem sz_97 : ∀ w, (sizeOf 97).run Try.prog w = .ok 1 w := fun _ => by kernel_rfl
theorem ag_97 : ∀ w, (isAgg 97).run Try.prog w = .ok false w := fun _ => by kernel_rfl
theorem ff_76_0 : ∀ q w, (Instr.fieldAt 76 (.pointer (some q)) 0).run Try.prog w = .ok (.pointer (some (q.add 0))) w := fun _ _ => by kernel_rfl
theorem ag_26 : ∀ w, (isAgg 26).run Try.prog w = .ok false w := fun _ => by kernel_rfl
theorem ff_76_1 : ∀ q w, (Instr.fieldAt 76 (.pointer (some q)) 1).run Try.prog w = .ok (.pointer (some (q.add 1))) w := fun _ _ => by kernel_rfl
theorem ag_74 : ∀ w, (isAgg 74).run Try.prog w = .ok true w := fun _ => by kernel_rfl
theorem sz_74 : ∀ w, (sizeOf 74).run Try.prog w = .ok 112 w := fun _ => by kernel_rfl
theorem bp_76 : BP Try.prog 76 (([.pointer none] : List Value) ++ (((List.replicate 16 ([.int .i64 0, .int .i64 0, .bool false, .slice none 0 0, .slice none 0 0, .int .i64 0, .int .i64 0] : List Value)).flatten) ++ (([] : List Value)))) #[(0, 1), (1, 112)] := ⟨_, Try.underlying76, fun _ => by kernel_rfl, fun _ => by kernel_rfl⟩
theorem zv_36 : ∀ w, (zeroValue 36).run Try.prog w = .ok (.agg #[.int .i64 0, .int .i64 0, .bool false, .slice none 0 0, .slice none 0 0, .int .i64 0, .int .i64 0]) w := fun _ => by kernel_rfl
theorem ff_36_2 : ∀ q w, (Instr.fieldAt 36 (.pointer (some q)) 2).run Try.prog w = .ok (.pointer (some (q.add 2))) w := fun _ _ => by kernel_rfl
theorem ag_36 : ∀ w, (isAgg 36).run Try.prog w = .ok true w := fun _ => by kernel_rfl
theorem sz_36 : ∀ w, (sizeOf 36).run Try.prog w = .ok 7 w := fun _ => by kernel_rfl
theorem ua_74 : Try.prog.underlying 74 = some (.array 16 36) := Try.underlying74
theorem ff_36_1 : ∀ q w, (Instr.fieldAt 36 (.pointer (some q)) 1).run Try.prog w = .ok (.pointer (some (q.add 1))) w := fun _ _ => by kernel_rfl
theorem ff_36_0 : ∀ q w, (Instr.fieldAt 36 (.pointer (some q)) 0).run Try.prog w = .ok (.pointer (some (q.add 0))) w := fun _ _ => by kernel_rfl
theorem ff_34_4 : ∀ q w, (Instr.fieldAt 34 (.pointer (some q)) 4).run Try.prog w = .ok (.pointer (some (q.add 4))) w := fun _ _ => by kernel_rfl
theorem ag_76 : ∀ w, (isAgg 76).run Try.prog w = .ok true w := fun _ => by kernel_rfl
theorem sz_76 : ∀ w, (sizeOf 76).run Try.prog w = .ok 113 w := fun _ => by kernel_rfl
theorem ag_5 : ∀ w, (isAgg 5).run Try.prog w = .ok false w := fun _ => by kernel_rfl
theorem sz_93 : ∀ w, (sizeOf 93).run Try.prog w = .ok 3 w := fun _ => by kernel_rfl
theorem ff_93_0 : ∀ q w, (Instr.fieldAt 93 (.pointer (some q)) 0).run Try.prog w = .ok (.pointer (some (q.add 0))) w := fun _ _ => by kernel_rfl
theorem ff_93_1 : ∀ q w, (Instr.fieldAt 93 (.pointer (some q)) 1).run Try.prog w = .ok (.pointer (some (q.add 1))) w := fun _ _ => by kernel_rfl
theorem ff_93_2 : ∀ q w, (Instr.fieldAt 93 (.pointer (some q)) 2).run Try.prog w = .ok (.pointer (some (q.add 2))) w := fun _ _ => by kernel_rfl
theorem zv_30 : ∀ w, (zeroValue 30).run Try.prog w = .ok (.agg #[.int .i64 0, .slice none 0 0, .slice none 0 0, .int .i64 0]) w := fun _ => by kernel_rfl
theorem sz_32 : ∀ w, (sizeOf 32).run Try.prog w = .ok 8 w := fun _ => by kernel_rfl
theorem ag_32 : ∀ w, (isAgg 32).run Try.prog w = .ok true w := fun _ => by kernel_rfl
theorem zv_32 : ∀ w, (zeroValue 32).run Try.prog w = .ok (.agg #[.int .i64 0, .int .i64 0, .int .i64 0, .int .i64 0, .int .i64 0, .slice none 0 0, .slice none 0 0, .int .i64 0]) w := fun _ => by kernel_rfl
theorem ff_32_2 : ∀ q w, (Instr.fieldAt 32 (.pointer (some q)) 2).run Try.prog w = .ok (.pointer (some (q.add 2))) w := fun _ _ => by kernel_rfl
theorem ff_32_3 : ∀ q w, (Instr.fieldAt 32 (.pointer (some q)) 3).run Try.prog w = .ok (.pointer (some (q.add 3))) w := fun _ _ => by kernel_rfl
theorem ff_32_4 : ∀ q w, (Instr.fieldAt 32 (.pointer (some q)) 4).run Try.prog w = .ok (.pointer (some (q.add 4))) w := fun _ _ => by kernel_rfl
end Go.Proofs.Ythankpjbfpcldaa.G
namespace Go.Proofs.Ythankpjbfpcldaa.G
open Go Go.RowKit
set_option linter.unusedVariables false
set_option linter.unusedSimpArgs false
set_option maxRecDepth 100000 in
set_option maxHeartbeats 4000000 in
theorem haulagelaw14_get.calls {m : Nat} {c0 : Nat → Nat} {w0 : World} {a1 : ByteArray} (hm0 : 0 < m) (B0 : CB m c0 w0) (jr22 : Nat) (bjr22 : jr22 < m) (r : api_Op) (H : haulagelaw14_get.f a1 = some r) : Calls Try.prog 34 #[.string a1] w0 (fun e w_ => ∃ (c_ : Nat → Nat) (A0_ : Option Addr) (C0_ : Nat) (A2_ : Option Addr) (C2_ : Nat), e = .returned (.agg #[.int .i64 r.Kind, .slice A0_ r.Key.length C0_, .slice A2_ r.Value.length C2_, .int .i64 r.Rev]) ∧ Ev (fun x => False) c0 w0 c_ w_ ∧ CB m c_ w_ ∧ SL false (Kint .u8) 0 0 c_ w_ A0_ C0_ r.Key ∧ SL true (Kint .u8) jr22 0 c_ w_ A2_ C2_ r.Value) := by
 unfold haulagelaw14_get.f at H
 have B := B0.mono (show m ≤ m + 2 by omega)
 have E : Ev (fun x => False ∨ m ≤ x) c0 w0 c0 w0 := Ev.refl
 refine enter (N := 6) (l := [.string a1]) Try.func34 rfl rfl (Nat.le_of_ble_eq_true rfl) fun a F => ?_
 refine wp_seq_k fun K2 hK2 => ?_
 refine reg ?_
 refine q_eff F rfl rfl (by decide) (e_alloc F zv_30 c0 (m + 1)) ?_
 rintro v w4 a ⟨c3, qa5, rfl, E6, h7, B8⟩ F
 replace B := B8 _ B (Nat.add_lt_add_left (by decide) m)
 replace E := E.trans E6 (fun x q => q.elim)
 replace h7 : AT true (m + 1) c3 w4 qa5 [.int .i64 0, .slice none 0 0, .slice none 0 0, .int .i64 0] := h7
 refine nil ?_
 refine hK2 _ _ ?_
 refine wp_seq_k fun K10 hK10 => ?_
 refine reg ?_
 refine q_val F rfl rfl (by decide) (r_move F rfl) fun a F => ?_
 replace H := ifN H
 obtain ⟨g11, H⟩ := H
 refine q_eff F rfl rfl (by decide) (e_strBytes F Try.underlying9 Try.underlying28 Try.underlying5 rfl (by unfold maxLen; omega) c3 0 0) ?_
 rintro v w13 a ⟨c12, A14, C15, rfl, E16, h17, B18⟩ F
 replace B := B18 _ B (Nat.add_pos_left hm0 _)
 replace h7 := AT.ev h7 E16 (fun q => q.elim)
 replace E := E.trans E16 (fun x q => q.elim)
 refine q_val F rfl rfl (by decide) (r_build (v := .agg #[.int .i64 1, .slice A14 (sb a1).length C15, .slice none 0 0, .int .i64 0]) F [(0, .int .i64 1), (1, .slice A14 (sb a1).length C15)] (by exact ⟨rfl, rfl, rfl, rfl, trivial⟩) (fun w => by kernel_rfl)) fun a F => ?_
 refine q_eff0 F rfl rfl (e_storeN0 (us := [.int .i64 1, .slice A14 (sb a1).length C15, .slice none 0 0, .int .i64 0]) F rfl rfl sz_30 h7 (Nat.le_of_ble_eq_true rfl) (one_all rfl)) ?_
 rintro w19 a ⟨E20, h7, Z21⟩ F
 replace B := B.size Z21
 replace h17 := SL.ev h17 E20 ne_zm ne_zm
 replace E := E.trans E20 (fun x (q : x = m + 1) => Or.inr (le_col q))
 replace h7 : AT true (m + 1) c12 w19 qa5 [.int .i64 1, .slice A14 (sb a1).length C15, .slice none 0 0, .int .i64 0] := h7
 refine nil ?_
 refine hK10 _ _ ?_
 refine wp_ret ?_
 replace H := Option.some.inj H
 subst H
 refine outR1 F rfl ⟨_, rfl, lv_agg (cs := [.int .i64 1, .slice A14 (sb a1).length C15, .slice none 0 0, .int .i64 0]) ag_30 sz_30 h7⟩ ?_
 exact ⟨fun b_ => (fun x_ => if x_ < m then x_ else 0) (c12 b_), A14, C15, none, 0, rfl, E.leave B0 (fun x_ => if x_ < m then x_ else 0) (by intro x_ hx_; show (if x_ < m then x_ else 0) = x_; ((repeat' split) <;> omega)), (fun b_ hb_ => by show (if (c12 b_) < m then (c12 b_) else 0) < m; ((repeat' split) <;> omega)), SL.rc h17.r (fun k_ hk_ => by show (if (c12 k_) < m then (c12 k_) else 0) = _; rw [hk_]; ((repeat' split) <;> omega)) (fun k_ hk_ => by show (if (c12 k_) < m then (c12 k_) else 0) = _; rw [hk_]; ((repeat' split) <;> omega)), SL.nil⟩
end Go.Proofs.Ythankpjbfpcldaa.G
namespace Go.Proofs.Ythankpjbfpcldaa.G
open Go Go.RowKit
set_option linter.unusedVariables false
set_option linter.unusedSimpArgs false
set_option maxRecDepth 100000 in
set_option maxHeartbeats 4000000 in
theorem haulagelaw14_num.calls {m : Nat} {c0 : Nat → Nat} {w0 : World} {a1 : Int} (hm0 : 0 < m) (B0 : CB m c0 w0) (r : Int) (H : haulagelaw14_num.f a1 = some r) : Calls Try.prog 11 #[.int .i64 a1] w0 (fun e w_ => ∃ (c_ : Nat → Nat), e = .returned (.int .i64 r) ∧ Ev (fun x => False) c0 w0 c_ w_ ∧ CB m c_ w_) := by
 unfold haulagelaw14_num.f at H
 have B := B0.mono (show m ≤ m + 1 by omega)
 have E : Ev (fun x => False ∨ m ≤ x) c0 w0 c0 w0 := Ev.refl
 refine enter (N := 4) (l := [.int .i64 a1]) Try.func11 rfl rfl (Nat.le_of_ble_eq_true rfl) fun a F => ?_
 refine wp_seq_k fun K2 hK2 => ?_
 refine reg ?_
 refine q_val F rfl rfl (by decide) (r_assign F rfl) fun a F => ?_
 refine nil ?_
 refine hK2 _ _ ?_
 refine wp_seq_k fun K3 hK3 => ?_
 refine reg ?_
 refine q_val F rfl rfl (by decide) (r_move F rfl) fun a F => ?_
 refine q_val F rfl rfl (by decide) (r_assign F rfl) fun a F => ?_
 refine nil ?_
 refine hK3 _ _ ?_
 refine wp_ret ?_
 replace H := Option.some.inj H
 subst H
 refine out1 F rfl rfl ?_
 exact ⟨fun b_ => (fun x_ => if x_ < m then x_ else 0) (c0 b_), rfl, E.leave B0 (fun x_ => if x_ < m then x_ else 0) (by intro x_ hx_; show (if x_ < m then x_ else 0) = x_; ((repeat' split) <;> omega)), (fun b_ hb_ => by show (if (c0 b_) < m then (c0 b_) else 0) < m; ((repeat' split) <;> omega))⟩
end Go.Proofs.Ythankpjbfpcldaa.G
namespace Go.Proofs.Ythankpjbfpcldaa.G
open Go Go.RowKit
set_option linter.unusedVariables false
set_option linter.unusedSimpArgs false
set_option maxRecDepth 100000 in
set_option maxHeartbeats 4000000 in
theorem haulagelaw14_put.calls {m : Nat} {c0 : Nat → Nat} {w0 : World} {a1 : ByteArray} {a2 : ByteArray} (hm0 : 0 < m) (B0 : CB m c0 w0) (r : api_Op) (H : haulagelaw14_put.f a1 a2 = some r) : Calls Try.prog 33 #[.string a1, .string a2] w0 (fun e w_ => ∃ (c_ : Nat → Nat) (A0_ : Option Addr) (C0_ : Nat) (A2_ : Option Addr) (C2_ : Nat), e = .returned (.agg #[.int .i64 r.Kind, .slice A0_ r.Key.length C0_, .slice A2_ r.Value.length C2_, .int .i64 r.Rev]) ∧ Ev (fun x => False) c0 w0 c_ w_ ∧ CB m c_ w_ ∧ SL false (Kint .u8) 0 0 c_ w_ A0_ C0_ r.Key ∧ SL false (Kint .u8) 0 0 c_ w_ A2_ C2_ r.Value) := by
 unfold haulagelaw14_put.f at H
 have B := B0.mono (show m ≤ m + 2 by omega)
 have E : Ev (fun x => False ∨ m ≤ x) c0 w0 c0 w0 := Ev.refl
 refine enter (N := 10) (l := [.string a1, .string a2]) Try.func33 rfl rfl (Nat.le_of_ble_eq_true rfl) fun a F => ?_
 refine wp_seq_k fun K3 hK3 => ?_
 refine reg ?_
 refine q_eff F rfl rfl (by decide) (e_alloc F zv_30 c0 (m + 1)) ?_
 rintro v w5 a ⟨c4, qa6, rfl, E7, h8, B9⟩ F
 replace B := B9 _ B (Nat.add_lt_add_left (by decide) m)
 replace E := E.trans E7 (fun x q => q.elim)
 replace h8 : AT true (m + 1) c4 w5 qa6 [.int .i64 0, .slice none 0 0, .slice none 0 0, .int .i64 0] := h8
 refine nil ?_
 refine hK3 _ _ ?_
 refine wp_seq_k fun K11 hK11 => ?_
 refine reg ?_
 refine q_val F rfl rfl (by decide) (r_move F rfl) fun a F => ?_
 replace H := ifN H
 obtain ⟨g12, H⟩ := H
 refine q_eff F rfl rfl (by decide) (e_strBytes F Try.underlying9 Try.underlying28 Try.underlying5 rfl (by unfold maxLen; omega) c4 0 0) ?_
 rintro v w14 a ⟨c13, A15, C16, rfl, E17, h18, B19⟩ F
 replace B := B19 _ B (Nat.add_pos_left hm0 _)
 replace h8 := AT.ev h8 E17 (fun q => q.elim)
 replace E := E.trans E17 (fun x q => q.elim)
 refine q_val F rfl rfl (by decide) (r_move F rfl) fun a F => ?_
 replace H := ifN H
 obtain ⟨g20, H⟩ := H
 refine q_eff F rfl rfl (by decide) (e_strBytes F Try.underlying9 Try.underlying28 Try.underlying5 rfl (by unfold maxLen; omega) c13 0 0) ?_
 rintro v w22 a ⟨c21, A23, C24, rfl, E25, h26, B27⟩ F
 replace B := B27 _ B (Nat.add_pos_left hm0 _)
 replace h8 := AT.ev h8 E25 (fun q => q.elim)
 replace h18 := SL.ev h18 E25 (fun q => q.elim) (fun q => q.elim)
 replace E := E.trans E25 (fun x q => q.elim)
 refine q_val F rfl rfl (by decide) (r_build (v := .agg #[.int .i64 2, .slice A15 (sb a1).length C16, .slice A23 (sb a2).length C24, .int .i64 0]) F [(0, .int .i64 2), (1, .slice A15 (sb a1).length C16), (2, .slice A23 (sb a2).length C24)] (by exact ⟨rfl, rfl, rfl, rfl, rfl, rfl, trivial⟩) (fun w => by kernel_rfl)) fun a F => ?_
 refine q_eff0 F rfl rfl (e_storeN0 (us := [.int .i64 2, .slice A15 (sb a1).length C16, .slice A23 (sb a2).length C24, .int .i64 0]) F rfl rfl sz_30 h8 (Nat.le_of_ble_eq_true rfl) (one_all rfl)) ?_
 rintro w28 a ⟨E29, h8, Z30⟩ F
 replace B := B.size Z30
 replace h18 := SL.ev h18 E29 ne_zm ne_zm
 replace h26 := SL.ev h26 E29 ne_zm ne_zm
 replace E := E.trans E29 (fun x (q : x = m + 1) => Or.inr (le_col q))
 replace h8 : AT true (m + 1) c21 w28 qa6 [.int .i64 2, .slice A15 (sb a1).length C16, .slice A23 (sb a2).length C24, .int .i64 0] := h8
 refine nil ?_
 refine hK11 _ _ ?_
 refine wp_ret ?_
 replace H := Option.some.inj H
 subst H
 refine outR1 F rfl ⟨_, rfl, lv_agg (cs := [.int .i64 2, .slice A15 (sb a1).length C16, .slice A23 (sb a2).length C24, .int .i64 0]) ag_30 sz_30 h8⟩ ?_
 exact ⟨fun b_ => (fun x_ => if x_ < m then x_ else 0) (c21 b_), A15, C16, A23, C24, rfl, E.leave B0 (fun x_ => if x_ < m then x_ else 0) (by intro x_ hx_; show (if x_ < m then x_ else 0) = x_; ((repeat' split) <;> omega)), (fun b_ hb_ => by show (if (c21 b_) < m then (c21 b_) else 0) < m; ((repeat' split) <;> omega)), SL.rc h18.r (fun k_ hk_ => by show (if (c21 k_) < m then (c21 k_) else 0) = _; rw [hk_]; ((repeat' split) <;> omega)) (fun k_ hk_ => by show (if (c21 k_) < m then (c21 k_) else 0) = _; rw [hk_]; ((repeat' split) <;> omega)), SL.rc h26.r (fun k_ hk_ => by show (if (c21 k_) < m then (c21 k_) else 0) = _; rw [hk_]; ((repeat' split) <;> omega)) (fun k_ hk_ => by show (if (c21 k_) < m then (c21 k_) else 0) = _; rw [hk_]; ((repeat' split) <;> omega))⟩
end Go.Proofs.Ythankpjbfpcldaa.G
namespace Go.Proofs.Ythankpjbfpcldaa.G
open Go Go.RowKit
set_option linter.unusedVariables false
set_option linter.unusedSimpArgs false
set_option maxRecDepth 100000 in
set_option maxHeartbeats 4000000 in
theorem haulagelaw14_same.calls (k : Nat) {m : Nat} {c0 : Nat → Nat} {w0 : World} {A2 : Option Addr} {C3 : Nat} {A6 : Option Addr} {C7 : Nat} {a1 : List Int} {a5 : List Int} (hm0 : 0 < m) (B0 : CB m c0 w0) (h4 : SL false (Kint .u8) 0 0 c0 w0 A2 C3 a1) (h8 : SL false (Kint .u8) 0 0 c0 w0 A6 C7 a5) (r : Bool) (H : haulagelaw14_same.f k a1 a5 = some r) : Calls Try.prog 23 #[.slice A2 a1.length C3, .slice A6 a5.length C7] w0 (fun e w_ => ∃ (c_ : Nat → Nat), e = .returned (.bool r) ∧ Ev (fun x => False) c0 w0 c_ w_ ∧ CB m c_ w_) := by
 unfold haulagelaw14_same.f at H
 have B := B0.mono (show m ≤ m + 1 by omega)
 have E : Ev (fun x => False ∨ m ≤ x) c0 w0 c0 w0 := Ev.refl
 refine enter (N := 26) (l := [.slice A2 a1.length C3, .slice A6 a5.length C7]) Try.func23 rfl rfl (Nat.le_of_ble_eq_true rfl) fun a F => ?_
 refine wp_seq_k fun K9 hK9 => ?_
 refine reg ?_
 refine q_val F rfl rfl (by decide) (r_assign F rfl) fun a F => ?_
 refine nil ?_
 refine hK9 _ _ ?_
 refine wp_seq_k fun K10 hK10 => ?_
 refine wp_seq_k fun K11 hK11 => ?_
 refine reg ?_
 refine q_val F rfl rfl (by decide) (r_move F rfl) fun a F => ?_
 refine q_val F rfl rfl (by decide) (r_lensl F Try.underlying28 rfl) fun a F => ?_
 refine q_val F rfl rfl (by decide) (r_move F rfl) fun a F => ?_
 refine q_val F rfl rfl (by decide) (r_lensl F Try.underlying28 rfl) fun a F => ?_
 refine q_val F rfl rfl (by decide) (r_neq F rfl rfl) fun a F => ?_
 refine nil ?_
 refine hK11 _ _ ?_
 by_cases hb12 : (a1.length : Int) = (a5.length : Int)
 ·replace H := (if_pos hb12).symm.trans H
  refine wp_cond_false ((F.ev rfl).trans (congrArg Value.bool (congrArg not (decide_eq_true hb12)))) ?_
  refine wp_skip ?_
  refine hK10 _ _ ?_
  refine wp_seq_k fun K14 hK14 => ?_
  refine wp_seq_k fun K15 hK15 => ?_
  refine reg ?_
  refine q_val F rfl rfl (by decide) (r_assign F rfl) fun a F => ?_
  refine nil ?_
  refine hK15 _ _ ?_
  refine wp_block ?_
  obtain ⟨x26, HL, HR25⟩ := bind_some H
  have J53 : ∀ (c54 : Nat → Nat) (w55 : World) (a : Act), Fr a 26 [] → Ev (fun x => False ∨ m ≤ x) c0 w0 c54 w55 → CB (m + 1) c54 w55 → haulagelaw14_same.j2 = some r → K14 a w55 := by
   intro c54 w55 a  F E B  H
   unfold haulagelaw14_same.j2 at H
   refine hK14 _ _ ?_
   refine wp_seq_k fun K56 hK56 => ?_
   refine reg ?_
   refine q_val F rfl rfl (by decide) (r_assign F rfl) fun a F => ?_
   refine nil ?_
   refine hK56 _ _ ?_
   refine wp_ret ?_
   replace H := Option.some.inj H
   subst H
   refine out1 F rfl rfl ?_
   exact ⟨fun b_ => (fun x_ => if x_ < m then x_ else 0) (c54 b_), rfl, E.leave B0 (fun x_ => if x_ < m then x_ else 0) (by intro x_ hx_; show (if x_ < m then x_ else 0) = x_; ((repeat' split) <;> omega)), (fun b_ hb_ => by show (if (c54 b_) < m then (c54 b_) else 0) < m; ((repeat' split) <;> omega))⟩
  refine loop_fuel (I := fun n a w => ∃ (i16 : Int) (c : Nat → Nat), Fr a 26 [(0, .slice A2 a1.length C3), (1, .slice A6 a5.length C7), (5, .int .i64 i16)] ∧ Ev (fun x => False ∨ m ≤ x) c0 w0 c w ∧ CB (m + 1) c w ∧ SL false (Kint .u8) 0 0 c w A2 C3 a1 ∧ SL false (Kint .u8) 0 0 c w A6 C7 a5 ∧ loop (fun (s_ : Int) => haulagelaw14_same.b1 a1 a5 s_) n i16 = some x26) (k := k) ⟨0, c0, F.sub ⟨rfl, rfl, rfl, trivial⟩, E, B, h4, h8, HL⟩ ?_
  clear HL H E F B
  intro n23 X19 hX19 a w18 ⟨i16, c17, F, E, B, h4, h8, HL⟩
  obtain ⟨n24, ctl22, rfl, HB, HN20, HD21⟩ := loop_some HL
  have H : haulagelaw14_same.b1 a1 a5 i16 = some ctl22 := HB
  clear HB HL
  unfold haulagelaw14_same.b1 at H
  refine wp_seq_k fun K27 hK27 => ?_
  refine wp_seq_k fun K28 hK28 => ?_
  refine reg ?_
  refine q_val F rfl rfl (by decide) (r_move F rfl) fun a F => ?_
  refine q_val F rfl rfl (by decide) (r_move F rfl) fun a F => ?_
  refine q_val F rfl rfl (by decide) (r_lensl F Try.underlying28 rfl) fun a F => ?_
  refine q_val F rfl rfl (by decide) (r_lss F rfl rfl) fun a F => ?_
  refine nil ?_
  refine hK28 _ _ ?_
  by_cases hb29 : i16 < (a1.length : Int)
  ·replace H := (if_pos hb29).symm.trans H
   refine wp_cond_true ((F.ev rfl).trans (congrArg Value.bool (decide_eq_true hb29))) ?_
   refine wp_skip ?_
   refine hK27 _ _ ?_
   refine wp_seq_k fun K30 hK30 => ?_
   refine wp_block ?_
   refine wp_seq_k fun K31 hK31 => ?_
   refine regD (SB No c17 w18) 9 (.q 0 (.q 1 (.q 2 (.q 3 (.q 4 (.q 5 (.q 6 (.q 7 (.q 8 .nil))))))))) Try_hm (by decide +kernel) ?_
   intro w32 w1_ w2_ w3_ w4_
   have E33 : Ev No c17 w18 c17 w32 := Ev.same w1_ w2_ w3_ w4_
   replace B := B.same w1_
   have zh4 := h4
   have zh8 := h8
   have ER : Ev No c17 w18 c17 w32 := Ev.same w1_ w2_ w3_ w4_
   replace h4 := SL.ev h4 E33 (fun q => q.elim) (fun q => q.elim)
   replace h8 := SL.ev h8 E33 (fun q => q.elim) (fun q => q.elim)
   replace E := E.trans E33 (fun x q => q.elim)
   refine d_q F rfl rfl rfl (by decide) (fun wq hS => r_move F rfl) ER.sb fun a F => ?_
   refine d_q F rfl rfl rfl (by decide) (fun wq hS => r_move F rfl) ER.sb fun a F => ?_
   replace H := ifN H
   obtain ⟨g34, H⟩ := H
   obtain ⟨ad35, cs36, e37, h38, r39⟩ := SL.at zh4 i16 g34.1 g34.2
   obtain rfl : cs36 = [.int .u8 (rd a1 i16)] := r39
   obtain ⟨qa40, qqa40⟩ : ∃ q, q = (ad35.add (i16.toNat * 1)) := ⟨_, rfl⟩
   have h38 : AT false 0 c17 w18 qa40 [.int .u8 (rd a1 i16)] := by rw [qqa40]; exact h38
   have zh38 := h38
   replace h38 := AT.ev h38 ER (fun q => q.elim)
   refine d_q F rfl rfl rfl (by decide) (fun wq hS => r_indexAddr' F Try.underlying28 sz_5 rfl rfl g34.1 g34.2 e37 qqa40) ER.sb fun a F => ?_
   refine d_q F rfl rfl rfl (by decide) (fun wq hS => r_load F rfl ag_5 (AT.cell0 (AT.sb zh38 hS (fun q => q.elim)) rfl)) ER.sb fun a F => ?_
   refine d_q F rfl rfl rfl (by decide) (fun wq hS => r_move F rfl) ER.sb fun a F => ?_
   refine d_q F rfl rfl rfl (by decide) (fun wq hS => r_move F rfl) ER.sb fun a F => ?_
   replace H := ifN H
   obtain ⟨g42, H⟩ := H
   obtain ⟨ad43, cs44, e45, h46, r47⟩ := SL.at zh8 i16 g42.1 g42.2
   obtain rfl : cs44 = [.int .u8 (rd a5 i16)] := r47
   obtain ⟨qa48, qqa48⟩ : ∃ q, q = (ad43.add (i16.toNat * 1)) := ⟨_, rfl⟩
   have h46 : AT false 0 c17 w18 qa48 [.int .u8 (rd a5 i16)] := by rw [qqa48]; exact h46
   have zh46 := h46
   replace h46 := AT.ev h46 ER (fun q => q.elim)
   refine d_q F rfl rfl rfl (by decide) (fun wq hS => r_indexAddr' F Try.underlying28 sz_5 rfl rfl g42.1 g42.2 e45 qqa48) ER.sb fun a F => ?_
   refine d_q F rfl rfl rfl (by decide) (fun wq hS => r_load F rfl ag_5 (AT.cell0 (AT.sb zh46 hS (fun q => q.elim)) rfl)) ER.sb fun a F => ?_
   refine d_q F rfl rfl rfl (by decide) (fun wq hS => r_neq F rfl rfl) ER.sb fun a F => ?_
   refine d_nil ?_
   refine hK31 _ _ ?_
   replace F : Fr a 26 [(0, .slice A2 a1.length C3), (1, .slice A6 a5.length C7), (5, .int .i64 i16), (25, .bool (!decide ((rd a1 i16) = (rd a5 i16))))] := F.sub ⟨rfl, rfl, rfl, rfl, trivial⟩
   by_cases hb50 : (rd a1 i16) = (rd a5 i16)
   ·replace H := (if_pos hb50).symm.trans H
    refine wp_cond_false ((F.ev rfl).trans (congrArg Value.bool (congrArg not (decide_eq_true hb50)))) ?_
    refine wp_skip ?_
    refine hK30 _ _ ?_
    refine reg ?_
    refine q_val F rfl rfl (by decide) (r_move F rfl) fun a F => ?_
    refine q_val F rfl rfl (by decide) (r_add F rfl rfl) fun a F => ?_
    refine q_val F rfl rfl (by decide) (r_assign F rfl) fun a F => ?_
    refine nil ?_
    replace H := HN20 _ (Option.some.inj H).symm
    exact hX19 _ _ _ (Nat.lt_succ_self _) ⟨(IntKind.i64.wrap (i16 + 1)), c17, F.sub ⟨rfl, rfl, rfl, trivial⟩, E, B, h4, h8, H⟩
   ·replace H := (if_neg hb50).symm.trans H
    refine wp_cond_true ((F.ev rfl).trans (congrArg Value.bool (congrArg not (decide_eq_false hb50)))) ?_
    refine wp_seq_k fun K51 hK51 => ?_
    refine reg ?_
    refine q_val F rfl rfl (by decide) (r_assign F rfl) fun a F => ?_
    refine nil ?_
    refine hK51 _ _ ?_
    refine wp_ret ?_
    refine inbR ?_
    refine thenR ?_
    refine thenR ?_
    refine inbR ?_
    refine thenR ?_
    have hx_ := HD21 _ (Option.some.inj H).symm
    have H := HR25
    rw [← hx_] at H
    replace H : some false = some r := H
    replace H := Option.some.inj H
    subst H
    refine out1 F rfl rfl ?_
    exact ⟨fun b_ => (fun x_ => if x_ < m then x_ else 0) (c17 b_), rfl, E.leave B0 (fun x_ => if x_ < m then x_ else 0) (by intro x_ hx_; show (if x_ < m then x_ else 0) = x_; ((repeat' split) <;> omega)), (fun b_ hb_ => by show (if (c17 b_) < m then (c17 b_) else 0) < m; ((repeat' split) <;> omega))⟩
  ·replace H := (if_neg hb29).symm.trans H
   refine wp_cond_false ((F.ev rfl).trans (congrArg Value.bool (decide_eq_false hb29))) ?_
   refine wp_exit ?_
   refine thenE ?_
   refine thenE ?_
   refine inbE ?_
   have hx_ := HD21 _ (Option.some.inj H).symm
   have H := HR25
   rw [← hx_] at H
   exact J53 c17 w18 a  (F.sub trivial) E B  H
 ·replace H := (if_neg hb12).symm.trans H
  refine wp_cond_true ((F.ev rfl).trans (congrArg Value.bool (congrArg not (decide_eq_false hb12)))) ?_
  refine wp_seq_k fun K13 hK13 => ?_
  refine reg ?_
  refine q_val F rfl rfl (by decide) (r_assign F rfl) fun a F => ?_
  refine nil ?_
  refine hK13 _ _ ?_
  refine wp_ret ?_
  refine thenR ?_
  replace H := Option.some.inj H
  subst H
  refine out1 F rfl rfl ?_
  exact ⟨fun b_ => (fun x_ => if x_ < m then x_ else 0) (c0 b_), rfl, E.leave B0 (fun x_ => if x_ < m then x_ else 0) (by intro x_ hx_; show (if x_ < m then x_ else 0) = x_; ((repeat' split) <;> omega)), (fun b_ hb_ => by show (if (c0 b_) < m then (c0 b_) else 0) < m; ((repeat' split) <;> omega))⟩
end Go.Proofs.Ythankpjbfpcldaa.G
namespace Go.Proofs.Ythankpjbfpcldaa.G
open Go Go.RowKit
set_option linter.unusedVariables false
set_option linter.unusedSimpArgs false
set_option maxRecDepth 100000 in
set_option maxHeartbeats 4000000 in
theorem haulagelaw14_sameAnswer.calls (k : Nat) {m : Nat} {c0 : Nat → Nat} {w0 : World} {A2 : Option Addr} {C3 : Nat} {A5 : Option Addr} {C6 : Nat} {A9 : Option Addr} {C10 : Nat} {A12 : Option Addr} {C13 : Nat} {a1 : api_Answer} {a8 : api_Answer} (hm0 : 0 < m) (B0 : CB m c0 w0) (h4 : SL false (Kint .u8) 0 0 c0 w0 A2 C3 a1.Key) (h7 : SL false (Kint .u8) 0 0 c0 w0 A5 C6 a1.Value) (h11 : SL false (Kint .u8) 0 0 c0 w0 A9 C10 a8.Key) (h14 : SL false (Kint .u8) 0 0 c0 w0 A12 C13 a8.Value) (r : Bool) (H : haulagelaw14_sameAnswer.f k a1 a8 = some r) : Calls Try.prog 13 #[.agg #[.bool a1.Done, .slice A2 a1.Key.length C3, .slice A5 a1.Value.length C6, .int .i64 a1.Rev, .int .i64 a1.At], .agg #[.bool a8.Done, .slice A9 a8.Key.length C10, .slice A12 a8.Value.length C13, .int .i64 a8.Rev, .int .i64 a8.At]] w0 (fun e w_ => ∃ (c_ : Nat → Nat), e = .returned (.bool r) ∧ Ev (fun x => False) c0 w0 c_ w_ ∧ CB m c_ w_) := by
 unfold haulagelaw14_sameAnswer.f at H
 have B := B0.mono (show m ≤ m + 3 by omega)
 have E : Ev (fun x => False ∨ m ≤ x) c0 w0 c0 w0 := Ev.refl
 refine enter (N := 38) (l := [.agg #[.bool a1.Done, .slice A2 a1.Key.length C3, .slice A5 a1.Value.length C6, .int .i64 a1.Rev, .int .i64 a1.At], .agg #[.bool a8.Done, .slice A9 a8.Key.length C10, .slice A12 a8.Value.length C13, .int .i64 a8.Rev, .int .i64 a8.At]]) Try.func13 rfl rfl (Nat.le_of_ble_eq_true rfl) fun a F => ?_
 refine wp_seq_k fun K15 hK15 => ?_
 refine reg ?_
 refine q_eff F rfl rfl (by decide) (e_box F (v := .agg #[.bool a1.Done, .slice A2 a1.Key.length C3, .slice A5 a1.Value.length C6, .int .i64 a1.Rev, .int .i64 a1.At]) rfl c0 (m + 1)) ?_
 rintro v w17 a ⟨c16, qa18, rfl, E19, h20, B21⟩ F
 replace B := B21 _ B (Nat.add_lt_add_left (by decide) m)
 replace h4 := SL.ev h4 E19 (fun q => q.elim) (fun q => q.elim)
 replace h7 := SL.ev h7 E19 (fun q => q.elim) (fun q => q.elim)
 replace h11 := SL.ev h11 E19 (fun q => q.elim) (fun q => q.elim)
 replace h14 := SL.ev h14 E19 (fun q => q.elim) (fun q => q.elim)
 replace E := E.trans E19 (fun x q => q.elim)
 replace h20 : AT true (m + 1) c16 w17 qa18 [.bool a1.Done, .slice A2 a1.Key.length C3, .slice A5 a1.Value.length C6, .int .i64 a1.Rev, .int .i64 a1.At] := h20
 refine q_eff F rfl rfl (by decide) (e_box F (v := .agg #[.bool a8.Done, .slice A9 a8.Key.length C10, .slice A12 a8.Value.length C13, .int .i64 a8.Rev, .int .i64 a8.At]) rfl c16 (m + 2)) ?_
 rintro v w24 a ⟨c23, qa25, rfl, E26, h27, B28⟩ F
 replace B := B28 _ B (Nat.add_lt_add_left (by decide) m)
 replace h4 := SL.ev h4 E26 (fun q => q.elim) (fun q => q.elim)
 replace h7 := SL.ev h7 E26 (fun q => q.elim) (fun q => q.elim)
 replace h11 := SL.ev h11 E26 (fun q => q.elim) (fun q => q.elim)
 replace h14 := SL.ev h14 E26 (fun q => q.elim) (fun q => q.elim)
 replace h20 := AT.ev h20 E26 (fun q => q.elim)
 replace E := E.trans E26 (fun x q => q.elim)
 replace h27 : AT true (m + 2) c23 w24 qa25 [.bool a8.Done, .slice A9 a8.Key.length C10, .slice A12 a8.Value.length C13, .int .i64 a8.Rev, .int .i64 a8.At] := h27
 refine q_val F rfl rfl (by decide) (r_assign F rfl) fun a F => ?_
 refine nil ?_
 refine hK15 _ _ ?_
 refine wp_seq_k fun K30 hK30 => ?_
 refine reg ?_
 refine q_val F rfl rfl (by decide) (r_fieldAddr F rfl ff_34_0) fun a F => ?_
 refine q_val F rfl rfl (by decide) (r_load F rfl ag_4 (AT.cell h20 rfl)) fun a F => ?_
 refine q_val F rfl rfl (by decide) (r_fieldAddr F rfl ff_34_0) fun a F => ?_
 refine q_val F rfl rfl (by decide) (r_load F rfl ag_4 (AT.cell h27 rfl)) fun a F => ?_
 refine q_val F rfl rfl (by decide) (r_beql F Try.underlying4 rfl rfl) fun a F => ?_
 refine q_val F rfl rfl (by decide) (r_move F rfl) fun a F => ?_
 by_cases hb31 : (a1.Done == a8.Done) = true
 ·replace H := (if_pos hb31).symm.trans H
  refine q_yes F rfl (by decide) rfl hb31 ?_
  refine q_val F rfl rfl (by decide) (r_fieldAddr F rfl ff_34_1) fun a F => ?_
  refine q_yes F rfl (by decide) rfl hb31 ?_
  refine q_val F rfl rfl (by decide) (r_load F rfl ag_28 (AT.cell h20 rfl)) fun a F => ?_
  refine q_yes F rfl (by decide) rfl hb31 ?_
  refine q_val F rfl rfl (by decide) (r_fieldAddr F rfl ff_34_1) fun a F => ?_
  refine q_yes F rfl (by decide) rfl hb31 ?_
  refine q_val F rfl rfl (by decide) (r_load F rfl ag_28 (AT.cell h27 rfl)) fun a F => ?_
  replace H := bind_some H
  obtain ⟨t32, q33, H⟩ := H
  refine q_yes F rfl (by decide) rfl hb31 ?_
  refine q_call F rfl rfl (by decide) (r_call F Try.func23 rfl (by kernel_rfl) rfl) (haulagelaw14_same.calls k (m := m + 3) (Nat.add_pos_left hm0 _) B h4 h11 _ q33) ?_
  rintro e w35 ⟨c34, rfl, E36, B37⟩
  refine ⟨_, rfl, fun a F => ?_⟩
  have B := B37
  replace h4 := SL.ev h4 E36 (fun q => q.elim) (fun q => q.elim)
  replace h7 := SL.ev h7 E36 (fun q => q.elim) (fun q => q.elim)
  replace h11 := SL.ev h11 E36 (fun q => q.elim) (fun q => q.elim)
  replace h14 := SL.ev h14 E36 (fun q => q.elim) (fun q => q.elim)
  replace h20 := AT.ev h20 E36 (fun q => q.elim)
  replace h27 := AT.ev h27 E36 (fun q => q.elim)
  replace E := E.trans E36 (fun x q => q.elim)
  refine q_val F rfl rfl (by decide) (r_pick_t F rfl hb31 rfl) fun a F => ?_
  refine q_val F rfl rfl (by decide) (r_move F rfl) fun a F => ?_
  by_cases hb39 : t32 = true
  ·replace H := (if_pos hb39).symm.trans H
   refine q_yes F rfl (by decide) rfl hb39 ?_
   refine q_val F rfl rfl (by decide) (r_fieldAddr F rfl ff_34_2) fun a F => ?_
   refine q_yes F rfl (by decide) rfl hb39 ?_
   refine q_val F rfl rfl (by decide) (r_load F rfl ag_28 (AT.cell h20 rfl)) fun a F => ?_
   refine q_yes F rfl (by decide) rfl hb39 ?_
   refine q_val F rfl rfl (by decide) (r_fieldAddr F rfl ff_34_2) fun a F => ?_
   refine q_yes F rfl (by decide) rfl hb39 ?_
   refine q_val F rfl rfl (by decide) (r_load F rfl ag_28 (AT.cell h27 rfl)) fun a F => ?_
   replace H := bind_some H
   obtain ⟨t40, q41, H⟩ := H
   refine q_yes F rfl (by decide) rfl hb39 ?_
   refine q_call F rfl rfl (by decide) (r_call F Try.func23 rfl (by kernel_rfl) rfl) (haulagelaw14_same.calls k (m := m + 3) (Nat.add_pos_left hm0 _) B h7 h14 _ q41) ?_
   rintro e w43 ⟨c42, rfl, E44, B45⟩
   refine ⟨_, rfl, fun a F => ?_⟩
   have B := B45
   replace h4 := SL.ev h4 E44 (fun q => q.elim) (fun q => q.elim)
   replace h7 := SL.ev h7 E44 (fun q => q.elim) (fun q => q.elim)
   replace h11 := SL.ev h11 E44 (fun q => q.elim) (fun q => q.elim)
   replace h14 := SL.ev h14 E44 (fun q => q.elim) (fun q => q.elim)
   replace h20 := AT.ev h20 E44 (fun q => q.elim)
   replace h27 := AT.ev h27 E44 (fun q => q.elim)
   replace E := E.trans E44 (fun x q => q.elim)
   refine q_val F rfl rfl (by decide) (r_pick_t F rfl hb39 rfl) fun a F => ?_
   refine q_val F rfl rfl (by decide) (r_move F rfl) fun a F => ?_
   by_cases hb47 : t40 = true
   ·replace H := (if_pos hb47).symm.trans H
    refine q_yes F rfl (by decide) rfl hb47 ?_
    refine q_val F rfl rfl (by decide) (r_fieldAddr F rfl ff_34_3) fun a F => ?_
    refine q_yes F rfl (by decide) rfl hb47 ?_
    refine q_val F rfl rfl (by decide) (r_load F rfl ag_3 (AT.cell h20 rfl)) fun a F => ?_
    refine q_yes F rfl (by decide) rfl hb47 ?_
    refine q_val F rfl rfl (by decide) (r_fieldAddr F rfl ff_34_3) fun a F => ?_
    refine q_yes F rfl (by decide) rfl hb47 ?_
    refine q_val F rfl rfl (by decide) (r_load F rfl ag_3 (AT.cell h27 rfl)) fun a F => ?_
    refine q_yes F rfl (by decide) rfl hb47 ?_
    refine q_val F rfl rfl (by decide) (r_eql F rfl rfl) fun a F => ?_
    refine q_val F rfl rfl (by decide) (r_pick_t F rfl hb47 rfl) fun a F => ?_
    refine q_val F rfl rfl (by decide) (r_move F rfl) fun a F => ?_
    by_cases hb48 : a1.Rev = a8.Rev
    ·replace H := (if_pos hb48).symm.trans H
     refine q_yes F rfl (by decide) rfl (decide_eq_true hb48) ?_
     refine q_val F rfl rfl (by decide) (r_fieldAddr F rfl ff_34_4) fun a F => ?_
     refine q_yes F rfl (by decide) rfl (decide_eq_true hb48) ?_
     refine q_val F rfl rfl (by decide) (r_load F rfl ag_3 (AT.cell h20 rfl)) fun a F => ?_
     refine q_yes F rfl (by decide) rfl (decide_eq_true hb48) ?_
     refine q_val F rfl rfl (by decide) (r_fieldAddr F rfl ff_34_4) fun a F => ?_
     refine q_yes F rfl (by decide) rfl (decide_eq_true hb48) ?_
     refine q_val F rfl rfl (by decide) (r_load F rfl ag_3 (AT.cell h27 rfl)) fun a F => ?_
     refine q_yes F rfl (by decide) rfl (decide_eq_true hb48) ?_
     refine q_val F rfl rfl (by decide) (r_eql F rfl rfl) fun a F => ?_
     refine q_val F rfl rfl (by decide) (r_pick_t F rfl (decide_eq_true hb48) rfl) fun a F => ?_
     refine q_val F rfl rfl (by decide) (r_assign F rfl) fun a F => ?_
     refine nil ?_
     refine hK30 _ _ ?_
     replace F : Fr a 38 [(4, .bool (decide (a1.At = a8.At)))] := F.sub ⟨rfl, trivial⟩
     refine wp_ret ?_
     replace H := Option.some.inj H
     subst H
     refine out1 F rfl rfl ?_
     exact ⟨fun b_ => (fun x_ => if x_ < m then x_ else 0) (c42 b_), rfl, E.leave B0 (fun x_ => if x_ < m then x_ else 0) (by intro x_ hx_; show (if x_ < m then x_ else 0) = x_; ((repeat' split) <;> omega)), (fun b_ hb_ => by show (if (c42 b_) < m then (c42 b_) else 0) < m; ((repeat' split) <;> omega))⟩
    ·replace H := (if_neg hb48).symm.trans H
     refine q_no F rfl (by decide) rfl (decide_eq_false hb48) (by decide) fun a F => ?_
     refine q_no F rfl (by decide) rfl (decide_eq_false hb48) (by decide) fun a F => ?_
     refine q_no F rfl (by decide) rfl (decide_eq_false hb48) (by decide) fun a F => ?_
     refine q_no F rfl (by decide) rfl (decide_eq_false hb48) (by decide) fun a F => ?_
     refine q_no F rfl (by decide) rfl (decide_eq_false hb48) (by decide) fun a F => ?_
     refine q_val F rfl rfl (by decide) (r_pick_f F rfl (decide_eq_false hb48) rfl) fun a F => ?_
     refine q_val F rfl rfl (by decide) (r_assign F rfl) fun a F => ?_
     refine nil ?_
     refine hK30 _ _ ?_
     replace F : Fr a 38 [(4, .bool false)] := F.sub ⟨rfl, trivial⟩
     refine wp_ret ?_
     replace H := Option.some.inj H
     subst H
     refine out1 F rfl rfl ?_
     exact ⟨fun b_ => (fun x_ => if x_ < m then x_ else 0) (c42 b_), rfl, E.leave B0 (fun x_ => if x_ < m then x_ else 0) (by intro x_ hx_; show (if x_ < m then x_ else 0) = x_; ((repeat' split) <;> omega)), (fun b_ hb_ => by show (if (c42 b_) < m then (c42 b_) else 0) < m; ((repeat' split) <;> omega))⟩
   ·replace H := (if_neg hb47).symm.trans H
    refine q_no F rfl (by decide) rfl (bfalse hb47) (by decide) fun a F => ?_
    refine q_no F rfl (by decide) rfl (bfalse hb47) (by decide) fun a F => ?_
    refine q_no F rfl (by decide) rfl (bfalse hb47) (by decide) fun a F => ?_
    refine q_no F rfl (by decide) rfl (bfalse hb47) (by decide) fun a F => ?_
    refine q_no F rfl (by decide) rfl (bfalse hb47) (by decide) fun a F => ?_
    refine q_val F rfl rfl (by decide) (r_pick_f F rfl (bfalse hb47) rfl) fun a F => ?_
    refine q_val F rfl rfl (by decide) (r_move F rfl) fun a F => ?_
    refine q_no F rfl (by decide) rfl rfl (by decide) fun a F => ?_
    refine q_no F rfl (by decide) rfl rfl (by decide) fun a F => ?_
    refine q_no F rfl (by decide) rfl rfl (by decide) fun a F => ?_
    refine q_no F rfl (by decide) rfl rfl (by decide) fun a F => ?_
    refine q_no F rfl (by decide) rfl rfl (by decide) fun a F => ?_
    refine q_val F rfl rfl (by decide) (r_pick_f F rfl rfl rfl) fun a F => ?_
    refine q_val F rfl rfl (by decide) (r_assign F rfl) fun a F => ?_
    refine nil ?_
    refine hK30 _ _ ?_
    replace F : Fr a 38 [(4, .bool false)] := F.sub ⟨rfl, trivial⟩
    refine wp_ret ?_
    replace H := Option.some.inj H
    subst H
    refine out1 F rfl rfl ?_
    exact ⟨fun b_ => (fun x_ => if x_ < m then x_ else 0) (c42 b_), rfl, E.leave B0 (fun x_ => if x_ < m then x_ else 0) (by intro x_ hx_; show (if x_ < m then x_ else 0) = x_; ((repeat' split) <;> omega)), (fun b_ hb_ => by show (if (c42 b_) < m then (c42 b_) else 0) < m; ((repeat' split) <;> omega))⟩
  ·replace H := (if_neg hb39).symm.trans H
   refine q_no F rfl (by decide) rfl (bfalse hb39) (by decide) fun a F => ?_
   refine q_no F rfl (by decide) rfl (bfalse hb39) (by decide) fun a F => ?_
   refine q_no F rfl (by decide) rfl (bfalse hb39) (by decide) fun a F => ?_
   refine q_no F rfl (by decide) rfl (bfalse hb39) (by decide) fun a F => ?_
   refine q_no F rfl (by decide) rfl (bfalse hb39) (by decide) fun a F => ?_
   refine q_val F rfl rfl (by decide) (r_pick_f F rfl (bfalse hb39) rfl) fun a F => ?_
   refine q_val F rfl rfl (by decide) (r_move F rfl) fun a F => ?_
   refine q_no F rfl (by decide) rfl rfl (by decide) fun a F => ?_
   refine q_no F rfl (by decide) rfl rfl (by decide) fun a F => ?_
   refine q_no F rfl (by decide) rfl rfl (by decide) fun a F => ?_
   refine q_no F rfl (by decide) rfl rfl (by decide) fun a F => ?_
   refine q_no F rfl (by decide) rfl rfl (by decide) fun a F => ?_
   refine q_val F rfl rfl (by decide) (r_pick_f F rfl rfl rfl) fun a F => ?_
   refine q_val F rfl rfl (by decide) (r_move F rfl) fun a F => ?_
   refine q_no F rfl (by decide) rfl rfl (by decide) fun a F => ?_
   refine q_no F rfl (by decide) rfl rfl (by decide) fun a F => ?_
   refine q_no F rfl (by decide) rfl rfl (by decide) fun a F => ?_
   refine q_no F rfl (by decide) rfl rfl (by decide) fun a F => ?_
   refine q_no F rfl (by decide) rfl rfl (by decide) fun a F => ?_
   refine q_val F rfl rfl (by decide) (r_pick_f F rfl rfl rfl) fun a F => ?_
   refine q_val F rfl rfl (by decide) (r_assign F rfl) fun a F => ?_
   refine nil ?_
   refine hK30 _ _ ?_
   replace F : Fr a 38 [(4, .bool false)] := F.sub ⟨rfl, trivial⟩
   refine wp_ret ?_
   replace H := Option.some.inj H
   subst H
   refine out1 F rfl rfl ?_
   exact ⟨fun b_ => (fun x_ => if x_ < m then x_ else 0) (c34 b_), rfl, E.leave B0 (fun x_ => if x_ < m then x_ else 0) (by intro x_ hx_; show (if x_ < m then x_ else 0) = x_; ((repeat' split) <;> omega)), (fun b_ hb_ => by show (if (c34 b_) < m then (c34 b_) else 0) < m; ((repeat' split) <;> omega))⟩
 ·replace H := (if_neg hb31).symm.trans H
  refine q_no F rfl (by decide) rfl (bfalse hb31) (by decide) fun a F => ?_
  refine q_no F rfl (by decide) rfl (bfalse hb31) (by decide) fun a F => ?_
  refine q_no F rfl (by decide) rfl (bfalse hb31) (by decide) fun a F => ?_
  refine q_no F rfl (by decide) rfl (bfalse hb31) (by decide) fun a F => ?_
  refine q_no F rfl (by decide) rfl (bfalse hb31) (by decide) fun a F => ?_
  refine q_val F rfl rfl (by decide) (r_pick_f F rfl (bfalse hb31) rfl) fun a F => ?_
  refine q_val F rfl rfl (by decide) (r_move F rfl) fun a F => ?_
  refine q_no F rfl (by decide) rfl rfl (by decide) fun a F => ?_
  refine q_no F rfl (by decide) rfl rfl (by decide) fun a F => ?_
  refine q_no F rfl (by decide) rfl rfl (by decide) fun a F => ?_
  refine q_no F rfl (by decide) rfl rfl (by decide) fun a F => ?_
  refine q_no F rfl (by decide) rfl rfl (by decide) fun a F => ?_
  refine q_val F rfl rfl (by decide) (r_pick_f F rfl rfl rfl) fun a F => ?_
  refine q_val F rfl rfl (by decide) (r_move F rfl) fun a F => ?_
  refine q_no F rfl (by decide) rfl rfl (by decide) fun a F => ?_
  refine q_no F rfl (by decide) rfl rfl (by decide) fun a F => ?_
  refine q_no F rfl (by decide) rfl rfl (by decide) fun a F => ?_
  refine q_no F rfl (by decide) rfl rfl (by decide) fun a F => ?_
  refine q_no F rfl (by decide) rfl rfl (by decide) fun a F => ?_
  refine q_val F rfl rfl (by decide) (r_pick_f F rfl rfl rfl) fun a F => ?_
  refine q_val F rfl rfl (by decide) (r_move F rfl) fun a F => ?_
  refine q_no F rfl (by decide) rfl rfl (by decide) fun a F => ?_
  refine q_no F rfl (by decide) rfl rfl (by decide) fun a F => ?_
  refine q_no F rfl (by decide) rfl rfl (by decide) fun a F => ?_
  refine q_no F rfl (by decide) rfl rfl (by decide) fun a F => ?_
  refine q_no F rfl (by decide) rfl rfl (by decide) fun a F => ?_
  refine q_val F rfl rfl (by decide) (r_pick_f F rfl rfl rfl) fun a F => ?_
  refine q_val F rfl rfl (by decide) (r_assign F rfl) fun a F => ?_
  refine nil ?_
  refine hK30 _ _ ?_
  replace F : Fr a 38 [(4, .bool false)] := F.sub ⟨rfl, trivial⟩
  refine wp_ret ?_
  replace H := Option.some.inj H
  subst H
  refine out1 F rfl rfl ?_
  exact ⟨fun b_ => (fun x_ => if x_ < m then x_ else 0) (c23 b_), rfl, E.leave B0 (fun x_ => if x_ < m then x_ else 0) (by intro x_ hx_; show (if x_ < m then x_ else 0) = x_; ((repeat' split) <;> omega)), (fun b_ hb_ => by show (if (c23 b_) < m then (c23 b_) else 0) < m; ((repeat' split) <;> omega))⟩
end Go.Proofs.Ythankpjbfpcldaa.G
namespace Go.Proofs.Ythankpjbfpcldaa.G
open Go Go.RowKit
set_option linter.unusedVariables false
set_option linter.unusedSimpArgs false
set_option maxRecDepth 100000 in
set_option maxHeartbeats 4000000 in
theorem tree_New.calls {m : Nat} {c0 : Nat → Nat} {w0 : World} (hm0 : 0 < m) (B0 : CB m c0 w0) (r : Tr) (H : tree_New.f = some r) : Calls Try.prog 35 #[] w0 (fun e w_ => ∃ (c_ : Nat → Nat) (P0_ : Option Addr), e = .returned (.pointer P0_) ∧ Ev (fun x => False) c0 w0 c_ w_ ∧ CB m c_ w_ ∧ TR 0 c_ w_ P0_ r) := by
 unfold tree_New.f at H
 have B := B0.mono (show m ≤ m + 1 by omega)
 have E : Ev (fun x => False ∨ m ≤ x) c0 w0 c0 w0 := Ev.refl
 refine enter (N := 1) (l := []) Try.func35 rfl rfl (Nat.le_of_ble_eq_true rfl) fun a F => ?_
 refine wp_seq_k fun K1 hK1 => ?_
 refine reg ?_
 refine q_val F rfl rfl (by decide) (r_assign F rfl) fun a F => ?_
 refine nil ?_
 refine hK1 _ _ ?_
 refine wp_seq_k fun K2 hK2 => ?_
 refine reg ?_
 refine q_val F rfl rfl (by decide) (r_assign F rfl) fun a F => ?_
 refine nil ?_
 refine hK2 _ _ ?_
 refine wp_ret ?_
 replace H := Option.some.inj H
 subst H
 refine out1 F rfl rfl ?_
 exact ⟨fun b_ => (fun x_ => if x_ < m then x_ else 0) (c0 b_), none, rfl, E.leave B0 (fun x_ => if x_ < m then x_ else 0) (by intro x_ hx_; show (if x_ < m then x_ else 0) = x_; ((repeat' split) <;> omega)), (fun b_ hb_ => by show (if (c0 b_) < m then (c0 b_) else 0) < m; ((repeat' split) <;> omega)), TR.nil⟩
end Go.Proofs.Ythankpjbfpcldaa.G
namespace Go.Proofs.Ythankpjbfpcldaa.G
open Go Go.RowKit
set_option linter.unusedVariables false
set_option linter.unusedSimpArgs false
set_option maxRecDepth 100000 in
set_option maxHeartbeats 4000000 in
theorem table_New.calls {m : Nat} {c0 : Nat → Nat} {w0 : World} (hm0 : 0 < m) (B0 : CB m c0 w0) (jr20 : Nat) (bjr20 : jr20 < m) (r : (Option Tab)) (H : table_New.f = some r) : Calls Try.prog 8 #[] w0 (fun e w_ => ∃ (c_ : Nat → Nat) (P0_ : Option Addr), e = .returned (.pointer P0_) ∧ Ev (fun x => False) c0 w0 c_ w_ ∧ CB m c_ w_ ∧ TB jr20 c_ w_ P0_ r) := by
 unfold table_New.f at H
 have B := B0.mono (show m ≤ m + 2 by omega)
 have E : Ev (fun x => False ∨ m ≤ x) c0 w0 c0 w0 := Ev.refl
 refine enter (N := 4) (l := []) Try.func8 rfl rfl (Nat.le_of_ble_eq_true rfl) fun a F => ?_
 refine wp_seq_k fun K1 hK1 => ?_
 refine reg ?_
 refine q_val F rfl rfl (by decide) (r_assign F rfl) fun a F => ?_
 refine nil ?_
 refine hK1 _ _ ?_
 refine wp_seq_k fun K2 hK2 => ?_
 refine reg ?_
 replace H := bind_some H
 obtain ⟨t3, q4, H⟩ := H
 refine q_call F rfl rfl (by decide) (r_call F Try.func35 rfl (by kernel_rfl) rfl) (tree_New.calls (m := m + 2) (Nat.add_pos_left hm0 _) B _ q4) ?_
 rintro e w6 ⟨c5, p9, rfl, E7, B8, h10⟩
 refine ⟨_, rfl, fun a F => ?_⟩
 have B := B8
 replace E := E.trans E7 (fun x q => q.elim)
 refine q_val F rfl rfl (by decide) (r_build (v := .agg #[.pointer p9, .int .i64 0, .int .i64 0]) F [(0, .pointer p9)] (by exact ⟨rfl, rfl, trivial⟩) (fun w => by kernel_rfl)) fun a F => ?_
 refine q_eff F rfl rfl (by decide) (e_box F (v := .agg #[.pointer p9, .int .i64 0, .int .i64 0]) rfl c5 (m + 1)) ?_
 rintro v w13 a ⟨c12, qa14, rfl, E15, h16, B17⟩ F
 replace B := B17 _ B (Nat.add_lt_add_left (by decide) m)
 replace h10 := TR.ev h10 E15 (fun q => q.elim) (fun q => q.elim)
 replace E := E.trans E15 (fun x q => q.elim)
 replace h16 : AT true (m + 1) c12 w13 qa14 [.pointer p9, .int .i64 0, .int .i64 0] := h16
 refine q_val F rfl rfl (by decide) (r_assign F rfl) fun a F => ?_
 refine nil ?_
 refine hK2 _ _ ?_
 refine wp_ret ?_
 have h19 : TB (m + 1) c12 w13 (some qa14) (some (Tab.mk t3 0 0)) := TB.mk h16 h10
 replace H := Option.some.inj H
 subst H
 refine out1 F rfl rfl ?_
 exact ⟨fun b_ => (fun x_ => if x_ = m + 1 then jr20 else if x_ < m then x_ else 0) (c12 b_), (some qa14), rfl, E.leave B0 (fun x_ => if x_ = m + 1 then jr20 else if x_ < m then x_ else 0) (by intro x_ hx_; show (if x_ = m + 1 then jr20 else if x_ < m then x_ else 0) = x_; ((repeat' split) <;> omega)), (fun b_ hb_ => by show (if (c12 b_) = m + 1 then jr20 else if (c12 b_) < m then (c12 b_) else 0) < m; ((repeat' split) <;> omega)), TB.rc h19 (fun k_ hk_ => by show (if (c12 k_) = m + 1 then jr20 else if (c12 k_) < m then (c12 k_) else 0) = _; rw [hk_]; ((repeat' split) <;> omega)) (fun k_ hk_ => by show (if (c12 k_) = m + 1 then jr20 else if (c12 k_) < m then (c12 k_) else 0) = _; rw [hk_]; ((repeat' split) <;> omega))⟩
end Go.Proofs.Ythankpjbfpcldaa.G
namespace Go.Proofs.Ythankpjbfpcldaa.G
open Go Go.RowKit
set_option linter.unusedVariables false
set_option linter.unusedSimpArgs false
set_option maxRecDepth 100000 in
set_option maxHeartbeats 4000000 in
theorem shard_New.calls {m : Nat} {c0 : Nat → Nat} {w0 : World} (hm0 : 0 < m) (B0 : CB m c0 w0) (jr21 : Nat) (bjr21 : jr21 < m) (jr22 : Nat) (bjr22 : jr22 < m) (r : (Option Sha)) (H : shard_New.f = some r) : Calls Try.prog 7 #[] w0 (fun e w_ => ∃ (c_ : Nat → Nat) (P0_ : Option Addr), e = .returned (.pointer P0_) ∧ Ev (fun x => False) c0 w0 c_ w_ ∧ CB m c_ w_ ∧ SH jr21 jr22 c_ w_ P0_ r) := by
 unfold shard_New.f at H
 have B := B0.mono (show m ≤ m + 3 by omega)
 have E : Ev (fun x => False ∨ m ≤ x) c0 w0 c0 w0 := Ev.refl
 refine enter (N := 4) (l := []) Try.func7 rfl rfl (Nat.le_of_ble_eq_true rfl) fun a F => ?_
 refine wp_seq_k fun K1 hK1 => ?_
 refine reg ?_
 refine q_val F rfl rfl (by decide) (r_assign F rfl) fun a F => ?_
 refine nil ?_
 refine hK1 _ _ ?_
 refine wp_seq_k fun K2 hK2 => ?_
 refine reg ?_
 replace H := bind_some H
 obtain ⟨t3, q4, H⟩ := H
 refine q_call F rfl rfl (by decide) (r_call F Try.func8 rfl (by kernel_rfl) rfl) (table_New.calls (m := m + 3) (Nat.add_pos_left hm0 _) B (m + 1) (Nat.add_lt_add_left (by decide) m) _ q4) ?_
 rintro e w6 ⟨c5, p9, rfl, E7, B8, h10⟩
 refine ⟨_, rfl, fun a F => ?_⟩
 have B := B8
 replace E := E.trans E7 (fun x q => q.elim)
 have h12 : AR K_api_Seat 0 c5 w6 ((List.replicate 16 ([.int .i64 0, .int .i64 0, .bool false, .slice none 0 0, .slice none 0 0, .int .i64 0, .int .i64 0] : List Value)).flatten) 16 (List.replicate 16 (api_Seat.mk 0 0 (api_Answer.mk false [] [] 0 0) : api_Seat)) := AR.zero (by exact ⟨none, 0, none, 0, rfl, SL.nil, SL.nil⟩) 16
 refine q_val F rfl rfl (by decide) (r_build (v := .agg (([.pointer p9] : List Value) ++ (((List.replicate 16 ([.int .i64 0, .int .i64 0, .bool false, .slice none 0 0, .slice none 0 0, .int .i64 0, .int .i64 0] : List Value)).flatten) ++ (([] : List Value)))).toArray) F [(0, .pointer p9)] (by exact ⟨rfl, rfl, trivial⟩) (fun w => by kernel_rfl)) fun a F => ?_
 refine q_eff F rfl rfl (by decide) (e_box F (v := .agg (([.pointer p9] : List Value) ++ (((List.replicate 16 ([.int .i64 0, .int .i64 0, .bool false, .slice none 0 0, .slice none 0 0, .int .i64 0, .int .i64 0] : List Value)).flatten) ++ (([] : List Value)))).toArray) rfl c5 (m + 2)) ?_
 rintro v w14 a ⟨c13, qa15, rfl, E16, h17, B18⟩ F
 replace B := B18 _ B (Nat.add_lt_add_left (by decide) m)
 replace h10 := TB.ev h10 E16 (fun q => q.elim) (fun q => q.elim)
 replace h12 := AR.ev h12 E16 (fun q => q.elim)
 replace E := E.trans E16 (fun x q => q.elim)
 replace h17 : AT true (m + 2) c13 w14 qa15 (([.pointer p9] : List Value) ++ (((List.replicate 16 ([.int .i64 0, .int .i64 0, .bool false, .slice none 0 0, .slice none 0 0, .int .i64 0, .int .i64 0] : List Value)).flatten) ++ (([] : List Value)))) := h17
 refine q_val F rfl rfl (by decide) (r_assign F rfl) fun a F => ?_
 refine nil ?_
 refine hK2 _ _ ?_
 refine wp_ret ?_
 have h20 : SH (m + 2) (m + 1) c13 w14 (some qa15) (some (Sha.mk t3 (List.replicate 16 (api_Seat.mk 0 0 (api_Answer.mk false [] [] 0 0) : api_Seat)))) := SH.mk h17 h10 h12
 replace H := Option.some.inj H
 subst H
 refine out1 F rfl rfl ?_
 exact ⟨fun b_ => (fun x_ => if x_ = m + 2 then jr21 else if x_ = m + 1 then jr22 else if x_ < m then x_ else 0) (c13 b_), (some qa15), rfl, E.leave B0 (fun x_ => if x_ = m + 2 then jr21 else if x_ = m + 1 then jr22 else if x_ < m then x_ else 0) (by intro x_ hx_; show (if x_ = m + 2 then jr21 else if x_ = m + 1 then jr22 else if x_ < m then x_ else 0) = x_; ((repeat' split) <;> omega)), (fun b_ hb_ => by show (if (c13 b_) = m + 2 then jr21 else if (c13 b_) = m + 1 then jr22 else if (c13 b_) < m then (c13 b_) else 0) < m; ((repeat' split) <;> omega)), SH.rc h20 (fun k_ hk_ => by show (if (c13 k_) = m + 2 then jr21 else if (c13 k_) = m + 1 then jr22 else if (c13 k_) < m then (c13 k_) else 0) = _; rw [hk_]; ((repeat' split) <;> omega)) (fun k_ hk_ => by show (if (c13 k_) = m + 2 then jr21 else if (c13 k_) = m + 1 then jr22 else if (c13 k_) < m then (c13 k_) else 0) = _; rw [hk_]; ((repeat' split) <;> omega)) (fun k_ hk_ => by show (if (c13 k_) = m + 2 then jr21 else if (c13 k_) = m + 1 then jr22 else if (c13 k_) < m then (c13 k_) else 0) = _; rw [hk_]; ((repeat' split) <;> omega))⟩
end Go.Proofs.Ythankpjbfpcldaa.G
namespace Go.Proofs.Ythankpjbfpcldaa.G
open Go Go.RowKit
set_option linter.unusedVariables false
set_option linter.unusedSimpArgs false
set_option maxRecDepth 100000 in
set_option maxHeartbeats 4000000 in
theorem table_Table_Copy.calls {m : Nat} {c0 : Nat → Nat} {w0 : World} {j4 : Nat} {p2 : Option Addr} {a1 : Option Tab} (hm0 : 0 < m) (B0 : CB m c0 w0) (h3 : TB j4 c0 w0 p2 a1) (bj4 : j4 < m) (jr31 : Nat) (bjr31 : jr31 < m) (r : (Option Tab)) (H : table_Table_Copy.f a1 = some r) : Calls Try.prog 56 #[.pointer p2] w0 (fun e w_ => ∃ (c_ : Nat → Nat) (P0_ : Option Addr), e = .returned (.pointer P0_) ∧ Ev (fun x => False) c0 w0 c_ w_ ∧ CB m c_ w_ ∧ TB jr31 c_ w_ P0_ r) := by
 unfold table_Table_Copy.f at H
 have B := B0.mono (show m ≤ m + 2 by omega)
 have E : Ev (fun x => False ∨ m ≤ x) c0 w0 c0 w0 := Ev.refl
 refine enter (N := 9) (l := [.pointer p2]) Try.func56 rfl rfl (Nat.le_of_ble_eq_true rfl) fun a F => ?_
 refine wp_seq_k fun K5 hK5 => ?_
 refine reg ?_
 refine q_val F rfl rfl (by decide) (r_assign F rfl) fun a F => ?_
 refine nil ?_
 refine hK5 _ _ ?_
 refine wp_seq_k fun K6 hK6 => ?_
 refine wp_seq_k fun K7 hK7 => ?_
 refine reg ?_
 refine q_val F rfl rfl (by decide) (r_move F rfl) fun a F => ?_
 refine q_val F rfl rfl (by decide) (r_peqlA F Try.underlying26 rfl rfl (TB.isNone h3)) fun a F => ?_
 refine nil ?_
 refine hK7 _ _ ?_
 by_cases hb8 : (Option.isNone a1) = true
 ·replace H := (if_pos hb8).symm.trans H
  refine wp_cond_true ((F.ev rfl).trans (congrArg Value.bool hb8)) ?_
  refine wp_seq_k fun K9 hK9 => ?_
  refine reg ?_
  refine q_val F rfl rfl (by decide) (r_assign F rfl) fun a F => ?_
  refine nil ?_
  refine hK9 _ _ ?_
  refine wp_ret ?_
  refine thenR ?_
  replace H := Option.some.inj H
  subst H
  refine out1 F rfl rfl ?_
  exact ⟨fun b_ => (fun x_ => if x_ = m + 1 then jr31 else if x_ < m then x_ else 0) (c0 b_), none, rfl, E.leave B0 (fun x_ => if x_ = m + 1 then jr31 else if x_ < m then x_ else 0) (by intro x_ hx_; show (if x_ = m + 1 then jr31 else if x_ < m then x_ else 0) = x_; ((repeat' split) <;> omega)), (fun b_ hb_ => by show (if (c0 b_) = m + 1 then jr31 else if (c0 b_) < m then (c0 b_) else 0) < m; ((repeat' split) <;> omega)), TB.nil⟩
 ·replace H := (if_neg hb8).symm.trans H
  refine wp_cond_false ((F.ev rfl).trans (congrArg Value.bool (bfalse hb8))) ?_
  refine wp_skip ?_
  refine hK6 _ _ ?_
  refine wp_seq_k fun K10 hK10 => ?_
  refine reg ?_
  refine q_val F rfl rfl (by decide) (r_move F rfl) fun a F => ?_
  replace H := bind_some H
  obtain ⟨ob11, e12, H⟩ := H
  have z13 := h3
  rw [e12] at z13
  obtain ⟨ad14, p16, rfl, hat15, h17⟩ := TB.some z13
  refine q_val F rfl rfl (by decide) (r_nil F rfl) fun a F => ?_
  refine q_val F rfl rfl (by decide) (r_loads (cs := [.pointer p16, .int .i64 ob11.rev, .int .i64 ob11.size]) F rfl ag_82 sz_82 hat15) fun a F => ?_
  refine q_eff F rfl rfl (by decide) (e_alloc F zv_82 c0 (m + 1)) ?_
  rintro v w20 a ⟨c19, qa21, rfl, E22, h23, B24⟩ F
  replace B := B24 _ B (Nat.add_lt_add_left (by decide) m)
  replace h3 := TB.ev h3 E22 (fun q => q.elim) (fun q => q.elim)
  replace h17 := TR.ev h17 E22 (fun q => q.elim) (fun q => q.elim)
  replace hat15 := AT.ev hat15 E22 (fun q => q.elim)
  replace E := E.trans E22 (fun x q => q.elim)
  replace h23 : AT true (m + 1) c19 w20 qa21 [.pointer none, .int .i64 0, .int .i64 0] := h23
  refine q_eff0 F rfl rfl (e_storeN0 (us := [.pointer p16, .int .i64 ob11.rev, .int .i64 ob11.size]) F rfl rfl sz_82 h23 (Nat.le_of_ble_eq_true rfl) (one_all rfl)) ?_
  rintro w26 a ⟨E27, h23, Z28⟩ F
  replace B := B.size Z28
  replace h3 := TB.ev h3 E27 (ne_pm bj4) ne_zm
  replace h17 := TR.ev h17 E27 ne_zm ne_zm
  replace hat15 := AT.ev hat15 E27 (ne_pm bj4)
  replace E := E.trans E27 (fun x (q : x = m + 1) => Or.inr (le_col q))
  replace h23 : AT true (m + 1) c19 w26 qa21 [.pointer p16, .int .i64 ob11.rev, .int .i64 ob11.size] := h23
  refine nil ?_
  refine hK10 _ _ ?_
  refine wp_seq_k fun K29 hK29 => ?_
  refine reg ?_
  refine q_val F rfl rfl (by decide) (r_assign F rfl) fun a F => ?_
  refine nil ?_
  refine hK29 _ _ ?_
  refine wp_ret ?_
  have h30 : TB (m + 1) c19 w26 (some qa21) (some (Tab.mk ob11.rows ob11.rev ob11.size)) := TB.mk h23 h17
  replace H := Option.some.inj H
  subst H
  refine out1 F rfl rfl ?_
  exact ⟨fun b_ => (fun x_ => if x_ = m + 1 then jr31 else if x_ < m then x_ else 0) (c19 b_), (some qa21), rfl, E.leave B0 (fun x_ => if x_ = m + 1 then jr31 else if x_ < m then x_ else 0) (by intro x_ hx_; show (if x_ = m + 1 then jr31 else if x_ < m then x_ else 0) = x_; ((repeat' split) <;> omega)), (fun b_ hb_ => by show (if (c19 b_) = m + 1 then jr31 else if (c19 b_) < m then (c19 b_) else 0) < m; ((repeat' split) <;> omega)), TB.rc h30 (fun k_ hk_ => by show (if (c19 k_) = m + 1 then jr31 else if (c19 k_) < m then (c19 k_) else 0) = _; rw [hk_]; ((repeat' split) <;> omega)) (fun k_ hk_ => by show (if (c19 k_) = m + 1 then jr31 else if (c19 k_) < m then (c19 k_) else 0) = _; rw [hk_]; ((repeat' split) <;> omega))⟩
end Go.Proofs.Ythankpjbfpcldaa.G
namespace Go.Proofs.Ythankpjbfpcldaa.G
open Go Go.RowKit
set_option linter.unusedVariables false
set_option linter.unusedSimpArgs false
set_option maxRecDepth 100000 in
set_option maxHeartbeats 4000000 in
theorem shard_Shard_Copy.calls {m : Nat} {c0 : Nat → Nat} {w0 : World} {j4 : Nat} {j5 : Nat} {p2 : Option Addr} {a1 : Option Sha} (hm0 : 0 < m) (B0 : CB m c0 w0) (h3 : SH j4 j5 c0 w0 p2 a1) (bj4 : j4 < m) (bj5 : j5 < m ∧ j5 ≠ j4) (jr42 : Nat) (bjr42 : jr42 < m) (jr43 : Nat) (bjr43 : jr43 < m) (r : (Option Sha)) (H : shard_Shard_Copy.f a1 = some r) : Calls Try.prog 30 #[.pointer p2] w0 (fun e w_ => ∃ (c_ : Nat → Nat) (P0_ : Option Addr), e = .returned (.pointer P0_) ∧ Ev (fun x => False) c0 w0 c_ w_ ∧ CB m c_ w_ ∧ SH jr42 jr43 c_ w_ P0_ r) := by
 unfold shard_Shard_Copy.f at H
 have B := B0.mono (show m ≤ m + 3 by omega)
 have E : Ev (fun x => False ∨ m ≤ x) c0 w0 c0 w0 := Ev.refl
 refine enter (N := 16) (l := [.pointer p2]) Try.func30 rfl rfl (Nat.le_of_ble_eq_true rfl) fun a F => ?_
 refine wp_seq_k fun K6 hK6 => ?_
 refine reg ?_
 refine q_val F rfl rfl (by decide) (r_assign F rfl) fun a F => ?_
 refine nil ?_
 refine hK6 _ _ ?_
 refine wp_seq_k fun K7 hK7 => ?_
 refine wp_seq_k fun K8 hK8 => ?_
 refine reg ?_
 refine q_val F rfl rfl (by decide) (r_move F rfl) fun a F => ?_
 refine q_val F rfl rfl (by decide) (r_peqlA F Try.underlying24 rfl rfl (SH.isNone h3)) fun a F => ?_
 refine nil ?_
 refine hK8 _ _ ?_
 by_cases hb9 : (Option.isNone a1) = true
 ·replace H := (if_pos hb9).symm.trans H
  refine wp_cond_true ((F.ev rfl).trans (congrArg Value.bool hb9)) ?_
  refine wp_seq_k fun K10 hK10 => ?_
  refine reg ?_
  refine q_val F rfl rfl (by decide) (r_assign F rfl) fun a F => ?_
  refine nil ?_
  refine hK10 _ _ ?_
  refine wp_ret ?_
  refine thenR ?_
  replace H := Option.some.inj H
  subst H
  refine out1 F rfl rfl ?_
  exact ⟨fun b_ => (fun x_ => if x_ = m + 2 then jr42 else if x_ = m + 1 then jr43 else if x_ < m then x_ else 0) (c0 b_), none, rfl, E.leave B0 (fun x_ => if x_ = m + 2 then jr42 else if x_ = m + 1 then jr43 else if x_ < m then x_ else 0) (by intro x_ hx_; show (if x_ = m + 2 then jr42 else if x_ = m + 1 then jr43 else if x_ < m then x_ else 0) = x_; ((repeat' split) <;> omega)), (fun b_ hb_ => by show (if (c0 b_) = m + 2 then jr42 else if (c0 b_) = m + 1 then jr43 else if (c0 b_) < m then (c0 b_) else 0) < m; ((repeat' split) <;> omega)), SH.nil⟩
 ·replace H := (if_neg hb9).symm.trans H
  refine wp_cond_false ((F.ev rfl).trans (congrArg Value.bool (bfalse hb9))) ?_
  refine wp_skip ?_
  refine hK7 _ _ ?_
  refine wp_seq_k fun K11 hK11 => ?_
  replace H := bind_some H
  obtain ⟨ob12, e13, H⟩ := H
  have z14 := h3
  rw [e13] at z14
  obtain ⟨ad15, p17, cs19, rfl, hat16, h18, h20⟩ := SH.some z14
  refine regD (SB No c0 w0) 12 (.q 0 (.q 1 (.q 2 (.q 3 (.q 5 (.q 6 (.q 7 (.q 8 (.e 4 (.q 9 (.e 10 (.q 11 .nil)))))))))))) Try_hm (by decide +kernel) ?_
  intro w22 w1_ w2_ w3_ w4_
  have E23 : Ev No c0 w0 c0 w22 := Ev.same w1_ w2_ w3_ w4_
  replace B := B.same w1_
  have zh3 := h3
  have zh18 := h18
  have zh20 := h20
  have zhat16 := hat16
  have ER : Ev No c0 w0 c0 w22 := Ev.same w1_ w2_ w3_ w4_
  replace h3 := SH.ev h3 E23 (fun q => q.elim) (fun q => q.elim) (fun q => q.elim)
  replace h18 := TB.ev h18 E23 (fun q => q.elim) (fun q => q.elim)
  replace h20 := AR.ev h20 E23 (fun q => q.elim)
  replace hat16 := AT.ev hat16 E23 (fun q => q.elim)
  replace E := E.trans E23 (fun x q => q.elim)
  refine d_q F rfl rfl rfl (by decide) (fun wq hS => r_move F rfl) ER.sb fun a F => ?_
  refine d_q F rfl rfl rfl (by decide) (fun wq hS => r_nil F rfl) ER.sb fun a F => ?_
  refine d_q F rfl rfl rfl (by decide) (fun wq hS => r_fieldAddr F rfl ff_76_0) ER.sb fun a F => ?_
  refine d_q F rfl rfl rfl (by decide) (fun wq hS => r_load F rfl ag_26 (AT.cell (AT.ev zhat16 hS (fun q => q.elim)) rfl)) ER.sb fun a F => ?_
  refine d_q F rfl rfl rfl (by decide) (fun wq hS => r_move F rfl) ER.sb fun a F => ?_
  refine d_q F rfl rfl rfl (by decide) (fun wq hS => r_nil F rfl) ER.sb fun a F => ?_
  refine d_q F rfl rfl rfl (by decide) (fun wq hS => r_fieldAddr F rfl ff_76_1) ER.sb fun a F => ?_
  refine d_q F rfl rfl rfl (by decide) (fun wq hS => r_loadsS (cs := cs19) F rfl ag_74 sz_74 (h20.1 : cs19.length = 112) (AT.seg (AT.ev zhat16 hS (fun q => q.elim)) rfl (h20.1 : cs19.length = 112))) ER.sb fun a F => ?_
  refine d_e ?_
  replace H := bind_some H
  obtain ⟨t24, q25, H⟩ := H
  refine o_call F rfl (wanted_none rfl) rfl (by decide) (r_call F Try.func56 rfl (by kernel_rfl) rfl) (table_Table_Copy.calls (m := m + 3) (Nat.add_pos_left hm0 _) B h18 (Nat.lt_add_right _ bj5.1) (m + 1) (Nat.add_lt_add_left (by decide) m) _ q25) ?_
  rintro e w27 ⟨c26, p30, rfl, E28, B29, h31⟩
  refine ⟨_, rfl, fun a F => ?_⟩
  have B := B29
  replace ER := ER.trans E28 (fun x q => q.elim)
  replace h3 := SH.ev h3 E28 (fun q => q.elim) (fun q => q.elim) (fun q => q.elim)
  replace h18 := TB.ev h18 E28 (fun q => q.elim) (fun q => q.elim)
  replace h20 := AR.ev h20 E28 (fun q => q.elim)
  replace hat16 := AT.ev hat16 E28 (fun q => q.elim)
  replace E := E.trans E28 (fun x q => q.elim)
  refine ⟨fun _ => ER.sb, ?_⟩
  refine d_q F rfl rfl rfl (by decide) (fun wq hS => r_build (v := .agg (([.pointer p30] : List Value) ++ (cs19 ++ (([] : List Value)))).toArray) F [(0, .pointer p30), (1, .agg cs19.toArray)] (by exact ⟨rfl, rfl, rfl, rfl, trivial⟩) (build_parts bp_76 (by exact ⟨0, ([.pointer p30] : List Value), rfl, rfl, (by have l0_ : ((List.replicate 16 ([.int .i64 0, .int .i64 0, .bool false, .slice none 0 0, .slice none 0 0, .int .i64 0, .int .i64 0] : List Value)).flatten).length = 112 := (by simp); simp only [List.length_append, List.length_cons, List.length_nil, l0_] <;> omega), (([.pointer p30] : List Value) ++ (((List.replicate 16 ([.int .i64 0, .int .i64 0, .bool false, .slice none 0 0, .slice none 0 0, .int .i64 0, .int .i64 0] : List Value)).flatten) ++ (([] : List Value)))), rfl, ⟨1, cs19, congrArg (fun n_ => some (1, n_)) (Eq.symm (h20.1 : cs19.length = 112)), rfl, (by have l0_ : ((List.replicate 16 ([.int .i64 0, .int .i64 0, .bool false, .slice none 0 0, .slice none 0 0, .int .i64 0, .int .i64 0] : List Value)).flatten).length = 112 := (by simp); have lx_ : cs19.length = 112 := (h20.1 : cs19.length = 112); simp only [List.length_append, List.length_cons, List.length_nil, l0_, lx_] <;> omega), (([.pointer p30] : List Value) ++ (cs19 ++ (([] : List Value)))), (lay_seg (pre := ([.pointer p30] : List Value)) rfl (by rw [show ((List.replicate 16 ([.int .i64 0, .int .i64 0, .bool false, .slice none 0 0, .slice none 0 0, .int .i64 0, .int .i64 0] : List Value)).flatten).length = 112 from (by simp), show cs19.length = 112 from (h20.1 : cs19.length = 112)])), rfl⟩⟩))) ER.sb fun a F => ?_
  refine d_e ?_
  refine o_eff F rfl rfl rfl (by decide) (e_box F (v := .agg (([.pointer p30] : List Value) ++ (cs19 ++ (([] : List Value)))).toArray) rfl c26 (m + 2)) ?_
  rintro v w35 a ⟨c34, qa36, rfl, E37, h38, B39⟩ F
  replace B := B39 _ B (Nat.add_lt_add_left (by decide) m)
  replace ER := ER.trans E37 (fun x q => q.elim)
  replace h3 := SH.ev h3 E37 (fun q => q.elim) (fun q => q.elim) (fun q => q.elim)
  replace h18 := TB.ev h18 E37 (fun q => q.elim) (fun q => q.elim)
  replace h20 := AR.ev h20 E37 (fun q => q.elim)
  replace hat16 := AT.ev hat16 E37 (fun q => q.elim)
  replace h31 := TB.ev h31 E37 (fun q => q.elim) (fun q => q.elim)
  replace E := E.trans E37 (fun x q => q.elim)
  replace h38 : AT true (m + 2) c34 w35 qa36 (([.pointer p30] : List Value) ++ (cs19 ++ (([] : List Value)))) := h38
  refine ⟨fun _ => ER.sb, ?_⟩
  refine d_q F rfl rfl rfl (by decide) (fun wq hS => r_assign F rfl) ER.sb fun a F => ?_
  refine d_nil ?_
  refine hK11 _ _ ?_
  replace F : Fr a 16 [(2, .pointer (some qa36))] := F.sub ⟨rfl, trivial⟩
  refine wp_ret ?_
  have h41 : SH (m + 2) (m + 1) c34 w35 (some qa36) (some (Sha.mk t24 ob12.seats)) := SH.mk h38 h31 h20
  replace H := Option.some.inj H
  subst H
  refine out1 F rfl rfl ?_
  exact ⟨fun b_ => (fun x_ => if x_ = m + 2 then jr42 else if x_ = m + 1 then jr43 else if x_ < m then x_ else 0) (c34 b_), (some qa36), rfl, E.leave B0 (fun x_ => if x_ = m + 2 then jr42 else if x_ = m + 1 then jr43 else if x_ < m then x_ else 0) (by intro x_ hx_; show (if x_ = m + 2 then jr42 else if x_ = m + 1 then jr43 else if x_ < m then x_ else 0) = x_; ((repeat' split) <;> omega)), (fun b_ hb_ => by show (if (c34 b_) = m + 2 then jr42 else if (c34 b_) = m + 1 then jr43 else if (c34 b_) < m then (c34 b_) else 0) < m; ((repeat' split) <;> omega)), SH.rc h41 (fun k_ hk_ => by show (if (c34 k_) = m + 2 then jr42 else if (c34 k_) = m + 1 then jr43 else if (c34 k_) < m then (c34 k_) else 0) = _; rw [hk_]; ((repeat' split) <;> omega)) (fun k_ hk_ => by show (if (c34 k_) = m + 2 then jr42 else if (c34 k_) = m + 1 then jr43 else if (c34 k_) < m then (c34 k_) else 0) = _; rw [hk_]; ((repeat' split) <;> omega)) (fun k_ hk_ => by show (if (c34 k_) = m + 2 then jr42 else if (c34 k_) = m + 1 then jr43 else if (c34 k_) < m then (c34 k_) else 0) = _; rw [hk_]; ((repeat' split) <;> omega))⟩
end Go.Proofs.Ythankpjbfpcldaa.G
namespace Go.Proofs.Ythankpjbfpcldaa.G
open Go Go.RowKit
set_option linter.unusedVariables false
set_option linter.unusedSimpArgs false
set_option maxRecDepth 100000 in
set_option maxHeartbeats 4000000 in
theorem shard_numSize.calls (k : Nat) {m : Nat} {c0 : Nat → Nat} {w0 : World} {a1 : Int} (hm0 : 0 < m) (B0 : CB m c0 w0) (r : Int) (H : shard_numSize.f k a1 = some r) : Calls Try.prog 58 #[.int .i64 a1] w0 (fun e w_ => ∃ (c_ : Nat → Nat), e = .returned (.int .i64 r) ∧ Ev (fun x => False) c0 w0 c_ w_ ∧ CB m c_ w_) := by
 unfold shard_numSize.f at H
 have B := B0.mono (show m ≤ m + 1 by omega)
 have E : Ev (fun x => False ∨ m ≤ x) c0 w0 c0 w0 := Ev.refl
 refine enter (N := 11) (l := [.int .i64 a1]) Try.func58 rfl rfl (Nat.le_of_ble_eq_true rfl) fun a F => ?_
 refine wp_seq_k fun K2 hK2 => ?_
 refine reg ?_
 refine q_val F rfl rfl (by decide) (r_assign F rfl) fun a F => ?_
 refine nil ?_
 refine hK2 _ _ ?_
 refine wp_seq_k fun K3 hK3 => ?_
 refine reg ?_
 refine q_val F rfl rfl (by decide) (r_assign F rfl) fun a F => ?_
 refine nil ?_
 refine hK3 _ _ ?_
 refine wp_seq_k fun K4 hK4 => ?_
 refine wp_block ?_
 obtain ⟨x16, HL, HR15⟩ := bind_some H
 have J24 : ∀ (c25 : Nat → Nat) (w26 : World) (a : Act) (i23 : Int), Fr a 11 [(3, .int .i64 i23)] → Ev (fun x => False ∨ m ≤ x) c0 w0 c25 w26 → CB (m + 1) c25 w26 → shard_numSize.j2 i23 = some r → K4 a w26 := by
  intro c25 w26 a i23 F E B  H
  unfold shard_numSize.j2 at H
  refine hK4 _ _ ?_
  refine wp_seq_k fun K27 hK27 => ?_
  refine reg ?_
  refine q_val F rfl rfl (by decide) (r_move F rfl) fun a F => ?_
  refine q_val F rfl rfl (by decide) (r_assign F rfl) fun a F => ?_
  refine nil ?_
  refine hK27 _ _ ?_
  refine wp_ret ?_
  replace H := Option.some.inj H
  subst H
  refine out1 F rfl rfl ?_
  exact ⟨fun b_ => (fun x_ => if x_ < m then x_ else 0) (c25 b_), rfl, E.leave B0 (fun x_ => if x_ < m then x_ else 0) (by intro x_ hx_; show (if x_ < m then x_ else 0) = x_; ((repeat' split) <;> omega)), (fun b_ hb_ => by show (if (c25 b_) < m then (c25 b_) else 0) < m; ((repeat' split) <;> omega))⟩
 refine loop_fuel (I := fun n a w => ∃ (i5 : Int) (i6 : Int) (c : Nat → Nat), Fr a 11 [(0, .int .i64 i5), (3, .int .i64 i6)] ∧ Ev (fun x => False ∨ m ≤ x) c0 w0 c w ∧ CB (m + 1) c w ∧ loop (fun (s_ : Int × Int) => shard_numSize.b1 s_.1 s_.2) n (i5, i6) = some x16) (k := k) ⟨a1, 1, c0, F.sub ⟨rfl, rfl, trivial⟩, E, B, HL⟩ ?_
 clear HL H E F B
 intro n13 X9 hX9 a w8 ⟨i5, i6, c7, F, E, B, HL⟩
 obtain ⟨n14, ctl12, rfl, HB, HN10, HD11⟩ := loop_some HL
 have H : shard_numSize.b1 i5 i6 = some ctl12 := HB
 clear HB HL
 unfold shard_numSize.b1 at H
 refine wp_seq_k fun K17 hK17 => ?_
 refine wp_seq_k fun K18 hK18 => ?_
 refine reg ?_
 refine q_val F rfl rfl (by decide) (r_move F rfl) fun a F => ?_
 refine q_val F rfl rfl (by decide) (r_geq F rfl rfl) fun a F => ?_
 refine nil ?_
 refine hK18 _ _ ?_
 by_cases hb19 : 128 ≤ i5
 ·replace H := (if_pos hb19).symm.trans H
  refine wp_cond_true ((F.ev rfl).trans (congrArg Value.bool (decide_eq_true hb19))) ?_
  refine wp_skip ?_
  refine hK17 _ _ ?_
  refine wp_seq_k fun K20 hK20 => ?_
  refine wp_block ?_
  refine reg ?_
  refine q_val F rfl rfl (by decide) (r_move F rfl) fun a F => ?_
  refine q_val F rfl rfl (by decide) (r_add F rfl rfl) fun a F => ?_
  refine q_val F rfl rfl (by decide) (r_assign F rfl) fun a F => ?_
  refine nil ?_
  refine hK20 _ _ ?_
  refine reg ?_
  refine q_val F rfl rfl (by decide) (r_move F rfl) fun a F => ?_
  refine q_val F rfl rfl (by decide) (r_shr F rfl rfl (by decide)) fun a F => ?_
  refine q_val F rfl rfl (by decide) (r_assign F rfl) fun a F => ?_
  refine nil ?_
  replace H := HN10 _ (Option.some.inj H).symm
  exact hX9 _ _ _ (Nat.lt_succ_self _) ⟨(shr .i64 i5 7), (IntKind.i64.wrap (i6 + 1)), c7, F.sub ⟨rfl, rfl, trivial⟩, E, B, H⟩
 ·replace H := (if_neg hb19).symm.trans H
  refine wp_cond_false ((F.ev rfl).trans (congrArg Value.bool (decide_eq_false hb19))) ?_
  refine wp_exit ?_
  refine thenE ?_
  refine thenE ?_
  refine inbE ?_
  have hx_ := HD11 _ (Option.some.inj H).symm
  have H := HR15
  rw [← hx_] at H
  exact J24 c7 w8 a i6 (F.sub ⟨rfl, trivial⟩) E B  H
end Go.Proofs.Ythankpjbfpcldaa.G
namespace Go.Proofs.Ythankpjbfpcldaa.G
open Go Go.RowKit
set_option linter.unusedVariables false
set_option linter.unusedSimpArgs false
set_option maxRecDepth 100000 in
set_option maxHeartbeats 4000000 in
theorem parcel_New.calls {m : Nat} {c0 : Nat → Nat} {w0 : World} {a1 : Int} (hm0 : 0 < m) (B0 : CB m c0 w0) (jr12 : Nat) (bjr12 : jr12 < m) (jr13 : Nat) (bjr13 : jr13 < m) (r : (Option Wri)) (H : parcel_New.f a1 = some r) : Calls Try.prog 46 #[.int .i64 a1] w0 (fun e w_ => ∃ (c_ : Nat → Nat) (P0_ : Option Addr), e = .returned (.pointer P0_) ∧ Ev (fun x => False) c0 w0 c_ w_ ∧ CB m c_ w_ ∧ WR jr12 jr13 c_ w_ P0_ r) := by
 unfold parcel_New.f at H
 have B := B0.mono (show m ≤ m + 3 by omega)
 have E : Ev (fun x => False ∨ m ≤ x) c0 w0 c0 w0 := Ev.refl
 refine enter (N := 7) (l := [.int .i64 a1]) Try.func46 rfl rfl (Nat.le_of_ble_eq_true rfl) fun a F => ?_
 refine wp_seq_k fun K2 hK2 => ?_
 refine reg ?_
 refine q_val F rfl rfl (by decide) (r_assign F rfl) fun a F => ?_
 refine nil ?_
 refine hK2 _ _ ?_
 refine wp_seq_k fun K3 hK3 => ?_
 refine reg ?_
 refine q_val F rfl rfl (by decide) (r_move F rfl) fun a F => ?_
 refine q_val F rfl rfl (by decide) (r_max F rfl rfl) fun a F => ?_
 refine q_val F rfl rfl (by decide) (r_build (v := .agg #[.int .i64 (max a1 0), .slice none 0 0, .slice none 0 0, .int .i64 0]) F [(0, .int .i64 (max a1 0))] (by exact ⟨rfl, rfl, trivial⟩) (fun w => by kernel_rfl)) fun a F => ?_
 refine q_eff F rfl rfl (by decide) (e_box F (v := .agg #[.int .i64 (max a1 0), .slice none 0 0, .slice none 0 0, .int .i64 0]) rfl c0 (m + 1)) ?_
 rintro v w5 a ⟨c4, qa6, rfl, E7, h8, B9⟩ F
 replace B := B9 _ B (Nat.add_lt_add_left (by decide) m)
 replace E := E.trans E7 (fun x q => q.elim)
 replace h8 : AT true (m + 1) c4 w5 qa6 [.int .i64 (max a1 0), .slice none 0 0, .slice none 0 0, .int .i64 0] := h8
 refine q_val F rfl rfl (by decide) (r_assign F rfl) fun a F => ?_
 refine nil ?_
 refine hK3 _ _ ?_
 refine wp_ret ?_
 have h11 : WR (m + 1) (m + 2) c4 w5 (some qa6) (some (Wri.mk (max a1 0) [] [] 0)) := WR.mk h8 SL.nil SL.nil
 replace H := Option.some.inj H
 subst H
 refine out1 F rfl rfl ?_
 exact ⟨fun b_ => (fun x_ => if x_ = m + 1 then jr12 else if x_ = m + 2 then jr13 else if x_ < m then x_ else 0) (c4 b_), (some qa6), rfl, E.leave B0 (fun x_ => if x_ = m + 1 then jr12 else if x_ = m + 2 then jr13 else if x_ < m then x_ else 0) (by intro x_ hx_; show (if x_ = m + 1 then jr12 else if x_ = m + 2 then jr13 else if x_ < m then x_ else 0) = x_; ((repeat' split) <;> omega)), (fun b_ hb_ => by show (if (c4 b_) = m + 1 then jr12 else if (c4 b_) = m + 2 then jr13 else if (c4 b_) < m then (c4 b_) else 0) < m; ((repeat' split) <;> omega)), WR.rc h11 (fun k_ hk_ => by show (if (c4 k_) = m + 1 then jr12 else if (c4 k_) = m + 2 then jr13 else if (c4 k_) < m then (c4 k_) else 0) = _; rw [hk_]; ((repeat' split) <;> omega)) (fun k_ hk_ => by show (if (c4 k_) = m + 1 then jr12 else if (c4 k_) = m + 2 then jr13 else if (c4 k_) < m then (c4 k_) else 0) = _; rw [hk_]; ((repeat' split) <;> omega)) (fun k_ hk_ => by show (if (c4 k_) = m + 1 then jr12 else if (c4 k_) = m + 2 then jr13 else if (c4 k_) < m then (c4 k_) else 0) = _; rw [hk_]; ((repeat' split) <;> omega))⟩
end Go.Proofs.Ythankpjbfpcldaa.G
namespace Go.Proofs.Ythankpjbfpcldaa.G
open Go Go.RowKit
set_option linter.unusedVariables false
set_option linter.unusedSimpArgs false
set_option maxRecDepth 100000 in
set_option maxHeartbeats 4000000 in
theorem parcel_Writer_Done.calls {m : Nat} {c0 : Nat → Nat} {w0 : World} {j4 : Nat} {j5 : Nat} {p2 : Option Addr} {a1 : Option Wri} (hm0 : 0 < m) (B0 : CB m c0 w0) (h3 : WR j4 j5 c0 w0 p2 a1) (bj4 : j4 < m) (bj5 : j5 < m ∧ j5 ≠ j4) (jr46 : Nat) (bjr46 : jr46 < m) (r : (List Int) × Int) (H : parcel_Writer_Done.f a1 = some r) : Calls Try.prog 50 #[.pointer p2] w0 (fun e w_ => ∃ (c_ : Nat → Nat) (A0_ : Option Addr) (C0_ : Nat), e = .returned (.tuple #[.slice A0_ r.1.length C0_, .int .i64 r.2]) ∧ Ev (fun x => False) c0 w0 c_ w_ ∧ CB m c_ w_ ∧ SL true (Kint .u8) jr46 0 c_ w_ A0_ C0_ r.1) := by
 unfold parcel_Writer_Done.f at H
 have B := B0.mono (show m ≤ m + 2 by omega)
 have E : Ev (fun x => False ∨ m ≤ x) c0 w0 c0 w0 := Ev.refl
 refine enter (N := 38) (l := [.pointer p2]) Try.func50 rfl rfl (Nat.le_of_ble_eq_true rfl) fun a F => ?_
 refine wp_seq_k fun K6 hK6 => ?_
 refine reg ?_
 refine q_val F rfl rfl (by decide) (r_assign F rfl) fun a F => ?_
 refine q_val F rfl rfl (by decide) (r_assign F rfl) fun a F => ?_
 refine nil ?_
 refine hK6 _ _ ?_
 refine wp_seq_k fun K7 hK7 => ?_
 refine wp_block ?_
 refine wp_seq_k fun K8 hK8 => ?_
 refine reg ?_
 refine q_val F rfl rfl (by decide) (r_move F rfl) fun a F => ?_
 refine q_val F rfl rfl (by decide) (r_peqlA F Try.underlying97 rfl rfl (WR.isNone h3)) fun a F => ?_
 refine q_val F rfl rfl (by decide) (r_assign F rfl) fun a F => ?_
 refine nil ?_
 refine hK8 _ _ ?_
 by_cases hb9 : (Option.isNone a1) = true
 ·replace H := (if_pos hb9).symm.trans H
  refine wp_cond_true ((F.ev rfl).trans (congrArg Value.bool hb9)) ?_
  refine wp_seq_k fun K10 hK10 => ?_
  refine reg ?_
  refine q_val F rfl rfl (by decide) (r_assign F rfl) fun a F => ?_
  refine q_val F rfl rfl (by decide) (r_assign F rfl) fun a F => ?_
  refine nil ?_
  refine hK10 _ _ ?_
  refine wp_ret ?_
  refine inbR ?_
  refine thenR ?_
  replace H := Option.some.inj H
  subst H
  refine out2 F rfl rfl rfl ?_
  exact ⟨fun b_ => (fun x_ => if x_ = m + 1 then jr46 else if x_ < m then x_ else 0) (c0 b_), none, 0, rfl, E.leave B0 (fun x_ => if x_ = m + 1 then jr46 else if x_ < m then x_ else 0) (by intro x_ hx_; show (if x_ = m + 1 then jr46 else if x_ < m then x_ else 0) = x_; ((repeat' split) <;> omega)), (fun b_ hb_ => by show (if (c0 b_) = m + 1 then jr46 else if (c0 b_) < m then (c0 b_) else 0) < m; ((repeat' split) <;> omega)), SL.nil⟩
 ·replace H := (if_neg hb9).symm.trans H
  refine wp_cond_false ((F.ev rfl).trans (congrArg Value.bool (bfalse hb9))) ?_
  refine wp_seq_k fun K11 hK11 => ?_
  refine reg ?_
  refine q_val F rfl rfl (by decide) (r_move F rfl) fun a F => ?_
  replace H := bind_some H
  obtain ⟨ob12, e13, H⟩ := H
  have z14 := h3
  rw [e13] at z14
  obtain ⟨ad15, A17, C18, A20, C21, rfl, hat16, h19, h22⟩ := WR.some z14
  refine q_val F rfl rfl (by decide) (r_nil F rfl) fun a F => ?_
  refine q_val F rfl rfl (by decide) (r_fieldAddr F rfl ff_121_3) fun a F => ?_
  refine q_val F rfl rfl (by decide) (r_load F rfl ag_39 (AT.cell hat16 rfl)) fun a F => ?_
  refine q_val F rfl rfl (by decide) (r_neq F rfl rfl) fun a F => ?_
  refine q_val F rfl rfl (by decide) (r_assign F rfl) fun a F => ?_
  refine nil ?_
  refine hK11 _ _ ?_
  replace F : Fr a 38 [(0, .pointer (some ad15)), (8, .bool (!decide (ob12.fault = 0)))] := F.sub ⟨rfl, rfl, trivial⟩
  by_cases hb24 : ob12.fault = 0
  ·replace H := (if_pos hb24).symm.trans H
   refine wp_cond_false ((F.ev rfl).trans (congrArg Value.bool (congrArg not (decide_eq_true hb24)))) ?_
   refine wp_seq_k fun K25 hK25 => ?_
   refine reg ?_
   refine q_val F rfl rfl (by decide) (r_move F rfl) fun a F => ?_
   refine q_val F rfl rfl (by decide) (r_nil F rfl) fun a F => ?_
   refine q_val F rfl rfl (by decide) (r_fieldAddr F rfl ff_121_2) fun a F => ?_
   refine q_val F rfl rfl (by decide) (r_load F rfl ag_119 (AT.cell hat16 rfl)) fun a F => ?_
   refine q_val F rfl rfl (by decide) (r_lensl F Try.underlying119 rfl) fun a F => ?_
   refine q_val F rfl rfl (by decide) (r_gtr F rfl rfl) fun a F => ?_
   refine q_val F rfl rfl (by decide) (r_assign F rfl) fun a F => ?_
   refine nil ?_
   refine hK25 _ _ ?_
   by_cases hb26 : 0 < (ob12.open_.length : Int)
   ·replace H := (if_pos hb26).symm.trans H
    refine wp_cond_true ((F.ev rfl).trans (congrArg Value.bool (decide_eq_true hb26))) ?_
    refine wp_seq_k fun K27 hK27 => ?_
    refine reg ?_
    refine q_val F rfl rfl (by decide) (r_assign F rfl) fun a F => ?_
    refine q_val F rfl rfl (by decide) (r_assign F rfl) fun a F => ?_
    refine nil ?_
    refine hK27 _ _ ?_
    replace F : Fr a 38 [(2, .slice none 0 0), (3, .int .i64 12)] := F.sub ⟨rfl, rfl, trivial⟩
    refine wp_ret ?_
    refine inbR ?_
    refine thenR ?_
    replace H := Option.some.inj H
    subst H
    refine out2 F rfl rfl rfl ?_
    exact ⟨fun b_ => (fun x_ => if x_ = m + 1 then jr46 else if x_ < m then x_ else 0) (c0 b_), none, 0, rfl, E.leave B0 (fun x_ => if x_ = m + 1 then jr46 else if x_ < m then x_ else 0) (by intro x_ hx_; show (if x_ = m + 1 then jr46 else if x_ < m then x_ else 0) = x_; ((repeat' split) <;> omega)), (fun b_ hb_ => by show (if (c0 b_) = m + 1 then jr46 else if (c0 b_) < m then (c0 b_) else 0) < m; ((repeat' split) <;> omega)), SL.nil⟩
   ·replace H := (if_neg hb26).symm.trans H
    refine wp_cond_false ((F.ev rfl).trans (congrArg Value.bool (decide_eq_false hb26))) ?_
    refine wp_skip ?_
    refine hK7 _ _ ?_
    replace F : Fr a 38 [(0, .pointer (some ad15))] := F.sub ⟨rfl, trivial⟩
    refine wp_seq_k fun K31 hK31 => ?_
    refine reg ?_
    refine q_val F rfl rfl (by decide) (r_move F rfl) fun a F => ?_
    refine q_val F rfl rfl (by decide) (r_nil F rfl) fun a F => ?_
    refine q_val F rfl rfl (by decide) (r_fieldAddr F rfl ff_121_1) fun a F => ?_
    refine q_val F rfl rfl (by decide) (r_load F rfl ag_28 (AT.cell hat16 rfl)) fun a F => ?_
    refine q_val F rfl rfl (by decide) (r_lensl F Try.underlying28 rfl) fun a F => ?_
    replace H := ifN H
    obtain ⟨g32, H⟩ := H
    refine q_eff F rfl rfl (by decide) (e_make (k := (Kint .u8)) (x0 := 0) F et_28 rfl rfl (fun _ _ _ => rfl) (by decide) g32 c0 (m + 1) 0) ?_
    rintro v w34 a ⟨c33, A35, C36, rfl, E37, h38, B39⟩ F
    replace B := B39 _ B (Nat.add_lt_add_left (by decide) m)
    replace h3 := WR.ev h3 E37 (fun q => q.elim) (fun q => q.elim) (fun q => q.elim)
    replace h19 := SL.ev h19 E37 (fun q => q.elim) (fun q => q.elim)
    replace h22 := SL.ev h22 E37 (fun q => q.elim) (fun q => q.elim)
    replace hat16 := AT.ev hat16 E37 (fun q => q.elim)
    replace E := E.trans E37 (fun x q => q.elim)
    refine q_val F rfl rfl (by decide) (r_assign F rfl) fun a F => ?_
    refine nil ?_
    refine hK31 _ _ ?_
    refine wp_seq_k fun K40 hK40 => ?_
    refine reg ?_
    refine q_val F rfl rfl (by decide) (r_move F rfl) fun a F => ?_
    refine q_val F rfl rfl (by decide) (r_move F rfl) fun a F => ?_
    refine q_val F rfl rfl (by decide) (r_nil F rfl) fun a F => ?_
    refine q_val F rfl rfl (by decide) (r_fieldAddr F rfl ff_121_1) fun a F => ?_
    refine q_val F rfl rfl (by decide) (r_load F rfl ag_28 (AT.cell hat16 rfl)) fun a F => ?_
    refine q_eff F rfl rfl (by decide) (e_copy (k := (Kint .u8)) (xs := (List.replicate (ob12.b.length : Int).toNat (0 : Int))) (ys := ob12.b) F et_28 rfl rfl h38 h19 ne_zm) ?_
    rintro v w41 a ⟨rfl, E42, h38, Z43⟩ F
    replace B := B.size Z43
    replace h3 := WR.ev h3 E42 (ne_pm bj4) (ne_pm bj5.1) ne_zm
    replace h19 := SL.ev h19 E42 (ne_pm bj5.1) ne_zm
    replace h22 := SL.ev h22 E42 ne_zm ne_zm
    replace hat16 := AT.ev hat16 E42 (ne_pm bj4)
    replace E := E.trans E42 (fun x (q : x = m + 1) => Or.inr (le_col q))
    have hl44 : (List.replicate (ob12.b.length : Int).toNat (0 : Int)).length = (ob12.b.take (List.replicate (ob12.b.length : Int).toNat (0 : Int)).length ++ (List.replicate (ob12.b.length : Int).toNat (0 : Int)).drop ob12.b.length).length := by simp <;> omega
    rw [hl44] at F
    refine nil ?_
    refine hK40 _ _ ?_
    replace F : Fr a 38 [(4, .slice A35 (ob12.b.take (List.replicate (ob12.b.length : Int).toNat (0 : Int)).length ++ (List.replicate (ob12.b.length : Int).toNat (0 : Int)).drop ob12.b.length).length C36)] := F.sub ⟨rfl, trivial⟩
    refine wp_seq_k fun K45 hK45 => ?_
    refine reg ?_
    refine q_val F rfl rfl (by decide) (r_move F rfl) fun a F => ?_
    refine q_val F rfl rfl (by decide) (r_assign F rfl) fun a F => ?_
    refine q_val F rfl rfl (by decide) (r_assign F rfl) fun a F => ?_
    refine nil ?_
    refine hK45 _ _ ?_
    refine wp_ret ?_
    replace H := Option.some.inj H
    subst H
    refine out2 F rfl rfl rfl ?_
    exact ⟨fun b_ => (fun x_ => if x_ = m + 1 then jr46 else if x_ < m then x_ else 0) (c33 b_), A35, C36, rfl, E.leave B0 (fun x_ => if x_ = m + 1 then jr46 else if x_ < m then x_ else 0) (by intro x_ hx_; show (if x_ = m + 1 then jr46 else if x_ < m then x_ else 0) = x_; ((repeat' split) <;> omega)), (fun b_ hb_ => by show (if (c33 b_) = m + 1 then jr46 else if (c33 b_) < m then (c33 b_) else 0) < m; ((repeat' split) <;> omega)), SL.rc h38 (fun k_ hk_ => by show (if (c33 k_) = m + 1 then jr46 else if (c33 k_) < m then (c33 k_) else 0) = _; rw [hk_]; ((repeat' split) <;> omega)) (fun k_ hk_ => by show (if (c33 k_) = m + 1 then jr46 else if (c33 k_) < m then (c33 k_) else 0) = _; rw [hk_]; ((repeat' split) <;> omega))⟩
  ·replace H := (if_neg hb24).symm.trans H
   refine wp_cond_true ((F.ev rfl).trans (congrArg Value.bool (congrArg not (decide_eq_false hb24)))) ?_
   refine wp_seq_k fun K28 hK28 => ?_
   refine regD (SB No c0 w0) 6 (.q 0 (.q 1 (.q 2 (.q 3 (.q 4 (.q 5 .nil)))))) Try_hm (by decide +kernel) ?_
   intro w29 w1_ w2_ w3_ w4_
   have E30 : Ev No c0 w0 c0 w29 := Ev.same w1_ w2_ w3_ w4_
   replace B := B.same w1_
   have zh3 := h3
   have zh19 := h19
   have zh22 := h22
   have zhat16 := hat16
   have ER : Ev No c0 w0 c0 w29 := Ev.same w1_ w2_ w3_ w4_
   replace h3 := WR.ev h3 E30 (fun q => q.elim) (fun q => q.elim) (fun q => q.elim)
   replace h19 := SL.ev h19 E30 (fun q => q.elim) (fun q => q.elim)
   replace h22 := SL.ev h22 E30 (fun q => q.elim) (fun q => q.elim)
   replace hat16 := AT.ev hat16 E30 (fun q => q.elim)
   replace E := E.trans E30 (fun x q => q.elim)
   refine d_q F rfl rfl rfl (by decide) (fun wq hS => r_move F rfl) ER.sb fun a F => ?_
   refine d_q F rfl rfl rfl (by decide) (fun wq hS => r_nil F rfl) ER.sb fun a F => ?_
   refine d_q F rfl rfl rfl (by decide) (fun wq hS => r_fieldAddr F rfl ff_121_3) ER.sb fun a F => ?_
   refine d_q F rfl rfl rfl (by decide) (fun wq hS => r_load F rfl ag_39 (AT.cell (AT.sb zhat16 hS (fun q => q.elim)) rfl)) ER.sb fun a F => ?_
   refine d_q F rfl rfl rfl (by decide) (fun wq hS => r_assign F rfl) ER.sb fun a F => ?_
   refine d_q F rfl rfl rfl (by decide) (fun wq hS => r_assign F rfl) ER.sb fun a F => ?_
   refine d_nil ?_
   refine hK28 _ _ ?_
   refine wp_ret ?_
   refine inbR ?_
   refine thenR ?_
   replace H := Option.some.inj H
   subst H
   refine out2 F rfl rfl rfl ?_
   exact ⟨fun b_ => (fun x_ => if x_ = m + 1 then jr46 else if x_ < m then x_ else 0) (c0 b_), none, 0, rfl, E.leave B0 (fun x_ => if x_ = m + 1 then jr46 else if x_ < m then x_ else 0) (by intro x_ hx_; show (if x_ = m + 1 then jr46 else if x_ < m then x_ else 0) = x_; ((repeat' split) <;> omega)), (fun b_ hb_ => by show (if (c0 b_) = m + 1 then jr46 else if (c0 b_) < m then (c0 b_) else 0) < m; ((repeat' split) <;> omega)), SL.nil⟩
end Go.Proofs.Ythankpjbfpcldaa.G
namespace Go.Proofs.Ythankpjbfpcldaa.G
open Go Go.RowKit
set_option linter.unusedVariables false
set_option linter.unusedSimpArgs false
set_option maxRecDepth 100000 in
set_option maxHeartbeats 4000000 in
theorem parcel_Writer_whole.calls {m : Nat} {c0 : Nat → Nat} {w0 : World} {j4 : Nat} {j5 : Nat} {p2 : Option Addr} {a1 : Option Wri} (hm0 : 0 < m) (B0 : CB m c0 w0) (h3 : WR j4 j5 c0 w0 p2 a1) (bj4 : j4 < m) (bj5 : j5 < m ∧ j5 ≠ j4) (r : Bool) (H : parcel_Writer_whole.f a1 = some r) : Calls Try.prog 90 #[.pointer p2] w0 (fun e w_ => ∃ (c_ : Nat → Nat), e = .returned (.bool r) ∧ Ev (fun x => False) c0 w0 c_ w_ ∧ CB m c_ w_) := by
 unfold parcel_Writer_whole.f at H
 have B := B0.mono (show m ≤ m + 1 by omega)
 have E : Ev (fun x => False ∨ m ≤ x) c0 w0 c0 w0 := Ev.refl
 refine enter (N := 12) (l := [.pointer p2]) Try.func90 rfl rfl (Nat.le_of_ble_eq_true rfl) fun a F => ?_
 refine wp_seq_k fun K6 hK6 => ?_
 refine reg ?_
 refine q_val F rfl rfl (by decide) (r_assign F rfl) fun a F => ?_
 refine nil ?_
 refine hK6 _ _ ?_
 refine wp_seq_k fun K7 hK7 => ?_
 refine reg ?_
 refine q_val F rfl rfl (by decide) (r_move F rfl) fun a F => ?_
 refine q_val F rfl rfl (by decide) (r_pneqA F Try.underlying97 rfl rfl (WR.isNone h3)) fun a F => ?_
 refine q_val F rfl rfl (by decide) (r_move F rfl) fun a F => ?_
 by_cases hb8 : (Option.isNone a1) = true
 ·replace H := (if_pos hb8).symm.trans H
  refine q_no F rfl (by decide) rfl (congrArg not hb8) (by decide) fun a F => ?_
  refine q_no F rfl (by decide) rfl (congrArg not hb8) (by decide) fun a F => ?_
  refine q_no F rfl (by decide) rfl (congrArg not hb8) (by decide) fun a F => ?_
  refine q_no F rfl (by decide) rfl (congrArg not hb8) (by decide) fun a F => ?_
  refine q_no F rfl (by decide) rfl (congrArg not hb8) (by decide) fun a F => ?_
  refine q_val F rfl rfl (by decide) (r_pick_f F rfl (congrArg not hb8) rfl) fun a F => ?_
  refine q_val F rfl rfl (by decide) (r_assign F rfl) fun a F => ?_
  refine nil ?_
  refine hK7 _ _ ?_
  replace F : Fr a 12 [(2, .bool false)] := F.sub ⟨rfl, trivial⟩
  refine wp_ret ?_
  replace H := Option.some.inj H
  subst H
  refine out1 F rfl rfl ?_
  exact ⟨fun b_ => (fun x_ => if x_ < m then x_ else 0) (c0 b_), rfl, E.leave B0 (fun x_ => if x_ < m then x_ else 0) (by intro x_ hx_; show (if x_ < m then x_ else 0) = x_; ((repeat' split) <;> omega)), (fun b_ hb_ => by show (if (c0 b_) < m then (c0 b_) else 0) < m; ((repeat' split) <;> omega))⟩
 ·replace H := (if_neg hb8).symm.trans H
  refine q_yes F rfl (by decide) rfl (congrArg not (bfalse hb8)) ?_
  refine q_val F rfl rfl (by decide) (r_move F rfl) fun a F => ?_
  replace H := bind_some H
  obtain ⟨ob9, e10, H⟩ := H
  have z11 := h3
  rw [e10] at z11
  obtain ⟨ad12, A14, C15, A17, C18, rfl, hat13, h16, h19⟩ := WR.some z11
  refine q_yes F rfl (by decide) rfl (congrArg not (bfalse hb8)) ?_
  refine q_val F rfl rfl (by decide) (r_nil F rfl) fun a F => ?_
  refine q_yes F rfl (by decide) rfl (congrArg not (bfalse hb8)) ?_
  refine q_val F rfl rfl (by decide) (r_fieldAddr F rfl ff_121_3) fun a F => ?_
  refine q_yes F rfl (by decide) rfl (congrArg not (bfalse hb8)) ?_
  refine q_val F rfl rfl (by decide) (r_load F rfl ag_39 (AT.cell hat13 rfl)) fun a F => ?_
  refine q_yes F rfl (by decide) rfl (congrArg not (bfalse hb8)) ?_
  refine q_val F rfl rfl (by decide) (r_eql F rfl rfl) fun a F => ?_
  refine q_val F rfl rfl (by decide) (r_pick_t F rfl (congrArg not (bfalse hb8)) rfl) fun a F => ?_
  refine q_val F rfl rfl (by decide) (r_assign F rfl) fun a F => ?_
  refine nil ?_
  refine hK7 _ _ ?_
  replace F : Fr a 12 [(2, .bool (decide (ob9.fault = 0)))] := F.sub ⟨rfl, trivial⟩
  refine wp_ret ?_
  replace H := Option.some.inj H
  subst H
  refine out1 F rfl rfl ?_
  exact ⟨fun b_ => (fun x_ => if x_ < m then x_ else 0) (c0 b_), rfl, E.leave B0 (fun x_ => if x_ < m then x_ else 0) (by intro x_ hx_; show (if x_ < m then x_ else 0) = x_; ((repeat' split) <;> omega)), (fun b_ hb_ => by show (if (c0 b_) < m then (c0 b_) else 0) < m; ((repeat' split) <;> omega))⟩
end Go.Proofs.Ythankpjbfpcldaa.G
namespace Go.Proofs.Ythankpjbfpcldaa.G
open Go Go.RowKit
set_option linter.unusedVariables false
set_option linter.unusedSimpArgs false
set_option maxRecDepth 100000 in
set_option maxHeartbeats 4000000 in
theorem parcel_Writer_lay.calls {m : Nat} {c0 : Nat → Nat} {w0 : World} {j4 : Nat} {j5 : Nat} {p2 : Option Addr} {A7 : Option Addr} {C8 : Nat} {a1 : Option Wri} {a6 : List Int} (hm0 : 0 < m) (B0 : CB m c0 w0) (h3 : WR j4 j5 c0 w0 p2 a1) (h9 : SL false (Kint .u8) 0 0 c0 w0 A7 C8 a6) (bj4 : 0 < j4 ∧ j4 < m) (bj5 : 0 < j5 ∧ j5 < m ∧ j5 ≠ j4) (r : (Option Wri)) (H : parcel_Writer_lay.f a1 a6 = some r) : Calls Try.prog 68 #[.pointer p2, .slice A7 a6.length C8] w0 (fun e w_ => ∃ (c_ : Nat → Nat), e = .returned (.tuple #[]) ∧ Ev (fun x => (x = j4 ∨ x = j5)) c0 w0 c_ w_ ∧ CB m c_ w_ ∧ WR j4 j5 c_ w_ p2 r) := by
 unfold parcel_Writer_lay.f at H
 have B := B0.mono (show m ≤ m + 1 by omega)
 have E : Ev (fun x => (x = j4 ∨ x = j5) ∨ m ≤ x) c0 w0 c0 w0 := Ev.refl
 refine enter (N := 34) (l := [.pointer p2, .slice A7 a6.length C8]) Try.func68 rfl rfl (Nat.le_of_ble_eq_true rfl) fun a F => ?_
 refine wp_block ?_
 refine wp_seq_k fun K10 hK10 => ?_
 refine reg ?_
 refine q_val F rfl rfl (by decide) (r_move F rfl) fun a F => ?_
 replace H := bind_some H
 obtain ⟨t11, q12, H⟩ := H
 refine q_call F rfl rfl (by decide) (r_call F Try.func90 rfl (by kernel_rfl) rfl) (parcel_Writer_whole.calls (m := m + 1) (Nat.add_pos_left hm0 _) B h3 (Nat.lt_add_right _ bj4.2) ⟨(Nat.lt_add_right _ bj5.2.1), bj5.2.2⟩ _ q12) ?_
 rintro e w14 ⟨c13, rfl, E15, B16⟩
 refine ⟨_, rfl, fun a F => ?_⟩
 have B := B16
 replace h3 := WR.ev h3 E15 (fun q => q.elim) (fun q => q.elim) (fun q => q.elim)
 replace h9 := SL.ev h9 E15 (fun q => q.elim) (fun q => q.elim)
 replace E := E.trans E15 (fun x q => q.elim)
 refine q_val F rfl rfl (by decide) (r_not F rfl) fun a F => ?_
 refine q_val F rfl rfl (by decide) (r_assign F rfl) fun a F => ?_
 refine nil ?_
 refine hK10 _ _ ?_
 by_cases hb18 : t11 = true
 ·replace H := (if_pos hb18).symm.trans H
  refine wp_cond_false ((F.ev rfl).trans (congrArg Value.bool (congrArg not hb18))) ?_
  refine wp_seq_k fun K19 hK19 => ?_
  replace H := bind_some H
  obtain ⟨ob20, e21, H⟩ := H
  have z22 := h3
  rw [e21] at z22
  obtain ⟨ad23, A25, C26, A28, C29, rfl, hat24, h27, h30⟩ := WR.some z22
  refine regD (SB No c13 w14) 14 (.q 0 (.q 1 (.q 2 (.q 3 (.q 4 (.q 5 (.q 6 (.q 7 (.q 8 (.q 9 (.q 10 (.q 11 (.q 12 (.q 13 .nil)))))))))))))) Try_hm (by decide +kernel) ?_
  intro w32 w1_ w2_ w3_ w4_
  have E33 : Ev No c13 w14 c13 w32 := Ev.same w1_ w2_ w3_ w4_
  replace B := B.same w1_
  have zh3 := h3
  have zh9 := h9
  have zh27 := h27
  have zh30 := h30
  have zhat24 := hat24
  have ER : Ev No c13 w14 c13 w32 := Ev.same w1_ w2_ w3_ w4_
  replace h3 := WR.ev h3 E33 (fun q => q.elim) (fun q => q.elim) (fun q => q.elim)
  replace h9 := SL.ev h9 E33 (fun q => q.elim) (fun q => q.elim)
  replace h27 := SL.ev h27 E33 (fun q => q.elim) (fun q => q.elim)
  replace h30 := SL.ev h30 E33 (fun q => q.elim) (fun q => q.elim)
  replace hat24 := AT.ev hat24 E33 (fun q => q.elim)
  replace E := E.trans E33 (fun x q => q.elim)
  refine d_q F rfl rfl rfl (by decide) (fun wq hS => r_move F rfl) ER.sb fun a F => ?_
  refine d_q F rfl rfl rfl (by decide) (fun wq hS => r_lensl F Try.underlying28 rfl) ER.sb fun a F => ?_
  refine d_q F rfl rfl rfl (by decide) (fun wq hS => r_move F rfl) ER.sb fun a F => ?_
  refine d_q F rfl rfl rfl (by decide) (fun wq hS => r_nil F rfl) ER.sb fun a F => ?_
  refine d_q F rfl rfl rfl (by decide) (fun wq hS => r_fieldAddr F rfl ff_121_0) ER.sb fun a F => ?_
  refine d_q F rfl rfl rfl (by decide) (fun wq hS => r_load F rfl ag_3 (AT.cell (AT.sb zhat24 hS (fun q => q.elim)) rfl)) ER.sb fun a F => ?_
  refine d_q F rfl rfl rfl (by decide) (fun wq hS => r_move F rfl) ER.sb fun a F => ?_
  refine d_q F rfl rfl rfl (by decide) (fun wq hS => r_nil F rfl) ER.sb fun a F => ?_
  refine d_q F rfl rfl rfl (by decide) (fun wq hS => r_fieldAddr F rfl ff_121_1) ER.sb fun a F => ?_
  refine d_q F rfl rfl rfl (by decide) (fun wq hS => r_load F rfl ag_28 (AT.cell (AT.sb zhat24 hS (fun q => q.elim)) rfl)) ER.sb fun a F => ?_
  refine d_q F rfl rfl rfl (by decide) (fun wq hS => r_lensl F Try.underlying28 rfl) ER.sb fun a F => ?_
  refine d_q F rfl rfl rfl (by decide) (fun wq hS => r_sub F rfl rfl) ER.sb fun a F => ?_
  refine d_q F rfl rfl rfl (by decide) (fun wq hS => r_gtr F rfl rfl) ER.sb fun a F => ?_
  refine d_q F rfl rfl rfl (by decide) (fun wq hS => r_assign F rfl) ER.sb fun a F => ?_
  refine d_nil ?_
  refine hK19 _ _ ?_
  replace F : Fr a 34 [(0, .pointer (some ad23)), (1, .slice A7 a6.length C8), (17, .bool (decide ((IntKind.i64.wrap (ob20.room - (ob20.b.length : Int))) < (a6.length : Int))))] := F.sub ⟨rfl, rfl, rfl, trivial⟩
  by_cases hb34 : (IntKind.i64.wrap (ob20.room - (ob20.b.length : Int))) < (a6.length : Int)
  ·replace H := (if_pos hb34).symm.trans H
   refine wp_cond_true ((F.ev rfl).trans (congrArg Value.bool (decide_eq_true hb34))) ?_
   refine reg ?_
   refine q_val F rfl rfl (by decide) (r_move F rfl) fun a F => ?_
   refine q_val F rfl rfl (by decide) (r_nil F rfl) fun a F => ?_
   refine q_val F rfl rfl (by decide) (r_fieldAddr F rfl ff_121_3) fun a F => ?_
   refine q_eff0 F rfl rfl (e_store F rfl rfl sz_39 hat24 (Nat.le_of_ble_eq_true rfl) rfl) ?_
   rintro w35 a ⟨E36, hat24, Z37⟩ F
   replace B := B.size Z37
   replace h9 := SL.ev h9 E36 (ne_z bj4.1) (ne_z bj4.1)
   replace h27 := SL.ev h27 E36 bj5.2.2 (ne_z bj4.1)
   replace h30 := SL.ev h30 E36 (ne_z bj4.1) (ne_z bj4.1)
   replace E := E.trans E36 (fun x (q : x = j4) => Or.inl (Or.inl q))
   replace hat24 : AT true j4 c13 w35 ad23 [.int .i64 ob20.room, .slice A25 ob20.b.length C26, .slice A28 ob20.open_.length C29, .int .i64 13] := hat24
   refine nil ?_
   have h38 : WR j4 j5 c13 w35 (some ad23) (some (Wri.mk ob20.room ob20.b ob20.open_ 13)) := WR.mk hat24 h27 h30
   replace H := Option.some.inj H
   subst H
   first | refine out0n F rfl ?_ | refine inbN (out0n F rfl ?_) | refine inbN (inbN (out0n F rfl ?_)) | refine inbN (inbN (inbN (out0n F rfl ?_)))
   exact ⟨fun b_ => (fun x_ => if x_ < m then x_ else 0) (c13 b_), rfl, E.leave B0 (fun x_ => if x_ < m then x_ else 0) (by intro x_ hx_; show (if x_ < m then x_ else 0) = x_; ((repeat' split) <;> omega)), (fun b_ hb_ => by show (if (c13 b_) < m then (c13 b_) else 0) < m; ((repeat' split) <;> omega)), WR.rc h38 (fun k_ hk_ => by show (if (c13 k_) < m then (c13 k_) else 0) = _; rw [hk_]; ((repeat' split) <;> omega)) (fun k_ hk_ => by show (if (c13 k_) < m then (c13 k_) else 0) = _; rw [hk_]; ((repeat' split) <;> omega)) (fun k_ hk_ => by show (if (c13 k_) < m then (c13 k_) else 0) = _; rw [hk_]; ((repeat' split) <;> omega))⟩
  ·replace H := (if_neg hb34).symm.trans H
   refine wp_cond_false ((F.ev rfl).trans (congrArg Value.bool (decide_eq_false hb34))) ?_
   refine reg ?_
   refine q_val F rfl rfl (by decide) (r_move F rfl) fun a F => ?_
   refine q_val F rfl rfl (by decide) (r_move F rfl) fun a F => ?_
   refine q_val F rfl rfl (by decide) (r_nil F rfl) fun a F => ?_
   refine q_val F rfl rfl (by decide) (r_fieldAddr F rfl ff_121_1) fun a F => ?_
   refine q_val F rfl rfl (by decide) (r_load F rfl ag_28 (AT.cell hat24 rfl)) fun a F => ?_
   refine q_val F rfl rfl (by decide) (r_move F rfl) fun a F => ?_
   replace H := ifN H
   obtain ⟨g39, H⟩ := H
   refine q_eff F rfl rfl (by decide) (e_append (k := (Kint .u8)) (xs := ob20.b) (ys := a6) (c := c13) (j := j5) (i := 0) F et_28 rfl rfl h27 h9 g39 (len_ok g39) (ne_z bj5.1)) ?_
   rintro v w41 a ⟨c40, A42, C43, rfl, E44, h45, B46⟩ F
   replace B := B46 _ B (Nat.lt_add_right _ bj5.2.1)
   replace h9 := SL.ev h9 E44 (ne_z bj5.1) (ne_z bj5.1)
   replace h30 := SL.ev h30 E44 (ne_z bj5.1) (ne_z bj5.1)
   replace hat24 := AT.ev hat24 E44 (Ne.symm bj5.2.2)
   replace E := E.trans E44 (fun x (q : x = j5) => Or.inl (Or.inr (q)))
   refine q_val F rfl rfl (by decide) (r_nil F rfl) fun a F => ?_
   refine q_val F rfl rfl (by decide) (r_fieldAddr F rfl ff_121_1) fun a F => ?_
   refine q_eff0 F rfl rfl (e_store F rfl rfl sz_28 hat24 (Nat.le_of_ble_eq_true rfl) rfl) ?_
   rintro w47 a ⟨E48, hat24, Z49⟩ F
   replace B := B.size Z49
   replace h9 := SL.ev h9 E48 (ne_z bj4.1) (ne_z bj4.1)
   replace h30 := SL.ev h30 E48 (ne_z bj4.1) (ne_z bj4.1)
   replace h45 := SL.ev h45 E48 bj5.2.2 (ne_z bj4.1)
   replace E := E.trans E48 (fun x (q : x = j4) => Or.inl (Or.inl q))
   replace hat24 : AT true j4 c40 w47 ad23 [.int .i64 ob20.room, .slice A42 (ob20.b ++ a6).length C43, .slice A28 ob20.open_.length C29, .int .i64 ob20.fault] := hat24
   refine nil ?_
   have h50 : WR j4 j5 c40 w47 (some ad23) (some (Wri.mk ob20.room (ob20.b ++ a6) ob20.open_ ob20.fault)) := WR.mk hat24 h45 h30
   replace H := Option.some.inj H
   subst H
   first | refine out0n F rfl ?_ | refine inbN (out0n F rfl ?_) | refine inbN (inbN (out0n F rfl ?_)) | refine inbN (inbN (inbN (out0n F rfl ?_)))
   exact ⟨fun b_ => (fun x_ => if x_ < m then x_ else 0) (c40 b_), rfl, E.leave B0 (fun x_ => if x_ < m then x_ else 0) (by intro x_ hx_; show (if x_ < m then x_ else 0) = x_; ((repeat' split) <;> omega)), (fun b_ hb_ => by show (if (c40 b_) < m then (c40 b_) else 0) < m; ((repeat' split) <;> omega)), WR.rc h50 (fun k_ hk_ => by show (if (c40 k_) < m then (c40 k_) else 0) = _; rw [hk_]; ((repeat' split) <;> omega)) (fun k_ hk_ => by show (if (c40 k_) < m then (c40 k_) else 0) = _; rw [hk_]; ((repeat' split) <;> omega)) (fun k_ hk_ => by show (if (c40 k_) < m then (c40 k_) else 0) = _; rw [hk_]; ((repeat' split) <;> omega))⟩
 ·replace H := (if_neg hb18).symm.trans H
  refine wp_cond_true ((F.ev rfl).trans (congrArg Value.bool (congrArg not (bfalse hb18)))) ?_
  refine wp_skip ?_
  replace H := Option.some.inj H
  subst H
  first | refine out0n F rfl ?_ | refine inbN (out0n F rfl ?_) | refine inbN (inbN (out0n F rfl ?_)) | refine inbN (inbN (inbN (out0n F rfl ?_)))
  exact ⟨fun b_ => (fun x_ => if x_ < m then x_ else 0) (c13 b_), rfl, E.leave B0 (fun x_ => if x_ < m then x_ else 0) (by intro x_ hx_; show (if x_ < m then x_ else 0) = x_; ((repeat' split) <;> omega)), (fun b_ hb_ => by show (if (c13 b_) < m then (c13 b_) else 0) < m; ((repeat' split) <;> omega)), WR.rc h3 (fun k_ hk_ => by show (if (c13 k_) < m then (c13 k_) else 0) = _; rw [hk_]; ((repeat' split) <;> omega)) (fun k_ hk_ => by show (if (c13 k_) < m then (c13 k_) else 0) = _; rw [hk_]; ((repeat' split) <;> omega)) (fun k_ hk_ => by show (if (c13 k_) < m then (c13 k_) else 0) = _; rw [hk_]; ((repeat' split) <;> omega))⟩
end Go.Proofs.Ythankpjbfpcldaa.G
namespace Go.Proofs.Ythankpjbfpcldaa.G
open Go Go.RowKit
set_option linter.unusedVariables false
set_option linter.unusedSimpArgs false
set_option maxRecDepth 100000 in
set_option maxHeartbeats 4000000 in
theorem parcel_Writer_refuse.calls {m : Nat} {c0 : Nat → Nat} {w0 : World} {j4 : Nat} {j5 : Nat} {p2 : Option Addr} {a1 : Option Wri} {a6 : Int} (hm0 : 0 < m) (B0 : CB m c0 w0) (h3 : WR j4 j5 c0 w0 p2 a1) (bj4 : 0 < j4 ∧ j4 < m) (bj5 : 0 < j5 ∧ j5 < m ∧ j5 ≠ j4) (r : (Option Wri)) (H : parcel_Writer_refuse.f a1 a6 = some r) : Calls Try.prog 77 #[.pointer p2, .int .i64 a6] w0 (fun e w_ => ∃ (c_ : Nat → Nat), e = .returned (.tuple #[]) ∧ Ev (fun x => (x = j4 ∨ x = j5)) c0 w0 c_ w_ ∧ CB m c_ w_ ∧ WR j4 j5 c_ w_ p2 r) := by
 unfold parcel_Writer_refuse.f at H
 have B := B0.mono (show m ≤ m + 1 by omega)
 have E : Ev (fun x => (x = j4 ∨ x = j5) ∨ m ≤ x) c0 w0 c0 w0 := Ev.refl
 refine enter (N := 10) (l := [.pointer p2, .int .i64 a6]) Try.func77 rfl rfl (Nat.le_of_ble_eq_true rfl) fun a F => ?_
 refine wp_seq_k fun K7 hK7 => ?_
 refine reg ?_
 refine q_val F rfl rfl (by decide) (r_move F rfl) fun a F => ?_
 replace H := bind_some H
 obtain ⟨t8, q9, H⟩ := H
 refine q_call F rfl rfl (by decide) (r_call F Try.func90 rfl (by kernel_rfl) rfl) (parcel_Writer_whole.calls (m := m + 1) (Nat.add_pos_left hm0 _) B h3 (Nat.lt_add_right _ bj4.2) ⟨(Nat.lt_add_right _ bj5.2.1), bj5.2.2⟩ _ q9) ?_
 rintro e w11 ⟨c10, rfl, E12, B13⟩
 refine ⟨_, rfl, fun a F => ?_⟩
 have B := B13
 replace h3 := WR.ev h3 E12 (fun q => q.elim) (fun q => q.elim) (fun q => q.elim)
 replace E := E.trans E12 (fun x q => q.elim)
 refine nil ?_
 refine hK7 _ _ ?_
 by_cases hb15 : t8 = true
 ·replace H := (if_pos hb15).symm.trans H
  refine wp_cond_true ((F.ev rfl).trans (congrArg Value.bool hb15)) ?_
  refine reg ?_
  refine q_val F rfl rfl (by decide) (r_move F rfl) fun a F => ?_
  refine q_val F rfl rfl (by decide) (r_move F rfl) fun a F => ?_
  replace H := bind_some H
  obtain ⟨ob16, e17, H⟩ := H
  have z18 := h3
  rw [e17] at z18
  obtain ⟨ad19, A21, C22, A24, C25, rfl, hat20, h23, h26⟩ := WR.some z18
  refine q_val F rfl rfl (by decide) (r_nil F rfl) fun a F => ?_
  refine q_val F rfl rfl (by decide) (r_fieldAddr F rfl ff_121_3) fun a F => ?_
  refine q_eff0 F rfl rfl (e_store F rfl rfl sz_39 hat20 (Nat.le_of_ble_eq_true rfl) rfl) ?_
  rintro w28 a ⟨E29, hat20, Z30⟩ F
  replace B := B.size Z30
  replace h23 := SL.ev h23 E29 bj5.2.2 (ne_z bj4.1)
  replace h26 := SL.ev h26 E29 (ne_z bj4.1) (ne_z bj4.1)
  replace E := E.trans E29 (fun x (q : x = j4) => Or.inl (Or.inl q))
  replace hat20 : AT true j4 c10 w28 ad19 [.int .i64 ob16.room, .slice A21 ob16.b.length C22, .slice A24 ob16.open_.length C25, .int .i64 a6] := hat20
  refine nil ?_
  have h31 : WR j4 j5 c10 w28 (some ad19) (some (Wri.mk ob16.room ob16.b ob16.open_ a6)) := WR.mk hat20 h23 h26
  replace H := Option.some.inj H
  subst H
  first | refine out0n F rfl ?_ | refine inbN (out0n F rfl ?_) | refine inbN (inbN (out0n F rfl ?_)) | refine inbN (inbN (inbN (out0n F rfl ?_)))
  exact ⟨fun b_ => (fun x_ => if x_ < m then x_ else 0) (c10 b_), rfl, E.leave B0 (fun x_ => if x_ < m then x_ else 0) (by intro x_ hx_; show (if x_ < m then x_ else 0) = x_; ((repeat' split) <;> omega)), (fun b_ hb_ => by show (if (c10 b_) < m then (c10 b_) else 0) < m; ((repeat' split) <;> omega)), WR.rc h31 (fun k_ hk_ => by show (if (c10 k_) < m then (c10 k_) else 0) = _; rw [hk_]; ((repeat' split) <;> omega)) (fun k_ hk_ => by show (if (c10 k_) < m then (c10 k_) else 0) = _; rw [hk_]; ((repeat' split) <;> omega)) (fun k_ hk_ => by show (if (c10 k_) < m then (c10 k_) else 0) = _; rw [hk_]; ((repeat' split) <;> omega))⟩
 ·replace H := (if_neg hb15).symm.trans H
  refine wp_cond_false ((F.ev rfl).trans (congrArg Value.bool (bfalse hb15))) ?_
  refine wp_skip ?_
  replace H := Option.some.inj H
  subst H
  first | refine out0n F rfl ?_ | refine inbN (out0n F rfl ?_) | refine inbN (inbN (out0n F rfl ?_)) | refine inbN (inbN (inbN (out0n F rfl ?_)))
  exact ⟨fun b_ => (fun x_ => if x_ < m then x_ else 0) (c10 b_), rfl, E.leave B0 (fun x_ => if x_ < m then x_ else 0) (by intro x_ hx_; show (if x_ < m then x_ else 0) = x_; ((repeat' split) <;> omega)), (fun b_ hb_ => by show (if (c10 b_) < m then (c10 b_) else 0) < m; ((repeat' split) <;> omega)), WR.rc h3 (fun k_ hk_ => by show (if (c10 k_) < m then (c10 k_) else 0) = _; rw [hk_]; ((repeat' split) <;> omega)) (fun k_ hk_ => by show (if (c10 k_) < m then (c10 k_) else 0) = _; rw [hk_]; ((repeat' split) <;> omega)) (fun k_ hk_ => by show (if (c10 k_) < m then (c10 k_) else 0) = _; rw [hk_]; ((repeat' split) <;> omega))⟩
end Go.Proofs.Ythankpjbfpcldaa.G
namespace Go.Proofs.Ythankpjbfpcldaa.G
open Go Go.RowKit
set_option linter.unusedVariables false
set_option linter.unusedSimpArgs false
set_option maxRecDepth 100000 in
set_option maxHeartbeats 4000000 in
theorem parcel_Writer_Byte.calls {m : Nat} {c0 : Nat → Nat} {w0 : World} {j4 : Nat} {j5 : Nat} {p2 : Option Addr} {a1 : Option Wri} {a6 : Int} (hm0 : 0 < m) (B0 : CB m c0 w0) (h3 : WR j4 j5 c0 w0 p2 a1) (bj4 : 0 < j4 ∧ j4 < m) (bj5 : 0 < j5 ∧ j5 < m ∧ j5 ≠ j4) (r : (Option Wri)) (H : parcel_Writer_Byte.f a1 a6 = some r) : Calls Try.prog 71 #[.pointer p2, .int .i64 a6] w0 (fun e w_ => ∃ (c_ : Nat → Nat), e = .returned (.tuple #[]) ∧ Ev (fun x => (x = j4 ∨ x = j5)) c0 w0 c_ w_ ∧ CB m c_ w_ ∧ WR j4 j5 c_ w_ p2 r) := by
 unfold parcel_Writer_Byte.f at H
 have B := B0.mono (show m ≤ m + 1 by omega)
 have E : Ev (fun x => (x = j4 ∨ x = j5) ∨ m ≤ x) c0 w0 c0 w0 := Ev.refl
 refine enter (N := 17) (l := [.pointer p2, .int .i64 a6]) Try.func71 rfl rfl (Nat.le_of_ble_eq_true rfl) fun a F => ?_
 refine wp_seq_k fun K7 hK7 => ?_
 refine wp_seq_k fun K8 hK8 => ?_
 have J11 : ∀ (c12 : Nat → Nat) (w13 : World) (a : Act) (b10 : Bool), Fr a 17 [(0, .pointer p2), (1, .int .i64 a6), (9, .bool b10)] → Ev (fun x => (x = j4 ∨ x = j5) ∨ m ≤ x) c0 w0 c12 w13 → CB (m + 1) c12 w13 → WR j4 j5 c12 w13 p2 a1 → parcel_Writer_Byte.j1 a1 a6 b10 = some r → K8 a w13 := by
  intro c12 w13 a b10 F E B h3 H
  unfold parcel_Writer_Byte.j1 at H
  refine hK8 _ _ ?_
  by_cases hb14 : b10 = true
  ·replace H := (if_pos hb14).symm.trans H
   refine wp_cond_true ((F.ev rfl).trans (congrArg Value.bool hb14)) ?_
   refine wp_seq_k fun K15 hK15 => ?_
   refine reg ?_
   refine q_val F rfl rfl (by decide) (r_move F rfl) fun a F => ?_
   replace H := bind_some H
   obtain ⟨t16, q17, H⟩ := H
   refine q_call F rfl rfl (by decide) (r_call F Try.func77 rfl (by kernel_rfl) rfl) (parcel_Writer_refuse.calls (m := m + 1) (Nat.add_pos_left hm0 _) B h3 ⟨bj4.1, (Nat.lt_add_right _ bj4.2)⟩ ⟨bj5.1, (Nat.lt_add_right _ bj5.2.1), bj5.2.2⟩ _ q17) ?_
   rintro e w19 ⟨c18, rfl, E20, B21, h22⟩
   refine ⟨_, rfl, fun a F => ?_⟩
   have B := B21
   replace E := E.trans E20 (fun x (q : x = j4 ∨ x = j5) => q.elim (fun q => Or.inl (Or.inl q)) (fun q => Or.inl (Or.inr (q))))
   refine nil ?_
   refine hK15 _ _ ?_
   refine wp_ret ?_
   refine thenR ?_
   replace H := Option.some.inj H
   subst H
   refine out0 F rfl ?_
   exact ⟨fun b_ => (fun x_ => if x_ < m then x_ else 0) (c18 b_), rfl, E.leave B0 (fun x_ => if x_ < m then x_ else 0) (by intro x_ hx_; show (if x_ < m then x_ else 0) = x_; ((repeat' split) <;> omega)), (fun b_ hb_ => by show (if (c18 b_) < m then (c18 b_) else 0) < m; ((repeat' split) <;> omega)), WR.rc h22 (fun k_ hk_ => by show (if (c18 k_) < m then (c18 k_) else 0) = _; rw [hk_]; ((repeat' split) <;> omega)) (fun k_ hk_ => by show (if (c18 k_) < m then (c18 k_) else 0) = _; rw [hk_]; ((repeat' split) <;> omega)) (fun k_ hk_ => by show (if (c18 k_) < m then (c18 k_) else 0) = _; rw [hk_]; ((repeat' split) <;> omega))⟩
  ·replace H := (if_neg hb14).symm.trans H
   refine wp_cond_false ((F.ev rfl).trans (congrArg Value.bool (bfalse hb14))) ?_
   refine wp_skip ?_
   refine hK7 _ _ ?_
   refine reg ?_
   refine q_val F rfl rfl (by decide) (r_move F rfl) fun a F => ?_
   refine q_val F rfl rfl (by decide) (r_move F rfl) fun a F => ?_
   refine q_val F rfl rfl (by decide) (r_convi F Try.underlying5 rfl rfl) fun a F => ?_
   refine q_eff F rfl rfl (by decide) (e_buildSlice (n := 1) (e := 5) (c := c12) (k := (Kint .u8)) (i := 0) F [(0, .int .u8 (IntKind.u8.wrap a6))] [.int .u8 (IntKind.u8.wrap a6)] ([IntKind.u8.wrap a6] : List Int) (by exact ⟨rfl, rfl, trivial⟩) (fun w => by kernel_rfl) rfl (by decide) rfl ⟨rfl, trivial⟩ (fun q => q) 0) ?_
   rintro v w25 a ⟨c24, A26, C27, rfl, E28, h29, B30⟩ F
   replace B := B30 _ B (Nat.add_pos_left hm0 _)
   replace h3 := WR.ev h3 E28 (fun q => q.elim) (fun q => q.elim) (fun q => q.elim)
   replace E := E.trans E28 (fun x q => q.elim)
   replace H := bind_some H
   obtain ⟨t31, q32, H⟩ := H
   refine q_call F rfl rfl (by decide) (r_call F Try.func68 rfl (by kernel_rfl) rfl) (parcel_Writer_lay.calls (m := m + 1) (Nat.add_pos_left hm0 _) B h3 h29.r ⟨bj4.1, (Nat.lt_add_right _ bj4.2)⟩ ⟨bj5.1, (Nat.lt_add_right _ bj5.2.1), bj5.2.2⟩ _ q32) ?_
   rintro e w34 ⟨c33, rfl, E35, B36, h37⟩
   refine ⟨_, rfl, fun a F => ?_⟩
   have B := B36
   replace h29 := SL.ev h29 E35 (nor (ne_z bj4.1) (ne_z bj5.1)) (nor (ne_z bj4.1) (ne_z bj5.1))
   replace E := E.trans E35 (fun x (q : x = j4 ∨ x = j5) => q.elim (fun q => Or.inl (Or.inl q)) (fun q => Or.inl (Or.inr (q))))
   refine nil ?_
   replace H := Option.some.inj H
   subst H
   first | refine out0n F rfl ?_ | refine inbN (out0n F rfl ?_) | refine inbN (inbN (out0n F rfl ?_)) | refine inbN (inbN (inbN (out0n F rfl ?_)))
   exact ⟨fun b_ => (fun x_ => if x_ < m then x_ else 0) (c33 b_), rfl, E.leave B0 (fun x_ => if x_ < m then x_ else 0) (by intro x_ hx_; show (if x_ < m then x_ else 0) = x_; ((repeat' split) <;> omega)), (fun b_ hb_ => by show (if (c33 b_) < m then (c33 b_) else 0) < m; ((repeat' split) <;> omega)), WR.rc h37 (fun k_ hk_ => by show (if (c33 k_) < m then (c33 k_) else 0) = _; rw [hk_]; ((repeat' split) <;> omega)) (fun k_ hk_ => by show (if (c33 k_) < m then (c33 k_) else 0) = _; rw [hk_]; ((repeat' split) <;> omega)) (fun k_ hk_ => by show (if (c33 k_) < m then (c33 k_) else 0) = _; rw [hk_]; ((repeat' split) <;> omega))⟩
 refine reg ?_
 refine q_val F rfl rfl (by decide) (r_move F rfl) fun a F => ?_
 refine q_val F rfl rfl (by decide) (r_lss F rfl rfl) fun a F => ?_
 refine q_val F rfl rfl (by decide) (r_move F rfl) fun a F => ?_
 by_cases hb9 : a6 < 0
 ·replace H := (if_pos hb9).symm.trans H
  refine q_no F rfl (by decide) rfl (decide_eq_true hb9) (by decide) fun a F => ?_
  refine q_no F rfl (by decide) rfl (decide_eq_true hb9) (by decide) fun a F => ?_
  refine q_val F rfl rfl (by decide) (r_pick_t F rfl (decide_eq_true hb9) rfl) fun a F => ?_
  refine nil ?_
  exact J11 c0 w0 a true (F.sub ⟨rfl, rfl, rfl, trivial⟩) E B h3 H
 ·replace H := (if_neg hb9).symm.trans H
  refine q_yes F rfl (by decide) rfl (decide_eq_false hb9) ?_
  refine q_val F rfl rfl (by decide) (r_move F rfl) fun a F => ?_
  refine q_yes F rfl (by decide) rfl (decide_eq_false hb9) ?_
  refine q_val F rfl rfl (by decide) (r_gtr F rfl rfl) fun a F => ?_
  refine q_val F rfl rfl (by decide) (r_pick_f F rfl (decide_eq_false hb9) rfl) fun a F => ?_
  refine nil ?_
  exact J11 c0 w0 a (decide (255 < a6)) (F.sub ⟨rfl, rfl, rfl, trivial⟩) E B h3 H
end Go.Proofs.Ythankpjbfpcldaa.G
namespace Go.Proofs.Ythankpjbfpcldaa.G
open Go Go.RowKit
set_option linter.unusedVariables false
set_option linter.unusedSimpArgs false
set_option maxRecDepth 100000 in
set_option maxHeartbeats 4000000 in
theorem parcel_form.calls (k : Nat) {m : Nat} {c0 : Nat → Nat} {w0 : World} {a1 : Int} (hm0 : 0 < m) (B0 : CB m c0 w0) (jr76 : Nat) (bjr76 : jr76 < m) (r : (List Int)) (H : parcel_form.f k a1 = some r) : Calls Try.prog 70 #[.int .u64 a1] w0 (fun e w_ => ∃ (c_ : Nat → Nat) (A0_ : Option Addr) (C0_ : Nat), e = .returned (.slice A0_ r.length C0_) ∧ Ev (fun x => False) c0 w0 c_ w_ ∧ CB m c_ w_ ∧ SL true (Kint .u8) jr76 0 c_ w_ A0_ C0_ r) := by
 unfold parcel_form.f at H
 have B := B0.mono (show m ≤ m + 2 by omega)
 have E : Ev (fun x => False ∨ m ≤ x) c0 w0 c0 w0 := Ev.refl
 refine enter (N := 20) (l := [.int .u64 a1]) Try.func70 rfl rfl (Nat.le_of_ble_eq_true rfl) fun a F => ?_
 refine wp_seq_k fun K2 hK2 => ?_
 refine reg ?_
 refine q_val F rfl rfl (by decide) (r_assign F rfl) fun a F => ?_
 refine nil ?_
 refine hK2 _ _ ?_
 refine wp_seq_k fun K3 hK3 => ?_
 refine reg ?_
 replace H := ifN H
 obtain ⟨g4, H⟩ := H
 refine q_eff F rfl rfl (by decide) (e_make (k := (Kint .u8)) (x0 := 0) F et_28 rfl rfl (fun _ _ _ => rfl) (by decide) g4 c0 (m + 1) 0) ?_
 rintro v w6 a ⟨c5, A7, C8, rfl, E9, h10, B11⟩ F
 replace B := B11 _ B (Nat.add_lt_add_left (by decide) m)
 replace E := E.trans E9 (fun x q => q.elim)
 refine q_val F rfl rfl (by decide) (r_assign F rfl) fun a F => ?_
 refine nil ?_
 refine hK3 _ _ ?_
 refine wp_seq_k fun K12 hK12 => ?_
 refine wp_block ?_
 obtain ⟨x27, HL, HR26⟩ := bind_some H
 have J57 : ∀ (c58 : Nat → Nat) (w59 : World) (a : Act) (i52 : Int) (l54 : List Int) (A55 : Option Addr) (C56 : Nat), Fr a 20 [(0, .int .u64 i52), (3, .slice A55 l54.length C56)] → Ev (fun x => False ∨ m ≤ x) c0 w0 c58 w59 → CB (m + 2) c58 w59 → SL true (Kint .u8) (m + 1) 0 c58 w59 A55 C56 l54 → parcel_form.j2 i52 l54 = some r → K12 a w59 := by
  intro c58 w59 a i52 l54 A55 C56 F E B h53 H
  unfold parcel_form.j2 at H
  refine hK12 _ _ ?_
  refine wp_seq_k fun K60 hK60 => ?_
  refine reg ?_
  refine q_val F rfl rfl (by decide) (r_move F rfl) fun a F => ?_
  refine q_val F rfl rfl (by decide) (r_move F rfl) fun a F => ?_
  refine q_val F rfl rfl (by decide) (r_convi F Try.underlying5 rfl rfl) fun a F => ?_
  refine q_eff F rfl rfl (by decide) (e_buildSlice (n := 1) (e := 5) (c := c58) (k := (Kint .u8)) (i := 0) F [(0, .int .u8 (IntKind.u8.wrap i52))] [.int .u8 (IntKind.u8.wrap i52)] ([IntKind.u8.wrap i52] : List Int) (by exact ⟨rfl, rfl, trivial⟩) (fun w => by kernel_rfl) rfl (by decide) rfl ⟨rfl, trivial⟩ (fun q => q) 0) ?_
  rintro v w62 a ⟨c61, A63, C64, rfl, E65, h66, B67⟩ F
  replace B := B67 _ B (Nat.add_pos_left hm0 _)
  replace h53 := SL.ev h53 E65 (fun q => q.elim) (fun q => q.elim)
  replace E := E.trans E65 (fun x q => q.elim)
  replace H := ifN H
  obtain ⟨g68, H⟩ := H
  refine q_eff F rfl rfl (by decide) (e_append (k := (Kint .u8)) (xs := l54) (ys := [IntKind.u8.wrap i52]) (c := c61) (j := (m + 1)) (i := 0) F et_28 rfl rfl h53 h66 g68 (len_ok g68) ne_zm) ?_
  rintro v w70 a ⟨c69, A71, C72, rfl, E73, h74, B75⟩ F
  replace B := B75 _ B (Nat.add_lt_add_left (by decide) m)
  replace h66 := SL.ev h66 E73 ne_zm ne_zm
  replace E := E.trans E73 (fun x (q : x = m + 1) => Or.inr (le_col q))
  refine q_val F rfl rfl (by decide) (r_assign F rfl) fun a F => ?_
  refine nil ?_
  refine hK60 _ _ ?_
  refine wp_ret ?_
  replace H := Option.some.inj H
  subst H
  refine out1 F rfl rfl ?_
  exact ⟨fun b_ => (fun x_ => if x_ = m + 1 then jr76 else if x_ < m then x_ else 0) (c69 b_), A71, C72, rfl, E.leave B0 (fun x_ => if x_ = m + 1 then jr76 else if x_ < m then x_ else 0) (by intro x_ hx_; show (if x_ = m + 1 then jr76 else if x_ < m then x_ else 0) = x_; ((repeat' split) <;> omega)), (fun b_ hb_ => by show (if (c69 b_) = m + 1 then jr76 else if (c69 b_) < m then (c69 b_) else 0) < m; ((repeat' split) <;> omega)), SL.rc h74 (fun k_ hk_ => by show (if (c69 k_) = m + 1 then jr76 else if (c69 k_) < m then (c69 k_) else 0) = _; rw [hk_]; ((repeat' split) <;> omega)) (fun k_ hk_ => by show (if (c69 k_) = m + 1 then jr76 else if (c69 k_) < m then (c69 k_) else 0) = _; rw [hk_]; ((repeat' split) <;> omega))⟩
 refine loop_fuel (I := fun n a w => ∃ (i13 : Int) (l14 : List Int) (A15 : Option Addr) (C16 : Nat) (c : Nat → Nat), Fr a 20 [(0, .int .u64 i13), (3, .slice A15 l14.length C16)] ∧ Ev (fun x => False ∨ m ≤ x) c0 w0 c w ∧ CB (m + 2) c w ∧ SL true (Kint .u8) (m + 1) 0 c w A15 C16 l14 ∧ loop (fun (s_ : Int × (List Int)) => parcel_form.b1 s_.1 s_.2) n (i13, l14) = some x27) (k := k) ⟨a1, (List.replicate (0 : Int).toNat (0 : Int)), A7, C8, c5, F.sub ⟨rfl, rfl, trivial⟩, E, B, h10, HL⟩ ?_
 clear HL H E F B
 intro n24 X20 hX20 a w19 ⟨i13, l14, A15, C16, c18, F, E, B, h17, HL⟩
 obtain ⟨n25, ctl23, rfl, HB, HN21, HD22⟩ := loop_some HL
 have H : parcel_form.b1 i13 l14 = some ctl23 := HB
 clear HB HL
 unfold parcel_form.b1 at H
 refine wp_seq_k fun K28 hK28 => ?_
 refine wp_seq_k fun K29 hK29 => ?_
 refine reg ?_
 refine q_val F rfl rfl (by decide) (r_move F rfl) fun a F => ?_
 refine q_val F rfl rfl (by decide) (r_gtr F rfl rfl) fun a F => ?_
 refine nil ?_
 refine hK29 _ _ ?_
 by_cases hb30 : 127 < i13
 ·replace H := (if_pos hb30).symm.trans H
  refine wp_cond_true ((F.ev rfl).trans (congrArg Value.bool (decide_eq_true hb30))) ?_
  refine wp_skip ?_
  refine hK28 _ _ ?_
  refine wp_block ?_
  refine wp_seq_k fun K31 hK31 => ?_
  refine reg ?_
  refine q_val F rfl rfl (by decide) (r_move F rfl) fun a F => ?_
  refine q_val F rfl rfl (by decide) (r_move F rfl) fun a F => ?_
  refine q_val F rfl rfl (by decide) (r_convi F Try.underlying5 rfl rfl) fun a F => ?_
  refine q_val F rfl rfl (by decide) (r_or F rfl rfl) fun a F => ?_
  refine q_eff F rfl rfl (by decide) (e_buildSlice (n := 1) (e := 5) (c := c18) (k := (Kint .u8)) (i := 0) F [(0, .int .u8 (bor .u8 (IntKind.u8.wrap i13) 128))] [.int .u8 (bor .u8 (IntKind.u8.wrap i13) 128)] ([bor .u8 (IntKind.u8.wrap i13) 128] : List Int) (by exact ⟨rfl, rfl, trivial⟩) (fun w => by kernel_rfl) rfl (by decide) rfl ⟨rfl, trivial⟩ (fun q => q) 0) ?_
  rintro v w33 a ⟨c32, A34, C35, rfl, E36, h37, B38⟩ F
  replace B := B38 _ B (Nat.add_pos_left hm0 _)
  replace h17 := SL.ev h17 E36 (fun q => q.elim) (fun q => q.elim)
  replace E := E.trans E36 (fun x q => q.elim)
  replace H := ifN H
  obtain ⟨g39, H⟩ := H
  refine q_eff F rfl rfl (by decide) (e_append (k := (Kint .u8)) (xs := l14) (ys := [bor .u8 (IntKind.u8.wrap i13) 128]) (c := c32) (j := (m + 1)) (i := 0) F et_28 rfl rfl h17 h37 g39 (len_ok g39) ne_zm) ?_
  rintro v w41 a ⟨c40, A42, C43, rfl, E44, h45, B46⟩ F
  replace B := B46 _ B (Nat.add_lt_add_left (by decide) m)
  replace h37 := SL.ev h37 E44 ne_zm ne_zm
  replace E := E.trans E44 (fun x (q : x = m + 1) => Or.inr (le_col q))
  refine q_val F rfl rfl (by decide) (r_assign F rfl) fun a F => ?_
  refine nil ?_
  refine hK31 _ _ ?_
  replace F : Fr a 20 [(0, .int .u64 i13), (3, .slice A42 (l14 ++ [bor .u8 (IntKind.u8.wrap i13) 128]).length C43)] := F.sub ⟨rfl, rfl, trivial⟩
  refine reg ?_
  refine q_val F rfl rfl (by decide) (r_move F rfl) fun a F => ?_
  refine q_val F rfl rfl (by decide) (r_shr F rfl rfl (by decide)) fun a F => ?_
  refine q_val F rfl rfl (by decide) (r_assign F rfl) fun a F => ?_
  refine nil ?_
  replace H := HN21 _ (Option.some.inj H).symm
  exact hX20 _ _ _ (Nat.lt_succ_self _) ⟨(shr .u64 i13 7), (l14 ++ [bor .u8 (IntKind.u8.wrap i13) 128]), A42, C43, c40, F.sub ⟨rfl, rfl, trivial⟩, E, B, h45, H⟩
 ·replace H := (if_neg hb30).symm.trans H
  refine wp_cond_false ((F.ev rfl).trans (congrArg Value.bool (decide_eq_false hb30))) ?_
  refine wp_exit ?_
  refine thenE ?_
  refine thenE ?_
  refine inbE ?_
  have hx_ := HD22 _ (Option.some.inj H).symm
  have H := HR26
  rw [← hx_] at H
  exact J57 c18 w19 a i13 l14 A15 C16 (F.sub ⟨rfl, rfl, trivial⟩) E B h17 H
end Go.Proofs.Ythankpjbfpcldaa.G
namespace Go.Proofs.Ythankpjbfpcldaa.G
open Go Go.RowKit
set_option linter.unusedVariables false
set_option linter.unusedSimpArgs false
set_option maxRecDepth 100000 in
set_option maxHeartbeats 4000000 in
theorem parcel_Writer_Num.calls (k : Nat) {m : Nat} {c0 : Nat → Nat} {w0 : World} {j4 : Nat} {j5 : Nat} {p2 : Option Addr} {a1 : Option Wri} {a6 : Int} (hm0 : 0 < m) (B0 : CB m c0 w0) (h3 : WR j4 j5 c0 w0 p2 a1) (bj4 : 0 < j4 ∧ j4 < m) (bj5 : 0 < j5 ∧ j5 < m ∧ j5 ≠ j4) (r : (Option Wri)) (H : parcel_Writer_Num.f k a1 a6 = some r) : Calls Try.prog 54 #[.pointer p2, .int .u64 a6] w0 (fun e w_ => ∃ (c_ : Nat → Nat), e = .returned (.tuple #[]) ∧ Ev (fun x => (x = j4 ∨ x = j5)) c0 w0 c_ w_ ∧ CB m c_ w_ ∧ WR j4 j5 c_ w_ p2 r) := by
 unfold parcel_Writer_Num.f at H
 have B := B0.mono (show m ≤ m + 1 by omega)
 have E : Ev (fun x => (x = j4 ∨ x = j5) ∨ m ≤ x) c0 w0 c0 w0 := Ev.refl
 refine enter (N := 8) (l := [.pointer p2, .int .u64 a6]) Try.func54 rfl rfl (Nat.le_of_ble_eq_true rfl) fun a F => ?_
 refine reg ?_
 refine q_val F rfl rfl (by decide) (r_move F rfl) fun a F => ?_
 refine q_val F rfl rfl (by decide) (r_move F rfl) fun a F => ?_
 replace H := bind_some H
 obtain ⟨t7, q8, H⟩ := H
 refine q_call F rfl rfl (by decide) (r_call F Try.func70 rfl (by kernel_rfl) rfl) (parcel_form.calls k (m := m + 1) (Nat.add_pos_left hm0 _) B 0 (Nat.add_pos_left hm0 _) _ q8) ?_
 rintro e w10 ⟨c9, A13, C14, rfl, E11, B12, h15⟩
 refine ⟨_, rfl, fun a F => ?_⟩
 have B := B12
 replace h3 := WR.ev h3 E11 (fun q => q.elim) (fun q => q.elim) (fun q => q.elim)
 replace E := E.trans E11 (fun x q => q.elim)
 replace H := bind_some H
 obtain ⟨t17, q18, H⟩ := H
 refine q_call F rfl rfl (by decide) (r_call F Try.func68 rfl (by kernel_rfl) rfl) (parcel_Writer_lay.calls (m := m + 1) (Nat.add_pos_left hm0 _) B h3 h15.r ⟨bj4.1, (Nat.lt_add_right _ bj4.2)⟩ ⟨bj5.1, (Nat.lt_add_right _ bj5.2.1), bj5.2.2⟩ _ q18) ?_
 rintro e w20 ⟨c19, rfl, E21, B22, h23⟩
 refine ⟨_, rfl, fun a F => ?_⟩
 have B := B22
 replace h15 := SL.ev h15 E21 (nor (ne_z bj4.1) (ne_z bj5.1)) (nor (ne_z bj4.1) (ne_z bj5.1))
 replace E := E.trans E21 (fun x (q : x = j4 ∨ x = j5) => q.elim (fun q => Or.inl (Or.inl q)) (fun q => Or.inl (Or.inr (q))))
 refine nil ?_
 replace H := Option.some.inj H
 subst H
 first | refine out0n F rfl ?_ | refine inbN (out0n F rfl ?_) | refine inbN (inbN (out0n F rfl ?_)) | refine inbN (inbN (inbN (out0n F rfl ?_)))
 exact ⟨fun b_ => (fun x_ => if x_ < m then x_ else 0) (c19 b_), rfl, E.leave B0 (fun x_ => if x_ < m then x_ else 0) (by intro x_ hx_; show (if x_ < m then x_ else 0) = x_; ((repeat' split) <;> omega)), (fun b_ hb_ => by show (if (c19 b_) < m then (c19 b_) else 0) < m; ((repeat' split) <;> omega)), WR.rc h23 (fun k_ hk_ => by show (if (c19 k_) < m then (c19 k_) else 0) = _; rw [hk_]; ((repeat' split) <;> omega)) (fun k_ hk_ => by show (if (c19 k_) < m then (c19 k_) else 0) = _; rw [hk_]; ((repeat' split) <;> omega)) (fun k_ hk_ => by show (if (c19 k_) < m then (c19 k_) else 0) = _; rw [hk_]; ((repeat' split) <;> omega))⟩
end Go.Proofs.Ythankpjbfpcldaa.G
/-! Told by hand: slices.Grow of nothing. -/
namespace Go.Proofs.Ythankpjbfpcldaa.G
open Go Go.RowKit
set_option linter.unusedVariables false
set_option linter.unusedSimpArgs false
set_option maxHeartbeats 1000000 in
theorem slices_Grow.calls {m : Nat} {c0 : Nat → Nat} {w0 : World} {n : Int} (hm0 : 0 < m) (B0 : CB m c0 w0) (h1 : SL false (Kint .u8) 0 0 c0 w0 none 0 ([] : List Int)) (jr : Nat) (bjr : jr < m) (r : List Int) (H : slices_Grow.f [] n = some r) :
    Calls Try.prog 91 #[.slice none 0 0, .int .i64 n] w0 (fun e w_ => ∃ (c_ : Nat → Nat) (A0_ : Option Addr) (C0_ : Nat), e = .returned (.slice A0_ r.length C0_) ∧ Ev (fun x => False) c0 w0 c_ w_ ∧ CB m c_ w_ ∧ SL true (Kint .u8) jr 0 c_ w_ A0_ C0_ r) := by
  unfold slices_Grow.f at H
  obtain ⟨⟨g0, g1, _⟩, H⟩ := ifN H
  have H := Option.some.inj H
  subst H
  have B := B0.mono (show m ≤ m + 2 by omega)
  have E : Ev (fun x => False ∨ m ≤ x) c0 w0 c0 w0 := Ev.refl
  refine enter (N := 27) (l := [.slice none 0 0, .int .i64 n]) Try.func91 rfl rfl (Nat.le_of_ble_eq_true rfl) fun a F => ?_
  refine wp_seq_k fun K1 hK1 => ?_
  refine reg ?_
  refine q_val F rfl rfl (by decide) (r_assign F rfl) fun a F => ?_
  refine nil ?_
  refine hK1 _ _ ?_
  refine wp_seq_k fun K2 hK2 => ?_
  refine wp_seq_k fun K3 hK3 => ?_
  refine reg ?_
  refine q_val F rfl rfl (by decide) (r_move F rfl) fun a F => ?_
  refine q_val F rfl rfl (by decide) (r_lss F rfl rfl) fun a F => ?_
  refine nil ?_
  refine hK3 _ _ ?_
  refine wp_cond_false ((F.ev rfl).trans (congrArg Value.bool (decide_eq_false (by omega)))) ?_
  refine wp_skip ?_
  refine hK2 _ _ ?_
  refine wp_seq_k fun K5 hK5 => ?_
  refine wp_seq_k fun K4 hK4 => ?_
  refine reg ?_
  refine q_val F rfl rfl (by decide) (r_move F rfl) fun a F => ?_
  refine q_val F rfl rfl (by decide) (r_move F rfl) fun a F => ?_
  refine q_val F rfl rfl (by decide) (r_capsl F Try.underlying28 rfl) fun a F => ?_
  refine q_val F rfl rfl (by decide) (r_move F rfl) fun a F => ?_
  refine q_val F rfl rfl (by decide) (r_lensl F Try.underlying28 rfl) fun a F => ?_
  refine q_val F rfl rfl (by decide) (r_sub F rfl rfl) fun a F => ?_
  refine q_val F rfl rfl (by decide) (r_sub F rfl rfl) fun a F => ?_
  have hw : IntKind.i64.wrap (n - IntKind.i64.wrap (((0 : Nat) : Int) - ((0 : Nat) : Int))) = n := by simp only [IntKind.wrap_i64]; omega
  rw [hw] at F
  refine q_val F rfl rfl (by decide) (r_assign F rfl) fun a F => ?_
  refine nil ?_
  refine hK4 _ _ ?_
  refine wp_seq_k fun K6 hK6 => ?_
  refine reg ?_
  refine q_val F rfl rfl (by decide) (r_move F rfl) fun a F => ?_
  refine q_val F rfl rfl (by decide) (r_gtr F rfl rfl) fun a F => ?_
  refine nil ?_
  refine hK6 _ _ ?_
  by_cases hn : 0 < n
  · refine wp_cond_true ((F.ev rfl).trans (congrArg Value.bool (decide_eq_true hn))) ?_
    obtain ⟨k, rfl⟩ := Int.eq_ofNat_of_zero_le g0
    refine reg ?_
    refine q_val F rfl rfl (by decide) (r_move F rfl) fun a F => ?_
    refine q_val F rfl rfl (by decide) (r_move F rfl) fun a F => ?_
    refine q_val F rfl rfl (by decide) (r_capsl F Try.underlying28 rfl) fun a F => ?_
    refine q_val F rfl rfl (by decide) (r_slice (A := none) (xs := ([] : List Int)) (cap := 0) (vl := none) (vh := some (.int .i64 ((0 : Nat) : Int))) (vm := none) F rfl rfl rfl rfl (v := .slice none 0 0) (fun w => by kernel_rfl)) fun a F => ?_
    refine q_val F rfl rfl (by decide) (r_move F rfl) fun a F => ?_
    refine q_eff F rfl rfl (by decide) (e_growz (k := Kint .u8) (x0 := (0 : Int)) (n := k) F et_28 Try.underlying3 rfl rfl (fun _ _ _ => rfl) (by omega) (by omega) (by unfold maxLen; omega) c0 (m + 1) 0) ?_
    rintro v w1 a ⟨c1, A1, C1, rfl, E1, h2, B1⟩ F
    have B := B1 _ B (by omega)
    have E := E.trans E1 (fun x q => q.elim)
    refine q_val F rfl rfl (by decide) (r_move F rfl) fun a F => ?_
    refine q_val F rfl rfl (by decide) (r_lensl F Try.underlying28 rfl) fun a F => ?_
    obtain ⟨A2, C2, hr, h3⟩ := cut_h (kh := .i64) Try.underlying28 sz_5 h2 (h := ((0 : Nat) : Int)) ⟨by omega, by omega⟩
    refine q_val F rfl rfl (by decide) (r_slice (vl := none) (vh := some (.int .i64 ((0 : Nat) : Int))) (vm := none) F rfl rfl rfl rfl hr) fun a F => ?_
    refine q_val F rfl rfl (by decide) (r_assign F rfl) fun a F => ?_
    refine nil ?_
    refine hK5 _ _ ?_
    refine wp_seq_k fun K7 hK7 => ?_
    refine reg ?_
    refine q_val F rfl rfl (by decide) (r_move F rfl) fun a F => ?_
    refine q_val F rfl rfl (by decide) (r_assign F rfl) fun a F => ?_
    refine nil ?_
    refine hK7 _ _ ?_
    refine wp_ret ?_
    refine out1 F rfl rfl ?_
    exact ⟨fun b_ => (fun x_ => if x_ = m + 1 then jr else if x_ < m then x_ else 0) (c1 b_), A2, C2, rfl, E.leave B0 (fun x_ => if x_ = m + 1 then jr else if x_ < m then x_ else 0) (by intro x_ hx_; show (if x_ = m + 1 then jr else if x_ < m then x_ else 0) = x_; ((repeat' split) <;> omega)), (fun b_ hb_ => by show (if (c1 b_) = m + 1 then jr else if (c1 b_) < m then (c1 b_) else 0) < m; ((repeat' split) <;> omega)),
      SL.rc h3 (fun k_ hk_ => by show (if (c1 k_) = m + 1 then jr else if (c1 k_) < m then (c1 k_) else 0) = _; rw [hk_]; ((repeat' split) <;> omega)) (fun k_ hk_ => by show (if (c1 k_) = m + 1 then jr else if (c1 k_) < m then (c1 k_) else 0) = _; rw [hk_]; ((repeat' split) <;> omega))⟩
  · refine wp_cond_false ((F.ev rfl).trans (congrArg Value.bool (decide_eq_false hn))) ?_
    refine wp_skip ?_
    refine hK5 _ _ ?_
    refine wp_seq_k fun K7 hK7 => ?_
    refine reg ?_
    refine q_val F rfl rfl (by decide) (r_move F rfl) fun a F => ?_
    refine q_val F rfl rfl (by decide) (r_assign F rfl) fun a F => ?_
    refine nil ?_
    refine hK7 _ _ ?_
    refine wp_ret ?_
    refine out1 F rfl rfl ?_
    exact ⟨c0, none, 0, rfl, Ev.refl, B0, SL.nil⟩
end Go.Proofs.Ythankpjbfpcldaa.G
namespace Go.Proofs.Ythankpjbfpcldaa.G
open Go Go.RowKit
set_option linter.unusedVariables false
set_option linter.unusedSimpArgs false
set_option maxRecDepth 100000 in
set_option maxHeartbeats 4000000 in
theorem slices_Concat.calls (k : Nat) {m : Nat} {c0 : Nat → Nat} {w0 : World} {j5 : Nat} {j6 : Nat} {A2 : Option Addr} {C3 : Nat} {a1 : List (List Int)} (hm0 : 0 < m) (B0 : CB m c0 w0) (h4 : SL false (Kslice (Kint .u8)) j5 j6 c0 w0 A2 C3 a1) (bj5 : j5 < m) (bj6 : j6 < m) (jr113 : Nat) (bjr113 : jr113 < m) (r : (List Int)) (H : slices_Concat.f k a1 = some r) : Calls Try.prog 69 #[.slice A2 a1.length C3] w0 (fun e w_ => ∃ (c_ : Nat → Nat) (A0_ : Option Addr) (C0_ : Nat), e = .returned (.slice A0_ r.length C0_) ∧ Ev (fun x => False) c0 w0 c_ w_ ∧ CB m c_ w_ ∧ SL true (Kint .u8) jr113 0 c_ w_ A0_ C0_ r) := by
 unfold slices_Concat.f at H
 have B := B0.mono (show m ≤ m + 2 by omega)
 have E : Ev (fun x => False ∨ m ≤ x) c0 w0 c0 w0 := Ev.refl
 refine enter (N := 36) (l := [.slice A2 a1.length C3]) Try.func69 rfl rfl (Nat.le_of_ble_eq_true rfl) fun a F => ?_
 refine wp_seq_k fun K7 hK7 => ?_
 refine reg ?_
 refine q_val F rfl rfl (by decide) (r_assign F rfl) fun a F => ?_
 refine nil ?_
 refine hK7 _ _ ?_
 refine wp_seq_k fun K8 hK8 => ?_
 refine reg ?_
 refine q_val F rfl rfl (by decide) (r_assign F rfl) fun a F => ?_
 refine nil ?_
 refine hK8 _ _ ?_
 refine wp_seq_k fun K9 hK9 => ?_
 refine wp_seq_k fun K10 hK10 => ?_
 refine reg ?_
 refine q_val F rfl rfl (by decide) (r_move F rfl) fun a F => ?_
 refine q_val F rfl rfl (by decide) (r_lensl F Try.underlying60 rfl) fun a F => ?_
 refine q_val F rfl rfl (by decide) (r_move F rfl) fun a F => ?_
 refine nil ?_
 refine hK10 _ _ ?_
 refine wp_block ?_
 obtain ⟨x22, HL, HR21⟩ := bind_some H
 have J45 : ∀ (c46 : Nat → Nat) (w47 : World) (a : Act) (i44 : Int), Fr a 36 [(0, .slice A2 a1.length C3), (3, .int .i64 i44)] → Ev (fun x => False ∨ m ≤ x) c0 w0 c46 w47 → CB (m + 2) c46 w47 → SL false (Kslice (Kint .u8)) j5 j6 c46 w47 A2 C3 a1 → slices_Concat.j2 k a1 i44 = some r → K9 a w47 := by
  intro c46 w47 a i44 F E B h4 H
  unfold slices_Concat.j2 at H
  refine hK9 _ _ ?_
  refine wp_seq_k fun K48 hK48 => ?_
  refine reg ?_
  refine q_val F rfl rfl (by decide) (r_move F rfl) fun a F => ?_
  replace H := bind_some H
  obtain ⟨t49, q50, H⟩ := H
  refine q_call F rfl rfl (by decide) (r_call F Try.func91 rfl (by kernel_rfl) rfl) (slices_Grow.calls (m := m + 2) (Nat.add_pos_left hm0 _) B SL.nil (m + 1) (Nat.add_lt_add_left (by decide) m) _ q50) ?_
  rintro e w52 ⟨c51, A55, C56, rfl, E53, B54, h57⟩
  refine ⟨_, rfl, fun a F => ?_⟩
  have B := B54
  replace h4 := SL.ev h4 E53 (fun q => q.elim) (fun q => q.elim)
  replace E := E.trans E53 (fun x q => q.elim)
  refine q_val F rfl rfl (by decide) (r_assign F rfl) fun a F => ?_
  refine nil ?_
  refine hK48 _ _ ?_
  refine wp_seq_k fun K59 hK59 => ?_
  refine wp_seq_k fun K60 hK60 => ?_
  refine reg ?_
  refine q_val F rfl rfl (by decide) (r_move F rfl) fun a F => ?_
  refine q_val F rfl rfl (by decide) (r_lensl F Try.underlying60 rfl) fun a F => ?_
  refine q_val F rfl rfl (by decide) (r_move F rfl) fun a F => ?_
  refine nil ?_
  refine hK60 _ _ ?_
  refine wp_block ?_
  obtain ⟨x75, HL, HR74⟩ := bind_some H
  have J109 : ∀ (c110 : Nat → Nat) (w111 : World) (a : Act) (l106 : List Int) (A107 : Option Addr) (C108 : Nat), Fr a 36 [(6, .slice A107 l106.length C108)] → Ev (fun x => False ∨ m ≤ x) c0 w0 c110 w111 → CB (m + 2) c110 w111 → SL true (Kint .u8) (m + 1) 0 c110 w111 A107 C108 l106 → slices_Concat.j4 l106 = some r → K59 a w111 := by
   intro c110 w111 a l106 A107 C108 F E B h105 H
   unfold slices_Concat.j4 at H
   refine hK59 _ _ ?_
   refine wp_seq_k fun K112 hK112 => ?_
   refine reg ?_
   refine q_val F rfl rfl (by decide) (r_move F rfl) fun a F => ?_
   refine q_val F rfl rfl (by decide) (r_assign F rfl) fun a F => ?_
   refine nil ?_
   refine hK112 _ _ ?_
   refine wp_ret ?_
   replace H := Option.some.inj H
   subst H
   refine out1 F rfl rfl ?_
   exact ⟨fun b_ => (fun x_ => if x_ = m + 1 then jr113 else if x_ < m then x_ else 0) (c110 b_), A107, C108, rfl, E.leave B0 (fun x_ => if x_ = m + 1 then jr113 else if x_ < m then x_ else 0) (by intro x_ hx_; show (if x_ = m + 1 then jr113 else if x_ < m then x_ else 0) = x_; ((repeat' split) <;> omega)), (fun b_ hb_ => by show (if (c110 b_) = m + 1 then jr113 else if (c110 b_) < m then (c110 b_) else 0) < m; ((repeat' split) <;> omega)), SL.rc h105 (fun k_ hk_ => by show (if (c110 k_) = m + 1 then jr113 else if (c110 k_) < m then (c110 k_) else 0) = _; rw [hk_]; ((repeat' split) <;> omega)) (fun k_ hk_ => by show (if (c110 k_) = m + 1 then jr113 else if (c110 k_) < m then (c110 k_) else 0) = _; rw [hk_]; ((repeat' split) <;> omega))⟩
  refine loop_fuel (I := fun n a w => ∃ (l61 : List Int) (A62 : Option Addr) (C63 : Nat) (i65 : Int) (c : Nat → Nat), Fr a 36 [(6, .slice A62 l61.length C63), (25, .slice A2 a1.length C3), (26, .int .i64 (a1.length : Int)), (27, .int .i64 i65)] ∧ Ev (fun x => False ∨ m ≤ x) c0 w0 c w ∧ CB (m + 2) c w ∧ SL false (Kslice (Kint .u8)) j5 j6 c w A2 C3 a1 ∧ SL true (Kint .u8) (m + 1) 0 c w A62 C63 l61 ∧ loop (fun (s_ : (List Int) × Int) => slices_Concat.b3 a1 s_.1 s_.2) n (l61, i65) = some x75) (k := k) ⟨t49, A55, C56, 0, c51, F.sub ⟨rfl, rfl, rfl, rfl, trivial⟩, E, B, h4, h57, HL⟩ ?_
  clear HL H E F B
  intro n72 X68 hX68 a w67 ⟨l61, A62, C63, i65, c66, F, E, B, h4, h64, HL⟩
  obtain ⟨n73, ctl71, rfl, HB, HN69, HD70⟩ := loop_some HL
  have H : slices_Concat.b3 a1 l61 i65 = some ctl71 := HB
  clear HB HL
  unfold slices_Concat.b3 at H
  refine wp_seq_k fun K76 hK76 => ?_
  refine reg ?_
  refine q_val F rfl rfl (by decide) (r_lss F rfl rfl) fun a F => ?_
  refine nil ?_
  refine hK76 _ _ ?_
  refine wp_seq_k fun K77 hK77 => ?_
  by_cases hb78 : i65 < (a1.length : Int)
  ·replace H := (if_pos hb78).symm.trans H
   refine wp_cond_true ((F.ev rfl).trans (congrArg Value.bool (decide_eq_true hb78))) ?_
   refine wp_skip ?_
   refine hK77 _ _ ?_
   refine wp_seq_k fun K79 hK79 => ?_
   refine wp_block ?_
   refine wp_seq_k fun K80 hK80 => ?_
   refine reg ?_
   replace H := ifN H
   obtain ⟨g81, H⟩ := H
   obtain ⟨ad82, cs83, e84, h85, r86⟩ := SL.at h4 i65 g81.1 g81.2
   obtain ⟨A87, C88, rfl, h89⟩ := r86
   replace h89 := SL.fl (i' := 0) h89 (fun q => q)
   obtain ⟨qa90, qqa90⟩ : ∃ q, q = (ad82.add (i65.toNat * 1)) := ⟨_, rfl⟩
   have h85 : AT false j5 c66 w67 qa90 [.slice A87 (rd a1 i65).length C88] := by rw [qqa90]; exact h85
   refine q_val F rfl rfl (by decide) (r_indexAddr' F Try.underlying60 sz_28 rfl rfl g81.1 g81.2 e84 qqa90) fun a F => ?_
   refine q_val F rfl rfl (by decide) (r_load F rfl ag_28 (AT.cell0 h85 rfl)) fun a F => ?_
   refine q_val F rfl rfl (by decide) (r_assign F rfl) fun a F => ?_
   refine nil ?_
   refine hK80 _ _ ?_
   refine reg ?_
   refine q_val F rfl rfl (by decide) (r_move F rfl) fun a F => ?_
   refine q_val F rfl rfl (by decide) (r_move F rfl) fun a F => ?_
   replace H := ifN H
   obtain ⟨g92, H⟩ := H
   refine q_eff F rfl rfl (by decide) (e_append (k := (Kint .u8)) (xs := l61) (ys := (rd a1 i65)) (c := c66) (j := (m + 1)) (i := 0) F et_28 rfl rfl h64 h89 g92 (len_ok g92) ne_zm) ?_
   rintro v w94 a ⟨c93, A95, C96, rfl, E97, h98, B99⟩ F
   replace B := B99 _ B (Nat.add_lt_add_left (by decide) m)
   replace h4 := SL.ev h4 E97 (ne_pm bj5) (ne_pm bj6)
   replace h89 := SL.ev h89 E97 (ne_pm bj6) ne_zm
   replace h85 := AT.ev h85 E97 (ne_pm bj5)
   replace E := E.trans E97 (fun x (q : x = m + 1) => Or.inr (le_col q))
   refine q_val F rfl rfl (by decide) (r_assign F rfl) fun a F => ?_
   refine nil ?_
   refine hK79 _ _ ?_
   refine reg ?_
   refine q_val F rfl rfl (by decide) (r_add F rfl rfl) fun a F => ?_
   refine q_val F rfl rfl (by decide) (r_move F rfl) fun a F => ?_
   refine nil ?_
   replace H := HN69 _ (Option.some.inj H).symm
   exact hX68 _ _ _ (Nat.lt_succ_self _) ⟨(l61 ++ (rd a1 i65)), A95, C96, (IntKind.i64.wrap (i65 + 1)), c93, F.sub ⟨rfl, rfl, rfl, rfl, trivial⟩, E, B, h4, h98, H⟩
  ·replace H := (if_neg hb78).symm.trans H
   refine wp_cond_false ((F.ev rfl).trans (congrArg Value.bool (decide_eq_false hb78))) ?_
   refine wp_exit ?_
   refine thenE ?_
   refine thenE ?_
   refine inbE ?_
   have hx_ := HD70 _ (Option.some.inj H).symm
   have H := HR74
   rw [← hx_] at H
   exact J109 c66 w67 a l61 A62 C63 (F.sub ⟨rfl, trivial⟩) E B h64 H
 refine loop_fuel (I := fun n a w => ∃ (i11 : Int) (i12 : Int) (c : Nat → Nat), Fr a 36 [(0, .slice A2 a1.length C3), (3, .int .i64 i11), (9, .slice A2 a1.length C3), (10, .int .i64 (a1.length : Int)), (11, .int .i64 i12)] ∧ Ev (fun x => False ∨ m ≤ x) c0 w0 c w ∧ CB (m + 2) c w ∧ SL false (Kslice (Kint .u8)) j5 j6 c w A2 C3 a1 ∧ loop (fun (s_ : Int × Int) => slices_Concat.b1 a1 s_.1 s_.2) n (i11, i12) = some x22) (k := k) ⟨0, 0, c0, F.sub ⟨rfl, rfl, rfl, rfl, rfl, trivial⟩, E, B, h4, HL⟩ ?_
 clear HL H E F B
 intro n19 X15 hX15 a w14 ⟨i11, i12, c13, F, E, B, h4, HL⟩
 obtain ⟨n20, ctl18, rfl, HB, HN16, HD17⟩ := loop_some HL
 have H : slices_Concat.b1 a1 i11 i12 = some ctl18 := HB
 clear HB HL
 unfold slices_Concat.b1 at H
 refine wp_seq_k fun K23 hK23 => ?_
 refine reg ?_
 refine q_val F rfl rfl (by decide) (r_lss F rfl rfl) fun a F => ?_
 refine nil ?_
 refine hK23 _ _ ?_
 refine wp_seq_k fun K24 hK24 => ?_
 by_cases hb25 : i12 < (a1.length : Int)
 ·replace H := (if_pos hb25).symm.trans H
  refine wp_cond_true ((F.ev rfl).trans (congrArg Value.bool (decide_eq_true hb25))) ?_
  refine wp_skip ?_
  refine hK24 _ _ ?_
  refine wp_seq_k fun K26 hK26 => ?_
  refine wp_block ?_
  refine wp_seq_k fun K27 hK27 => ?_
  refine reg ?_
  replace H := ifN H
  obtain ⟨g28, H⟩ := H
  obtain ⟨ad29, cs30, e31, h32, r33⟩ := SL.at h4 i12 g28.1 g28.2
  obtain ⟨A34, C35, rfl, h36⟩ := r33
  replace h36 := SL.fl (i' := 0) h36 (fun q => q)
  obtain ⟨qa37, qqa37⟩ : ∃ q, q = (ad29.add (i12.toNat * 1)) := ⟨_, rfl⟩
  have h32 : AT false j5 c13 w14 qa37 [.slice A34 (rd a1 i12).length C35] := by rw [qqa37]; exact h32
  refine q_val F rfl rfl (by decide) (r_indexAddr' F Try.underlying60 sz_28 rfl rfl g28.1 g28.2 e31 qqa37) fun a F => ?_
  refine q_val F rfl rfl (by decide) (r_load F rfl ag_28 (AT.cell0 h32 rfl)) fun a F => ?_
  refine q_val F rfl rfl (by decide) (r_assign F rfl) fun a F => ?_
  refine nil ?_
  refine hK27 _ _ ?_
  refine wp_seq_k fun K39 hK39 => ?_
  refine reg ?_
  refine q_val F rfl rfl (by decide) (r_move F rfl) fun a F => ?_
  refine q_val F rfl rfl (by decide) (r_move F rfl) fun a F => ?_
  refine q_val F rfl rfl (by decide) (r_lensl F Try.underlying28 rfl) fun a F => ?_
  refine q_val F rfl rfl (by decide) (r_add F rfl rfl) fun a F => ?_
  refine q_val F rfl rfl (by decide) (r_assign F rfl) fun a F => ?_
  refine nil ?_
  refine hK39 _ _ ?_
  replace F : Fr a 36 [(0, .slice A2 a1.length C3), (3, .int .i64 (IntKind.i64.wrap (i11 + ((rd a1 i12).length : Int)))), (9, .slice A2 a1.length C3), (10, .int .i64 (a1.length : Int)), (11, .int .i64 i12)] := F.sub ⟨rfl, rfl, rfl, rfl, rfl, trivial⟩
  refine wp_seq_k fun K40 hK40 => ?_
  refine reg ?_
  refine q_val F rfl rfl (by decide) (r_move F rfl) fun a F => ?_
  refine q_val F rfl rfl (by decide) (r_lss F rfl rfl) fun a F => ?_
  refine nil ?_
  refine hK40 _ _ ?_
  by_cases hb41 : (IntKind.i64.wrap (i11 + ((rd a1 i12).length : Int))) < 0
  ·replace H := (if_pos hb41).symm.trans H
   refine wp_cond_true ((F.ev rfl).trans (congrArg Value.bool (decide_eq_true hb41))) ?_
   refine reg ?_
   cases H
  ·replace H := (if_neg hb41).symm.trans H
   refine wp_cond_false ((F.ev rfl).trans (congrArg Value.bool (decide_eq_false hb41))) ?_
   refine wp_skip ?_
   refine hK26 _ _ ?_
   refine reg ?_
   refine q_val F rfl rfl (by decide) (r_add F rfl rfl) fun a F => ?_
   refine q_val F rfl rfl (by decide) (r_move F rfl) fun a F => ?_
   refine nil ?_
   replace H := HN16 _ (Option.some.inj H).symm
   exact hX15 _ _ _ (Nat.lt_succ_self _) ⟨(IntKind.i64.wrap (i11 + ((rd a1 i12).length : Int))), (IntKind.i64.wrap (i12 + 1)), c13, F.sub ⟨rfl, rfl, rfl, rfl, rfl, trivial⟩, E, B, h4, H⟩
 ·replace H := (if_neg hb25).symm.trans H
  refine wp_cond_false ((F.ev rfl).trans (congrArg Value.bool (decide_eq_false hb25))) ?_
  refine wp_exit ?_
  refine thenE ?_
  refine thenE ?_
  refine inbE ?_
  have hx_ := HD17 _ (Option.some.inj H).symm
  have H := HR21
  rw [← hx_] at H
  exact J45 c13 w14 a i11 (F.sub ⟨rfl, rfl, trivial⟩) E B h4 H
end Go.Proofs.Ythankpjbfpcldaa.G
namespace Go.Proofs.Ythankpjbfpcldaa.G
open Go Go.RowKit
set_option linter.unusedVariables false
set_option linter.unusedSimpArgs false
set_option maxRecDepth 100000 in
set_option maxHeartbeats 4000000 in
theorem parcel_Writer_Text.calls (k : Nat) {m : Nat} {c0 : Nat → Nat} {w0 : World} {j4 : Nat} {j5 : Nat} {p2 : Option Addr} {A7 : Option Addr} {C8 : Nat} {a1 : Option Wri} {a6 : List Int} (hm0 : 0 < m) (B0 : CB m c0 w0) (h3 : WR j4 j5 c0 w0 p2 a1) (h9 : SL false (Kint .u8) 0 0 c0 w0 A7 C8 a6) (bj4 : 0 < j4 ∧ j4 < m) (bj5 : 0 < j5 ∧ j5 < m ∧ j5 ≠ j4) (r : (Option Wri)) (H : parcel_Writer_Text.f k a1 a6 = some r) : Calls Try.prog 47 #[.pointer p2, .slice A7 a6.length C8] w0 (fun e w_ => ∃ (c_ : Nat → Nat), e = .returned (.tuple #[]) ∧ Ev (fun x => (x = j4 ∨ x = j5)) c0 w0 c_ w_ ∧ CB m c_ w_ ∧ WR j4 j5 c_ w_ p2 r) := by
 unfold parcel_Writer_Text.f at H
 have B := B0.mono (show m ≤ m + 1 by omega)
 have E : Ev (fun x => (x = j4 ∨ x = j5) ∨ m ≤ x) c0 w0 c0 w0 := Ev.refl
 refine enter (N := 13) (l := [.pointer p2, .slice A7 a6.length C8]) Try.func47 rfl rfl (Nat.le_of_ble_eq_true rfl) fun a F => ?_
 refine reg ?_
 refine q_val F rfl rfl (by decide) (r_move F rfl) fun a F => ?_
 refine q_val F rfl rfl (by decide) (r_move F rfl) fun a F => ?_
 refine q_val F rfl rfl (by decide) (r_lensl F Try.underlying28 rfl) fun a F => ?_
 refine q_val F rfl rfl (by decide) (r_convi F Try.underlying55 rfl rfl) fun a F => ?_
 replace H := bind_some H
 obtain ⟨t10, q11, H⟩ := H
 refine q_call F rfl rfl (by decide) (r_call F Try.func70 rfl (by kernel_rfl) rfl) (parcel_form.calls k (m := m + 1) (Nat.add_pos_left hm0 _) B 0 (Nat.add_pos_left hm0 _) _ q11) ?_
 rintro e w13 ⟨c12, A16, C17, rfl, E14, B15, h18⟩
 refine ⟨_, rfl, fun a F => ?_⟩
 have B := B15
 replace h3 := WR.ev h3 E14 (fun q => q.elim) (fun q => q.elim) (fun q => q.elim)
 replace h9 := SL.ev h9 E14 (fun q => q.elim) (fun q => q.elim)
 replace E := E.trans E14 (fun x q => q.elim)
 refine q_val F rfl rfl (by decide) (r_move F rfl) fun a F => ?_
 refine q_eff F rfl rfl (by decide) (e_buildSlice (n := 2) (e := 28) (c := c12) (k := (Kslice (Kint .u8))) (i := 0) F [(0, .slice A16 t10.length C17), (1, .slice A7 a6.length C8)] [.slice A16 t10.length C17, .slice A7 a6.length C8] ([t10, a6] : List (List Int)) (by exact ⟨rfl, rfl, rfl, rfl, trivial⟩) (fun w => by kernel_rfl) rfl (by decide) rfl ⟨⟨A16, C17, rfl, (SL.fl h18.r (fun q => q))⟩, ⟨A7, C8, rfl, (SL.fl h9 (fun q => q))⟩, trivial⟩ (fun q => q) 0) ?_
 rintro v w21 a ⟨c20, A22, C23, rfl, E24, h25, B26⟩ F
 replace B := B26 _ B (Nat.add_pos_left hm0 _)
 replace h3 := WR.ev h3 E24 (fun q => q.elim) (fun q => q.elim) (fun q => q.elim)
 replace h9 := SL.ev h9 E24 (fun q => q.elim) (fun q => q.elim)
 replace h18 := SL.ev h18 E24 (fun q => q.elim) (fun q => q.elim)
 replace E := E.trans E24 (fun x q => q.elim)
 replace H := bind_some H
 obtain ⟨t27, q28, H⟩ := H
 refine q_call F rfl rfl (by decide) (r_call F Try.func69 rfl (by kernel_rfl) rfl) (slices_Concat.calls k (m := m + 1) (Nat.add_pos_left hm0 _) B h25.r (Nat.add_pos_left hm0 _) (Nat.add_pos_left hm0 _) 0 (Nat.add_pos_left hm0 _) _ q28) ?_
 rintro e w30 ⟨c29, A33, C34, rfl, E31, B32, h35⟩
 refine ⟨_, rfl, fun a F => ?_⟩
 have B := B32
 replace h3 := WR.ev h3 E31 (fun q => q.elim) (fun q => q.elim) (fun q => q.elim)
 replace h9 := SL.ev h9 E31 (fun q => q.elim) (fun q => q.elim)
 replace h18 := SL.ev h18 E31 (fun q => q.elim) (fun q => q.elim)
 replace h25 := SL.ev h25 E31 (fun q => q.elim) (fun q => q.elim)
 replace E := E.trans E31 (fun x q => q.elim)
 replace H := bind_some H
 obtain ⟨t37, q38, H⟩ := H
 refine q_call F rfl rfl (by decide) (r_call F Try.func68 rfl (by kernel_rfl) rfl) (parcel_Writer_lay.calls (m := m + 1) (Nat.add_pos_left hm0 _) B h3 h35.r ⟨bj4.1, (Nat.lt_add_right _ bj4.2)⟩ ⟨bj5.1, (Nat.lt_add_right _ bj5.2.1), bj5.2.2⟩ _ q38) ?_
 rintro e w40 ⟨c39, rfl, E41, B42, h43⟩
 refine ⟨_, rfl, fun a F => ?_⟩
 have B := B42
 replace h9 := SL.ev h9 E41 (nor (ne_z bj4.1) (ne_z bj5.1)) (nor (ne_z bj4.1) (ne_z bj5.1))
 replace h18 := SL.ev h18 E41 (nor (ne_z bj4.1) (ne_z bj5.1)) (nor (ne_z bj4.1) (ne_z bj5.1))
 replace h25 := SL.ev h25 E41 (nor (ne_z bj4.1) (ne_z bj5.1)) (nor (ne_z bj4.1) (ne_z bj5.1))
 replace h35 := SL.ev h35 E41 (nor (ne_z bj4.1) (ne_z bj5.1)) (nor (ne_z bj4.1) (ne_z bj5.1))
 replace E := E.trans E41 (fun x (q : x = j4 ∨ x = j5) => q.elim (fun q => Or.inl (Or.inl q)) (fun q => Or.inl (Or.inr (q))))
 refine nil ?_
 replace H := Option.some.inj H
 subst H
 first | refine out0n F rfl ?_ | refine inbN (out0n F rfl ?_) | refine inbN (inbN (out0n F rfl ?_)) | refine inbN (inbN (inbN (out0n F rfl ?_)))
 exact ⟨fun b_ => (fun x_ => if x_ < m then x_ else 0) (c39 b_), rfl, E.leave B0 (fun x_ => if x_ < m then x_ else 0) (by intro x_ hx_; show (if x_ < m then x_ else 0) = x_; ((repeat' split) <;> omega)), (fun b_ hb_ => by show (if (c39 b_) < m then (c39 b_) else 0) < m; ((repeat' split) <;> omega)), WR.rc h43 (fun k_ hk_ => by show (if (c39 k_) < m then (c39 k_) else 0) = _; rw [hk_]; ((repeat' split) <;> omega)) (fun k_ hk_ => by show (if (c39 k_) < m then (c39 k_) else 0) = _; rw [hk_]; ((repeat' split) <;> omega)) (fun k_ hk_ => by show (if (c39 k_) < m then (c39 k_) else 0) = _; rw [hk_]; ((repeat' split) <;> omega))⟩
end Go.Proofs.Ythankpjbfpcldaa.G
namespace Go.Proofs.Ythankpjbfpcldaa.G
open Go Go.RowKit
set_option linter.unusedVariables false
set_option linter.unusedSimpArgs false
set_option maxRecDepth 100000 in
set_option maxHeartbeats 4000000 in
theorem shard_seats_lay.calls (k : Nat) {m : Nat} {c0 : Nat → Nat} {w0 : World} {j4 : Nat} {j8 : Nat} {j9 : Nat} {p2 : Option Addr} {p6 : Option Addr} {a1 : List api_Seat} {a5 : Option Wri} (hm0 : 0 < m) (B0 : CB m c0 w0) (h3 : SE j4 c0 w0 p2 a1) (h7 : WR j8 j9 c0 w0 p6 a5) (bj4 : j4 < m ∧ j4 ≠ j8 ∧ j4 ≠ j9) (bj8 : 0 < j8 ∧ j8 < m) (bj9 : 0 < j9 ∧ j9 < m ∧ j9 ≠ j8) (r : (Option Wri)) (H : shard_seats_lay.f k a1 a5 = some r) : Calls Try.prog 49 #[.pointer p2, .pointer p6] w0 (fun e w_ => ∃ (c_ : Nat → Nat), e = .returned (.tuple #[]) ∧ Ev (fun x => (x = j8 ∨ x = j9)) c0 w0 c_ w_ ∧ CB m c_ w_ ∧ WR j8 j9 c_ w_ p6 r) := by
 unfold shard_seats_lay.f at H
 have B := B0.mono (show m ≤ m + 3 by omega)
 have E : Ev (fun x => (x = j8 ∨ x = j9) ∨ m ≤ x) c0 w0 c0 w0 := Ev.refl
 refine enter (N := 76) (l := [.pointer p2, .pointer p6]) Try.func49 rfl rfl (Nat.le_of_ble_eq_true rfl) fun a F => ?_
 refine wp_seq_k fun K10 hK10 => ?_
 refine reg ?_
 refine q_val F rfl rfl (by decide) (r_assign F rfl) fun a F => ?_
 refine nil ?_
 refine hK10 _ _ ?_
 refine wp_seq_k fun K11 hK11 => ?_
 refine wp_seq_k fun K12 hK12 => ?_
 refine reg ?_
 refine q_val F rfl rfl (by decide) (r_move F rfl) fun a F => ?_
 have z15 := h3
 obtain ⟨ad13, cs14, rfl, hat16, h17⟩ := z15
 refine q_val F rfl rfl (by decide) (r_nil F rfl) fun a F => ?_
 refine q_val F rfl rfl (by decide) (r_move F rfl) fun a F => ?_
 refine nil ?_
 refine hK12 _ _ ?_
 refine wp_block ?_
 obtain ⟨x30, HL, HR29⟩ := bind_some H
 have J64 : ∀ (c65 : Nat → Nat) (w66 : World) (a : Act) (i63 : Int), Fr a 76 [(0, .pointer (some ad13)), (1, .pointer p6), (4, .int .i64 i63)] → Ev (fun x => (x = j8 ∨ x = j9) ∨ m ≤ x) c0 w0 c65 w66 → CB (m + 3) c65 w66 → AT false j4 c65 w66 ad13 (([] : List Value) ++ (cs14 ++ (([] : List Value)))) → AR K_api_Seat 0 c65 w66 cs14 16 a1 → WR j8 j9 c65 w66 p6 a5 → shard_seats_lay.j2 k a1 a5 i63 = some r → K11 a w66 := by
  intro c65 w66 a i63 F E B hat16 h17 h7 H
  unfold shard_seats_lay.j2 at H
  refine hK11 _ _ ?_
  refine wp_seq_k fun K67 hK67 => ?_
  refine reg ?_
  refine q_val F rfl rfl (by decide) (r_move F rfl) fun a F => ?_
  refine q_val F rfl rfl (by decide) (r_move F rfl) fun a F => ?_
  refine q_val F rfl rfl (by decide) (r_convi F Try.underlying55 rfl rfl) fun a F => ?_
  replace H := bind_some H
  obtain ⟨t68, q69, H⟩ := H
  refine q_call F rfl rfl (by decide) (r_call F Try.func54 rfl (by kernel_rfl) rfl) (parcel_Writer_Num.calls k (m := m + 3) (Nat.add_pos_left hm0 _) B h7 ⟨bj8.1, (Nat.lt_add_right _ bj8.2)⟩ ⟨bj9.1, (Nat.lt_add_right _ bj9.2.1), bj9.2.2⟩ _ q69) ?_
  rintro e w71 ⟨c70, rfl, E72, B73, h74⟩
  refine ⟨_, rfl, fun a F => ?_⟩
  have B := B73
  replace hat16 := AT.ev hat16 E72 (nor bj4.2.1 bj4.2.2)
  replace h17 := AR.ev h17 E72 (nor (ne_z bj8.1) (ne_z bj9.1))
  replace E := E.trans E72 (fun x (q : x = j8 ∨ x = j9) => q.elim (fun q => Or.inl (Or.inl q)) (fun q => Or.inl (Or.inr (q))))
  refine nil ?_
  refine hK67 _ _ ?_
  refine wp_seq_k fun K76 hK76 => ?_
  refine reg ?_
  refine q_val F rfl rfl (by decide) (r_move F rfl) fun a F => ?_
  refine q_val F rfl rfl (by decide) (r_nil F rfl) fun a F => ?_
  refine q_val F rfl rfl (by decide) (r_move F rfl) fun a F => ?_
  refine nil ?_
  refine hK76 _ _ ?_
  refine wp_block ?_
  obtain ⟨x210, HL, HR209⟩ := bind_some H
  have J307 : ∀ (c308 : Nat → Nat) (w309 : World) (a : Act) (o306 : Option Wri), Fr a 76 [] → Ev (fun x => (x = j8 ∨ x = j9) ∨ m ≤ x) c0 w0 c308 w309 → CB (m + 3) c308 w309 → WR j8 j9 c308 w309 p6 o306 → shard_seats_lay.j6 o306 = some r → (bodyPost Try.prog Try.f49 (fun e w_ => ∃ (c_ : Nat → Nat), e = .returned (.tuple #[]) ∧ Ev (fun x => (x = j8 ∨ x = j9)) c0 w0 c_ w_ ∧ CB m c_ w_ ∧ WR j8 j9 c_ w_ p6 r) .normal) a w309 := by
   intro c308 w309 a o306 F E B h305 H
   unfold shard_seats_lay.j6 at H
   replace H := Option.some.inj H
   subst H
   first | refine out0n F rfl ?_ | refine inbN (out0n F rfl ?_) | refine inbN (inbN (out0n F rfl ?_)) | refine inbN (inbN (inbN (out0n F rfl ?_)))
   exact ⟨fun b_ => (fun x_ => if x_ < m then x_ else 0) (c308 b_), rfl, E.leave B0 (fun x_ => if x_ < m then x_ else 0) (by intro x_ hx_; show (if x_ < m then x_ else 0) = x_; ((repeat' split) <;> omega)), (fun b_ hb_ => by show (if (c308 b_) < m then (c308 b_) else 0) < m; ((repeat' split) <;> omega)), WR.rc h305 (fun k_ hk_ => by show (if (c308 k_) < m then (c308 k_) else 0) = _; rw [hk_]; ((repeat' split) <;> omega)) (fun k_ hk_ => by show (if (c308 k_) < m then (c308 k_) else 0) = _; rw [hk_]; ((repeat' split) <;> omega)) (fun k_ hk_ => by show (if (c308 k_) < m then (c308 k_) else 0) = _; rw [hk_]; ((repeat' split) <;> omega))⟩
  refine loop_fuel (I := fun n a w => ∃ (o199 : Option Wri) (i200 : Int) (c : Nat → Nat), Fr a 76 [(1, .pointer p6), (26, .pointer (some ad13)), (28, .int .i64 i200)] ∧ Ev (fun x => (x = j8 ∨ x = j9) ∨ m ≤ x) c0 w0 c w ∧ CB (m + 3) c w ∧ AT false j4 c w ad13 (([] : List Value) ++ (cs14 ++ (([] : List Value)))) ∧ AR K_api_Seat 0 c w cs14 16 a1 ∧ WR j8 j9 c w p6 o199 ∧ loop (fun (s_ : (Option Wri) × Int) => shard_seats_lay.b5 k a1 s_.1 s_.2) n (o199, i200) = some x210) (k := k) ⟨t68, 0, c70, F.sub ⟨rfl, rfl, rfl, trivial⟩, E, B, hat16, h17, h74, HL⟩ ?_
  clear HL H E F B
  intro n207 X203 hX203 a w202 ⟨o199, i200, c201, F, E, B, hat16, h17, h198, HL⟩
  obtain ⟨n208, ctl206, rfl, HB, HN204, HD205⟩ := loop_some HL
  have H : shard_seats_lay.b5 k a1 o199 i200 = some ctl206 := HB
  clear HB HL
  unfold shard_seats_lay.b5 at H
  refine wp_seq_k fun K211 hK211 => ?_
  refine reg ?_
  refine q_val F rfl rfl (by decide) (r_lss F rfl rfl) fun a F => ?_
  refine nil ?_
  refine hK211 _ _ ?_
  refine wp_seq_k fun K212 hK212 => ?_
  by_cases hb213 : i200 < 16
  ·replace H := (if_pos hb213).symm.trans H
   refine wp_cond_true ((F.ev rfl).trans (congrArg Value.bool (decide_eq_true hb213))) ?_
   refine wp_skip ?_
   refine hK212 _ _ ?_
   refine wp_seq_k fun K214 hK214 => ?_
   refine wp_block ?_
   refine wp_seq_k fun K215 hK215 => ?_
   refine reg ?_
   refine q_val F rfl rfl (by decide) (r_nil F rfl) fun a F => ?_
   replace H := ifN H
   obtain ⟨g216, H⟩ := H
   obtain ⟨cs218, h219, r220⟩ := AR.at hat16 rfl h17 i200 g216.1 (by have g_ := g216.2; omega)
   obtain ⟨A222, C223, A225, C226, rfl, h224, h227⟩ := r220
   replace h224 := SL.fl (i' := 0) h224 (fun q => q)
   replace h227 := SL.fl (i' := 0) h227 (fun q => q)
   obtain ⟨qa221, qqa221⟩ : ∃ q, q = (ad13.add (0 + i200.toNat * 7)) := ⟨_, rfl⟩
   have h219 : AT false j4 c201 w202 qa221 [.int .i64 ((rd a1 i200).Client), .int .i64 ((rd a1 i200).Seq), .bool (((rd a1 i200).Answer).Done), .slice A222 (((rd a1 i200).Answer).Key).length C223, .slice A225 (((rd a1 i200).Answer).Value).length C226, .int .i64 (((rd a1 i200).Answer).Rev), .int .i64 (((rd a1 i200).Answer).At)] := by rw [qqa221]; exact h219
   refine q_val F rfl rfl (by decide) (r_indexArr0 F ua_74 sz_36 rfl rfl g216.1 (by have g_ := g216.2; omega) qqa221) fun a F => ?_
   refine q_val F rfl rfl (by decide) (r_loads (cs := [.int .i64 ((rd a1 i200).Client), .int .i64 ((rd a1 i200).Seq), .bool (((rd a1 i200).Answer).Done), .slice A222 (((rd a1 i200).Answer).Key).length C223, .slice A225 (((rd a1 i200).Answer).Value).length C226, .int .i64 (((rd a1 i200).Answer).Rev), .int .i64 (((rd a1 i200).Answer).At)]) F rfl ag_36 sz_36 h219) fun a F => ?_
   refine q_eff F rfl rfl (by decide) (e_alloc F zv_36 c201 (m + 2)) ?_
   rintro v w230 a ⟨c229, qa108, rfl, E231, h110, B232⟩ F
   replace B := B232 _ B (Nat.add_lt_add_left (by decide) m)
   replace hat16 := AT.ev hat16 E231 (fun q => q.elim)
   replace h17 := AR.ev h17 E231 (fun q => q.elim)
   replace h198 := WR.ev h198 E231 (fun q => q.elim) (fun q => q.elim) (fun q => q.elim)
   replace h224 := SL.ev h224 E231 (fun q => q.elim) (fun q => q.elim)
   replace h227 := SL.ev h227 E231 (fun q => q.elim) (fun q => q.elim)
   replace h219 := AT.ev h219 E231 (fun q => q.elim)
   replace E := E.trans E231 (fun x q => q.elim)
   replace h110 : AT true (m + 2) c229 w230 qa108 [.int .i64 0, .int .i64 0, .bool false, .slice none 0 0, .slice none 0 0, .int .i64 0, .int .i64 0] := h110
   refine q_eff0 F rfl rfl (e_storeN0 (us := [.int .i64 ((rd a1 i200).Client), .int .i64 ((rd a1 i200).Seq), .bool (((rd a1 i200).Answer).Done), .slice A222 (((rd a1 i200).Answer).Key).length C223, .slice A225 (((rd a1 i200).Answer).Value).length C226, .int .i64 (((rd a1 i200).Answer).Rev), .int .i64 (((rd a1 i200).Answer).At)]) F rfl rfl sz_36 h110 (Nat.le_of_ble_eq_true rfl) (one_all rfl)) ?_
   rintro w233 a ⟨E234, h110, Z235⟩ F
   replace B := B.size Z235
   replace hat16 := AT.ev hat16 E234 (ne_pm bj4.1)
   replace h17 := AR.ev h17 E234 ne_zm
   replace h198 := WR.ev h198 E234 (ne_pm bj8.2) (ne_pm bj9.2.1) ne_zm
   replace h224 := SL.ev h224 E234 ne_zm ne_zm
   replace h227 := SL.ev h227 E234 ne_zm ne_zm
   replace h219 := AT.ev h219 E234 (ne_pm bj4.1)
   replace E := E.trans E234 (fun x (q : x = m + 2) => Or.inr (le_col q))
   replace h110 : AT true (m + 2) c229 w233 qa108 [.int .i64 ((rd a1 i200).Client), .int .i64 ((rd a1 i200).Seq), .bool (((rd a1 i200).Answer).Done), .slice A222 (((rd a1 i200).Answer).Key).length C223, .slice A225 (((rd a1 i200).Answer).Value).length C226, .int .i64 (((rd a1 i200).Answer).Rev), .int .i64 (((rd a1 i200).Answer).At)] := h110
   refine nil ?_
   refine hK215 _ _ ?_
   refine wp_seq_k fun K236 hK236 => ?_
   refine wp_seq_k fun K237 hK237 => ?_
   refine reg ?_
   refine q_val F rfl rfl (by decide) (r_fieldAddr F rfl ff_36_1) fun a F => ?_
   refine q_val F rfl rfl (by decide) (r_load F rfl ag_3 (AT.cell h110 rfl)) fun a F => ?_
   refine q_val F rfl rfl (by decide) (r_eql F rfl rfl) fun a F => ?_
   refine nil ?_
   refine hK237 _ _ ?_
   by_cases hb238 : ((rd a1 i200).Seq) = 0
   ·replace H := (if_pos hb238).symm.trans H
    refine wp_cond_true ((F.ev rfl).trans (congrArg Value.bool (decide_eq_true hb238))) ?_
    refine wp_exit ?_
    refine thenE ?_
    refine inbE ?_
    refine hK214 _ _ ?_
    replace F : Fr a 76 [(1, .pointer p6), (26, .pointer (some ad13)), (28, .int .i64 i200)] := F.sub ⟨rfl, rfl, rfl, trivial⟩
    refine reg ?_
    refine q_val F rfl rfl (by decide) (r_add F rfl rfl) fun a F => ?_
    refine q_val F rfl rfl (by decide) (r_move F rfl) fun a F => ?_
    refine nil ?_
    replace H := HN204 _ (Option.some.inj H).symm
    exact hX203 _ _ _ (Nat.lt_succ_self _) ⟨o199, (IntKind.i64.wrap (i200 + 1)), c229, F.sub ⟨rfl, rfl, rfl, trivial⟩, E, B, hat16, h17, h198, H⟩
   ·replace H := (if_neg hb238).symm.trans H
    refine wp_cond_false ((F.ev rfl).trans (congrArg Value.bool (decide_eq_false hb238))) ?_
    refine wp_skip ?_
    refine hK236 _ _ ?_
    refine wp_seq_k fun K239 hK239 => ?_
    refine reg ?_
    refine q_val F rfl rfl (by decide) (r_move F rfl) fun a F => ?_
    refine q_val F rfl rfl (by decide) (r_fieldAddr F rfl ff_36_0) fun a F => ?_
    refine q_val F rfl rfl (by decide) (r_load F rfl ag_3 (AT.cell h110 rfl)) fun a F => ?_
    refine q_val F rfl rfl (by decide) (r_convi F Try.underlying55 rfl rfl) fun a F => ?_
    replace H := bind_some H
    obtain ⟨t120, q121, H⟩ := H
    refine q_call F rfl rfl (by decide) (r_call F Try.func54 rfl (by kernel_rfl) rfl) (parcel_Writer_Num.calls k (m := m + 3) (Nat.add_pos_left hm0 _) B h198 ⟨bj8.1, (Nat.lt_add_right _ bj8.2)⟩ ⟨bj9.1, (Nat.lt_add_right _ bj9.2.1), bj9.2.2⟩ _ q121) ?_
    rintro e w241 ⟨c240, rfl, E242, B243, h244⟩
    refine ⟨_, rfl, fun a F => ?_⟩
    have B := B243
    replace hat16 := AT.ev hat16 E242 (nor bj4.2.1 bj4.2.2)
    replace h17 := AR.ev h17 E242 (nor (ne_z bj8.1) (ne_z bj9.1))
    replace h224 := SL.ev h224 E242 (nor (ne_z bj8.1) (ne_z bj9.1)) (nor (ne_z bj8.1) (ne_z bj9.1))
    replace h227 := SL.ev h227 E242 (nor (ne_z bj8.1) (ne_z bj9.1)) (nor (ne_z bj8.1) (ne_z bj9.1))
    replace h219 := AT.ev h219 E242 (nor bj4.2.1 bj4.2.2)
    replace h110 := AT.ev h110 E242 (nor (ne_mp bj8.2) (ne_mp bj9.2.1))
    replace E := E.trans E242 (fun x (q : x = j8 ∨ x = j9) => q.elim (fun q => Or.inl (Or.inl q)) (fun q => Or.inl (Or.inr (q))))
    refine nil ?_
    refine hK239 _ _ ?_
    replace F : Fr a 76 [(1, .pointer p6), (8, .pointer (some qa108)), (26, .pointer (some ad13)), (28, .int .i64 i200)] := F.sub ⟨rfl, rfl, rfl, rfl, trivial⟩
    refine wp_seq_k fun K246 hK246 => ?_
    refine reg ?_
    refine q_val F rfl rfl (by decide) (r_move F rfl) fun a F => ?_
    refine q_val F rfl rfl (by decide) (r_fieldAddr F rfl ff_36_1) fun a F => ?_
    refine q_val F rfl rfl (by decide) (r_load F rfl ag_3 (AT.cell h110 rfl)) fun a F => ?_
    refine q_val F rfl rfl (by decide) (r_convi F Try.underlying55 rfl rfl) fun a F => ?_
    replace H := bind_some H
    obtain ⟨t129, q130, H⟩ := H
    refine q_call F rfl rfl (by decide) (r_call F Try.func54 rfl (by kernel_rfl) rfl) (parcel_Writer_Num.calls k (m := m + 3) (Nat.add_pos_left hm0 _) B h244 ⟨bj8.1, (Nat.lt_add_right _ bj8.2)⟩ ⟨bj9.1, (Nat.lt_add_right _ bj9.2.1), bj9.2.2⟩ _ q130) ?_
    rintro e w248 ⟨c247, rfl, E249, B250, h251⟩
    refine ⟨_, rfl, fun a F => ?_⟩
    have B := B250
    replace hat16 := AT.ev hat16 E249 (nor bj4.2.1 bj4.2.2)
    replace h17 := AR.ev h17 E249 (nor (ne_z bj8.1) (ne_z bj9.1))
    replace h224 := SL.ev h224 E249 (nor (ne_z bj8.1) (ne_z bj9.1)) (nor (ne_z bj8.1) (ne_z bj9.1))
    replace h227 := SL.ev h227 E249 (nor (ne_z bj8.1) (ne_z bj9.1)) (nor (ne_z bj8.1) (ne_z bj9.1))
    replace h219 := AT.ev h219 E249 (nor bj4.2.1 bj4.2.2)
    replace h110 := AT.ev h110 E249 (nor (ne_mp bj8.2) (ne_mp bj9.2.1))
    replace E := E.trans E249 (fun x (q : x = j8 ∨ x = j9) => q.elim (fun q => Or.inl (Or.inl q)) (fun q => Or.inl (Or.inr (q))))
    refine nil ?_
    refine hK246 _ _ ?_
    refine wp_seq_k fun K253 hK253 => ?_
    have J271 : ∀ (c272 : Nat → Nat) (w273 : World) (a : Act) (o270 : Option Wri), Fr a 76 [(1, .pointer p6), (8, .pointer (some qa108)), (26, .pointer (some ad13)), (28, .int .i64 i200)] → Ev (fun x => (x = j8 ∨ x = j9) ∨ m ≤ x) c0 w0 c272 w273 → CB (m + 3) c272 w273 → AT true (m + 2) c272 w273 qa108 [.int .i64 ((rd a1 i200).Client), .int .i64 ((rd a1 i200).Seq), .bool (((rd a1 i200).Answer).Done), .slice A222 (((rd a1 i200).Answer).Key).length C223, .slice A225 (((rd a1 i200).Answer).Value).length C226, .int .i64 (((rd a1 i200).Answer).Rev), .int .i64 (((rd a1 i200).Answer).At)] → AT false j4 c272 w273 ad13 (([] : List Value) ++ (cs14 ++ (([] : List Value)))) → SL false (Kint .u8) 0 0 c272 w273 A222 C223 (((rd a1 i200).Answer).Key) → SL false (Kint .u8) 0 0 c272 w273 A225 C226 (((rd a1 i200).Answer).Value) → AR K_api_Seat 0 c272 w273 cs14 16 a1 → WR j8 j9 c272 w273 p6 o270 → shard_seats_lay.j4 k a1 i200 o270 = some ctl206 → K253 a w273 := by
     intro c272 w273 a o270 F E B h110 hat16 h224 h227 h17 h269 H
     unfold shard_seats_lay.j4 at H
     refine hK253 _ _ ?_
     refine wp_seq_k fun K274 hK274 => ?_
     refine reg ?_
     refine q_val F rfl rfl (by decide) (r_move F rfl) fun a F => ?_
     refine q_val F rfl rfl (by decide) (r_fieldAddr F rfl ff_36_2) fun a F => ?_
     refine q_val F rfl rfl (by decide) (r_fieldAddr2 F h110 rfl ff_34_1) fun a F => ?_
     refine q_val F rfl rfl (by decide) (r_load F rfl ag_28 (AT.cell h110 rfl)) fun a F => ?_
     replace H := bind_some H
     obtain ⟨t163, q164, H⟩ := H
     refine q_call F rfl rfl (by decide) (r_call F Try.func47 rfl (by kernel_rfl) rfl) (parcel_Writer_Text.calls k (m := m + 3) (Nat.add_pos_left hm0 _) B h269 h224 ⟨bj8.1, (Nat.lt_add_right _ bj8.2)⟩ ⟨bj9.1, (Nat.lt_add_right _ bj9.2.1), bj9.2.2⟩ _ q164) ?_
     rintro e w276 ⟨c275, rfl, E277, B278, h279⟩
     refine ⟨_, rfl, fun a F => ?_⟩
     have B := B278
     replace h110 := AT.ev h110 E277 (nor (ne_mp bj8.2) (ne_mp bj9.2.1))
     replace hat16 := AT.ev hat16 E277 (nor bj4.2.1 bj4.2.2)
     replace h224 := SL.ev h224 E277 (nor (ne_z bj8.1) (ne_z bj9.1)) (nor (ne_z bj8.1) (ne_z bj9.1))
     replace h227 := SL.ev h227 E277 (nor (ne_z bj8.1) (ne_z bj9.1)) (nor (ne_z bj8.1) (ne_z bj9.1))
     replace h17 := AR.ev h17 E277 (nor (ne_z bj8.1) (ne_z bj9.1))
     replace E := E.trans E277 (fun x (q : x = j8 ∨ x = j9) => q.elim (fun q => Or.inl (Or.inl q)) (fun q => Or.inl (Or.inr (q))))
     refine nil ?_
     refine hK274 _ _ ?_
     refine wp_seq_k fun K281 hK281 => ?_
     refine reg ?_
     refine q_val F rfl rfl (by decide) (r_move F rfl) fun a F => ?_
     refine q_val F rfl rfl (by decide) (r_fieldAddr F rfl ff_36_2) fun a F => ?_
     refine q_val F rfl rfl (by decide) (r_fieldAddr2 F h110 rfl ff_34_2) fun a F => ?_
     refine q_val F rfl rfl (by decide) (r_load F rfl ag_28 (AT.cell h110 rfl)) fun a F => ?_
     replace H := bind_some H
     obtain ⟨t172, q173, H⟩ := H
     refine q_call F rfl rfl (by decide) (r_call F Try.func47 rfl (by kernel_rfl) rfl) (parcel_Writer_Text.calls k (m := m + 3) (Nat.add_pos_left hm0 _) B h279 h227 ⟨bj8.1, (Nat.lt_add_right _ bj8.2)⟩ ⟨bj9.1, (Nat.lt_add_right _ bj9.2.1), bj9.2.2⟩ _ q173) ?_
     rintro e w283 ⟨c282, rfl, E284, B285, h286⟩
     refine ⟨_, rfl, fun a F => ?_⟩
     have B := B285
     replace h110 := AT.ev h110 E284 (nor (ne_mp bj8.2) (ne_mp bj9.2.1))
     replace hat16 := AT.ev hat16 E284 (nor bj4.2.1 bj4.2.2)
     replace h224 := SL.ev h224 E284 (nor (ne_z bj8.1) (ne_z bj9.1)) (nor (ne_z bj8.1) (ne_z bj9.1))
     replace h227 := SL.ev h227 E284 (nor (ne_z bj8.1) (ne_z bj9.1)) (nor (ne_z bj8.1) (ne_z bj9.1))
     replace h17 := AR.ev h17 E284 (nor (ne_z bj8.1) (ne_z bj9.1))
     replace E := E.trans E284 (fun x (q : x = j8 ∨ x = j9) => q.elim (fun q => Or.inl (Or.inl q)) (fun q => Or.inl (Or.inr (q))))
     refine nil ?_
     refine hK281 _ _ ?_
     replace F : Fr a 76 [(1, .pointer p6), (8, .pointer (some qa108)), (26, .pointer (some ad13)), (28, .int .i64 i200)] := F.sub ⟨rfl, rfl, rfl, rfl, trivial⟩
     refine wp_seq_k fun K288 hK288 => ?_
     refine reg ?_
     refine q_val F rfl rfl (by decide) (r_move F rfl) fun a F => ?_
     refine q_val F rfl rfl (by decide) (r_fieldAddr F rfl ff_36_2) fun a F => ?_
     refine q_val F rfl rfl (by decide) (r_fieldAddr2 F h110 rfl ff_34_3) fun a F => ?_
     refine q_val F rfl rfl (by decide) (r_load F rfl ag_3 (AT.cell h110 rfl)) fun a F => ?_
     refine q_val F rfl rfl (by decide) (r_convi F Try.underlying55 rfl rfl) fun a F => ?_
     replace H := bind_some H
     obtain ⟨t181, q182, H⟩ := H
     refine q_call F rfl rfl (by decide) (r_call F Try.func54 rfl (by kernel_rfl) rfl) (parcel_Writer_Num.calls k (m := m + 3) (Nat.add_pos_left hm0 _) B h286 ⟨bj8.1, (Nat.lt_add_right _ bj8.2)⟩ ⟨bj9.1, (Nat.lt_add_right _ bj9.2.1), bj9.2.2⟩ _ q182) ?_
     rintro e w290 ⟨c289, rfl, E291, B292, h293⟩
     refine ⟨_, rfl, fun a F => ?_⟩
     have B := B292
     replace h110 := AT.ev h110 E291 (nor (ne_mp bj8.2) (ne_mp bj9.2.1))
     replace hat16 := AT.ev hat16 E291 (nor bj4.2.1 bj4.2.2)
     replace h224 := SL.ev h224 E291 (nor (ne_z bj8.1) (ne_z bj9.1)) (nor (ne_z bj8.1) (ne_z bj9.1))
     replace h227 := SL.ev h227 E291 (nor (ne_z bj8.1) (ne_z bj9.1)) (nor (ne_z bj8.1) (ne_z bj9.1))
     replace h17 := AR.ev h17 E291 (nor (ne_z bj8.1) (ne_z bj9.1))
     replace E := E.trans E291 (fun x (q : x = j8 ∨ x = j9) => q.elim (fun q => Or.inl (Or.inl q)) (fun q => Or.inl (Or.inr (q))))
     refine nil ?_
     refine hK288 _ _ ?_
     refine reg ?_
     refine q_val F rfl rfl (by decide) (r_move F rfl) fun a F => ?_
     refine q_val F rfl rfl (by decide) (r_fieldAddr F rfl ff_36_2) fun a F => ?_
     refine q_val F rfl rfl (by decide) (r_fieldAddr2 F h110 rfl ff_34_4) fun a F => ?_
     refine q_val F rfl rfl (by decide) (r_load F rfl ag_3 (AT.cell h110 rfl)) fun a F => ?_
     refine q_val F rfl rfl (by decide) (r_convi F Try.underlying55 rfl rfl) fun a F => ?_
     replace H := bind_some H
     obtain ⟨t189, q190, H⟩ := H
     refine q_call F rfl rfl (by decide) (r_call F Try.func54 rfl (by kernel_rfl) rfl) (parcel_Writer_Num.calls k (m := m + 3) (Nat.add_pos_left hm0 _) B h293 ⟨bj8.1, (Nat.lt_add_right _ bj8.2)⟩ ⟨bj9.1, (Nat.lt_add_right _ bj9.2.1), bj9.2.2⟩ _ q190) ?_
     rintro e w296 ⟨c295, rfl, E297, B298, h299⟩
     refine ⟨_, rfl, fun a F => ?_⟩
     have B := B298
     replace h110 := AT.ev h110 E297 (nor (ne_mp bj8.2) (ne_mp bj9.2.1))
     replace hat16 := AT.ev hat16 E297 (nor bj4.2.1 bj4.2.2)
     replace h224 := SL.ev h224 E297 (nor (ne_z bj8.1) (ne_z bj9.1)) (nor (ne_z bj8.1) (ne_z bj9.1))
     replace h227 := SL.ev h227 E297 (nor (ne_z bj8.1) (ne_z bj9.1)) (nor (ne_z bj8.1) (ne_z bj9.1))
     replace h17 := AR.ev h17 E297 (nor (ne_z bj8.1) (ne_z bj9.1))
     replace E := E.trans E297 (fun x (q : x = j8 ∨ x = j9) => q.elim (fun q => Or.inl (Or.inl q)) (fun q => Or.inl (Or.inr (q))))
     refine nil ?_
     refine hK214 _ _ ?_
     replace F : Fr a 76 [(1, .pointer p6), (26, .pointer (some ad13)), (28, .int .i64 i200)] := F.sub ⟨rfl, rfl, rfl, trivial⟩
     refine reg ?_
     refine q_val F rfl rfl (by decide) (r_add F rfl rfl) fun a F => ?_
     refine q_val F rfl rfl (by decide) (r_move F rfl) fun a F => ?_
     refine nil ?_
     replace H := HN204 _ (Option.some.inj H).symm
     exact hX203 _ _ _ (Nat.lt_succ_self _) ⟨t189, (IntKind.i64.wrap (i200 + 1)), c295, F.sub ⟨rfl, rfl, rfl, trivial⟩, E, B, hat16, h17, h299, H⟩
    refine wp_seq_k fun K254 hK254 => ?_
    refine reg ?_
    refine q_val F rfl rfl (by decide) (r_fieldAddr F rfl ff_36_2) fun a F => ?_
    refine q_val F rfl rfl (by decide) (r_fieldAddr2 F h110 rfl ff_34_0) fun a F => ?_
    refine q_val F rfl rfl (by decide) (r_load F rfl ag_4 (AT.cell h110 rfl)) fun a F => ?_
    refine nil ?_
    refine hK254 _ _ ?_
    by_cases hb255 : (((rd a1 i200).Answer).Done) = true
    ·replace H := (if_pos hb255).symm.trans H
     refine wp_cond_true ((F.ev rfl).trans (congrArg Value.bool hb255)) ?_
     refine reg ?_
     refine q_val F rfl rfl (by decide) (r_move F rfl) fun a F => ?_
     replace H := bind_some H
     obtain ⟨t140, q141, H⟩ := H
     refine q_call F rfl rfl (by decide) (r_call F Try.func71 rfl (by kernel_rfl) rfl) (parcel_Writer_Byte.calls (m := m + 3) (Nat.add_pos_left hm0 _) B h251 ⟨bj8.1, (Nat.lt_add_right _ bj8.2)⟩ ⟨bj9.1, (Nat.lt_add_right _ bj9.2.1), bj9.2.2⟩ _ q141) ?_
     rintro e w257 ⟨c256, rfl, E258, B259, h260⟩
     refine ⟨_, rfl, fun a F => ?_⟩
     have B := B259
     replace hat16 := AT.ev hat16 E258 (nor bj4.2.1 bj4.2.2)
     replace h17 := AR.ev h17 E258 (nor (ne_z bj8.1) (ne_z bj9.1))
     replace h224 := SL.ev h224 E258 (nor (ne_z bj8.1) (ne_z bj9.1)) (nor (ne_z bj8.1) (ne_z bj9.1))
     replace h227 := SL.ev h227 E258 (nor (ne_z bj8.1) (ne_z bj9.1)) (nor (ne_z bj8.1) (ne_z bj9.1))
     replace h219 := AT.ev h219 E258 (nor bj4.2.1 bj4.2.2)
     replace h110 := AT.ev h110 E258 (nor (ne_mp bj8.2) (ne_mp bj9.2.1))
     replace E := E.trans E258 (fun x (q : x = j8 ∨ x = j9) => q.elim (fun q => Or.inl (Or.inl q)) (fun q => Or.inl (Or.inr (q))))
     refine nil ?_
     exact J271 c256 w257 a t140 (F.sub ⟨rfl, rfl, rfl, rfl, trivial⟩) E B h110 hat16 h224 h227 h17 h260 H
    ·replace H := (if_neg hb255).symm.trans H
     refine wp_cond_false ((F.ev rfl).trans (congrArg Value.bool (bfalse hb255))) ?_
     refine reg ?_
     refine q_val F rfl rfl (by decide) (r_move F rfl) fun a F => ?_
     replace H := bind_some H
     obtain ⟨t148, q149, H⟩ := H
     refine q_call F rfl rfl (by decide) (r_call F Try.func71 rfl (by kernel_rfl) rfl) (parcel_Writer_Byte.calls (m := m + 3) (Nat.add_pos_left hm0 _) B h251 ⟨bj8.1, (Nat.lt_add_right _ bj8.2)⟩ ⟨bj9.1, (Nat.lt_add_right _ bj9.2.1), bj9.2.2⟩ _ q149) ?_
     rintro e w263 ⟨c262, rfl, E264, B265, h266⟩
     refine ⟨_, rfl, fun a F => ?_⟩
     have B := B265
     replace hat16 := AT.ev hat16 E264 (nor bj4.2.1 bj4.2.2)
     replace h17 := AR.ev h17 E264 (nor (ne_z bj8.1) (ne_z bj9.1))
     replace h224 := SL.ev h224 E264 (nor (ne_z bj8.1) (ne_z bj9.1)) (nor (ne_z bj8.1) (ne_z bj9.1))
     replace h227 := SL.ev h227 E264 (nor (ne_z bj8.1) (ne_z bj9.1)) (nor (ne_z bj8.1) (ne_z bj9.1))
     replace h219 := AT.ev h219 E264 (nor bj4.2.1 bj4.2.2)
     replace h110 := AT.ev h110 E264 (nor (ne_mp bj8.2) (ne_mp bj9.2.1))
     replace E := E.trans E264 (fun x (q : x = j8 ∨ x = j9) => q.elim (fun q => Or.inl (Or.inl q)) (fun q => Or.inl (Or.inr (q))))
     refine nil ?_
     exact J271 c262 w263 a t148 (F.sub ⟨rfl, rfl, rfl, rfl, trivial⟩) E B h110 hat16 h224 h227 h17 h266 H
  ·replace H := (if_neg hb213).symm.trans H
   refine wp_cond_false ((F.ev rfl).trans (congrArg Value.bool (decide_eq_false hb213))) ?_
   refine wp_exit ?_
   refine thenE ?_
   refine thenE ?_
   refine inbE ?_
   have hx_ := HD205 _ (Option.some.inj H).symm
   have H := HR209
   rw [← hx_] at H
   exact J307 c201 w202 a o199 (F.sub trivial) E B h198 H
 refine loop_fuel (I := fun n a w => ∃ (i19 : Int) (i20 : Int) (c : Nat → Nat), Fr a 76 [(0, .pointer (some ad13)), (1, .pointer p6), (4, .int .i64 i19), (9, .pointer (some ad13)), (11, .int .i64 i20)] ∧ Ev (fun x => (x = j8 ∨ x = j9) ∨ m ≤ x) c0 w0 c w ∧ CB (m + 3) c w ∧ AT false j4 c w ad13 (([] : List Value) ++ (cs14 ++ (([] : List Value)))) ∧ AR K_api_Seat 0 c w cs14 16 a1 ∧ WR j8 j9 c w p6 a5 ∧ loop (fun (s_ : Int × Int) => shard_seats_lay.b1 a1 s_.1 s_.2) n (i19, i20) = some x30) (k := k) ⟨0, 0, c0, F.sub ⟨rfl, rfl, rfl, rfl, rfl, trivial⟩, E, B, hat16, h17, h7, HL⟩ ?_
 clear HL H E F B
 intro n27 X23 hX23 a w22 ⟨i19, i20, c21, F, E, B, hat16, h17, h7, HL⟩
 obtain ⟨n28, ctl26, rfl, HB, HN24, HD25⟩ := loop_some HL
 have H : shard_seats_lay.b1 a1 i19 i20 = some ctl26 := HB
 clear HB HL
 unfold shard_seats_lay.b1 at H
 refine wp_seq_k fun K31 hK31 => ?_
 refine reg ?_
 refine q_val F rfl rfl (by decide) (r_lss F rfl rfl) fun a F => ?_
 refine nil ?_
 refine hK31 _ _ ?_
 refine wp_seq_k fun K32 hK32 => ?_
 by_cases hb33 : i20 < 16
 ·replace H := (if_pos hb33).symm.trans H
  refine wp_cond_true ((F.ev rfl).trans (congrArg Value.bool (decide_eq_true hb33))) ?_
  refine wp_skip ?_
  refine hK32 _ _ ?_
  refine wp_seq_k fun K34 hK34 => ?_
  refine wp_block ?_
  refine wp_seq_k fun K35 hK35 => ?_
  refine reg ?_
  refine q_val F rfl rfl (by decide) (r_nil F rfl) fun a F => ?_
  replace H := ifN H
  obtain ⟨g36, H⟩ := H
  obtain ⟨cs38, h39, r40⟩ := AR.at hat16 rfl h17 i20 g36.1 (by have g_ := g36.2; omega)
  obtain ⟨A42, C43, A45, C46, rfl, h44, h47⟩ := r40
  replace h44 := SL.fl (i' := 0) h44 (fun q => q)
  replace h47 := SL.fl (i' := 0) h47 (fun q => q)
  obtain ⟨qa41, qqa41⟩ : ∃ q, q = (ad13.add (0 + i20.toNat * 7)) := ⟨_, rfl⟩
  have h39 : AT false j4 c21 w22 qa41 [.int .i64 ((rd a1 i20).Client), .int .i64 ((rd a1 i20).Seq), .bool (((rd a1 i20).Answer).Done), .slice A42 (((rd a1 i20).Answer).Key).length C43, .slice A45 (((rd a1 i20).Answer).Value).length C46, .int .i64 (((rd a1 i20).Answer).Rev), .int .i64 (((rd a1 i20).Answer).At)] := by rw [qqa41]; exact h39
  refine q_val F rfl rfl (by decide) (r_indexArr0 F ua_74 sz_36 rfl rfl g36.1 (by have g_ := g36.2; omega) qqa41) fun a F => ?_
  refine q_val F rfl rfl (by decide) (r_loads (cs := [.int .i64 ((rd a1 i20).Client), .int .i64 ((rd a1 i20).Seq), .bool (((rd a1 i20).Answer).Done), .slice A42 (((rd a1 i20).Answer).Key).length C43, .slice A45 (((rd a1 i20).Answer).Value).length C46, .int .i64 (((rd a1 i20).Answer).Rev), .int .i64 (((rd a1 i20).Answer).At)]) F rfl ag_36 sz_36 h39) fun a F => ?_
  refine q_eff F rfl rfl (by decide) (e_alloc F zv_36 c21 (m + 1)) ?_
  rintro v w50 a ⟨c49, qa51, rfl, E52, h53, B54⟩ F
  replace B := B54 _ B (Nat.add_lt_add_left (by decide) m)
  replace hat16 := AT.ev hat16 E52 (fun q => q.elim)
  replace h17 := AR.ev h17 E52 (fun q => q.elim)
  replace h7 := WR.ev h7 E52 (fun q => q.elim) (fun q => q.elim) (fun q => q.elim)
  replace h44 := SL.ev h44 E52 (fun q => q.elim) (fun q => q.elim)
  replace h47 := SL.ev h47 E52 (fun q => q.elim) (fun q => q.elim)
  replace h39 := AT.ev h39 E52 (fun q => q.elim)
  replace E := E.trans E52 (fun x q => q.elim)
  replace h53 : AT true (m + 1) c49 w50 qa51 [.int .i64 0, .int .i64 0, .bool false, .slice none 0 0, .slice none 0 0, .int .i64 0, .int .i64 0] := h53
  refine q_eff0 F rfl rfl (e_storeN0 (us := [.int .i64 ((rd a1 i20).Client), .int .i64 ((rd a1 i20).Seq), .bool (((rd a1 i20).Answer).Done), .slice A42 (((rd a1 i20).Answer).Key).length C43, .slice A45 (((rd a1 i20).Answer).Value).length C46, .int .i64 (((rd a1 i20).Answer).Rev), .int .i64 (((rd a1 i20).Answer).At)]) F rfl rfl sz_36 h53 (Nat.le_of_ble_eq_true rfl) (one_all rfl)) ?_
  rintro w56 a ⟨E57, h53, Z58⟩ F
  replace B := B.size Z58
  replace hat16 := AT.ev hat16 E57 (ne_pm bj4.1)
  replace h17 := AR.ev h17 E57 ne_zm
  replace h7 := WR.ev h7 E57 (ne_pm bj8.2) (ne_pm bj9.2.1) ne_zm
  replace h44 := SL.ev h44 E57 ne_zm ne_zm
  replace h47 := SL.ev h47 E57 ne_zm ne_zm
  replace h39 := AT.ev h39 E57 (ne_pm bj4.1)
  replace E := E.trans E57 (fun x (q : x = m + 1) => Or.inr (le_col q))
  replace h53 : AT true (m + 1) c49 w56 qa51 [.int .i64 ((rd a1 i20).Client), .int .i64 ((rd a1 i20).Seq), .bool (((rd a1 i20).Answer).Done), .slice A42 (((rd a1 i20).Answer).Key).length C43, .slice A45 (((rd a1 i20).Answer).Value).length C46, .int .i64 (((rd a1 i20).Answer).Rev), .int .i64 (((rd a1 i20).Answer).At)] := h53
  refine nil ?_
  refine hK35 _ _ ?_
  refine wp_seq_k fun K59 hK59 => ?_
  refine reg ?_
  refine q_val F rfl rfl (by decide) (r_fieldAddr F rfl ff_36_1) fun a F => ?_
  refine q_val F rfl rfl (by decide) (r_load F rfl ag_3 (AT.cell h53 rfl)) fun a F => ?_
  refine q_val F rfl rfl (by decide) (r_gtr F rfl rfl) fun a F => ?_
  refine nil ?_
  refine hK59 _ _ ?_
  by_cases hb60 : 0 < ((rd a1 i20).Seq)
  ·replace H := (if_pos hb60).symm.trans H
   refine wp_cond_true ((F.ev rfl).trans (congrArg Value.bool (decide_eq_true hb60))) ?_
   refine reg ?_
   refine q_val F rfl rfl (by decide) (r_move F rfl) fun a F => ?_
   refine q_val F rfl rfl (by decide) (r_add F rfl rfl) fun a F => ?_
   refine q_val F rfl rfl (by decide) (r_assign F rfl) fun a F => ?_
   refine nil ?_
   refine hK34 _ _ ?_
   replace F : Fr a 76 [(0, .pointer (some ad13)), (1, .pointer p6), (4, .int .i64 (IntKind.i64.wrap (i19 + 1))), (9, .pointer (some ad13)), (11, .int .i64 i20)] := F.sub ⟨rfl, rfl, rfl, rfl, rfl, trivial⟩
   refine reg ?_
   refine q_val F rfl rfl (by decide) (r_add F rfl rfl) fun a F => ?_
   refine q_val F rfl rfl (by decide) (r_move F rfl) fun a F => ?_
   refine nil ?_
   replace H := HN24 _ (Option.some.inj H).symm
   exact hX23 _ _ _ (Nat.lt_succ_self _) ⟨(IntKind.i64.wrap (i19 + 1)), (IntKind.i64.wrap (i20 + 1)), c49, F.sub ⟨rfl, rfl, rfl, rfl, rfl, trivial⟩, E, B, hat16, h17, h7, H⟩
  ·replace H := (if_neg hb60).symm.trans H
   refine wp_cond_false ((F.ev rfl).trans (congrArg Value.bool (decide_eq_false hb60))) ?_
   refine wp_skip ?_
   refine hK34 _ _ ?_
   replace F : Fr a 76 [(0, .pointer (some ad13)), (1, .pointer p6), (4, .int .i64 i19), (9, .pointer (some ad13)), (11, .int .i64 i20)] := F.sub ⟨rfl, rfl, rfl, rfl, rfl, trivial⟩
   refine reg ?_
   refine q_val F rfl rfl (by decide) (r_add F rfl rfl) fun a F => ?_
   refine q_val F rfl rfl (by decide) (r_move F rfl) fun a F => ?_
   refine nil ?_
   replace H := HN24 _ (Option.some.inj H).symm
   exact hX23 _ _ _ (Nat.lt_succ_self _) ⟨i19, (IntKind.i64.wrap (i20 + 1)), c49, F.sub ⟨rfl, rfl, rfl, rfl, rfl, trivial⟩, E, B, hat16, h17, h7, H⟩
 ·replace H := (if_neg hb33).symm.trans H
  refine wp_cond_false ((F.ev rfl).trans (congrArg Value.bool (decide_eq_false hb33))) ?_
  refine wp_exit ?_
  refine thenE ?_
  refine thenE ?_
  refine inbE ?_
  have hx_ := HD25 _ (Option.some.inj H).symm
  have H := HR29
  rw [← hx_] at H
  exact J64 c21 w22 a i19 (F.sub ⟨rfl, rfl, rfl, trivial⟩) E B hat16 h17 h7 H
end Go.Proofs.Ythankpjbfpcldaa.G
namespace Go.Proofs.Ythankpjbfpcldaa.G
open Go Go.RowKit
set_option linter.unusedVariables false
set_option linter.unusedSimpArgs false
set_option maxRecDepth 100000 in
set_option maxHeartbeats 4000000 in
theorem shard_seats_bytes.calls (k : Nat) {m : Nat} {c0 : Nat → Nat} {w0 : World} {j4 : Nat} {p2 : Option Addr} {a1 : List api_Seat} (hm0 : 0 < m) (B0 : CB m c0 w0) (h3 : SE j4 c0 w0 p2 a1) (bj4 : j4 < m) (r : (List Int)) (H : shard_seats_bytes.f k a1 = some r) : Calls Try.prog 59 #[.pointer p2] w0 (fun e w_ => ∃ (c_ : Nat → Nat) (A0_ : Option Addr) (C0_ : Nat), e = .returned (.slice A0_ r.length C0_) ∧ Ev (fun x => False) c0 w0 c_ w_ ∧ CB m c_ w_ ∧ SL false (Kint .u8) 0 0 c_ w_ A0_ C0_ r) := by
 unfold shard_seats_bytes.f at H
 have B := B0.mono (show m ≤ m + 3 by omega)
 have E : Ev (fun x => False ∨ m ≤ x) c0 w0 c0 w0 := Ev.refl
 refine enter (N := 16) (l := [.pointer p2]) Try.func59 rfl rfl (Nat.le_of_ble_eq_true rfl) fun a F => ?_
 refine wp_seq_k fun K5 hK5 => ?_
 refine reg ?_
 refine q_val F rfl rfl (by decide) (r_assign F rfl) fun a F => ?_
 refine nil ?_
 refine hK5 _ _ ?_
 refine wp_seq_k fun K6 hK6 => ?_
 refine reg ?_
 replace H := bind_some H
 obtain ⟨t7, q8, H⟩ := H
 refine q_call F rfl rfl (by decide) (r_call F Try.func46 rfl (by kernel_rfl) rfl) (parcel_New.calls (m := m + 3) (Nat.add_pos_left hm0 _) B (m + 1) (Nat.add_lt_add_left (by decide) m) (m + 2) (Nat.add_lt_add_left (by decide) m) _ q8) ?_
 rintro e w10 ⟨c9, p13, rfl, E11, B12, h14⟩
 refine ⟨_, rfl, fun a F => ?_⟩
 have B := B12
 replace h3 := SE.ev h3 E11 (fun q => q.elim) (fun q => q.elim)
 replace E := E.trans E11 (fun x q => q.elim)
 refine q_val F rfl rfl (by decide) (r_assign F rfl) fun a F => ?_
 refine nil ?_
 refine hK6 _ _ ?_
 refine wp_seq_k fun K16 hK16 => ?_
 refine reg ?_
 refine q_val F rfl rfl (by decide) (r_move F rfl) fun a F => ?_
 refine q_val F rfl rfl (by decide) (r_move F rfl) fun a F => ?_
 replace H := bind_some H
 obtain ⟨t17, q18, H⟩ := H
 refine q_call F rfl rfl (by decide) (r_call F Try.func49 rfl (by kernel_rfl) rfl) (shard_seats_lay.calls k (m := m + 3) (Nat.add_pos_left hm0 _) B h3 h14 ⟨(Nat.lt_add_right _ bj4), (ne_pm bj4), (ne_pm bj4)⟩ ⟨(Nat.add_pos_left hm0 _), (Nat.add_lt_add_left (by decide) m)⟩ ⟨(Nat.add_pos_left hm0 _), (Nat.add_lt_add_left (by decide) m), (ne_mm (by decide))⟩ _ q18) ?_
 rintro e w20 ⟨c19, rfl, E21, B22, h23⟩
 refine ⟨_, rfl, fun a F => ?_⟩
 have B := B22
 replace h3 := SE.ev h3 E21 (nor (ne_pm bj4) (ne_pm bj4)) (nor ne_zm ne_zm)
 replace E := E.trans E21 (fun x (q : x = m + 1 ∨ x = m + 2) => q.elim (fun q => Or.inr (le_col q)) (fun q => Or.inr (le_col q)))
 refine nil ?_
 refine hK16 _ _ ?_
 refine wp_seq_k fun K25 hK25 => ?_
 refine reg ?_
 refine q_val F rfl rfl (by decide) (r_move F rfl) fun a F => ?_
 replace H := bind_some H
 obtain ⟨t26, q27, H⟩ := H
 refine q_call F rfl rfl (by decide) (r_call F Try.func50 rfl (by kernel_rfl) rfl) (parcel_Writer_Done.calls (m := m + 3) (Nat.add_pos_left hm0 _) B h23 (Nat.add_lt_add_left (by decide) m) ⟨(Nat.add_lt_add_left (by decide) m), (ne_mm (by decide))⟩ 0 (Nat.add_pos_left hm0 _) _ q27) ?_
 rintro e w29 ⟨c28, A32, C33, rfl, E30, B31, h34⟩
 refine ⟨_, rfl, fun a F => ?_⟩
 have B := B31
 replace h3 := SE.ev h3 E30 (fun q => q.elim) (fun q => q.elim)
 replace h23 := WR.ev h23 E30 (fun q => q.elim) (fun q => q.elim) (fun q => q.elim)
 replace E := E.trans E30 (fun x q => q.elim)
 refine q_val F rfl rfl (by decide) (r_move F rfl) fun a F => ?_
 refine q_val F rfl rfl (by decide) (r_extract F rfl rfl) fun a F => ?_
 refine q_val F rfl rfl (by decide) (r_extract F rfl rfl) fun a F => ?_
 refine q_val F rfl rfl (by decide) (r_assign F rfl) fun a F => ?_
 refine q_val F rfl rfl (by decide) (r_assign F rfl) fun a F => ?_
 refine nil ?_
 refine hK25 _ _ ?_
 replace F : Fr a 16 [(4, .slice A32 t26.1.length C33)] := F.sub ⟨rfl, trivial⟩
 refine wp_seq_k fun K36 hK36 => ?_
 refine reg ?_
 refine q_val F rfl rfl (by decide) (r_move F rfl) fun a F => ?_
 refine q_val F rfl rfl (by decide) (r_assign F rfl) fun a F => ?_
 refine nil ?_
 refine hK36 _ _ ?_
 refine wp_ret ?_
 replace H := Option.some.inj H
 subst H
 refine out1 F rfl rfl ?_
 exact ⟨fun b_ => (fun x_ => if x_ < m then x_ else 0) (c28 b_), A32, C33, rfl, E.leave B0 (fun x_ => if x_ < m then x_ else 0) (by intro x_ hx_; show (if x_ < m then x_ else 0) = x_; ((repeat' split) <;> omega)), (fun b_ hb_ => by show (if (c28 b_) < m then (c28 b_) else 0) < m; ((repeat' split) <;> omega)), SL.rc h34.r (fun k_ hk_ => by show (if (c28 k_) < m then (c28 k_) else 0) = _; rw [hk_]; ((repeat' split) <;> omega)) (fun k_ hk_ => by show (if (c28 k_) < m then (c28 k_) else 0) = _; rw [hk_]; ((repeat' split) <;> omega))⟩
end Go.Proofs.Ythankpjbfpcldaa.G
namespace Go.Proofs.Ythankpjbfpcldaa.G
open Go Go.RowKit
set_option linter.unusedVariables false
set_option linter.unusedSimpArgs false
set_option maxRecDepth 100000 in
set_option maxHeartbeats 4000000 in
theorem table_num.calls (k : Nat) {m : Nat} {c0 : Nat → Nat} {w0 : World} {a1 : Int} (hm0 : 0 < m) (B0 : CB m c0 w0) (r : Int) (H : table_num.f k a1 = some r) : Calls Try.prog 83 #[.int .i64 a1] w0 (fun e w_ => ∃ (c_ : Nat → Nat), e = .returned (.int .i64 r) ∧ Ev (fun x => False) c0 w0 c_ w_ ∧ CB m c_ w_) := by
 unfold table_num.f at H
 have B := B0.mono (show m ≤ m + 1 by omega)
 have E : Ev (fun x => False ∨ m ≤ x) c0 w0 c0 w0 := Ev.refl
 refine enter (N := 11) (l := [.int .i64 a1]) Try.func83 rfl rfl (Nat.le_of_ble_eq_true rfl) fun a F => ?_
 refine wp_seq_k fun K2 hK2 => ?_
 refine reg ?_
 refine q_val F rfl rfl (by decide) (r_assign F rfl) fun a F => ?_
 refine nil ?_
 refine hK2 _ _ ?_
 refine wp_seq_k fun K3 hK3 => ?_
 refine reg ?_
 refine q_val F rfl rfl (by decide) (r_assign F rfl) fun a F => ?_
 refine nil ?_
 refine hK3 _ _ ?_
 refine wp_seq_k fun K4 hK4 => ?_
 refine wp_block ?_
 obtain ⟨x16, HL, HR15⟩ := bind_some H
 have J24 : ∀ (c25 : Nat → Nat) (w26 : World) (a : Act) (i23 : Int), Fr a 11 [(3, .int .i64 i23)] → Ev (fun x => False ∨ m ≤ x) c0 w0 c25 w26 → CB (m + 1) c25 w26 → table_num.j2 i23 = some r → K4 a w26 := by
  intro c25 w26 a i23 F E B  H
  unfold table_num.j2 at H
  refine hK4 _ _ ?_
  refine wp_seq_k fun K27 hK27 => ?_
  refine reg ?_
  refine q_val F rfl rfl (by decide) (r_move F rfl) fun a F => ?_
  refine q_val F rfl rfl (by decide) (r_assign F rfl) fun a F => ?_
  refine nil ?_
  refine hK27 _ _ ?_
  refine wp_ret ?_
  replace H := Option.some.inj H
  subst H
  refine out1 F rfl rfl ?_
  exact ⟨fun b_ => (fun x_ => if x_ < m then x_ else 0) (c25 b_), rfl, E.leave B0 (fun x_ => if x_ < m then x_ else 0) (by intro x_ hx_; show (if x_ < m then x_ else 0) = x_; ((repeat' split) <;> omega)), (fun b_ hb_ => by show (if (c25 b_) < m then (c25 b_) else 0) < m; ((repeat' split) <;> omega))⟩
 refine loop_fuel (I := fun n a w => ∃ (i5 : Int) (i6 : Int) (c : Nat → Nat), Fr a 11 [(0, .int .i64 i5), (3, .int .i64 i6)] ∧ Ev (fun x => False ∨ m ≤ x) c0 w0 c w ∧ CB (m + 1) c w ∧ loop (fun (s_ : Int × Int) => table_num.b1 s_.1 s_.2) n (i5, i6) = some x16) (k := k) ⟨a1, 1, c0, F.sub ⟨rfl, rfl, trivial⟩, E, B, HL⟩ ?_
 clear HL H E F B
 intro n13 X9 hX9 a w8 ⟨i5, i6, c7, F, E, B, HL⟩
 obtain ⟨n14, ctl12, rfl, HB, HN10, HD11⟩ := loop_some HL
 have H : table_num.b1 i5 i6 = some ctl12 := HB
 clear HB HL
 unfold table_num.b1 at H
 refine wp_seq_k fun K17 hK17 => ?_
 refine wp_seq_k fun K18 hK18 => ?_
 refine reg ?_
 refine q_val F rfl rfl (by decide) (r_move F rfl) fun a F => ?_
 refine q_val F rfl rfl (by decide) (r_gtr F rfl rfl) fun a F => ?_
 refine nil ?_
 refine hK18 _ _ ?_
 by_cases hb19 : 127 < i5
 ·replace H := (if_pos hb19).symm.trans H
  refine wp_cond_true ((F.ev rfl).trans (congrArg Value.bool (decide_eq_true hb19))) ?_
  refine wp_skip ?_
  refine hK17 _ _ ?_
  refine wp_seq_k fun K20 hK20 => ?_
  refine wp_block ?_
  refine reg ?_
  refine q_val F rfl rfl (by decide) (r_move F rfl) fun a F => ?_
  refine q_val F rfl rfl (by decide) (r_add F rfl rfl) fun a F => ?_
  refine q_val F rfl rfl (by decide) (r_assign F rfl) fun a F => ?_
  refine nil ?_
  refine hK20 _ _ ?_
  refine reg ?_
  refine q_val F rfl rfl (by decide) (r_move F rfl) fun a F => ?_
  refine q_val F rfl rfl (by decide) (r_shr F rfl rfl (by decide)) fun a F => ?_
  refine q_val F rfl rfl (by decide) (r_assign F rfl) fun a F => ?_
  refine nil ?_
  replace H := HN10 _ (Option.some.inj H).symm
  exact hX9 _ _ _ (Nat.lt_succ_self _) ⟨(shr .i64 i5 7), (IntKind.i64.wrap (i6 + 1)), c7, F.sub ⟨rfl, rfl, trivial⟩, E, B, H⟩
 ·replace H := (if_neg hb19).symm.trans H
  refine wp_cond_false ((F.ev rfl).trans (congrArg Value.bool (decide_eq_false hb19))) ?_
  refine wp_exit ?_
  refine thenE ?_
  refine thenE ?_
  refine inbE ?_
  have hx_ := HD11 _ (Option.some.inj H).symm
  have H := HR15
  rw [← hx_] at H
  exact J24 c7 w8 a i6 (F.sub ⟨rfl, trivial⟩) E B  H
end Go.Proofs.Ythankpjbfpcldaa.G
namespace Go.Proofs.Ythankpjbfpcldaa.G
open Go Go.RowKit
set_option linter.unusedVariables false
set_option linter.unusedSimpArgs false
set_option maxRecDepth 100000 in
set_option maxHeartbeats 4000000 in
theorem tree_Tree_Len.calls {m : Nat} {c0 : Nat → Nat} {w0 : World} {p2 : Option Addr} {a1 : Tr} (hm0 : 0 < m) (B0 : CB m c0 w0) (h3 : TR 0 c0 w0 p2 a1) (r : Int) (H : tree_Tree_Len.f a1 = some r) : Calls Try.prog 45 #[.pointer p2] w0 (fun e w_ => ∃ (c_ : Nat → Nat), e = .returned (.int .i64 r) ∧ Ev (fun x => False) c0 w0 c_ w_ ∧ CB m c_ w_) := by
 unfold tree_Tree_Len.f at H
 have B := B0.mono (show m ≤ m + 1 by omega)
 have E : Ev (fun x => False ∨ m ≤ x) c0 w0 c0 w0 := Ev.refl
 refine enter (N := 9) (l := [.pointer p2]) Try.func45 rfl rfl (Nat.le_of_ble_eq_true rfl) fun a F => ?_
 refine wp_seq_k fun K4 hK4 => ?_
 refine reg ?_
 refine q_val F rfl rfl (by decide) (r_assign F rfl) fun a F => ?_
 refine nil ?_
 refine hK4 _ _ ?_
 refine wp_seq_k fun K5 hK5 => ?_
 refine wp_seq_k fun K6 hK6 => ?_
 refine reg ?_
 refine q_val F rfl rfl (by decide) (r_move F rfl) fun a F => ?_
 refine q_val F rfl rfl (by decide) (r_peqlA F Try.underlying77 rfl rfl (TR.isNil h3)) fun a F => ?_
 refine nil ?_
 refine hK6 _ _ ?_
 by_cases hb7 : (Tr.isNil a1) = true
 ·replace H := (if_pos hb7).symm.trans H
  refine wp_cond_true ((F.ev rfl).trans (congrArg Value.bool hb7)) ?_
  refine wp_seq_k fun K8 hK8 => ?_
  refine reg ?_
  refine q_val F rfl rfl (by decide) (r_assign F rfl) fun a F => ?_
  refine nil ?_
  refine hK8 _ _ ?_
  refine wp_ret ?_
  refine thenR ?_
  replace H := Option.some.inj H
  subst H
  refine out1 F rfl rfl ?_
  exact ⟨fun b_ => (fun x_ => if x_ < m then x_ else 0) (c0 b_), rfl, E.leave B0 (fun x_ => if x_ < m then x_ else 0) (by intro x_ hx_; show (if x_ < m then x_ else 0) = x_; ((repeat' split) <;> omega)), (fun b_ hb_ => by show (if (c0 b_) < m then (c0 b_) else 0) < m; ((repeat' split) <;> omega))⟩
 ·replace H := (if_neg hb7).symm.trans H
  refine wp_cond_false ((F.ev rfl).trans (congrArg Value.bool (bfalse hb7))) ?_
  refine wp_skip ?_
  refine hK5 _ _ ?_
  refine wp_seq_k fun K9 hK9 => ?_
  refine reg ?_
  refine q_val F rfl rfl (by decide) (r_move F rfl) fun a F => ?_
  replace H := cs_some H
  obtain ⟨tl10, tr11, tk12, tv13, ts14, td15, e16, H⟩ := H
  have z17 := h3
  rw [e16] at z17
  obtain ⟨ad21, lp22, rp23, A18, C19, rfl, hat24, h20, hl25, hr26⟩ := TR.node z17
  refine q_val F rfl rfl (by decide) (r_nil F rfl) fun a F => ?_
  refine q_val F rfl rfl (by decide) (r_fieldAddr F rfl ff_112_4) fun a F => ?_
  refine q_val F rfl rfl (by decide) (r_load F rfl ag_3 (AT.cell hat24 rfl)) fun a F => ?_
  refine q_val F rfl rfl (by decide) (r_assign F rfl) fun a F => ?_
  refine nil ?_
  refine hK9 _ _ ?_
  refine wp_ret ?_
  replace H := Option.some.inj H
  subst H
  refine out1 F rfl rfl ?_
  exact ⟨fun b_ => (fun x_ => if x_ < m then x_ else 0) (c0 b_), rfl, E.leave B0 (fun x_ => if x_ < m then x_ else 0) (by intro x_ hx_; show (if x_ < m then x_ else 0) = x_; ((repeat' split) <;> omega)), (fun b_ hb_ => by show (if (c0 b_) < m then (c0 b_) else 0) < m; ((repeat' split) <;> omega))⟩
end Go.Proofs.Ythankpjbfpcldaa.G
namespace Go.Proofs.Ythankpjbfpcldaa.G
open Go Go.RowKit
set_option linter.unusedVariables false
set_option linter.unusedSimpArgs false
set_option maxRecDepth 100000 in
set_option maxHeartbeats 4000000 in
theorem table_Table_Size.calls (k : Nat) {m : Nat} {c0 : Nat → Nat} {w0 : World} {j4 : Nat} {p2 : Option Addr} {a1 : Option Tab} (hm0 : 0 < m) (B0 : CB m c0 w0) (h3 : TB j4 c0 w0 p2 a1) (bj4 : j4 < m) (r : Int) (H : table_Table_Size.f k a1 = some r) : Calls Try.prog 57 #[.pointer p2] w0 (fun e w_ => ∃ (c_ : Nat → Nat), e = .returned (.int .i64 r) ∧ Ev (fun x => False) c0 w0 c_ w_ ∧ CB m c_ w_) := by
 unfold table_Table_Size.f at H
 have B := B0.mono (show m ≤ m + 1 by omega)
 have E : Ev (fun x => False ∨ m ≤ x) c0 w0 c0 w0 := Ev.refl
 refine enter (N := 22) (l := [.pointer p2]) Try.func57 rfl rfl (Nat.le_of_ble_eq_true rfl) fun a F => ?_
 refine wp_seq_k fun K5 hK5 => ?_
 refine reg ?_
 refine q_val F rfl rfl (by decide) (r_assign F rfl) fun a F => ?_
 refine nil ?_
 refine hK5 _ _ ?_
 refine wp_seq_k fun K6 hK6 => ?_
 refine wp_seq_k fun K7 hK7 => ?_
 refine reg ?_
 refine q_val F rfl rfl (by decide) (r_move F rfl) fun a F => ?_
 refine q_val F rfl rfl (by decide) (r_peqlA F Try.underlying26 rfl rfl (TB.isNone h3)) fun a F => ?_
 refine nil ?_
 refine hK7 _ _ ?_
 by_cases hb8 : (Option.isNone a1) = true
 ·replace H := (if_pos hb8).symm.trans H
  refine wp_cond_true ((F.ev rfl).trans (congrArg Value.bool hb8)) ?_
  refine wp_seq_k fun K9 hK9 => ?_
  refine reg ?_
  refine q_val F rfl rfl (by decide) (r_assign F rfl) fun a F => ?_
  refine nil ?_
  refine hK9 _ _ ?_
  refine wp_ret ?_
  refine thenR ?_
  replace H := Option.some.inj H
  subst H
  refine out1 F rfl rfl ?_
  exact ⟨fun b_ => (fun x_ => if x_ < m then x_ else 0) (c0 b_), rfl, E.leave B0 (fun x_ => if x_ < m then x_ else 0) (by intro x_ hx_; show (if x_ < m then x_ else 0) = x_; ((repeat' split) <;> omega)), (fun b_ hb_ => by show (if (c0 b_) < m then (c0 b_) else 0) < m; ((repeat' split) <;> omega))⟩
 ·replace H := (if_neg hb8).symm.trans H
  refine wp_cond_false ((F.ev rfl).trans (congrArg Value.bool (bfalse hb8))) ?_
  refine wp_skip ?_
  refine hK6 _ _ ?_
  refine wp_seq_k fun K10 hK10 => ?_
  replace H := bind_some H
  obtain ⟨ob11, e12, H⟩ := H
  have z13 := h3
  rw [e12] at z13
  obtain ⟨ad14, p16, rfl, hat15, h17⟩ := TB.some z13
  refine regD (SB No c0 w0) 18 (.q 0 (.q 1 (.q 2 (.q 3 (.q 5 (.q 6 (.q 7 (.q 8 (.q 12 (.q 13 (.q 14 (.q 15 (.e 4 (.e 9 (.e 10 (.q 11 (.q 16 (.q 17 .nil)))))))))))))))))) Try_hm (by decide +kernel) ?_
  intro w19 w1_ w2_ w3_ w4_
  have E20 : Ev No c0 w0 c0 w19 := Ev.same w1_ w2_ w3_ w4_
  replace B := B.same w1_
  have zh3 := h3
  have zh17 := h17
  have zhat15 := hat15
  have ER : Ev No c0 w0 c0 w19 := Ev.same w1_ w2_ w3_ w4_
  replace h3 := TB.ev h3 E20 (fun q => q.elim) (fun q => q.elim)
  replace h17 := TR.ev h17 E20 (fun q => q.elim) (fun q => q.elim)
  replace hat15 := AT.ev hat15 E20 (fun q => q.elim)
  replace E := E.trans E20 (fun x q => q.elim)
  refine d_q F rfl rfl rfl (by decide) (fun wq hS => r_move F rfl) ER.sb fun a F => ?_
  refine d_q F rfl rfl rfl (by decide) (fun wq hS => r_nil F rfl) ER.sb fun a F => ?_
  refine d_q F rfl rfl rfl (by decide) (fun wq hS => r_fieldAddr F rfl ff_82_1) ER.sb fun a F => ?_
  refine d_q F rfl rfl rfl (by decide) (fun wq hS => r_load F rfl ag_3 (AT.cell (AT.sb zhat15 hS (fun q => q.elim)) rfl)) ER.sb fun a F => ?_
  refine d_q F rfl rfl rfl (by decide) (fun wq hS => r_move F rfl) ER.sb fun a F => ?_
  refine d_q F rfl rfl rfl (by decide) (fun wq hS => r_nil F rfl) ER.sb fun a F => ?_
  refine d_q F rfl rfl rfl (by decide) (fun wq hS => r_fieldAddr F rfl ff_82_0) ER.sb fun a F => ?_
  refine d_q F rfl rfl rfl (by decide) (fun wq hS => r_load F rfl ag_77 (AT.cell (AT.sb zhat15 hS (fun q => q.elim)) rfl)) ER.sb fun a F => ?_
  refine d_q F rfl rfl rfl (by decide) (fun wq hS => r_move F rfl) ER.sb fun a F => ?_
  refine d_q F rfl rfl rfl (by decide) (fun wq hS => r_nil F rfl) ER.sb fun a F => ?_
  refine d_q F rfl rfl rfl (by decide) (fun wq hS => r_fieldAddr F rfl ff_82_2) ER.sb fun a F => ?_
  refine d_q F rfl rfl rfl (by decide) (fun wq hS => r_load F rfl ag_3 (AT.cell (AT.sb zhat15 hS (fun q => q.elim)) rfl)) ER.sb fun a F => ?_
  refine d_e ?_
  replace H := bind_some H
  obtain ⟨t21, q22, H⟩ := H
  refine o_call F rfl (wanted_none rfl) rfl (by decide) (r_call F Try.func83 rfl (by kernel_rfl) rfl) (table_num.calls k (m := m + 1) (Nat.add_pos_left hm0 _) B _ q22) ?_
  rintro e w24 ⟨c23, rfl, E25, B26⟩
  refine ⟨_, rfl, fun a F => ?_⟩
  have B := B26
  replace ER := ER.trans E25 (fun x q => q.elim)
  replace h3 := TB.ev h3 E25 (fun q => q.elim) (fun q => q.elim)
  replace h17 := TR.ev h17 E25 (fun q => q.elim) (fun q => q.elim)
  replace hat15 := AT.ev hat15 E25 (fun q => q.elim)
  replace E := E.trans E25 (fun x q => q.elim)
  refine ⟨fun _ => ER.sb, ?_⟩
  refine d_e ?_
  replace H := bind_some H
  obtain ⟨t28, q29, H⟩ := H
  refine o_call F rfl (wanted_none rfl) rfl (by decide) (r_call F Try.func45 rfl (by kernel_rfl) rfl) (tree_Tree_Len.calls (m := m + 1) (Nat.add_pos_left hm0 _) B h17 _ q29) ?_
  rintro e w31 ⟨c30, rfl, E32, B33⟩
  refine ⟨_, rfl, fun a F => ?_⟩
  have B := B33
  replace ER := ER.trans E32 (fun x q => q.elim)
  replace h3 := TB.ev h3 E32 (fun q => q.elim) (fun q => q.elim)
  replace h17 := TR.ev h17 E32 (fun q => q.elim) (fun q => q.elim)
  replace hat15 := AT.ev hat15 E32 (fun q => q.elim)
  replace E := E.trans E32 (fun x q => q.elim)
  refine ⟨fun _ => ER.sb, ?_⟩
  refine d_e ?_
  replace H := bind_some H
  obtain ⟨t35, q36, H⟩ := H
  refine o_call F rfl (wanted_none rfl) rfl (by decide) (r_call F Try.func83 rfl (by kernel_rfl) rfl) (table_num.calls k (m := m + 1) (Nat.add_pos_left hm0 _) B _ q36) ?_
  rintro e w38 ⟨c37, rfl, E39, B40⟩
  refine ⟨_, rfl, fun a F => ?_⟩
  have B := B40
  replace ER := ER.trans E39 (fun x q => q.elim)
  replace h3 := TB.ev h3 E39 (fun q => q.elim) (fun q => q.elim)
  replace h17 := TR.ev h17 E39 (fun q => q.elim) (fun q => q.elim)
  replace hat15 := AT.ev hat15 E39 (fun q => q.elim)
  replace E := E.trans E39 (fun x q => q.elim)
  refine ⟨fun _ => ER.sb, ?_⟩
  refine d_q F rfl rfl rfl (by decide) (fun wq hS => r_add F rfl rfl) ER.sb fun a F => ?_
  refine d_q F rfl rfl rfl (by decide) (fun wq hS => r_add F rfl rfl) ER.sb fun a F => ?_
  refine d_q F rfl rfl rfl (by decide) (fun wq hS => r_assign F rfl) ER.sb fun a F => ?_
  refine d_nil ?_
  refine hK10 _ _ ?_
  replace F : Fr a 22 [(2, .int .i64 (IntKind.i64.wrap ((IntKind.i64.wrap (t21 + t35)) + ob11.size)))] := F.sub ⟨rfl, trivial⟩
  refine wp_ret ?_
  replace H := Option.some.inj H
  subst H
  refine out1 F rfl rfl ?_
  exact ⟨fun b_ => (fun x_ => if x_ < m then x_ else 0) (c37 b_), rfl, E.leave B0 (fun x_ => if x_ < m then x_ else 0) (by intro x_ hx_; show (if x_ < m then x_ else 0) = x_; ((repeat' split) <;> omega)), (fun b_ hb_ => by show (if (c37 b_) < m then (c37 b_) else 0) < m; ((repeat' split) <;> omega))⟩
end Go.Proofs.Ythankpjbfpcldaa.G
namespace Go.Proofs.Ythankpjbfpcldaa.G
open Go Go.RowKit
set_option linter.unusedVariables false
set_option linter.unusedSimpArgs false
set_option maxRecDepth 100000 in
set_option maxHeartbeats 4000000 in
theorem shard_Shard_Size.calls (k : Nat) {m : Nat} {c0 : Nat → Nat} {w0 : World} {j4 : Nat} {j5 : Nat} {p2 : Option Addr} {a1 : Option Sha} (hm0 : 0 < m) (B0 : CB m c0 w0) (h3 : SH j4 j5 c0 w0 p2 a1) (bj4 : j4 < m) (bj5 : j5 < m ∧ j5 ≠ j4) (r : Int) (H : shard_Shard_Size.f k a1 = some r) : Calls Try.prog 32 #[.pointer p2] w0 (fun e w_ => ∃ (c_ : Nat → Nat), e = .returned (.int .i64 r) ∧ Ev (fun x => False) c0 w0 c_ w_ ∧ CB m c_ w_) := by
 unfold shard_Shard_Size.f at H
 have B := B0.mono (show m ≤ m + 1 by omega)
 have E : Ev (fun x => False ∨ m ≤ x) c0 w0 c0 w0 := Ev.refl
 refine enter (N := 21) (l := [.pointer p2]) Try.func32 rfl rfl (Nat.le_of_ble_eq_true rfl) fun a F => ?_
 refine wp_seq_k fun K6 hK6 => ?_
 refine reg ?_
 refine q_val F rfl rfl (by decide) (r_assign F rfl) fun a F => ?_
 refine nil ?_
 refine hK6 _ _ ?_
 refine wp_seq_k fun K7 hK7 => ?_
 refine wp_seq_k fun K8 hK8 => ?_
 refine reg ?_
 refine q_val F rfl rfl (by decide) (r_move F rfl) fun a F => ?_
 refine q_val F rfl rfl (by decide) (r_peqlA F Try.underlying24 rfl rfl (SH.isNone h3)) fun a F => ?_
 refine nil ?_
 refine hK8 _ _ ?_
 by_cases hb9 : (Option.isNone a1) = true
 ·replace H := (if_pos hb9).symm.trans H
  refine wp_cond_true ((F.ev rfl).trans (congrArg Value.bool hb9)) ?_
  refine wp_seq_k fun K10 hK10 => ?_
  refine reg ?_
  refine q_val F rfl rfl (by decide) (r_assign F rfl) fun a F => ?_
  refine nil ?_
  refine hK10 _ _ ?_
  refine wp_ret ?_
  refine thenR ?_
  replace H := Option.some.inj H
  subst H
  refine out1 F rfl rfl ?_
  exact ⟨fun b_ => (fun x_ => if x_ < m then x_ else 0) (c0 b_), rfl, E.leave B0 (fun x_ => if x_ < m then x_ else 0) (by intro x_ hx_; show (if x_ < m then x_ else 0) = x_; ((repeat' split) <;> omega)), (fun b_ hb_ => by show (if (c0 b_) < m then (c0 b_) else 0) < m; ((repeat' split) <;> omega))⟩
 ·replace H := (if_neg hb9).symm.trans H
  refine wp_cond_false ((F.ev rfl).trans (congrArg Value.bool (bfalse hb9))) ?_
  refine wp_skip ?_
  refine hK7 _ _ ?_
  refine wp_seq_k fun K11 hK11 => ?_
  refine reg ?_
  refine q_val F rfl rfl (by decide) (r_move F rfl) fun a F => ?_
  replace H := bind_some H
  obtain ⟨ob12, e13, H⟩ := H
  have z14 := h3
  rw [e13] at z14
  obtain ⟨ad15, p17, cs19, rfl, hat16, h18, h20⟩ := SH.some z14
  refine q_val F rfl rfl (by decide) (r_nil F rfl) fun a F => ?_
  refine q_val F rfl rfl (by decide) (r_fieldAddr F rfl ff_76_0) fun a F => ?_
  refine q_val F rfl rfl (by decide) (r_load F rfl ag_26 (AT.cell hat16 rfl)) fun a F => ?_
  replace H := bind_some H
  obtain ⟨t22, q23, H⟩ := H
  refine q_call F rfl rfl (by decide) (r_call F Try.func57 rfl (by kernel_rfl) rfl) (table_Table_Size.calls k (m := m + 1) (Nat.add_pos_left hm0 _) B h18 (Nat.lt_add_right _ bj5.1) _ q23) ?_
  rintro e w25 ⟨c24, rfl, E26, B27⟩
  refine ⟨_, rfl, fun a F => ?_⟩
  have B := B27
  replace h3 := SH.ev h3 E26 (fun q => q.elim) (fun q => q.elim) (fun q => q.elim)
  replace h18 := TB.ev h18 E26 (fun q => q.elim) (fun q => q.elim)
  replace h20 := AR.ev h20 E26 (fun q => q.elim)
  replace hat16 := AT.ev hat16 E26 (fun q => q.elim)
  replace E := E.trans E26 (fun x q => q.elim)
  refine q_val F rfl rfl (by decide) (r_assign F rfl) fun a F => ?_
  refine nil ?_
  refine hK11 _ _ ?_
  replace F : Fr a 21 [(0, .pointer (some ad15)), (3, .int .i64 t22)] := F.sub ⟨rfl, rfl, trivial⟩
  refine wp_seq_k fun K29 hK29 => ?_
  refine regD (SB No c24 w25) 11 (.q 0 (.q 2 (.q 4 (.q 5 (.q 6 (.e 1 (.q 3 (.e 7 (.q 8 (.q 9 (.q 10 .nil))))))))))) Try_hm (by decide +kernel) ?_
  intro w30 w1_ w2_ w3_ w4_
  have E31 : Ev No c24 w25 c24 w30 := Ev.same w1_ w2_ w3_ w4_
  replace B := B.same w1_
  have zh3 := h3
  have zh18 := h18
  have zh20 := h20
  have zhat16 := hat16
  have ER : Ev No c24 w25 c24 w30 := Ev.same w1_ w2_ w3_ w4_
  replace h3 := SH.ev h3 E31 (fun q => q.elim) (fun q => q.elim) (fun q => q.elim)
  replace h18 := TB.ev h18 E31 (fun q => q.elim) (fun q => q.elim)
  replace h20 := AR.ev h20 E31 (fun q => q.elim)
  replace hat16 := AT.ev hat16 E31 (fun q => q.elim)
  replace E := E.trans E31 (fun x q => q.elim)
  refine d_q F rfl rfl rfl (by decide) (fun wq hS => r_move F rfl) ER.sb fun a F => ?_
  refine d_q F rfl rfl rfl (by decide) (fun wq hS => r_move F rfl) ER.sb fun a F => ?_
  refine d_q F rfl rfl rfl (by decide) (fun wq hS => r_move F rfl) ER.sb fun a F => ?_
  refine d_q F rfl rfl rfl (by decide) (fun wq hS => r_nil F rfl) ER.sb fun a F => ?_
  refine d_q F rfl rfl rfl (by decide) (fun wq hS => r_fieldAddr F rfl ff_76_1) ER.sb fun a F => ?_
  refine d_e ?_
  replace H := bind_some H
  obtain ⟨t32, q33, H⟩ := H
  refine o_call F rfl (wanted_none rfl) rfl (by decide) (r_call F Try.func58 rfl (by kernel_rfl) rfl) (shard_numSize.calls k (m := m + 1) (Nat.add_pos_left hm0 _) B _ q33) ?_
  rintro e w35 ⟨c34, rfl, E36, B37⟩
  refine ⟨_, rfl, fun a F => ?_⟩
  have B := B37
  replace ER := ER.trans E36 (fun x q => q.elim)
  replace h3 := SH.ev h3 E36 (fun q => q.elim) (fun q => q.elim) (fun q => q.elim)
  replace h18 := TB.ev h18 E36 (fun q => q.elim) (fun q => q.elim)
  replace h20 := AR.ev h20 E36 (fun q => q.elim)
  replace hat16 := AT.ev hat16 E36 (fun q => q.elim)
  replace E := E.trans E36 (fun x q => q.elim)
  refine ⟨fun _ => ER.sb, ?_⟩
  refine d_q F rfl rfl rfl (by decide) (fun wq hS => r_add F rfl rfl) ER.sb fun a F => ?_
  refine d_e ?_
  have h39 : SE j4 c34 w35 (some (ad15.add 1)) ob12.seats := SE.mk (AT.seg hat16 rfl (h20.1 : cs19.length = 112)) h20
  replace H := bind_some H
  obtain ⟨t40, q41, H⟩ := H
  refine o_call F rfl (wanted_none rfl) rfl (by decide) (r_call F Try.func59 rfl (by kernel_rfl) rfl) (shard_seats_bytes.calls k (m := m + 1) (Nat.add_pos_left hm0 _) B h39 (Nat.lt_add_right _ bj4) _ q41) ?_
  rintro e w43 ⟨c42, A46, C47, rfl, E44, B45, h48⟩
  refine ⟨_, rfl, fun a F => ?_⟩
  have B := B45
  replace ER := ER.trans E44 (fun x q => q.elim)
  replace h3 := SH.ev h3 E44 (fun q => q.elim) (fun q => q.elim) (fun q => q.elim)
  replace h18 := TB.ev h18 E44 (fun q => q.elim) (fun q => q.elim)
  replace h20 := AR.ev h20 E44 (fun q => q.elim)
  replace hat16 := AT.ev hat16 E44 (fun q => q.elim)
  replace h39 := SE.ev h39 E44 (fun q => q.elim) (fun q => q.elim)
  replace E := E.trans E44 (fun x q => q.elim)
  refine ⟨fun _ => ER.sb, ?_⟩
  refine d_q F rfl rfl rfl (by decide) (fun wq hS => r_lensl F Try.underlying28 rfl) ER.sb fun a F => ?_
  refine d_q F rfl rfl rfl (by decide) (fun wq hS => r_add F rfl rfl) ER.sb fun a F => ?_
  refine d_q F rfl rfl rfl (by decide) (fun wq hS => r_assign F rfl) ER.sb fun a F => ?_
  refine d_nil ?_
  refine hK29 _ _ ?_
  replace F : Fr a 21 [(2, .int .i64 (IntKind.i64.wrap ((IntKind.i64.wrap (t32 + t22)) + (t40.length : Int))))] := F.sub ⟨rfl, trivial⟩
  refine wp_ret ?_
  replace H := Option.some.inj H
  subst H
  refine out1 F rfl rfl ?_
  exact ⟨fun b_ => (fun x_ => if x_ < m then x_ else 0) (c42 b_), rfl, E.leave B0 (fun x_ => if x_ < m then x_ else 0) (by intro x_ hx_; show (if x_ < m then x_ else 0) = x_; ((repeat' split) <;> omega)), (fun b_ hb_ => by show (if (c42 b_) < m then (c42 b_) else 0) < m; ((repeat' split) <;> omega))⟩
end Go.Proofs.Ythankpjbfpcldaa.G
/-! Told by hand: slices.Clone of bytes. -/
namespace Go.Proofs.Ythankpjbfpcldaa.G
open Go Go.RowKit
set_option linter.unusedVariables false
set_option linter.unusedSimpArgs false
section
variable {P : Program} {a : Act} {N : Nat} {L : List (Nat × Value)} {D : List Deferred} {w w' : World} {v u : Value} {x y : Operand} {d : Option Tmp} {t ty : TypeId} {pos : String} {af : Array Edge} {gd : Option (Nat × Bool)}
theorem r_sleqB (F : Fr a N L D) {A : Option Addr} {n c : Nat} {e yt : TypeId} (hu : P.underlying t = some (.slice e)) (hx : ev L x = some (.slice A n c)) (hy : ev L y = some (.slice none 0 0)) : (execOp a.eval { dst := d, op := .binOp .eql t x y yt, type := ty, pos := pos, after := af, guard := gd }).run P w = .ok (.value (.bool A.isNone)) w := by
  have h : (binOp .eql t (.slice A n c) (.slice none 0 0)).run P w = .ok (.bool A.isNone) w := by
    simp only [binOp]
    simp [Op.equal, Op.maxDepth, Lib.run_equalIn_slice_nil w 9999 t e A n c 0 0 hu]
  simp [execOp, F.ev hx, F.ev hy, eqGuard, h]
end
theorem SL.none_nilB {α : Type} {e : K α} {own : Bool} {j i : Nat} {c : Nat → Nat} {w : World} {cap : Nat} {xs : List α} (h : SL own e j i c w none cap xs) : xs = [] := by
  obtain ⟨cs, h2, h3, h4, h5, h6⟩ := h
  rcases h5 with h5 | ⟨a, e, _⟩
  · subst h5
    have := e.pos
    have h : cap * e.sz = 0 := h4.symm
    rcases Nat.mul_eq_zero.1 h with h | h
    · exact List.eq_nil_of_length_eq_zero (by omega)
    · omega
  · cases e
theorem slices_Clone.calls {m : Nat} {c0 : Nat → Nat} {w0 : World} {j1 : Nat} {A2 : Option Addr} {C3 : Nat} {a1 : List Int} (hm0 : 0 < m) (B0 : CB m c0 w0) (h4 : SL false (Kint .u8) j1 0 c0 w0 A2 C3 a1) (bj1 : j1 < m) (jr : Nat) (bjr : jr < m) (r : List Int) (H : slices_Clone.f a1 = some r) :
    Calls Try.prog 60 #[.slice A2 a1.length C3] w0 (fun e w_ => ∃ (c_ : Nat → Nat) (A0_ : Option Addr) (C0_ : Nat), e = .returned (.slice A0_ r.length C0_) ∧ Ev (fun x => False) c0 w0 c_ w_ ∧ CB m c_ w_ ∧ SL true (Kint .u8) jr 0 c_ w_ A0_ C0_ r) := by
  unfold slices_Clone.f at H
  obtain ⟨g, H⟩ := ifN H
  have H := Option.some.inj H
  subst H
  have B := B0.mono (show m ≤ m + 2 by omega)
  have E : Ev (fun x => False ∨ m ≤ x) c0 w0 c0 w0 := Ev.refl
  refine enter (N := 8) (l := [.slice A2 a1.length C3]) Try.func60 rfl rfl (Nat.le_of_ble_eq_true rfl) fun a F => ?_
  refine wp_seq_k fun K5 hK5 => ?_
  refine reg ?_
  refine q_val F rfl rfl (by decide) (r_assign F rfl) fun a F => ?_
  refine nil ?_
  refine hK5 _ _ ?_
  refine wp_seq_k fun K6 hK6 => ?_
  refine wp_seq_k fun K7 hK7 => ?_
  refine reg ?_
  refine q_val F rfl rfl (by decide) (r_move F rfl) fun a F => ?_
  refine q_val F rfl rfl (by decide) (r_sleqB F Try.underlying28 rfl rfl) fun a F => ?_
  refine nil ?_
  refine hK7 _ _ ?_
  cases A2 with
  | none =>
    have e := h4.none_nilB
    subst e
    refine wp_cond_true (F.ev rfl) ?_
    refine wp_seq_k fun K8 hK8 => ?_
    refine reg ?_
    refine q_val F rfl rfl (by decide) (r_assign F rfl) fun a F => ?_
    refine nil ?_
    refine hK8 _ _ ?_
    refine wp_ret ?_
    refine thenR ?_
    refine out1 F rfl rfl ?_
    exact ⟨c0, none, 0, rfl, Ev.refl, B0, SL.nil⟩
  | some q =>
    refine wp_cond_false (F.ev rfl) ?_
    refine wp_skip ?_
    refine hK6 _ _ ?_
    refine wp_seq_k fun K9 hK9 => ?_
    refine reg ?_
    refine q_eff F rfl rfl (by decide) (e_buildSlice (e := 5) (c := c0) (k := Kint .u8) (i := 0) F [] [] ([] : List Int) (by exact trivial) (fun w => by kernel_rfl) rfl (by decide) rfl trivial (fun q => q) (m + 1)) ?_
    rintro v w1 a ⟨c1, A1, C1, rfl, E1, h1, B1⟩ F
    have B := B1 _ B (by omega)
    have h4 := SL.ev h4 E1 (fun q => q.elim) (fun q => q.elim)
    have E := E.trans E1 (fun x q => q.elim)
    refine q_val F rfl rfl (by decide) (r_move F rfl) fun a F => ?_
    refine q_eff F rfl rfl (by decide) (e_append (k := Kint .u8) (xs := []) (ys := a1) (c := c1) (j := m + 1) (i := 0) F et_28 rfl rfl h1 h4 (by simpa using g) (by have g_ := g; unfold maxLen; simp at g_ ⊢; omega) (by omega)) ?_
    rintro v w2 a ⟨c2, A3, C4, rfl, E2, h2, B2⟩ F
    have B := B2 _ B (by omega)
    have E := E.trans E2 (fun x q => by replace q : x = m + 1 := q; show False ∨ m ≤ x; omega)
    refine q_val F rfl rfl (by decide) (r_assign F rfl) fun a F => ?_
    refine nil ?_
    refine hK9 _ _ ?_
    refine wp_ret ?_
    refine out1 F rfl rfl ?_
    rw [List.nil_append] at h2 ⊢
    exact ⟨fun b_ => (fun x_ => if x_ = m + 1 then jr else if x_ < m then x_ else 0) (c2 b_), A3, C4, rfl, E.leave B0 (fun x_ => if x_ = m + 1 then jr else if x_ < m then x_ else 0) (by intro x_ hx_; show (if x_ = m + 1 then jr else if x_ < m then x_ else 0) = x_; ((repeat' split) <;> omega)), (fun b_ hb_ => by show (if (c2 b_) = m + 1 then jr else if (c2 b_) < m then (c2 b_) else 0) < m; ((repeat' split) <;> omega)), SL.rc h2 (fun k_ hk_ => by show (if (c2 k_) = m + 1 then jr else if (c2 k_) < m then (c2 k_) else 0) = _; rw [hk_]; ((repeat' split) <;> omega)) (fun k_ hk_ => by show (if (c2 k_) = m + 1 then jr else if (c2 k_) < m then (c2 k_) else 0) = _; rw [hk_]; ((repeat' split) <;> omega))⟩
end Go.Proofs.Ythankpjbfpcldaa.G
namespace Go.Proofs.Ythankpjbfpcldaa.G
open Go Go.RowKit
set_option linter.unusedVariables false
set_option linter.unusedSimpArgs false
set_option maxRecDepth 100000 in
set_option maxHeartbeats 4000000 in
theorem shard_own.calls {m : Nat} {c0 : Nat → Nat} {w0 : World} {A2 : Option Addr} {C3 : Nat} {A5 : Option Addr} {C6 : Nat} {a1 : api_Seat} (hm0 : 0 < m) (B0 : CB m c0 w0) (h4 : SL false (Kint .u8) 0 0 c0 w0 A2 C3 a1.Answer.Key) (h7 : SL false (Kint .u8) 0 0 c0 w0 A5 C6 a1.Answer.Value) (r : api_Seat) (H : shard_own.f a1 = some r) : Calls Try.prog 36 #[.agg #[.int .i64 a1.Client, .int .i64 a1.Seq, .bool a1.Answer.Done, .slice A2 a1.Answer.Key.length C3, .slice A5 a1.Answer.Value.length C6, .int .i64 a1.Answer.Rev, .int .i64 a1.Answer.At]] w0 (fun e w_ => ∃ (c_ : Nat → Nat) (A0_ : Option Addr) (C0_ : Nat) (A2_ : Option Addr) (C2_ : Nat), e = .returned (.agg #[.int .i64 r.Client, .int .i64 r.Seq, .bool r.Answer.Done, .slice A0_ r.Answer.Key.length C0_, .slice A2_ r.Answer.Value.length C2_, .int .i64 r.Answer.Rev, .int .i64 r.Answer.At]) ∧ Ev (fun x => False) c0 w0 c_ w_ ∧ CB m c_ w_ ∧ SL false (Kint .u8) 0 0 c_ w_ A0_ C0_ r.Answer.Key ∧ SL false (Kint .u8) 0 0 c_ w_ A2_ C2_ r.Answer.Value) := by
 unfold shard_own.f at H
 have B := B0.mono (show m ≤ m + 3 by omega)
 have E : Ev (fun x => False ∨ m ≤ x) c0 w0 c0 w0 := Ev.refl
 refine enter (N := 16) (l := [.agg #[.int .i64 a1.Client, .int .i64 a1.Seq, .bool a1.Answer.Done, .slice A2 a1.Answer.Key.length C3, .slice A5 a1.Answer.Value.length C6, .int .i64 a1.Answer.Rev, .int .i64 a1.Answer.At]]) Try.func36 rfl rfl (Nat.le_of_ble_eq_true rfl) fun a F => ?_
 refine wp_seq_k fun K8 hK8 => ?_
 refine reg ?_
 refine q_eff F rfl rfl (by decide) (e_box F (v := .agg #[.int .i64 a1.Client, .int .i64 a1.Seq, .bool a1.Answer.Done, .slice A2 a1.Answer.Key.length C3, .slice A5 a1.Answer.Value.length C6, .int .i64 a1.Answer.Rev, .int .i64 a1.Answer.At]) rfl c0 (m + 1)) ?_
 rintro v w10 a ⟨c9, qa11, rfl, E12, h13, B14⟩ F
 replace B := B14 _ B (Nat.add_lt_add_left (by decide) m)
 replace h4 := SL.ev h4 E12 (fun q => q.elim) (fun q => q.elim)
 replace h7 := SL.ev h7 E12 (fun q => q.elim) (fun q => q.elim)
 replace E := E.trans E12 (fun x q => q.elim)
 replace h13 : AT true (m + 1) c9 w10 qa11 [.int .i64 a1.Client, .int .i64 a1.Seq, .bool a1.Answer.Done, .slice A2 a1.Answer.Key.length C3, .slice A5 a1.Answer.Value.length C6, .int .i64 a1.Answer.Rev, .int .i64 a1.Answer.At] := h13
 refine q_eff F rfl rfl (by decide) (e_alloc F zv_36 c9 (m + 2)) ?_
 rintro v w17 a ⟨c16, qa18, rfl, E19, h20, B21⟩ F
 replace B := B21 _ B (Nat.add_lt_add_left (by decide) m)
 replace h4 := SL.ev h4 E19 (fun q => q.elim) (fun q => q.elim)
 replace h7 := SL.ev h7 E19 (fun q => q.elim) (fun q => q.elim)
 replace h13 := AT.ev h13 E19 (fun q => q.elim)
 replace E := E.trans E19 (fun x q => q.elim)
 replace h20 : AT true (m + 2) c16 w17 qa18 [.int .i64 0, .int .i64 0, .bool false, .slice none 0 0, .slice none 0 0, .int .i64 0, .int .i64 0] := h20
 refine nil ?_
 refine hK8 _ _ ?_
 refine wp_seq_k fun K23 hK23 => ?_
 refine regD (SB (fun x => x = m + 1) c16 w17) 13 (.q 0 (.q 1 (.q 4 (.q 5 (.f 2 (.f 3 (.e 6 (.q 8 (.q 9 (.e 7 (.e 10 (.e 11 (.q 12 (.e 13 .nil)))))))) 6 (.e 3 (.q 8 (.q 9 (.e 7 (.e 10 (.e 11 (.q 12 (.e 13 .nil))))))))) 6 (.e 2 (.e 3 (.q 8 (.q 9 (.e 7 (.e 10 (.e 11 (.q 12 (.e 13 .nil)))))))))))))) Try_hm (by decide +kernel) ?_
 intro w28 w1_ w2_ w3_ w4_
 have E29 : Ev No c16 w17 c16 w28 := Ev.same w1_ w2_ w3_ w4_
 replace B := B.same w1_
 have zh4 := h4
 have zh7 := h7
 have zh13 := h13
 have zh20 := h20
 have ER : Ev (fun x => x = m + 1) c16 w17 c16 w28 := Ev.same w1_ w2_ w3_ w4_
 replace h4 := SL.ev h4 E29 (fun q => q.elim) (fun q => q.elim)
 replace h7 := SL.ev h7 E29 (fun q => q.elim) (fun q => q.elim)
 replace h13 := AT.ev h13 E29 (fun q => q.elim)
 replace h20 := AT.ev h20 E29 (fun q => q.elim)
 replace E := E.trans E29 (fun x q => q.elim)
 refine d_q F rfl rfl rfl (by decide) (fun wq hS => r_fieldAddr F rfl ff_36_2) ER.sb fun a F => ?_
 refine d_q F rfl rfl rfl (by decide) (fun wq hS => r_fieldAddr2 F h13 rfl ff_34_1) ER.sb fun a F => ?_
 refine d_q F rfl rfl rfl (by decide) (fun wq hS => r_fieldAddr F rfl ff_36_2) ER.sb fun a F => ?_
 refine d_q F rfl rfl rfl (by decide) (fun wq hS => r_fieldAddr2 F h13 rfl ff_34_2) ER.sb fun a F => ?_
 refine d_f ?_ ?_
 ·refine o_val F rfl rfl rfl (by decide) (r_load F rfl ag_28 (AT.cell h13 rfl)) fun a F => ?_
  refine ⟨fun _ => ER.sb, ?_⟩
  refine d_f ?_ ?_
  ·replace H := bind_some H
   obtain ⟨t30, q31, H⟩ := H
   refine o_call F rfl (wanted_none rfl) rfl (by decide) (r_call F Try.func60 rfl (by kernel_rfl) rfl) (slices_Clone.calls (m := m + 3) (Nat.add_pos_left hm0 _) B h4 (by omega) 0 (Nat.add_pos_left hm0 _) _ q31) ?_
   rintro e w33 ⟨c32, A36, C37, rfl, E34, B35, h38⟩
   refine ⟨_, rfl, fun a F => ?_⟩
   have B := B35
   replace ER := ER.trans E34 (fun x q => q.elim)
   replace h4 := SL.ev h4 E34 (fun q => q.elim) (fun q => q.elim)
   replace h7 := SL.ev h7 E34 (fun q => q.elim) (fun q => q.elim)
   replace h13 := AT.ev h13 E34 (fun q => q.elim)
   replace h20 := AT.ev h20 E34 (fun q => q.elim)
   replace E := E.trans E34 (fun x q => q.elim)
   refine ⟨fun _ => ER.sb, ?_⟩
   refine d_e ?_
   refine o_val F rfl rfl rfl (by decide) (r_load F rfl ag_28 (AT.cell h13 rfl)) fun a F => ?_
   refine ⟨fun _ => ER.sb, ?_⟩
   refine d_q F rfl rfl rfl (by decide) (fun wq hS => r_fieldAddr F rfl ff_36_2) ER.sb fun a F => ?_
   refine d_q F rfl rfl rfl (by decide) (fun wq hS => r_fieldAddr2 F h13 rfl ff_34_1) ER.sb fun a F => ?_
   refine d_e ?_
   replace H := bind_some H
   obtain ⟨t40, q41, H⟩ := H
   refine o_call F rfl (wanted_none rfl) rfl (by decide) (r_call F Try.func60 rfl (by kernel_rfl) rfl) (slices_Clone.calls (m := m + 3) (Nat.add_pos_left hm0 _) B h7 (by omega) 0 (Nat.add_pos_left hm0 _) _ q41) ?_
   rintro e w43 ⟨c42, A46, C47, rfl, E44, B45, h48⟩
   refine ⟨_, rfl, fun a F => ?_⟩
   have B := B45
   replace ER := ER.trans E44 (fun x q => q.elim)
   replace h4 := SL.ev h4 E44 (fun q => q.elim) (fun q => q.elim)
   replace h7 := SL.ev h7 E44 (fun q => q.elim) (fun q => q.elim)
   replace h13 := AT.ev h13 E44 (fun q => q.elim)
   replace h20 := AT.ev h20 E44 (fun q => q.elim)
   replace h38 := SL.ev h38 E44 (fun q => q.elim) (fun q => q.elim)
   replace E := E.trans E44 (fun x q => q.elim)
   refine ⟨fun _ => ER.sb, ?_⟩
   refine d_e ?_
   refine o_eff0 F rfl rfl rfl (e_store F rfl rfl sz_28 h13 (Nat.le_of_ble_eq_true rfl) rfl) ?_
   rintro w50 a ⟨E51, h13, Z52⟩ F
   replace B := B.size Z52
   replace ER := ER.trans E51 (fun x q => by replace q : x = m + 1 := q; show x = m + 1; omega)
   replace h4 := SL.ev h4 E51 ne_zm ne_zm
   replace h7 := SL.ev h7 E51 ne_zm ne_zm
   replace h20 := AT.ev h20 E51 (ne_mm (by decide))
   replace h38 := SL.ev h38 E51 ne_zm ne_zm
   replace h48 := SL.ev h48 E51 ne_zm ne_zm
   replace E := E.trans E51 (fun x (q : x = m + 1) => Or.inr (le_col q))
   replace h13 : AT true (m + 1) c42 w50 qa11 [.int .i64 a1.Client, .int .i64 a1.Seq, .bool a1.Answer.Done, .slice A36 t30.length C37, .slice A5 a1.Answer.Value.length C6, .int .i64 a1.Answer.Rev, .int .i64 a1.Answer.At] := h13
   refine ⟨fun _ => ER.sb, ?_⟩
   refine d_e ?_
   refine o_val F rfl rfl rfl (by decide) (r_fieldAddr F rfl ff_36_2) fun a F => ?_
   refine ⟨fun _ => ER.sb, ?_⟩
   refine d_q F rfl rfl rfl (by decide) (fun wq hS => r_fieldAddr2 F h13 rfl ff_34_2) ER.sb fun a F => ?_
   refine d_e ?_
   refine o_eff0 F rfl rfl rfl (e_store F rfl rfl sz_28 h13 (Nat.le_of_ble_eq_true rfl) rfl) ?_
   rintro w53 a ⟨E54, h13, Z55⟩ F
   replace B := B.size Z55
   replace ER := ER.trans E54 (fun x q => by replace q : x = m + 1 := q; show x = m + 1; omega)
   replace h4 := SL.ev h4 E54 ne_zm ne_zm
   replace h7 := SL.ev h7 E54 ne_zm ne_zm
   replace h20 := AT.ev h20 E54 (ne_mm (by decide))
   replace h38 := SL.ev h38 E54 ne_zm ne_zm
   replace h48 := SL.ev h48 E54 ne_zm ne_zm
   replace E := E.trans E54 (fun x (q : x = m + 1) => Or.inr (le_col q))
   replace h13 : AT true (m + 1) c42 w53 qa11 [.int .i64 a1.Client, .int .i64 a1.Seq, .bool a1.Answer.Done, .slice A36 t30.length C37, .slice A46 t40.length C47, .int .i64 a1.Answer.Rev, .int .i64 a1.Answer.At] := h13
   refine ⟨fun q => absurd rfl q, ?_⟩
   refine d_nil ?_
   refine hK23 _ _ ?_
   replace F : Fr a 16 [(1, .pointer (some qa11)), (2, .pointer (some qa18))] := F.sub ⟨rfl, rfl, trivial⟩
   refine wp_seq_k fun K100 hK100 => ?_
   refine reg ?_
   refine q_val F rfl rfl (by decide) (r_loads (cs := [.int .i64 a1.Client, .int .i64 a1.Seq, .bool a1.Answer.Done, .slice A36 t30.length C37, .slice A46 t40.length C47, .int .i64 a1.Answer.Rev, .int .i64 a1.Answer.At]) F rfl ag_36 sz_36 h13) fun a F => ?_
   refine q_eff0 F rfl rfl (e_storeN0 (us := [.int .i64 a1.Client, .int .i64 a1.Seq, .bool a1.Answer.Done, .slice A36 t30.length C37, .slice A46 t40.length C47, .int .i64 a1.Answer.Rev, .int .i64 a1.Answer.At]) F rfl rfl sz_36 h20 (Nat.le_of_ble_eq_true rfl) (one_all rfl)) ?_
   rintro w101 a ⟨E102, h20, Z103⟩ F
   replace B := B.size Z103
   replace h4 := SL.ev h4 E102 ne_zm ne_zm
   replace h7 := SL.ev h7 E102 ne_zm ne_zm
   replace h13 := AT.ev h13 E102 (ne_mm (by decide))
   replace h38 := SL.ev h38 E102 ne_zm ne_zm
   replace h48 := SL.ev h48 E102 ne_zm ne_zm
   replace E := E.trans E102 (fun x (q : x = m + 2) => Or.inr (le_col q))
   replace h20 : AT true (m + 2) c42 w101 qa18 [.int .i64 a1.Client, .int .i64 a1.Seq, .bool a1.Answer.Done, .slice A36 t30.length C37, .slice A46 t40.length C47, .int .i64 a1.Answer.Rev, .int .i64 a1.Answer.At] := h20
   refine nil ?_
   refine hK100 _ _ ?_
   refine wp_ret ?_
   replace H := Option.some.inj H
   subst H
   refine outR1 F rfl ⟨_, rfl, lv_agg (cs := [.int .i64 a1.Client, .int .i64 a1.Seq, .bool a1.Answer.Done, .slice A36 t30.length C37, .slice A46 t40.length C47, .int .i64 a1.Answer.Rev, .int .i64 a1.Answer.At]) ag_36 sz_36 h20⟩ ?_
   exact ⟨fun b_ => (fun x_ => if x_ < m then x_ else 0) (c42 b_), A36, C37, A46, C47, rfl, E.leave B0 (fun x_ => if x_ < m then x_ else 0) (by intro x_ hx_; show (if x_ < m then x_ else 0) = x_; ((repeat' split) <;> omega)), (fun b_ hb_ => by show (if (c42 b_) < m then (c42 b_) else 0) < m; ((repeat' split) <;> omega)), SL.rc h38.r (fun k_ hk_ => by show (if (c42 k_) < m then (c42 k_) else 0) = _; rw [hk_]; ((repeat' split) <;> omega)) (fun k_ hk_ => by show (if (c42 k_) < m then (c42 k_) else 0) = _; rw [hk_]; ((repeat' split) <;> omega)), SL.rc h48.r (fun k_ hk_ => by show (if (c42 k_) < m then (c42 k_) else 0) = _; rw [hk_]; ((repeat' split) <;> omega)) (fun k_ hk_ => by show (if (c42 k_) < m then (c42 k_) else 0) = _; rw [hk_]; ((repeat' split) <;> omega))⟩
  ·replace H := bind_some H
   obtain ⟨t30, q31, H⟩ := H
   refine o_val F rfl rfl rfl (by decide) (r_load F rfl ag_28 (AT.cell h13 rfl)) fun a F => ?_
   refine ⟨fun _ => ER.sb, ?_⟩
   refine d_e ?_
   refine o_call F rfl (wanted_none rfl) rfl (by decide) (r_call F Try.func60 rfl (by kernel_rfl) rfl) (slices_Clone.calls (m := m + 3) (Nat.add_pos_left hm0 _) B h4 (by omega) 0 (Nat.add_pos_left hm0 _) _ q31) ?_
   rintro e w57 ⟨c56, A60, C61, rfl, E58, B59, h62⟩
   refine ⟨_, rfl, fun a F => ?_⟩
   have B := B59
   replace ER := ER.trans E58 (fun x q => q.elim)
   replace h4 := SL.ev h4 E58 (fun q => q.elim) (fun q => q.elim)
   replace h7 := SL.ev h7 E58 (fun q => q.elim) (fun q => q.elim)
   replace h13 := AT.ev h13 E58 (fun q => q.elim)
   replace h20 := AT.ev h20 E58 (fun q => q.elim)
   replace E := E.trans E58 (fun x q => q.elim)
   refine ⟨fun _ => ER.sb, ?_⟩
   refine d_q F rfl rfl rfl (by decide) (fun wq hS => r_fieldAddr F rfl ff_36_2) ER.sb fun a F => ?_
   refine d_q F rfl rfl rfl (by decide) (fun wq hS => r_fieldAddr2 F h13 rfl ff_34_1) ER.sb fun a F => ?_
   refine d_e ?_
   replace H := bind_some H
   obtain ⟨t40, q41, H⟩ := H
   refine o_call F rfl (wanted_none rfl) rfl (by decide) (r_call F Try.func60 rfl (by kernel_rfl) rfl) (slices_Clone.calls (m := m + 3) (Nat.add_pos_left hm0 _) B h7 (by omega) 0 (Nat.add_pos_left hm0 _) _ q41) ?_
   rintro e w65 ⟨c64, A68, C69, rfl, E66, B67, h70⟩
   refine ⟨_, rfl, fun a F => ?_⟩
   have B := B67
   replace ER := ER.trans E66 (fun x q => q.elim)
   replace h4 := SL.ev h4 E66 (fun q => q.elim) (fun q => q.elim)
   replace h7 := SL.ev h7 E66 (fun q => q.elim) (fun q => q.elim)
   replace h13 := AT.ev h13 E66 (fun q => q.elim)
   replace h20 := AT.ev h20 E66 (fun q => q.elim)
   replace h62 := SL.ev h62 E66 (fun q => q.elim) (fun q => q.elim)
   replace E := E.trans E66 (fun x q => q.elim)
   refine ⟨fun _ => ER.sb, ?_⟩
   refine d_e ?_
   refine o_eff0 F rfl rfl rfl (e_store F rfl rfl sz_28 h13 (Nat.le_of_ble_eq_true rfl) rfl) ?_
   rintro w72 a ⟨E73, h13, Z74⟩ F
   replace B := B.size Z74
   replace ER := ER.trans E73 (fun x q => by replace q : x = m + 1 := q; show x = m + 1; omega)
   replace h4 := SL.ev h4 E73 ne_zm ne_zm
   replace h7 := SL.ev h7 E73 ne_zm ne_zm
   replace h20 := AT.ev h20 E73 (ne_mm (by decide))
   replace h62 := SL.ev h62 E73 ne_zm ne_zm
   replace h70 := SL.ev h70 E73 ne_zm ne_zm
   replace E := E.trans E73 (fun x (q : x = m + 1) => Or.inr (le_col q))
   replace h13 : AT true (m + 1) c64 w72 qa11 [.int .i64 a1.Client, .int .i64 a1.Seq, .bool a1.Answer.Done, .slice A60 t30.length C61, .slice A5 a1.Answer.Value.length C6, .int .i64 a1.Answer.Rev, .int .i64 a1.Answer.At] := h13
   refine ⟨fun _ => ER.sb, ?_⟩
   refine d_e ?_
   refine o_val F rfl rfl rfl (by decide) (r_fieldAddr F rfl ff_36_2) fun a F => ?_
   refine ⟨fun _ => ER.sb, ?_⟩
   refine d_q F rfl rfl rfl (by decide) (fun wq hS => r_fieldAddr2 F h13 rfl ff_34_2) ER.sb fun a F => ?_
   refine d_e ?_
   refine o_eff0 F rfl rfl rfl (e_store F rfl rfl sz_28 h13 (Nat.le_of_ble_eq_true rfl) rfl) ?_
   rintro w75 a ⟨E76, h13, Z77⟩ F
   replace B := B.size Z77
   replace ER := ER.trans E76 (fun x q => by replace q : x = m + 1 := q; show x = m + 1; omega)
   replace h4 := SL.ev h4 E76 ne_zm ne_zm
   replace h7 := SL.ev h7 E76 ne_zm ne_zm
   replace h20 := AT.ev h20 E76 (ne_mm (by decide))
   replace h62 := SL.ev h62 E76 ne_zm ne_zm
   replace h70 := SL.ev h70 E76 ne_zm ne_zm
   replace E := E.trans E76 (fun x (q : x = m + 1) => Or.inr (le_col q))
   replace h13 : AT true (m + 1) c64 w75 qa11 [.int .i64 a1.Client, .int .i64 a1.Seq, .bool a1.Answer.Done, .slice A60 t30.length C61, .slice A68 t40.length C69, .int .i64 a1.Answer.Rev, .int .i64 a1.Answer.At] := h13
   refine ⟨fun q => absurd rfl q, ?_⟩
   refine d_nil ?_
   refine hK23 _ _ ?_
   replace F : Fr a 16 [(1, .pointer (some qa11)), (2, .pointer (some qa18))] := F.sub ⟨rfl, rfl, trivial⟩
   refine wp_seq_k fun K104 hK104 => ?_
   refine reg ?_
   refine q_val F rfl rfl (by decide) (r_loads (cs := [.int .i64 a1.Client, .int .i64 a1.Seq, .bool a1.Answer.Done, .slice A60 t30.length C61, .slice A68 t40.length C69, .int .i64 a1.Answer.Rev, .int .i64 a1.Answer.At]) F rfl ag_36 sz_36 h13) fun a F => ?_
   refine q_eff0 F rfl rfl (e_storeN0 (us := [.int .i64 a1.Client, .int .i64 a1.Seq, .bool a1.Answer.Done, .slice A60 t30.length C61, .slice A68 t40.length C69, .int .i64 a1.Answer.Rev, .int .i64 a1.Answer.At]) F rfl rfl sz_36 h20 (Nat.le_of_ble_eq_true rfl) (one_all rfl)) ?_
   rintro w105 a ⟨E106, h20, Z107⟩ F
   replace B := B.size Z107
   replace h4 := SL.ev h4 E106 ne_zm ne_zm
   replace h7 := SL.ev h7 E106 ne_zm ne_zm
   replace h13 := AT.ev h13 E106 (ne_mm (by decide))
   replace h62 := SL.ev h62 E106 ne_zm ne_zm
   replace h70 := SL.ev h70 E106 ne_zm ne_zm
   replace E := E.trans E106 (fun x (q : x = m + 2) => Or.inr (le_col q))
   replace h20 : AT true (m + 2) c64 w105 qa18 [.int .i64 a1.Client, .int .i64 a1.Seq, .bool a1.Answer.Done, .slice A60 t30.length C61, .slice A68 t40.length C69, .int .i64 a1.Answer.Rev, .int .i64 a1.Answer.At] := h20
   refine nil ?_
   refine hK104 _ _ ?_
   refine wp_ret ?_
   replace H := Option.some.inj H
   subst H
   refine outR1 F rfl ⟨_, rfl, lv_agg (cs := [.int .i64 a1.Client, .int .i64 a1.Seq, .bool a1.Answer.Done, .slice A60 t30.length C61, .slice A68 t40.length C69, .int .i64 a1.Answer.Rev, .int .i64 a1.Answer.At]) ag_36 sz_36 h20⟩ ?_
   exact ⟨fun b_ => (fun x_ => if x_ < m then x_ else 0) (c64 b_), A60, C61, A68, C69, rfl, E.leave B0 (fun x_ => if x_ < m then x_ else 0) (by intro x_ hx_; show (if x_ < m then x_ else 0) = x_; ((repeat' split) <;> omega)), (fun b_ hb_ => by show (if (c64 b_) < m then (c64 b_) else 0) < m; ((repeat' split) <;> omega)), SL.rc h62.r (fun k_ hk_ => by show (if (c64 k_) < m then (c64 k_) else 0) = _; rw [hk_]; ((repeat' split) <;> omega)) (fun k_ hk_ => by show (if (c64 k_) < m then (c64 k_) else 0) = _; rw [hk_]; ((repeat' split) <;> omega)), SL.rc h70.r (fun k_ hk_ => by show (if (c64 k_) < m then (c64 k_) else 0) = _; rw [hk_]; ((repeat' split) <;> omega)) (fun k_ hk_ => by show (if (c64 k_) < m then (c64 k_) else 0) = _; rw [hk_]; ((repeat' split) <;> omega))⟩
 ·refine o_val F rfl rfl rfl (by decide) (r_load F rfl ag_28 (AT.cell h13 rfl)) fun a F => ?_
  refine ⟨fun _ => ER.sb, ?_⟩
  refine d_e ?_
  refine o_val F rfl rfl rfl (by decide) (r_load F rfl ag_28 (AT.cell h13 rfl)) fun a F => ?_
  refine ⟨fun _ => ER.sb, ?_⟩
  refine d_e ?_
  replace H := bind_some H
  obtain ⟨t30, q31, H⟩ := H
  refine o_call F rfl (wanted_none rfl) rfl (by decide) (r_call F Try.func60 rfl (by kernel_rfl) rfl) (slices_Clone.calls (m := m + 3) (Nat.add_pos_left hm0 _) B h4 (by omega) 0 (Nat.add_pos_left hm0 _) _ q31) ?_
  rintro e w79 ⟨c78, A82, C83, rfl, E80, B81, h84⟩
  refine ⟨_, rfl, fun a F => ?_⟩
  have B := B81
  replace ER := ER.trans E80 (fun x q => q.elim)
  replace h4 := SL.ev h4 E80 (fun q => q.elim) (fun q => q.elim)
  replace h7 := SL.ev h7 E80 (fun q => q.elim) (fun q => q.elim)
  replace h13 := AT.ev h13 E80 (fun q => q.elim)
  replace h20 := AT.ev h20 E80 (fun q => q.elim)
  replace E := E.trans E80 (fun x q => q.elim)
  refine ⟨fun _ => ER.sb, ?_⟩
  refine d_q F rfl rfl rfl (by decide) (fun wq hS => r_fieldAddr F rfl ff_36_2) ER.sb fun a F => ?_
  refine d_q F rfl rfl rfl (by decide) (fun wq hS => r_fieldAddr2 F h13 rfl ff_34_1) ER.sb fun a F => ?_
  refine d_e ?_
  replace H := bind_some H
  obtain ⟨t40, q41, H⟩ := H
  refine o_call F rfl (wanted_none rfl) rfl (by decide) (r_call F Try.func60 rfl (by kernel_rfl) rfl) (slices_Clone.calls (m := m + 3) (Nat.add_pos_left hm0 _) B h7 (by omega) 0 (Nat.add_pos_left hm0 _) _ q41) ?_
  rintro e w87 ⟨c86, A90, C91, rfl, E88, B89, h92⟩
  refine ⟨_, rfl, fun a F => ?_⟩
  have B := B89
  replace ER := ER.trans E88 (fun x q => q.elim)
  replace h4 := SL.ev h4 E88 (fun q => q.elim) (fun q => q.elim)
  replace h7 := SL.ev h7 E88 (fun q => q.elim) (fun q => q.elim)
  replace h13 := AT.ev h13 E88 (fun q => q.elim)
  replace h20 := AT.ev h20 E88 (fun q => q.elim)
  replace h84 := SL.ev h84 E88 (fun q => q.elim) (fun q => q.elim)
  replace E := E.trans E88 (fun x q => q.elim)
  refine ⟨fun _ => ER.sb, ?_⟩
  refine d_e ?_
  refine o_eff0 F rfl rfl rfl (e_store F rfl rfl sz_28 h13 (Nat.le_of_ble_eq_true rfl) rfl) ?_
  rintro w94 a ⟨E95, h13, Z96⟩ F
  replace B := B.size Z96
  replace ER := ER.trans E95 (fun x q => by replace q : x = m + 1 := q; show x = m + 1; omega)
  replace h4 := SL.ev h4 E95 ne_zm ne_zm
  replace h7 := SL.ev h7 E95 ne_zm ne_zm
  replace h20 := AT.ev h20 E95 (ne_mm (by decide))
  replace h84 := SL.ev h84 E95 ne_zm ne_zm
  replace h92 := SL.ev h92 E95 ne_zm ne_zm
  replace E := E.trans E95 (fun x (q : x = m + 1) => Or.inr (le_col q))
  replace h13 : AT true (m + 1) c86 w94 qa11 [.int .i64 a1.Client, .int .i64 a1.Seq, .bool a1.Answer.Done, .slice A82 t30.length C83, .slice A5 a1.Answer.Value.length C6, .int .i64 a1.Answer.Rev, .int .i64 a1.Answer.At] := h13
  refine ⟨fun _ => ER.sb, ?_⟩
  refine d_e ?_
  refine o_val F rfl rfl rfl (by decide) (r_fieldAddr F rfl ff_36_2) fun a F => ?_
  refine ⟨fun _ => ER.sb, ?_⟩
  refine d_q F rfl rfl rfl (by decide) (fun wq hS => r_fieldAddr2 F h13 rfl ff_34_2) ER.sb fun a F => ?_
  refine d_e ?_
  refine o_eff0 F rfl rfl rfl (e_store F rfl rfl sz_28 h13 (Nat.le_of_ble_eq_true rfl) rfl) ?_
  rintro w97 a ⟨E98, h13, Z99⟩ F
  replace B := B.size Z99
  replace ER := ER.trans E98 (fun x q => by replace q : x = m + 1 := q; show x = m + 1; omega)
  replace h4 := SL.ev h4 E98 ne_zm ne_zm
  replace h7 := SL.ev h7 E98 ne_zm ne_zm
  replace h20 := AT.ev h20 E98 (ne_mm (by decide))
  replace h84 := SL.ev h84 E98 ne_zm ne_zm
  replace h92 := SL.ev h92 E98 ne_zm ne_zm
  replace E := E.trans E98 (fun x (q : x = m + 1) => Or.inr (le_col q))
  replace h13 : AT true (m + 1) c86 w97 qa11 [.int .i64 a1.Client, .int .i64 a1.Seq, .bool a1.Answer.Done, .slice A82 t30.length C83, .slice A90 t40.length C91, .int .i64 a1.Answer.Rev, .int .i64 a1.Answer.At] := h13
  refine ⟨fun q => absurd rfl q, ?_⟩
  refine d_nil ?_
  refine hK23 _ _ ?_
  replace F : Fr a 16 [(1, .pointer (some qa11)), (2, .pointer (some qa18))] := F.sub ⟨rfl, rfl, trivial⟩
  refine wp_seq_k fun K108 hK108 => ?_
  refine reg ?_
  refine q_val F rfl rfl (by decide) (r_loads (cs := [.int .i64 a1.Client, .int .i64 a1.Seq, .bool a1.Answer.Done, .slice A82 t30.length C83, .slice A90 t40.length C91, .int .i64 a1.Answer.Rev, .int .i64 a1.Answer.At]) F rfl ag_36 sz_36 h13) fun a F => ?_
  refine q_eff0 F rfl rfl (e_storeN0 (us := [.int .i64 a1.Client, .int .i64 a1.Seq, .bool a1.Answer.Done, .slice A82 t30.length C83, .slice A90 t40.length C91, .int .i64 a1.Answer.Rev, .int .i64 a1.Answer.At]) F rfl rfl sz_36 h20 (Nat.le_of_ble_eq_true rfl) (one_all rfl)) ?_
  rintro w109 a ⟨E110, h20, Z111⟩ F
  replace B := B.size Z111
  replace h4 := SL.ev h4 E110 ne_zm ne_zm
  replace h7 := SL.ev h7 E110 ne_zm ne_zm
  replace h13 := AT.ev h13 E110 (ne_mm (by decide))
  replace h84 := SL.ev h84 E110 ne_zm ne_zm
  replace h92 := SL.ev h92 E110 ne_zm ne_zm
  replace E := E.trans E110 (fun x (q : x = m + 2) => Or.inr (le_col q))
  replace h20 : AT true (m + 2) c86 w109 qa18 [.int .i64 a1.Client, .int .i64 a1.Seq, .bool a1.Answer.Done, .slice A82 t30.length C83, .slice A90 t40.length C91, .int .i64 a1.Answer.Rev, .int .i64 a1.Answer.At] := h20
  refine nil ?_
  refine hK108 _ _ ?_
  refine wp_ret ?_
  replace H := Option.some.inj H
  subst H
  refine outR1 F rfl ⟨_, rfl, lv_agg (cs := [.int .i64 a1.Client, .int .i64 a1.Seq, .bool a1.Answer.Done, .slice A82 t30.length C83, .slice A90 t40.length C91, .int .i64 a1.Answer.Rev, .int .i64 a1.Answer.At]) ag_36 sz_36 h20⟩ ?_
  exact ⟨fun b_ => (fun x_ => if x_ < m then x_ else 0) (c86 b_), A82, C83, A90, C91, rfl, E.leave B0 (fun x_ => if x_ < m then x_ else 0) (by intro x_ hx_; show (if x_ < m then x_ else 0) = x_; ((repeat' split) <;> omega)), (fun b_ hb_ => by show (if (c86 b_) < m then (c86 b_) else 0) < m; ((repeat' split) <;> omega)), SL.rc h84.r (fun k_ hk_ => by show (if (c86 k_) < m then (c86 k_) else 0) = _; rw [hk_]; ((repeat' split) <;> omega)) (fun k_ hk_ => by show (if (c86 k_) < m then (c86 k_) else 0) = _; rw [hk_]; ((repeat' split) <;> omega)), SL.rc h92.r (fun k_ hk_ => by show (if (c86 k_) < m then (c86 k_) else 0) = _; rw [hk_]; ((repeat' split) <;> omega)) (fun k_ hk_ => by show (if (c86 k_) < m then (c86 k_) else 0) = _; rw [hk_]; ((repeat' split) <;> omega))⟩
end Go.Proofs.Ythankpjbfpcldaa.G
