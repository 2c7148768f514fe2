/- The row of 'ShardOnce', its '..UptoSaid': whatever the input of bulk at most 1048576, the law returns true and the input reads as it did; its condition: that bulk. -/
import Derived.Test.YthankpjbfpcldaaHShardOnceF
import Derived.Test.YthankpjbfpcldaaRows
import Derived.WalkKit
import Derived.ProofKit
import Derived.OpenShut
import Derived.JoinedCond
import Derived.Below
import Derived.ChangeOld
namespace Go.Proofs.Ythankpjbfpcldaa.G
open Go
set_option linter.unusedVariables false
set_option linter.unusedSimpArgs false
abbrev Fuel (k : Nat) : Prop := 1099511627776 ≤ k
theorem bind_eq {α β : Type} {x : Option α} {f : α → Option β} {a : α} (h : x = some a) : x.bind f = f a := by rw [h]; rfl
theorem shr7 (n : Nat) : shr .i64 (n : Int) 7 = ((n / 128 : Nat) : Int) := by
  unfold shr
  have : (2 : Int) ^ (min (7 : Int).toNat IntKind.i64.bits) = 128 := by decide
  rw [this, Int.fdiv_eq_ediv_of_nonneg _ (by omega)]
  omega
theorem shr7u (n : Nat) : shr .u64 (n : Int) 7 = ((n / 128 : Nat) : Int) := by
  unfold shr
  have : (2 : Int) ^ (min (7 : Int).toNat IntKind.u64.bits) = 128 := by decide
  rw [this, Int.fdiv_eq_ediv_of_nonneg _ (by omega)]
  omega
def nmF : Nat → Nat → Nat
  | 0, _ => 0
  | f + 1, n => if n ≤ 127 then 0 else nmF f (n / 128) + 1
def nm (n : Nat) : Nat := 1 + nmF 9 n
theorem nmF_le : ∀ f n, nmF f n ≤ f
  | 0, _ => Nat.le_refl _
  | f + 1, n => by
    have := nmF_le f (n / 128)
    unfold nmF; split <;> omega
theorem num_loop : ∀ (f n s k : Nat), n < 128 ^ f → f < k → s + f < 1000 → loop (fun (s_ : Int × Int) => table_num.b1 s_.1 s_.2) k ((n : Int), (s : Int)) = some ((s + nmF f n : Nat) : Int)
  | _, _, _, 0, _, h, _ => absurd h (by omega)
  | 0, n, s, k + 1, h, _, _ => by
    have : n = 0 := by simpa using h
    subst this
    rw [loop_done (x := (s : Int))]
    · simp [nmF]
    · simp [table_num.b1]
  | f + 1, n, s, k + 1, h, hk, hs => by
    by_cases c : n ≤ 127
    · rw [loop_done (x := (s : Int))]
      · simp [nmF, c]
      · unfold table_num.b1; rw [if_neg (by omega)]
    · have hd : n / 128 < 128 ^ f := by rw [Nat.pow_succ] at h; omega
      rw [loop_next (s' := (((n / 128 : Nat) : Int), ((s + 1 : Nat) : Int)))]
      · rw [num_loop f (n / 128) (s + 1) k hd (by omega) (by omega)]
        simp only [nmF, if_neg c]; congr 2; omega
      · unfold table_num.b1
        rw [if_pos (by omega), shr7, wr (by omega) (by omega)]
        congr 3
theorem num_eq {k n : Nat} (hk : Fuel k) (hn : n < 9223372036854775808) : table_num.f k (n : Int) = some (nm n : Int) := by
  unfold table_num.f
  rw [show ((n : Int), (1 : Int)) = ((n : Int), ((1 : Nat) : Int)) from rfl, bind_eq (num_loop 9 n 1 k (by omega) (by omega) (by omega))]
  rfl
def lg (k : ByteArray) (c : table_cell) : Int := nm k.size + k.size + nm c.value.length + c.value.length + nm c.rev.toNat
def sz (L : List Ent) : Int := (L.map fun e => lg e.1 e.2).sum
structure Inv (L : List Ent) (r : Nat) : Prop where
  ord : Ord L
  len : L.length ≤ r
  ent : ∀ e ∈ L, 1 ≤ e.1.size ∧ e.1.size ≤ 64 ∧ e.2.value.length ≤ 256 ∧ 1 ≤ e.2.rev ∧ e.2.rev ≤ r
theorem nm_le (n : Nat) : 1 ≤ nm n ∧ nm n ≤ 10 := by have := nmF_le 9 n; unfold nm; omega
theorem lg_le {k : ByteArray} {c : table_cell} (h1 : k.size ≤ 64) (h2 : c.value.length ≤ 256) : 0 ≤ lg k c ∧ lg k c ≤ 400 := by
  have := nm_le k.size; have := nm_le c.value.length; have := nm_le c.rev.toNat
  unfold lg; omega
theorem sz_le : ∀ {L : List Ent} {r : Nat}, (∀ e ∈ L, 1 ≤ e.1.size ∧ e.1.size ≤ 64 ∧ e.2.value.length ≤ 256 ∧ 1 ≤ e.2.rev ∧ e.2.rev ≤ (r : Int)) → 0 ≤ sz L ∧ sz L ≤ 400 * L.length
  | [], _, _ => by simp [sz]
  | e :: L, r, h => by
    have h1 := sz_le (L := L) (r := r) (fun x hx => h x (by simp [hx]))
    have h2 := h e (by simp)
    have h3 := lg_le h2.2.1 h2.2.2.1
    simp only [sz, List.map_cons, List.sum_cons, List.length_cons] at h1 ⊢
    omega
theorem long_eq {k : Nat} (hk : Fuel k) {key : ByteArray} {c : table_cell} (h1 : key.size ≤ 64) (h2 : c.value.length ≤ 256) (h3 : 0 ≤ c.rev) (h4 : c.rev ≤ 1099511627776) : table_long.f k key c = some (lg key c) := by
  have e3 : (c.rev : Int) = ((c.rev.toNat : Nat) : Int) := by omega
  have := nm_le key.size; have := nm_le c.value.length; have := nm_le c.rev.toNat
  unfold table_long.f
  rw [bind_eq (num_eq hk (n := key.size) (by omega)), bind_eq (num_eq hk (n := c.value.length) (by omega)), e3, bind_eq (num_eq hk (n := c.rev.toNat) (by omega))]
  rw [wr (n := (nm key.size : Int) + key.size) (by omega) (by omega), wr (n := (nm key.size : Int) + key.size + nm c.value.length) (by omega) (by omega), wr (n := (nm key.size : Int) + key.size + nm c.value.length + c.value.length) (by omega) (by omega), wr (by omega) (by omega)]
  rfl
theorem sz_cons (e : Ent) (L : List Ent) : sz (e :: L) = lg e.1 e.2 + sz L := by simp [sz]
theorem sz_ins (k : ByteArray) (v : table_cell) : ∀ L : List Ent, sz (ins k v L) = sz L + lg k v - (look k L).elim 0 (fun o => lg k o)
  | [] => by simp [ins, look, sz]
  | (a, x) :: L => by
    simp only [ins, look]
    split
    · simp only [sz_cons, Option.elim]; omega
    · split
      · rw [sz_cons, sz_cons, sz_ins k v L]; omega
      · rename_i c1 c2
        have he : k = a := lt_tri (by simpa using c1) (by simpa using c2)
        subst he
        simp only [sz_cons, Option.elim]; omega
theorem sz_del (k : ByteArray) : ∀ L : List Ent, sz (del k L) = sz L - (look k L).elim 0 (fun o => lg k o)
  | [] => by simp [del, look, sz]
  | (a, x) :: L => by
    simp only [del, look]
    split
    · simp only [Option.elim]; omega
    · split
      · rw [sz_cons, sz_cons, sz_del k L]; omega
      · rename_i c1 c2
        have he : k = a := lt_tri (by simpa using c1) (by simpa using c2)
        subst he
        simp only [sz_cons, Option.elim]; omega
theorem Inv.look {L : List Ent} {r : Nat} (h : Inv L r) {k : ByteArray} {c : table_cell} (hl : look k L = some c) : 1 ≤ k.size ∧ k.size ≤ 64 ∧ c.value.length ≤ 256 ∧ 1 ≤ c.rev ∧ c.rev ≤ r := h.ent _ (look_mem L hl)
theorem Inv.ins {L : List Ent} {r : Nat} (h : Inv L r) {k : ByteArray} {v : List Int} (h1 : 1 ≤ k.size) (h2 : k.size ≤ 64) (h3 : v.length ≤ 256) : Inv (ins k ⟨v, r + 1⟩ L) (r + 1) := by
  refine ⟨ins_ord L h.ord, ?_, fun e he => ?_⟩
  · have := ins_len k ⟨v, r + 1⟩ L; have := h.len; omega
  · rcases mem_ins L he with rfl | he
    · exact ⟨h1, h2, h3, by show (1 : Int) ≤ (r : Int) + 1; omega, by show (r : Int) + 1 ≤ ((r + 1 : Nat) : Int); omega⟩
    · have := h.ent e he; refine ⟨this.1, this.2.1, this.2.2.1, this.2.2.2.1, ?_⟩; have := this.2.2.2.2; omega
theorem Inv.del {L : List Ent} {r : Nat} (h : Inv L r) (k : ByteArray) : Inv (del k L) (r + 1) := by
  refine ⟨del_ord L h.ord, ?_, fun e he => ?_⟩
  · have := del_len k L; have := h.len; omega
  · have := h.ent e (mem_del L he); refine ⟨this.1, this.2.1, this.2.2.1, this.2.2.2.1, ?_⟩; have := this.2.2.2.2; omega
theorem Inv.up {L : List Ent} {r : Nat} (h : Inv L r) : Inv L (r + 1) := by
  refine ⟨h.ord, by have := h.len; omega, fun e he => ?_⟩
  have := h.ent e he; refine ⟨this.1, this.2.1, this.2.2.1, this.2.2.2.1, ?_⟩; have := this.2.2.2.2; omega
def Rep (t : Option Tab) (L : List Ent) (r : Nat) : Prop := ∃ rows, t = some ⟨rows, r, sz L⟩ ∧ rows.WF ∧ rows.list = L ∧ Inv L r
def told (r : Int) (k : ByteArray) (o : Option table_cell) : api_Answer := match o with
  | some c => ⟨true, sb k, c.value, c.rev, r⟩
  | none => ⟨false, [], [], 0, r⟩
def zeroA : api_Answer := ⟨false, [], [], 0, 0⟩
def keyok (o : api_Op) : Bool := decide (0 < o.Key.length) && decide (o.Key.length ≤ 64)
def right (o : api_Op) : Bool :=
  if o.Kind = 4 then keyok o && decide (o.Value.length ≤ 256) && decide (0 ≤ o.Rev) && decide (o.Rev ≤ 1099511627776)
  else if o.Kind = 2 then keyok o && decide (o.Value.length ≤ 256) && decide (o.Rev = 0)
  else if o.Kind = 5 then decide (o.Key.length ≤ 65) && decide (o.Value.length = 0) && decide (o.Rev = 0)
  else if o.Kind = 1 ∨ o.Kind = 3 then keyok o && decide (o.Value.length = 0) && decide (o.Rev = 0)
  else false
theorem j4_eq (a b c : Bool) : table_Right.j4 a b c = some (a && b && c) := by cases a <;> cases b <;> cases c <;> rfl
theorem right_eq (o : api_Op) : table_Right.f o = some (right o) := by
  have hk : ∀ b, (if 0 < (o.Key.length : Int) then table_Right.j1 o (decide ((o.Key.length : Int) ≤ 64)) else table_Right.j1 o false) = some b ↔ table_Right.j1 o (keyok o) = some b := by
    intro b
    unfold keyok
    by_cases h : 0 < o.Key.length
    · rw [if_pos (by omega), decide_eq_true h, Bool.true_and]
      have : decide ((o.Key.length : Int) ≤ 64) = decide (o.Key.length ≤ 64) := by apply decide_eq_decide.2; omega
      rw [this]
    · rw [if_neg (by omega), decide_eq_false h, Bool.false_and]
  unfold table_Right.f
  rw [hk]
  have v1 : decide ((o.Value.length : Int) ≤ 256) = decide (o.Value.length ≤ 256) := by apply decide_eq_decide.2; omega
  have v2 : decide ((o.Value.length : Int) = 0) = decide (o.Value.length = 0) := by apply decide_eq_decide.2; omega
  have v3 : decide ((o.Key.length : Int) ≤ 65) = decide (o.Key.length ≤ 65) := by apply decide_eq_decide.2; omega
  unfold table_Right.j1 table_Right.j2 table_Right.j3 right
  simp only [j4_eq, v1, v2, v3]
  by_cases c4 : o.Kind = 4
  · simp only [c4, if_true]
    by_cases c : 0 ≤ o.Rev
    · simp [c]
    · simp [c]
  · simp only [c4, if_false]
    by_cases c2 : o.Kind = 2
    · simp only [c2, if_true]
    · simp only [c2, if_false]
      by_cases c5 : o.Kind = 5
      · simp only [c5, if_true]
      · simp only [c5, if_false]
        by_cases c1 : o.Kind = 1
        · simp [c1]
        · by_cases c3 : o.Kind = 3
          · simp [c3]
          · simp [c1, c3]
def isW (o : api_Op) : Bool := decide (o.Kind = 2) || decide (o.Kind = 3) || decide (o.Kind = 4)
theorem writes_eq (o : api_Op) : table_writes.f o = some (isW o) := by
  unfold table_writes.f isW
  by_cases c2 : o.Kind = 2
  · simp [c2]
  · by_cases c3 : o.Kind = 3
    · simp [c3]
    · simp [c2, c3]
theorem bs_size (l : List Int) : (bs l).size = l.length := by simp [bs, ByteArray.size]
theorem right_key {o : api_Op} (h : right o = true) : o.Key.length ≤ 65 ∧ o.Value.length ≤ 256 ∧ (o.Kind ≠ 5 → 1 ≤ o.Key.length ∧ o.Key.length ≤ 64) ∧ (o.Kind = 1 ∨ o.Kind = 2 ∨ o.Kind = 3 ∨ o.Kind = 4 ∨ o.Kind = 5) := by
  unfold right keyok at h
  split at h
  · simp only [Bool.and_eq_true, decide_eq_true_eq] at h; omega
  · split at h
    · simp only [Bool.and_eq_true, decide_eq_true_eq] at h; omega
    · split at h
      · simp only [Bool.and_eq_true, decide_eq_true_eq] at h; omega
      · split at h
        · simp only [Bool.and_eq_true, decide_eq_true_eq] at h; omega
        · cases h
end Go.Proofs.Ythankpjbfpcldaa.G
namespace Go.Proofs.Ythankpjbfpcldaa.G
open Go
set_option linter.unusedVariables false
set_option linter.unusedSimpArgs false
theorem told_some {rows : Tr} {r z : Int} {k : ByteArray} {c : table_cell} (h1 : k.size ≤ 1000) (h2 : c.value.length ≤ 1000) : table_Table_told.f (some ⟨rows, r, z⟩) k c true = some (told r k (some c)) := by
  unfold table_Table_told.f bytes_Clone.f
  simp only [Option.bind_some, if_true]
  rw [if_pos (by omega), if_pos (by omega)]
  rfl
theorem told_none {rows : Tr} {r z : Int} {k : ByteArray} {c : table_cell} : table_Table_told.f (some ⟨rows, r, z⟩) k c false = some (told r k none) := by
  unfold table_Table_told.f
  simp [told]
theorem told_look {rows : Tr} {r z : Int} {k : ByteArray} {L : List Ent} {n : Nat} (hI : Inv L n) :
    table_Table_told.f (some ⟨rows, r, z⟩) k (gotQ (look k L)).1 (gotQ (look k L)).2 = some (told r k (look k L)) := by
  cases h : look k L with
  | none => exact told_none
  | some c => have := hI.look h; exact told_some (k := k) (c := c) (by omega) (by omega)
def okE (e : Ent) : Prop := e.1.size ≤ 64 ∧ e.2.value.length ≤ 256 ∧ 0 ≤ e.2.rev ∧ e.2.rev ≤ 1099511627776
theorem sz_ok : ∀ {L : List Ent}, (∀ e ∈ L, okE e) → 0 ≤ sz L ∧ sz L ≤ 400 * L.length
  | [], _ => by simp [sz]
  | e :: L, h => by
    have h1 := sz_ok (L := L) (fun x hx => h x (by simp [hx]))
    have h2 := h e (by simp)
    have h3 := lg_le h2.1 h2.2.1
    simp only [sz, List.map_cons, List.sum_cons, List.length_cons] at h1 ⊢
    omega
theorem set_put0 {k : Nat} (hk : Fuel k) {rows : Tr} {L : List Ent} {R : Int} (hlen : L.length < 10000000000) (hw : rows.WF) (hl : rows.list = L) (ho : Ord L) (hE : ∀ e ∈ L, okE e) {key : ByteArray} {c : table_cell} (hc : okE (key, c)) :
    ∃ u, table_Table_set.f k (some ⟨rows, R, sz L⟩) key c true = some (some ⟨u, R, sz (ins key c L)⟩) ∧ u.WF ∧ u.list = ins key c L := by
  subst hl
  have hh := rows.hgt_le
  obtain ⟨u, eu, wu, lu⟩ := put_eq k rows key c (by have : 1099511627776 ≤ k := hk; omega) hw ho (by unfold big; omega)
  have hsz := sz_ok hE
  have hlg := lg_le (k := key) (c := c) hc.1 hc.2.1
  have hlk : 0 ≤ (look key rows.list).elim 0 (fun o => lg key o) ∧ (look key rows.list).elim 0 (fun o => lg key o) ≤ 400 := by
    cases h : look key rows.list with
    | none => simp
    | some x => have := hE _ (look_mem _ h); exact lg_le (k := key) (c := x) this.1 this.2.1
  have hput : table_Table_set.j1 k key c true ⟨rows, R, sz rows.list⟩ (sz rows.list - (look key rows.list).elim 0 (fun o => lg key o)) = some (some ⟨u, R, sz (ins key c rows.list)⟩) := by
    unfold table_Table_set.j1
    rw [if_pos rfl, bind_eq eu, bind_eq (long_eq hk (key := key) (c := c) hc.1 hc.2.1 hc.2.2.1 hc.2.2.2)]
    rw [sz_ins]
    rw [wr (by omega) (by omega)]
    simp only [Option.some.injEq, Tab.mk.injEq, true_and]; omega
  refine ⟨u, ?_, wu, lu⟩
  unfold table_Table_set.f
  simp only [Option.bind_some]
  rw [bind_eq (get_eq k rows key (by have : 1099511627776 ≤ k := hk; omega) ho)]
  cases h : look key rows.list with
  | none =>
    rw [h] at hput
    simp only [Option.elim, Int.sub_zero] at hput
    rw [if_neg (by simp [gotQ])]
    exact hput
  | some x =>
    have hx := hE _ (look_mem _ h)
    rw [h] at hput
    simp only [Option.elim] at hput
    have hL : table_long.f k key (gotQ (some x)).1 = some (lg key x) := long_eq hk (c := x) hx.1 hx.2.1 hx.2.2.1 hx.2.2.2
    rw [if_pos (show (gotQ (some x)).2 = true from rfl), bind_eq hL]
    have := lg_le (k := key) (c := x) hx.1 hx.2.1
    rw [wr (by omega) (by omega)]
    exact hput
theorem set_put {k : Nat} (hk : Fuel k) {rows : Tr} {L : List Ent} {r : Nat} (hr : r < 4194304) (hw : rows.WF) (hl : rows.list = L) (hI : Inv L r) {key : ByteArray} {v : List Int} (h1 : 1 ≤ key.size) (h2 : key.size ≤ 64) (h3 : v.length ≤ 256) :
    ∃ t, table_Table_set.f k (some ⟨rows, r + 1, sz L⟩) key ⟨v, r + 1⟩ true = some t ∧ Rep t (ins key ⟨v, r + 1⟩ L) (r + 1) := by
  obtain ⟨u, e, wu, lu⟩ := set_put0 hk (R := (r : Int) + 1) (Nat.lt_trans (Nat.lt_of_le_of_lt hI.len hr) (by omega)) hw hl hI.ord (fun e he => by have := hI.ent e he; exact ⟨this.2.1, this.2.2.1, by omega, by omega⟩) (key := key) (c := ⟨v, (r : Int) + 1⟩) ⟨h2, h3, by show (0 : Int) ≤ (r : Int) + 1; omega, by show (r : Int) + 1 ≤ _; omega⟩
  exact ⟨_, e, u, rfl, wu, lu, hI.ins h1 h2 h3⟩
theorem set_del {k : Nat} (hk : Fuel k) {rows : Tr} {L : List Ent} {r : Nat} (hr : r < 4194304) (hw : rows.WF) (hl : rows.list = L) (hI : Inv L r) {key : ByteArray} {c0 : table_cell} :
    ∃ t, table_Table_set.f k (some ⟨rows, r + 1, sz L⟩) key c0 false = some t ∧ Rep t (del key L) (r + 1) := by
  subst hl
  have hlen := hI.len
  have hh := rows.hgt_le
  obtain ⟨u, eu, wu, lu⟩ := delete_eq k rows key (by have : 1099511627776 ≤ k := hk; omega) hw hI.ord (by unfold big; omega)
  have hsz := sz_le hI.ent
  have hput : table_Table_set.j1 k key c0 false ⟨rows, r + 1, sz rows.list⟩ (sz rows.list - (look key rows.list).elim 0 (fun o => lg key o)) = some (some ⟨u, r + 1, sz (del key rows.list)⟩) := by
    unfold table_Table_set.j1
    rw [if_neg (by simp), bind_eq eu, sz_del]
  refine ⟨_, ?_, u, rfl, wu, lu, hI.del key⟩
  unfold table_Table_set.f
  simp only [Option.bind_some]
  rw [bind_eq (get_eq k rows key (by have : 1099511627776 ≤ k := hk; omega) hI.ord)]
  rw [show ((r + 1 : Nat) : Int) = (r : Int) + 1 by omega]
  cases h : look key rows.list with
  | none =>
    rw [h] at hput
    simp only [Option.elim, Int.sub_zero] at hput
    rw [if_neg (by simp [gotQ])]
    exact hput
  | some c =>
    have hc := hI.look h
    rw [h] at hput
    simp only [Option.elim] at hput
    have hL : table_long.f k key (gotQ (some c)).1 = some (lg key c) := long_eq hk (c := c) hc.2.1 hc.2.2.1 (by omega) (by omega)
    rw [if_pos (show (gotQ (some c)).2 = true from rfl), bind_eq hL]
    have := lg_le hc.2.1 hc.2.2.1
    rw [wr (by omega) (by omega)]
    exact hput
def act (L : List Ent) (r : Nat) (o : api_Op) : api_Answer × Int × List Ent × Nat :=
  if right o = false then (zeroA, 131, L, r)
  else if o.Kind = 5 then ((match above (bs o.Key) L with | [] => told r .empty none | (k, v) :: _ => told r k (some v)), 0, L, r)
  else if o.Kind = 1 then (told r (bs o.Key) (look (bs o.Key) L), 0, L, r)
  else if o.Kind = 3 then (told ((r : Int) + 1) (bs o.Key) (look (bs o.Key) L), 0, del (bs o.Key) L, r + 1)
  else if o.Kind = 2 ∨ (look (bs o.Key) L).elim 0 (fun c => c.rev) = o.Rev then ({ told ((r : Int) + 1) (bs o.Key) (look (bs o.Key) L) with Done := true }, 0, ins (bs o.Key) ⟨o.Value, r + 1⟩ L, r + 1)
  else ({ told ((r : Int) + 1) (bs o.Key) (look (bs o.Key) L) with Done := false }, 0, L, r + 1)
theorem above_mem {key : ByteArray} {L : List Ent} {e : Ent} {M : List Ent} (h : above key L = e :: M) : e ∈ L := by
  have : e ∈ above key L := by rw [h]; simp
  exact (List.mem_filter.1 this).1
theorem do_eq {k : Nat} (hk : Fuel k) {t : Option Tab} {L : List Ent} {r : Nat} (hr : r < 4194304) (hT : Rep t L r) (o : api_Op) :
    ∃ t', table_Table_Do.f k t o = some ((act L r o).1, (act L r o).2.1, t') ∧ Rep t' (act L r o).2.2.1 (act L r o).2.2.2 := by
  obtain ⟨rows, rfl, hw, hl, hI⟩ := hT
  subst hl
  have hT : Rep (some ⟨rows, r, sz rows.list⟩) rows.list r := ⟨rows, rfl, hw, rfl, hI⟩
  have hlen := hI.len
  have hh := rows.hgt_le
  have h24 : 1099511627776 ≤ k := hk
  unfold table_Table_Do.f act
  rw [if_neg (by simp), bind_eq (right_eq o)]
  cases hR : right o with
  | false => exact ⟨_, rfl, hT⟩
  | true =>
    obtain ⟨k1, k2, k3, k4⟩ := right_key hR
    rw [if_pos rfl, if_neg (show ¬ (true = false) by simp)]
    by_cases c5 : o.Kind = 5
    · rw [if_pos c5, if_pos c5]
      simp only [Option.bind_some]
      rw [bind_eq (seek_eq rows (bs o.Key) hI.ord)]
      unfold table_Table_Do.j1
      cases hA : above (bs o.Key) rows.list with
      | nil =>
        refine ⟨_, ?_, hT⟩
        rw [bind_eq (show table_Table_told.f (some ⟨rows, r, sz rows.list⟩) (seekQ []).1 (seekQ []).2.1 (seekQ []).2.2 = _ from told_none)]; rfl
      | cons e M =>
        have := hI.ent e (above_mem hA)
        refine ⟨_, ?_, hT⟩
        rw [bind_eq (show table_Table_told.f (some ⟨rows, r, sz rows.list⟩) (seekQ (e :: M)).1 (seekQ (e :: M)).2.1 (seekQ (e :: M)).2.2 = _ from told_some (k := e.1) (c := e.2) (by omega) (by omega))]
    · rw [if_neg c5, if_neg c5]
      have k3' := k3 c5
      simp only [Option.bind_some]
      rw [bind_eq (get_eq k rows (bs o.Key) (by omega) hI.ord), bind_eq (writes_eq o)]
      by_cases c1 : o.Kind = 1
      · rw [if_pos c1, if_neg (by simp [isW, c1])]
        refine ⟨_, ?_, hT⟩
        rw [bind_eq (told_look hI)]
      · have hiw : isW o = true := by unfold isW; simp; omega
        rw [if_neg c1, if_pos hiw, if_neg (by show ¬ ((r : Int) = _); omega)]
        rw [wr (n := (r : Int) + 1) (by omega) (by omega), bind_eq (told_look hI)]
        have hcl : bytes_Clone.f o.Value = some o.Value := by unfold bytes_Clone.f; rw [if_pos (by omega)]
        rw [bind_eq hcl]
        unfold table_Table_Do.j2
        rw [wr (n := (r : Int) + 1) (by omega) (by omega)]
        by_cases c3 : o.Kind = 3
        · rw [if_pos c3, if_pos c3]
          obtain ⟨t', e', R'⟩ := set_del hk (c0 := ⟨o.Value, (r : Int) + 1⟩) (key := bs o.Key) hr hw rfl hI
          exact ⟨t', by rw [bind_eq e'], R'⟩
        · rw [if_neg c3, if_neg c3]
          obtain ⟨t', e', R'⟩ := set_put hk (key := bs o.Key) (v := o.Value) hr hw rfl hI (by rw [bs_size]; omega) (by rw [bs_size]; omega) k2
          have hj : ∀ b, table_Table_Do.j3 k o ⟨rows, r, sz rows.list⟩ (told ((r : Int) + 1) (bs o.Key) (look (bs o.Key) rows.list)) o.Value b = if b = true then some ({ told ((r : Int) + 1) (bs o.Key) (look (bs o.Key) rows.list) with Done := true }, 0, t') else some ({ told ((r : Int) + 1) (bs o.Key) (look (bs o.Key) rows.list) with Done := false }, 0, some ⟨rows, r + 1, sz rows.list⟩) := by
            intro b
            unfold table_Table_Do.j3
            rw [wr (n := (r : Int) + 1) (by omega) (by omega)]
            cases b with
            | true => rw [if_pos rfl, if_pos rfl, bind_eq e']
            | false => rw [if_neg (by simp), if_neg (by simp)]
          have hold : (gotQ (look (bs o.Key) rows.list)).1.rev = (look (bs o.Key) rows.list).elim 0 (fun c => c.rev) := by
            cases look (bs o.Key) rows.list <;> rfl
          by_cases c2 : o.Kind = 2
          · rw [if_pos c2, if_pos (Or.inl c2), hj, if_pos rfl]
            exact ⟨t', rfl, R'⟩
          · rw [if_neg c2, hj, hold]
            by_cases c : (look (bs o.Key) rows.list).elim 0 (fun c => c.rev) = o.Rev
            · rw [if_pos (Or.inr c), if_pos (by simp [c])]
              exact ⟨t', rfl, R'⟩
            · rw [if_neg (show ¬ (o.Kind = 2 ∨ (look (bs o.Key) rows.list).elim 0 (fun c => c.rev) = o.Rev) from fun h => h.elim c2 c), if_neg (by simp [c])]
              exact ⟨_, rfl, rows, by simp, hw, rfl, hI.up⟩
theorem act_r (L : List Ent) (r : Nat) (o : api_Op) : (act L r o).2.2.2 = r ∨ (act L r o).2.2.2 = r + 1 := by
  unfold act
  repeat' split
  all_goals simp
theorem new_rep : ∃ t, table_New.f = some t ∧ Rep t [] 0 := ⟨_, rfl, .nil, rfl, trivial, rfl, ⟨List.Pairwise.nil, Nat.le_refl _, fun e he => by cases he⟩⟩
end Go.Proofs.Ythankpjbfpcldaa.G
namespace Go.Proofs.Ythankpjbfpcldaa.G
open Go
set_option linter.unusedVariables false
set_option linter.unusedSimpArgs false
theorem rd_eq {α : Type} [Inhabited α] {xs : List α} {i : Nat} (h : i < xs.length) : rd xs (i : Int) = xs[i] := by
  unfold rd
  rw [Int.toNat_natCast, List.getD_eq_getElem?_getD, List.getElem?_eq_getElem h]
  rfl
theorem wrS (i : Nat) (h : i < 1000000000000) : IntKind.i64.wrap ((i : Int) + 1) = ((i + 1 : Nat) : Int) := by rw [wr (by omega) (by omega)]; omega
abbrev St := List Ent × Nat
def stepS (s : St) (o : api_Op) : St := (act s.1 s.2 o).2.2
theorem step_r (s : St) (o : api_Op) : (stepS s o).2 = s.2 ∨ (stepS s o).2 = s.2 + 1 := act_r s.1 s.2 o
abbrev RepS (t : Option Tab) (s : St) : Prop := Rep t s.1 s.2
theorem do_step {k : Nat} (hk : Fuel k) {t : Option Tab} {s : St} (hr : s.2 < 4194304) (hT : RepS t s) (o : api_Op) :
    ∃ t', table_Table_Do.f k t o = some ((act s.1 s.2 o).1, (act s.1 s.2 o).2.1, t') ∧ RepS t' (stepS s o) := do_eq hk hr hT o
theorem loop_inv {S X : Type} {f : S → Option (Ctl S X)} {I : Nat → S → Prop} {P : X → Prop} {N : Nat}
    (step : ∀ i s, i < N → I i s → (∃ s', f s = some (.next s') ∧ I (i + 1) s') ∨ (∃ x, f s = some (.done x) ∧ P x))
    (last : ∀ s, I N s → ∃ x, f s = some (.done x) ∧ P x) : ∀ (n i : Nat) (s : S) (m : Nat), I i s → i + n = N → n < m → ∃ x, loop f m s = some x ∧ P x
  | _, _, _, 0, _, _, h => absurd h (by omega)
  | 0, i, s, m + 1, hI, hN, _ => by
    obtain rfl : i = N := by omega
    obtain ⟨x, h1, h2⟩ := last s hI
    exact ⟨x, loop_done h1, h2⟩
  | n + 1, i, s, m + 1, hI, hN, hm => by
    rcases step i s (by omega) hI with ⟨s', h1, h2⟩ | ⟨x, h1, h2⟩
    · rw [loop_next h1]
      exact loop_inv step last n (i + 1) s' m h2 (by omega) (by omega)
    · exact ⟨x, loop_done h1, h2⟩
def fmP : Nat → Nat → List Int
  | 0, _ => []
  | f + 1, n => if n ≤ 127 then [] else bor .u8 (IntKind.u8.wrap n) 128 :: fmP f (n / 128)
def fmL : Nat → Nat → Nat
  | 0, n => n
  | f + 1, n => if n ≤ 127 then n else fmL f (n / 128)
def fm (n : Nat) : List Int := fmP 9 n ++ [IntKind.u8.wrap (fmL 9 n)]
theorem fmP_len : ∀ f n, (fmP f n).length = nmF f n
  | 0, _ => rfl
  | f + 1, n => by
    unfold fmP nmF
    split
    · rfl
    · rw [List.length_cons, fmP_len f]
theorem fm_len (n : Nat) : (fm n).length = nm n := by unfold fm nm; rw [List.length_append, fmP_len]; simp; omega
theorem form_loop : ∀ (f n k : Nat) (l : List Int), n < 128 ^ f → f < k → l.length + f < 1000 → loop (fun (s_ : Int × List Int) => parcel_form.b1 s_.1 s_.2) k ((n : Int), l) = some ((fmL f n : Int), l ++ fmP f n)
  | _, _, 0, _, _, h, _ => absurd h (by omega)
  | 0, n, k + 1, l, h, _, _ => by
    have : n = 0 := by simpa using h
    subst this
    rw [loop_done (x := ((0 : Int), l))]
    · simp [fmP, fmL]
    · simp [parcel_form.b1]
  | f + 1, n, k + 1, l, h, hk, hs => by
    by_cases c : n ≤ 127
    · rw [loop_done (x := ((n : Int), l))]
      · simp [fmP, fmL, c]
      · unfold parcel_form.b1; rw [if_neg (by omega)]
    · have hd : n / 128 < 128 ^ f := by rw [Nat.pow_succ] at h; omega
      rw [loop_next (s' := (((n / 128 : Nat) : Int), l ++ [bor .u8 (IntKind.u8.wrap n) 128]))]
      · rw [form_loop f (n / 128) k _ hd (by omega) (by simp; omega)]
        simp [fmP, fmL, c]
      · unfold parcel_form.b1
        rw [if_pos (by omega), if_pos (by simp; omega), shr7u]
theorem form_eq {k n : Nat} (hk : Fuel k) (hn : n < 9223372036854775808) : parcel_form.f k (n : Int) = some (fm n) := by
  have h24 : 1099511627776 ≤ k := hk
  have := nmF_le 9 n
  unfold parcel_form.f
  rw [if_pos (by decide), bind_eq (form_loop 9 n k _ (by omega) (by omega) (by simp))]
  unfold parcel_form.j2
  simp only [Int.toNat_zero, List.replicate_zero, List.nil_append]
  rw [if_pos (by rw [fmP_len]; simp; omega)]
  rfl
theorem wru {n : Int} (h0 : 0 ≤ n) (h1 : n < 9223372036854775808) : IntKind.u64.wrap n = n := by
  simp only [IntKind.wrap, IntKind.bits, IntKind.signed]; simp; omega
abbrev W (room : Int) (b : List Int) : Option Wri := some ⟨room, b, [], 0⟩
theorem lay_eq {room : Int} {b a : List Int} (h1 : (b.length + a.length : Nat) ≤ room) (h2 : room ≤ 1000000000000) : parcel_Writer_lay.f (W room b) a = some (W room (b ++ a)) := by
  unfold parcel_Writer_lay.f parcel_Writer_whole.f
  simp only [Option.isNone_some, Bool.false_eq_true, if_false, Option.bind_some, decide_true, if_true]
  rw [wr (by omega) (by omega), if_neg (by omega), if_pos (by omega)]
theorem Num_eq {k : Nat} (hk : Fuel k) {room : Int} {b : List Int} {n : Nat} (hn : n < 9223372036854775808) (h1 : (b.length + (fm n).length : Nat) ≤ room) (h2 : room ≤ 1000000000000) :
    parcel_Writer_Num.f k (W room b) (n : Int) = some (W room (b ++ fm n)) := by
  unfold parcel_Writer_Num.f
  rw [bind_eq (form_eq hk hn), bind_eq (lay_eq h1 h2)]
theorem concat_eq {k : Nat} (hk : Fuel k) {x y : List Int} (h : x.length + y.length < 2000000000000) : slices_Concat.f k [x, y] = some (x ++ y) := by
  have h24 : 1099511627776 ≤ k := hk
  obtain ⟨q, rfl⟩ : ∃ q, k = q + 1 + 1 + 1 := ⟨k - 3, by omega⟩
  unfold slices_Concat.f
  have e1 : loop (fun (s_ : Int × Int) => slices_Concat.b1 [x, y] s_.1 s_.2) (q + 1 + 1 + 1) (0, 0) = some ((x.length + y.length : Nat) : Int) := by
    rw [loop_next (s' := ((x.length : Int), (1 : Int)))]
    · rw [loop_next (s' := (((x.length + y.length : Nat) : Int), (2 : Int)))]
      · refine loop_done ?_
        simp [slices_Concat.b1]
      · have r1 : rd [x, y] 1 = y := rfl
        have w1 : IntKind.i64.wrap ((x.length : Int) + (y.length : Int)) = ((x.length + y.length : Nat) : Int) := by rw [wr (by omega) (by omega)]; omega
        unfold slices_Concat.b1
        simp only [r1, w1]
        rw [if_pos (by simp), if_pos (by simp), if_neg (by omega)]
        rfl
    · have r1 : rd [x, y] 0 = x := rfl
      have w1 : IntKind.i64.wrap (0 + (x.length : Int)) = (x.length : Int) := by rw [wr (by omega) (by omega)]; omega
      unfold slices_Concat.b1
      simp only [r1, w1]
      rw [if_pos (by simp), if_pos (by simp), if_neg (by omega)]
      rfl
  rw [bind_eq e1]
  unfold slices_Concat.j2
  have e2 : slices_Grow.f [] ((x.length + y.length : Nat) : Int) = some [] := by
    unfold slices_Grow.f; rw [if_pos ⟨by omega, by omega, rfl⟩]
  rw [bind_eq e2]
  have e3 : loop (fun (s_ : (List Int) × Int) => slices_Concat.b3 [x, y] s_.1 s_.2) (q + 1 + 1 + 1) ([], 0) = some (x ++ y) := by
    rw [loop_next (s' := (x, (1 : Int)))]
    · rw [loop_next (s' := (x ++ y, (2 : Int)))]
      · refine loop_done ?_
        simp [slices_Concat.b3]
      · have r1 : rd [x, y] 1 = y := rfl
        unfold slices_Concat.b3
        simp only [r1]
        rw [if_pos (by simp), if_pos (by simp), if_pos (by omega)]
        rfl
    · have r1 : rd [x, y] 0 = x := rfl
      unfold slices_Concat.b3
      simp only [r1]
      rw [if_pos (by simp), if_pos (by simp), if_pos (by simp; omega)]
      rfl
  rw [bind_eq e3]
  rfl
theorem Text_eq {k : Nat} (hk : Fuel k) {room : Int} {b a : List Int} (h1 : (b.length + (fm a.length).length + a.length : Nat) ≤ room) (h2 : room ≤ 1000000000000) :
    parcel_Writer_Text.f k (W room b) a = some (W room (b ++ (fm a.length ++ a))) := by
  have := fm_len a.length; have := nm_le a.length
  have e : ((b.length + (fm a.length ++ a).length : Nat) : Int) ≤ room := by rw [List.length_append]; omega
  unfold parcel_Writer_Text.f
  rw [wru (by omega) (by omega), bind_eq (form_eq hk (by omega)), bind_eq (concat_eq hk (by omega)), bind_eq (lay_eq e h2)]
def ef (e : Ent) : List Int := (fm e.1.size ++ sb e.1) ++ ((fm e.2.value.length ++ e.2.value) ++ fm e.2.rev.toNat)
theorem sb_len (k : ByteArray) : (sb k).length = k.size := by unfold sb; rw [List.length_map]; rfl
theorem ef_len (e : Ent) : ((ef e).length : Int) = lg e.1 e.2 := by
  unfold ef lg
  simp only [List.length_append, fm_len, sb_len]; omega
theorem bytes_fold {k : Nat} (hk : Fuel k) {room : Int} (h2 : room ≤ 1000000000000) {r : Nat} (hr : r ≤ 1099511627776) : ∀ (L : List Ent) (b : List Int), (∀ e ∈ L, 1 ≤ e.1.size ∧ e.1.size ≤ 64 ∧ e.2.value.length ≤ 256 ∧ 1 ≤ e.2.rev ∧ e.2.rev ≤ (r : Int)) → b.length + sz L ≤ room →
    foldC (fun (s_ : (Option Wri)) (k_ : ByteArray) (v_ : table_cell) => table_Table_Bytes.b1 k s_ k_ v_) L (W room b) = some (.next (W room (b ++ L.flatMap ef)))
  | [], b, _, _ => by simp [foldC]
  | e :: L, b, h, hb => by
    have he := h e (by simp)
    have h3 := sz_le (L := L) (r := r) (fun x hx => h x (by simp [hx]))
    rw [sz_cons] at hb
    have hl := ef_len e
    have hl' := hl
    unfold lg at hl'
    have f1 := fm_len e.1.size; have f2 := fm_len e.2.value.length; have f3 := fm_len e.2.rev.toNat
    have hs := sb_len e.1
    have hrev : e.2.rev = ((e.2.rev.toNat : Nat) : Int) := by omega
    have step : table_Table_Bytes.b1 k (W room b) e.1 e.2 = some (Ctl.next (W room (b ++ ef e))) := by
      unfold table_Table_Bytes.b1
      rw [if_pos (by omega), bind_eq (Text_eq hk (a := sb e.1) (by rw [hs]; omega) h2), bind_eq (Text_eq hk (a := e.2.value) (by simp only [List.length_append, hs]; omega) h2), hrev, wru (by omega) (by omega),
        bind_eq (Num_eq hk (n := e.2.rev.toNat) (by omega) (by simp only [List.length_append, hs]; omega) h2)]
      unfold ef
      rw [hs]
      simp only [List.append_assoc]
    show thenC (table_Table_Bytes.b1 k (W room b) e.1 e.2) _ = _
    rw [step]
    show foldC _ L (W room (b ++ ef e)) = _
    rw [bytes_fold hk h2 hr L (b ++ ef e) (fun x hx => h x (by simp [hx])) (by simp only [List.length_append]; omega)]
    simp
def form (s : St) : List Int := fm s.2 ++ fm s.1.length ++ s.1.flatMap ef
theorem done_eq {room : Int} {b : List Int} (h : b.length ≤ 1000000000000) : parcel_Writer_Done.f (W room b) = some (b, 0) := by
  unfold parcel_Writer_Done.f
  simp only [Option.isNone_some, Bool.false_eq_true, if_false, Option.bind_some, if_true, List.length_nil]
  rw [if_neg (by omega), if_pos (by omega)]
  simp
theorem RepS.inv {t : Option Tab} {s : St} (hT : RepS t s) : Inv s.1 s.2 := by obtain ⟨rows, _, _, _, hI⟩ := hT; exact hI
theorem size_eq0 {k : Nat} (hk : Fuel k) {t : Option Tab} {s : St} (hl0 : s.1.length < 2000000000) (hr : s.2 ≤ 1099511627776) (hT : RepS t s) : table_Table_Size.f k t = some (nm s.2 + nm s.1.length + sz s.1) := by
  obtain ⟨rows, rfl, hw, hl, hI⟩ := hT
  have hlen := hI.len
  have hsz := sz_le hI.ent
  have := nm_le s.2; have := nm_le s.1.length
  unfold table_Table_Size.f
  simp only [Option.isNone_some, Bool.false_eq_true, if_false, Option.bind_some]
  rw [bind_eq (num_eq hk (n := s.2) (by omega)), bind_eq (len_eq hw), hl, bind_eq (num_eq hk (n := s.1.length) (by omega)), wr (n := (nm s.2 : Int) + nm s.1.length) (by omega) (by omega), wr (by omega) (by omega)]
theorem size_eq {k : Nat} (hk : Fuel k) {t : Option Tab} {s : St} (hr : s.2 < 4194304) (hT : RepS t s) : table_Table_Size.f k t = some (nm s.2 + nm s.1.length + sz s.1) := size_eq0 hk (Nat.lt_trans (Nat.lt_of_le_of_lt hT.inv.len hr) (by omega)) (by omega) hT
theorem flat_len : ∀ L : List Ent, ((L.flatMap ef).length : Int) = sz L
  | [] => rfl
  | e :: L => by rw [List.flatMap_cons, List.length_append, sz_cons, ← flat_len L, ← ef_len]; omega
theorem bytes_eq0 {k : Nat} (hk : Fuel k) {t : Option Tab} {s : St} (hl0 : s.1.length < 2000000000) (hr : s.2 ≤ 1099511627776) (hT : RepS t s) : table_Table_Bytes.f k t = some (form s) := by
  have hS := size_eq0 hk hl0 hr hT
  obtain ⟨rows, rfl, hw, hl, hI⟩ := hT
  have hlen := hI.len
  have hsz := sz_le hI.ent
  have h1 := nm_le s.2; have h2 := nm_le s.1.length
  have f1 := fm_len s.2; have f2 := fm_len s.1.length
  unfold table_Table_Bytes.f
  rw [if_neg (by simp), bind_eq hS]
  have e0 : parcel_New.f (nm s.2 + nm s.1.length + sz s.1) = some (W (nm s.2 + nm s.1.length + sz s.1) []) := by
    unfold parcel_New.f
    rw [Int.max_eq_left (by omega)]
  rw [bind_eq e0]
  simp only [Option.bind_some]
  rw [wru (by omega) (by omega), bind_eq (Num_eq hk (n := s.2) (by omega) (by simp only [List.length_nil]; omega) (by omega)), bind_eq (len_eq hw), hl, wru (by omega) (by omega),
    bind_eq (Num_eq hk (n := s.1.length) (by omega) (by simp only [List.length_append, List.length_nil]; omega) (by omega))]
  show (some (It.all rows)).bind _ = _
  rw [Option.bind_some]
  show (Tr.up _ rows _).bind _ = _
  rw [up_eq, hl, bind_eq (bytes_fold hk (by omega) hr s.1 _ hI.ent (by simp only [List.length_append, List.length_nil]; omega))]
  have hfl := flat_len s.1
  show (parcel_Writer_Done.f _).bind _ = _
  rw [bind_eq (done_eq (by simp only [List.length_append, List.length_nil]; omega))]
  simp [form]
theorem bytes_eq {k : Nat} (hk : Fuel k) {t : Option Tab} {s : St} (hr : s.2 < 4194304) (hT : RepS t s) : table_Table_Bytes.f k t = some (form s) := bytes_eq0 hk (Nat.lt_trans (Nat.lt_of_le_of_lt hT.inv.len hr) (by omega)) (by omega) hT
theorem copy_eq {t : Option Tab} {s : St} (hT : RepS t s) : table_Table_Copy.f t = some t := by
  obtain ⟨rows, rfl, hw, hl, hI⟩ := hT
  rfl
theorem Rev_eq {t : Option Tab} {s : St} (hT : RepS t s) : table_Table_Rev.f t = some (s.2 : Int) := by
  obtain ⟨rows, rfl, hw, hl, hI⟩ := hT
  rfl
theorem Len_eq {t : Option Tab} {s : St} (hT : RepS t s) : table_Table_Len.f t = some (s.1.length : Int) := by
  obtain ⟨rows, rfl, hw, hl, hI⟩ := hT
  unfold table_Table_Len.f
  rw [if_neg (by simp)]
  show (tree_Tree_Len.f rows).bind _ = _
  rw [bind_eq (len_eq hw), hl]
def rowOf (e : Ent) : api_Row := ⟨sb e.1, e.2.value, e.2.rev⟩
theorem rows_fold : ∀ (L : List Ent) (b : List api_Row), (∀ e ∈ L, e.1.size ≤ 64 ∧ e.2.value.length ≤ 256) → b.length + L.length ≤ 2000000000 →
    foldC (X := Unit) (fun (s_ : List api_Row) (k_ : ByteArray) (v_ : table_cell) => table_Table_Rows.b1 s_ k_ v_) L b = some (.next (b ++ L.map rowOf))
  | [], b, _, _ => by simp [foldC]
  | e :: L, b, h, hb => by
    have he := h e (by simp)
    rw [List.length_cons] at hb
    have step : table_Table_Rows.b1 b e.1 e.2 = some (Ctl.next (b ++ [rowOf e])) := by
      unfold table_Table_Rows.b1 bytes_Clone.f
      rw [if_pos (by omega), if_pos (by omega), Option.bind_some, if_pos (by simp only [List.length_singleton]; omega)]
      rfl
    show thenC (table_Table_Rows.b1 b e.1 e.2) _ = _
    rw [step]
    show foldC _ L (b ++ [rowOf e]) = _
    rw [rows_fold L _ (fun x hx => h x (by simp [hx])) (by simp; omega)]
    simp
theorem Rows_eq0 {t : Option Tab} {s : St} (hl0 : s.1.length < 2000000000) (hT : RepS t s) : table_Table_Rows.f t = some (s.1.map rowOf) := by
  obtain ⟨rows, rfl, hw, hl, hI⟩ := hT
  have hlen := hI.len
  unfold table_Table_Rows.f
  rw [if_neg (by simp)]
  show (Tr.up _ rows _).bind _ = _
  rw [up_eq, hl, bind_eq (rows_fold s.1 [] (fun e he => ⟨(hI.ent e he).2.1, (hI.ent e he).2.2.1⟩) (by simp; omega))]
  rfl
theorem Rows_eq {t : Option Tab} {s : St} (hr : s.2 < 4194304) (hT : RepS t s) : table_Table_Rows.f t = some (s.1.map rowOf) := Rows_eq0 (Nat.lt_trans (Nat.lt_of_le_of_lt hT.inv.len hr) (by omega)) hT
end Go.Proofs.Ythankpjbfpcldaa.G
namespace Go.Proofs.Ythankpjbfpcldaa.G
open Go
set_option linter.unusedVariables false
set_option linter.unusedSimpArgs false
theorem act_short {L : List Ent} {r : Nat} {o : api_Op} (hI : Inv L r) : (act L r o).1.Key.length ≤ 65 ∧ (act L r o).1.Value.length ≤ 256 := by
  have tl : ∀ (R : Int) (q : Option table_cell), (∀ c, q = some c → c.value.length ≤ 256) → (told R (bs o.Key) q).Value.length ≤ 256 := by
    intro R q hq
    cases q with
    | none => simp [told]
    | some c => exact hq c rfl
  have tk : ∀ (R : Int) (q : Option table_cell), (∀ c, q = some c → (bs o.Key).size ≤ 64) → (told R (bs o.Key) q).Key.length ≤ 65 := by
    intro R q hq
    cases q with
    | none => simp [told]
    | some c => show (sb (bs o.Key)).length ≤ 65; rw [sb_len]; have := hq c rfl; omega
  have hl : ∀ c, look (bs o.Key) L = some c → c.value.length ≤ 256 := fun c h => (hI.look h).2.2.1
  have hk : ∀ c, look (bs o.Key) L = some c → (bs o.Key).size ≤ 64 := fun c h => (hI.look h).2.1
  unfold act
  split
  · simp [zeroA]
  · split
    · split
      · simp [told]
      · rename_i a b c h
        have := hI.ent _ (above_mem h)
        exact ⟨by show (sb a).length ≤ 65; rw [sb_len]; have := this.2.1; simp only at this; omega, this.2.2.1⟩
    · split
      · exact ⟨tk _ _ hk, tl _ _ hl⟩
      · split
        · exact ⟨tk _ _ hk, tl _ _ hl⟩
        · split
          · exact ⟨tk _ _ hk, tl _ _ hl⟩
          · exact ⟨tk _ _ hk, tl _ _ hl⟩
def WT (n : Nat) (w : Option Wri) : Prop := ∃ r b f, w = some ⟨r, b, [], f⟩ ∧ b.length ≤ n ∧ n ≤ 100000000 ∧ 0 ≤ r ∧ r ≤ 1000000000000
theorem WT.lay {n m : Nat} {w : Option Wri} (h : WT n w) {a : List Int} (ha : n + a.length ≤ m) (hm : m ≤ 100000000) : ∃ w', parcel_Writer_lay.f w a = some w' ∧ WT m w' := by
  obtain ⟨r, b, f, rfl, hb, hn, hr⟩ := h
  unfold parcel_Writer_lay.f parcel_Writer_whole.f
  simp only [Option.isNone_some, Bool.false_eq_true, if_false, Option.bind_some]
  by_cases c : f = 0
  · subst c
    simp only [decide_true, if_true]
    rw [wr (by omega) (by omega)]
    split
    · exact ⟨_, rfl, _, _, _, rfl, by omega, hm, hr⟩
    · rw [if_pos (by omega)]
      exact ⟨_, rfl, _, _, _, rfl, by rw [List.length_append]; omega, hm, hr⟩
  · rw [if_neg (by simpa using c)]
    exact ⟨_, rfl, _, _, _, rfl, by omega, hm, hr⟩
theorem u64_range (x : Int) : ∃ n : Nat, IntKind.u64.wrap x = (n : Int) ∧ n < 18446744073709551616 := by
  refine ⟨(IntKind.u64.wrap x).toNat, ?_, ?_⟩ <;> simp only [IntKind.wrap, IntKind.bits, IntKind.signed] <;> simp <;> omega
theorem form_tot {k : Nat} (hk : Fuel k) (x : Int) : ∃ l, parcel_form.f k (IntKind.u64.wrap x) = some l ∧ l.length ≤ 11 := by
  have h24 : 1099511627776 ≤ k := hk
  obtain ⟨n, e, hn⟩ := u64_range x
  have := nmF_le 10 n
  rw [e]
  unfold parcel_form.f
  rw [if_pos (by decide), bind_eq (form_loop 10 n k _ (by omega) (by omega) (by simp))]
  unfold parcel_form.j2
  simp only [Int.toNat_zero, List.replicate_zero, List.nil_append]
  rw [if_pos (by rw [fmP_len]; simp; omega)]
  exact ⟨_, rfl, by rw [List.length_append, fmP_len]; simp; omega⟩
theorem WT.num {k : Nat} (hk : Fuel k) {n m : Nat} {w : Option Wri} (h : WT n w) (x : Int) (hm : n + 11 ≤ m) (hM : m ≤ 100000000) : ∃ w', parcel_Writer_Num.f k w (IntKind.u64.wrap x) = some w' ∧ WT m w' := by
  obtain ⟨l, e, hl⟩ := form_tot hk x
  obtain ⟨w', e', h'⟩ := h.lay (a := l) (m := m) (by omega) hM
  exact ⟨w', by unfold parcel_Writer_Num.f; rw [bind_eq e, bind_eq e'], h'⟩
theorem WT.text {k : Nat} (hk : Fuel k) {n m : Nat} {w : Option Wri} (h : WT n w) (a : List Int) (hm : n + 11 + a.length ≤ m) (hM : m ≤ 100000000) : ∃ w', parcel_Writer_Text.f k w a = some w' ∧ WT m w' := by
  obtain ⟨l, e, hl⟩ := form_tot hk (a.length : Int)
  obtain ⟨w', e', h'⟩ := h.lay (a := l ++ a) (m := m) (by rw [List.length_append]; omega) hM
  exact ⟨w', by unfold parcel_Writer_Text.f; rw [bind_eq e, bind_eq (concat_eq hk (by omega)), bind_eq e'], h'⟩
theorem WT.byte {n m : Nat} {w : Option Wri} (h : WT n w) (x : Int) (hx : 0 ≤ x ∧ x ≤ 255) (hm : n + 1 ≤ m) (hM : m ≤ 100000000) : ∃ w', parcel_Writer_Byte.f w x = some w' ∧ WT m w' := by
  obtain ⟨w', e', h'⟩ := h.lay (a := [IntKind.u8.wrap x]) (m := m) (by simp; omega) hM
  refine ⟨w', ?_, h'⟩
  unfold parcel_Writer_Byte.f parcel_Writer_Byte.j1
  rw [if_neg (by omega), decide_eq_false (by omega), if_neg (by simp), bind_eq e']
theorem WT.done {n : Nat} {w : Option Wri} (h : WT n w) : ∃ l x, parcel_Writer_Done.f w = some (l, x) ∧ l.length ≤ n := by
  obtain ⟨r, b, f, rfl, hb, hn, hr⟩ := h
  by_cases c : f = 0
  · subst c
    have := done_eq (room := r) (b := b) (by omega)
    exact ⟨b, 0, this, hb⟩
  · unfold parcel_Writer_Done.f
    simp only [Option.isNone_some, Bool.false_eq_true, if_false, Option.bind_some]
    rw [if_neg c]
    exact ⟨_, _, rfl, by simp⟩
structure QB (q : api_Seat) : Prop where
  key : q.Answer.Key.length ≤ 1000
  val : q.Answer.Value.length ≤ 1000
abbrev zeroQ : api_Seat := api_Seat.mk 0 0 (api_Answer.mk false [] [] 0 0)
theorem count_tot {k : Nat} (hk : Fuel k) {Q : List api_Seat} : ∃ c, loop (fun (s_ : Int × Int) => shard_seats_lay.b1 Q s_.1 s_.2) k (0, 0) = some c := by
  have h24 : 1099511627776 ≤ k := hk
  have LI := loop_inv (f := fun (s_ : Int × Int) => shard_seats_lay.b1 Q s_.1 s_.2) (I := fun i s => s.2 = (i : Int)) (P := fun _ => True) (N := 16) ?_ ?_ 16 0 (0, 0) k rfl rfl (by omega)
  · obtain ⟨x, e, _⟩ := LI
    exact ⟨x, e⟩
  · rintro i ⟨a, _⟩ hi rfl
    left
    simp only [shard_seats_lay.b1]
    rw [if_pos (by omega), if_pos (by omega), wrS i (by omega)]
    split
    · exact ⟨_, rfl, rfl⟩
    · exact ⟨_, rfl, rfl⟩
  · rintro ⟨a, _⟩ rfl
    simp only [shard_seats_lay.b1]
    rw [if_neg (by omega)]
    exact ⟨_, rfl, trivial⟩
@[irreducible] def gr (i : Nat) : Nat := 2200 * i
theorem gr_succ (i : Nat) : gr (i + 1) = gr i + 2200 := by unfold gr; omega
theorem gr_le {i : Nat} (h : i ≤ 16) : gr i ≤ 35200 := by unfold gr; omega
theorem gr_zero : gr 0 = 0 := by unfold gr; rfl
theorem lay_tot {k : Nat} (hk : Fuel k) {Q : List api_Seat} (hQ : Q.length = 16) (hB : ∀ q ∈ Q, QB q) {n : Nat} (hn : n ≤ 500000) {w : Option Wri} (h : WT n w) : ∃ w', shard_seats_lay.f k Q w = some w' ∧ WT (n + 40000) w' := by
  have h24 : 1099511627776 ≤ k := hk
  obtain ⟨c, ec⟩ := count_tot hk (Q := Q)
  unfold shard_seats_lay.f
  rw [bind_eq ec]
  unfold shard_seats_lay.j2
  obtain ⟨w1, e1, h1⟩ := h.num hk c (m := n + 11) (by omega) (by omega)
  rw [bind_eq e1]
  have LI := loop_inv (f := fun (s_ : (Option Wri) × Int) => shard_seats_lay.b5 k Q s_.1 s_.2) (I := fun i s => s.2 = (i : Int) ∧ WT (n + 11 + gr i) s.1) (P := fun x => WT (n + 40000) x) (N := 16) ?_ ?_ 16 0 (w1, 0) k ⟨rfl, by rw [gr_zero]; exact h1⟩ rfl (by omega)
  · obtain ⟨x, e, hx⟩ := LI
    exact ⟨x, by rw [bind_eq e]; rfl, hx⟩
  · rintro i ⟨a, _⟩ hi ⟨rfl, ha⟩
    left
    simp only at ha
    simp only [shard_seats_lay.b5, shard_seats_lay.j4]
    have q1 := gr_succ i
    have q2 := gr_le (i := i + 1) (by omega)
    have hq := hB (rd Q (i : Int)) (by rw [rd_eq (by omega)]; exact List.getElem_mem _)
    have h1 := hq.key; have h2 := hq.val
    have up : ∀ {p q : Nat} {v : Option Wri}, WT p v → p ≤ q → q ≤ 1000000 → WT q v := fun ⟨r, b, f, e, h, _, hr⟩ h1 h2 => ⟨r, b, f, e, by omega, by omega, hr⟩
    rw [if_pos (by omega), if_pos (by omega), wrS i (by omega)]
    split
    · exact ⟨_, rfl, rfl, up ha (by omega) (by omega)⟩
    · obtain ⟨a1, f1, g1⟩ := ha.num hk (rd Q (i : Int)).Client (m := n + 11 + gr i + 11) (by omega) (by omega)
      obtain ⟨a2, f2, g2⟩ := g1.num hk (rd Q (i : Int)).Seq (m := n + 11 + gr i + 22) (by omega) (by omega)
      rw [bind_eq f1, bind_eq f2]
      have rest : ∀ v, WT (n + 11 + gr i + 23) v → ∃ s', ((parcel_Writer_Text.f k v (((rd Q (i : Int)).Answer).Key)).bind fun t163 => (parcel_Writer_Text.f k t163 (((rd Q (i : Int)).Answer).Value)).bind fun t172 => (parcel_Writer_Num.f k t172 (IntKind.u64.wrap (((rd Q (i : Int)).Answer).Rev))).bind fun t181 => (parcel_Writer_Num.f k t181 (IntKind.u64.wrap (((rd Q (i : Int)).Answer).At))).bind fun t189 => some (Ctl.next (X := Option Wri) (t189, ((i + 1 : Nat) : Int)))) = some (Ctl.next s') ∧ s'.2 = ((i + 1 : Nat) : Int) ∧ WT (n + 11 + gr (i + 1)) s'.1 := by
        intro v hv
        obtain ⟨a3, f3, g3⟩ := hv.text hk (rd Q (i : Int)).Answer.Key (m := n + 11 + gr i + 1040) (by omega) (by omega)
        obtain ⟨a4, f4, g4⟩ := g3.text hk (rd Q (i : Int)).Answer.Value (m := n + 11 + gr i + 2060) (by omega) (by omega)
        obtain ⟨a5, f5, g5⟩ := g4.num hk (rd Q (i : Int)).Answer.Rev (m := n + 11 + gr i + 2080) (by omega) (by omega)
        obtain ⟨a6, f6, g6⟩ := g5.num hk (rd Q (i : Int)).Answer.At (m := n + 11 + gr (i + 1)) (by omega) (by omega)
        rw [bind_eq f3, bind_eq f4, bind_eq f5, bind_eq f6]
        exact ⟨_, rfl, rfl, g6⟩
      split
      · obtain ⟨v, f3, g3⟩ := g2.byte 1 (by decide) (m := n + 11 + gr i + 23) (by omega) (by omega)
        rw [bind_eq f3]; exact rest v g3
      · obtain ⟨v, f3, g3⟩ := g2.byte 0 (by decide) (m := n + 11 + gr i + 23) (by omega) (by omega)
        rw [bind_eq f3]; exact rest v g3
  · rintro ⟨a, _⟩ ⟨rfl, ha⟩
    simp only at ha
    simp only [shard_seats_lay.b5]
    rw [if_neg (by omega)]
    have q2 := gr_le (i := 16) (by omega)
    obtain ⟨r, b, f, e, h, _, hr⟩ := ha
    exact ⟨_, rfl, r, b, f, e, by omega, by omega, hr⟩
theorem bytes_tot {k : Nat} (hk : Fuel k) {Q : List api_Seat} (hQ : Q.length = 16) (hB : ∀ q ∈ Q, QB q) : ∃ l, shard_seats_bytes.f k Q = some l ∧ l.length ≤ 40000 := by
  obtain ⟨w, e, h⟩ := lay_tot hk hQ hB (n := 0) (by omega) (w := W 1048576 []) ⟨_, [], 0, rfl, by simp, by omega, by omega⟩
  obtain ⟨l, x, ed, hl⟩ := h.done
  refine ⟨l, ?_, by omega⟩
  unfold shard_seats_bytes.f
  rw [bind_eq (show parcel_New.f 1048576 = some (W 1048576 []) from rfl), bind_eq e, bind_eq ed]
theorem numSize_b1 : (fun (s_ : Int × Int) => shard_numSize.b1 s_.1 s_.2) = fun (s_ : Int × Int) => table_num.b1 s_.1 s_.2 := by
  funext s
  unfold shard_numSize.b1 table_num.b1
  by_cases c : 127 < s.1
  · rw [if_pos c, if_pos (by omega)]
  · rw [if_neg c, if_neg (by omega)]
theorem numSize_eq {k n : Nat} (hk : Fuel k) (hn : n < 9223372036854775808) : shard_numSize.f k (n : Int) = some (nm n : Int) := by
  have := num_eq hk hn
  unfold table_num.f at this
  unfold shard_numSize.f
  rw [numSize_b1]
  exact this
theorem Size_tot {k : Nat} (hk : Fuel k) {T : Option Tab} {Q : List api_Seat} {st : St} (hr : st.2 < 4194304) (hT : RepS T st) (hQ : Q.length = 16) (hB : ∀ q ∈ Q, QB q) :
    ∃ z, shard_Shard_Size.f k (some ⟨T, Q⟩) = some z ∧ z ≤ sz st.1 + 40100 ∧ sz st.1 ≤ z := by
  have hi := hT.inv
  have hsz := sz_le hi.ent
  have hlen := hi.len
  obtain ⟨l, el, hl⟩ := bytes_tot hk hQ hB
  have h1 := nm_le st.2; have h2 := nm_le st.1.length
  obtain ⟨Z, e0⟩ : ∃ Z : Nat, (nm st.2 + nm st.1.length + sz st.1 : Int) = (Z : Int) := ⟨(nm st.2 + nm st.1.length + sz st.1 : Int).toNat, by omega⟩
  have h3 := nm_le Z
  unfold shard_Shard_Size.f
  simp only [Option.isNone_some, Bool.false_eq_true, if_false, Option.bind_some]
  rw [bind_eq (size_eq hk hr hT), e0, bind_eq (numSize_eq hk (by omega)), bind_eq el, wr (n := (nm Z : Int) + Z) (by omega) (by omega), wr (by omega) (by omega)]
  exact ⟨_, rfl, by omega, by omega⟩
end Go.Proofs.Ythankpjbfpcldaa.G
namespace Go.Proofs.Ythankpjbfpcldaa.G
open Go
set_option linter.unusedVariables false
set_option linter.unusedSimpArgs false
theorem do_none {k : Nat} {s : Sha} {c n : Int} {o : api_Op} {a : api_Answer} {ch : Bool} {e : Int} (h : shard_Shard_next.f k (some s) c n o = some (some none, a, ch, e)) (he : e ≠ 0) : shard_Shard_Do.f k (some s) c n o = some (a, ch, e, some s) := by
  unfold shard_Shard_Do.f
  rw [bind_eq h]
  show (if e = 0 then _ else _) = _
  rw [if_neg he]
theorem do_self {k : Nat} {s : Sha} {c n : Int} {o : api_Op} {a : api_Answer} {ch : Bool} (h : shard_Shard_next.f k (some s) c n o = some (none, a, ch, 0)) : shard_Shard_Do.f k (some s) c n o = some (a, ch, 0, some s) := by
  unfold shard_Shard_Do.f
  rw [bind_eq h]
  rfl
theorem do_new {k : Nat} {s s' : Sha} {c n : Int} {o : api_Op} {a : api_Answer} {ch : Bool} (h : shard_Shard_next.f k (some s) c n o = some (some (some s'), a, ch, 0)) : shard_Shard_Do.f k (some s) c n o = some (a, ch, 0, some s') := by
  unfold shard_Shard_Do.f
  rw [bind_eq h]
  rfl
theorem own_eq {q : api_Seat} (h : QB q) : shard_own.f q = some q := by
  have h1 := h.key; have h2 := h.val
  unfold shard_own.f slices_Clone.f
  rw [if_pos (by omega), if_pos (by omega)]
  rfl
theorem act_zero {L : List Ent} {r : Nat} {o : api_Op} (h : right o = true) : (act L r o).2.1 = 0 := by
  unfold act
  rw [if_neg (by simp [h])]
  split
  · rfl
  · split
    · rfl
    · split
      · rfl
      · split <;> rfl
theorem next_of {k : Nat} {s : Sha} {c n : Int} {o : api_Op} (h : 0 ≤ c ∧ c < 16 ∧ 1 ≤ n ∧ n ≤ 1073741824) : shard_Shard_next.f k (some s) c n o = shard_Shard_next.j1 k (some s) c n o false := by
  unfold shard_Shard_next.f
  rw [if_neg (by simp), if_neg (by omega), if_neg (by omega), if_neg (by omega), decide_eq_false (by omega)]
theorem next_bad {k : Nat} {s : Sha} {c n : Int} {o : api_Op} (h : ¬ (0 ≤ c ∧ c < 16 ∧ 1 ≤ n ∧ n ≤ 1073741824)) : shard_Shard_next.f k (some s) c n o = some (some none, zeroA, false, 2) := by
  unfold shard_Shard_next.f
  rw [if_neg (by simp)]
  split
  · rfl
  · split
    · rfl
    · split
      · rfl
      · rw [decide_eq_true (by omega)]; rfl
structure SI (T : Option Tab) (Q : List api_Seat) (st : St) : Prop where
  rep : RepS T st
  len : Q.length = 16
  qb : ∀ q ∈ Q, QB q
theorem SI.mem {T : Option Tab} {Q : List api_Seat} {st : St} (h : SI T Q st) {c : Int} (hc : 0 ≤ c ∧ c < 16) : QB (rd Q c) := by
  obtain ⟨i, rfl⟩ : ∃ i : Nat, c = (i : Int) := ⟨c.toNat, by omega⟩
  have := h.len
  rw [rd_eq (by omega)]
  exact h.qb _ (List.getElem_mem _)
theorem SI.set {T T' : Option Tab} {Q : List api_Seat} {st st' : St} (h : SI T Q st) (hr : RepS T' st') (i : Nat) {q : api_Seat} (hq : QB q) : SI T' (Q.set i q) st' :=
  ⟨hr, by rw [List.length_set]; exact h.len, fun x hx => (List.mem_or_eq_of_mem_set hx).elim (h.qb x) fun e => e ▸ hq⟩
abbrev Vd (c n : Int) : Prop := 0 ≤ c ∧ c < 16 ∧ 1 ≤ n ∧ n ≤ 1073741824
theorem sh_do2 {k : Nat} (hk : Fuel k) {T : Option Tab} {Q : List api_Seat} {st : St} (hr : st.2 < 4194304) (hS : SI T Q st) (c n : Int) (o : api_Op) (hr' : (stepS st o).2 < 4194304) :
    (∃ e, e ≠ 0 ∧ shard_Shard_Do.f k (some ⟨T, Q⟩) c n o = some (zeroA, false, e, some ⟨T, Q⟩) ∧ ((¬ Vd c n ∧ e = 2) ∨ (Vd c n ∧ right o = false ∧ e = 131) ∨ (Vd c n ∧ right o = true ∧ n < (rd Q c).Seq ∧ e = 141) ∨ (Vd c n ∧ right o = true ∧ (rd Q c).Seq < n ∧ 200000 < sz (stepS st o).1))) ∨
    (Vd c n ∧ right o = true ∧ (((rd Q c).Seq = n ∧ shard_Shard_Do.f k (some ⟨T, Q⟩) c n o = some ((rd Q c).Answer, false, 0, some ⟨T, Q⟩)) ∨
      ((rd Q c).Seq < n ∧ (((o.Kind = 1 ∨ o.Kind = 5) ∧ shard_Shard_Do.f k (some ⟨T, Q⟩) c n o = some ((act st.1 st.2 o).1, false, 0, some ⟨T, Q⟩)) ∨
        (¬ (o.Kind = 1 ∨ o.Kind = 5) ∧ ∃ T' Q', shard_Shard_Do.f k (some ⟨T, Q⟩) c n o = some ((act st.1 st.2 o).1, true, 0, some ⟨T', Q'⟩) ∧ SI T' Q' (stepS st o) ∧ Q' = Q.set c.toNat ⟨c, n, (act st.1 st.2 o).1⟩ ∧ sz (stepS st o).1 ≤ 262144))))) := by
  by_cases v : Vd c n
  · have hc : 0 ≤ c ∧ c < 16 := ⟨v.1, v.2.1⟩
    have hx := next_of (k := k) (s := ⟨T, Q⟩) (o := o) v
    unfold shard_Shard_next.j1 at hx
    rw [if_neg (by simp), bind_eq (right_eq o)] at hx
    by_cases R : right o = true
    · rw [if_pos R] at hx
      simp only [Option.bind_some] at hx
      rw [if_pos hc] at hx
      by_cases c1 : n < (rd Q c).Seq
      · rw [if_pos c1] at hx
        exact .inl ⟨141, by decide, do_none hx (by decide), .inr (.inr (.inl ⟨v, R, c1, rfl⟩))⟩
      · rw [if_neg c1, if_pos hc] at hx
        by_cases c2 : (rd Q c).Seq = n
        · rw [if_pos c2, if_pos hc] at hx
          rw [bind_eq (own_eq (q := api_Seat.mk (rd Q c).Client (rd Q c).Seq (rd Q c).Answer) ⟨(hS.mem hc).key, (hS.mem hc).val⟩)] at hx
          exact .inr ⟨v, R, .inl ⟨c2, do_self hx⟩⟩
        · rw [if_neg c2] at hx
          obtain ⟨T', eT, RT⟩ := do_step hk hr hS.rep o
          have ec : shard_Shard_Copy.f (some ⟨T, Q⟩) = some (some ⟨T, Q⟩) := by
            unfold shard_Shard_Copy.f
            rw [if_neg (by simp), Option.bind_some, bind_eq (copy_eq hS.rep)]
          rw [bind_eq ec, Option.bind_some, bind_eq eT] at hx
          unfold shard_Shard_next.j2 at hx
          rw [if_pos (act_zero R)] at hx
          by_cases K : o.Kind = 1 ∨ o.Kind = 5
          · have hx' : shard_Shard_next.f k (some ⟨T, Q⟩) c n o = some (none, (act st.1 st.2 o).1, false, 0) := by
              rw [hx]
              rcases K with K | K
              · rw [if_pos K]; rfl
              · rw [if_neg (by omega), decide_eq_true K]; rfl
            exact .inr ⟨v, R, .inr ⟨by omega, .inl ⟨K, do_self hx'⟩⟩⟩
          · have hsh := act_short (o := o) hS.rep.inv
            have hq : QB ⟨c, n, (act st.1 st.2 o).1⟩ := ⟨by have := hsh.1; show (act st.1 st.2 o).1.Key.length ≤ 1000; omega, by have := hsh.2; show (act st.1 st.2 o).1.Value.length ≤ 1000; omega⟩
            have hS' := hS.set RT c.toNat hq
            obtain ⟨z, ez, hz, hz2⟩ := Size_tot hk hr' hS'.rep hS'.len hS'.qb
            rw [if_neg (fun q => K (.inl q)), decide_eq_false (fun q => K (.inr q))] at hx
            unfold shard_Shard_next.j3 shard_Shard_next.j4 at hx
            rw [if_neg (by simp), bind_eq (own_eq hq), if_pos hc, bind_eq ez] at hx
            by_cases big : 262144 < z
            · rw [if_pos big] at hx
              exact .inl ⟨142, by decide, do_none hx (by decide), .inr (.inr (.inr ⟨v, R, by omega, by omega⟩))⟩
            · rw [if_neg big] at hx
              exact .inr ⟨v, R, .inr ⟨by omega, .inr ⟨K, T', _, do_new hx, hS', rfl, by omega⟩⟩⟩
    · rw [if_neg R] at hx
      exact .inl ⟨131, by decide, do_none hx (by decide), .inr (.inl ⟨v, by simpa using R, rfl⟩)⟩
  · exact .inl ⟨2, by decide, do_none (next_bad v) (by decide), .inl ⟨v, rfl⟩⟩
theorem sh_do {k : Nat} (hk : Fuel k) {T : Option Tab} {Q : List api_Seat} {st : St} (hr : st.2 < 4194304) (hS : SI T Q st) (c n : Int) (o : api_Op) (hr' : (stepS st o).2 < 4194304) :
    (∃ e, e ≠ 0 ∧ shard_Shard_Do.f k (some ⟨T, Q⟩) c n o = some (zeroA, false, e, some ⟨T, Q⟩) ∧ (¬ (0 ≤ c ∧ c < 16 ∧ 1 ≤ n ∧ n ≤ 1073741824) ∨ right o = false ∨ n < (rd Q c).Seq ∨ 200000 < sz (stepS st o).1)) ∨
    (0 ≤ c ∧ c < 16 ∧ 1 ≤ n) ∧ (((rd Q c).Seq = n ∧ shard_Shard_Do.f k (some ⟨T, Q⟩) c n o = some ((rd Q c).Answer, false, 0, some ⟨T, Q⟩)) ∨
      ((rd Q c).Seq < n ∧ right o = true ∧ (((o.Kind = 1 ∨ o.Kind = 5) ∧ shard_Shard_Do.f k (some ⟨T, Q⟩) c n o = some ((act st.1 st.2 o).1, false, 0, some ⟨T, Q⟩)) ∨
        (¬ (o.Kind = 1 ∨ o.Kind = 5) ∧ ∃ T' Q', shard_Shard_Do.f k (some ⟨T, Q⟩) c n o = some ((act st.1 st.2 o).1, true, 0, some ⟨T', Q'⟩) ∧ SI T' Q' (stepS st o) ∧ Q' = Q.set c.toNat ⟨c, n, (act st.1 st.2 o).1⟩)))) := by
  rcases sh_do2 hk hr hS c n o hr' with ⟨e, h, d, h1 | h1 | h1 | h1⟩ | ⟨v, R, h | ⟨h, h1 | ⟨K, T', Q', d, hS', hq, _⟩⟩⟩
  · exact .inl ⟨e, h, d, .inl h1.1⟩
  · exact .inl ⟨e, h, d, .inr (.inl h1.2.1)⟩
  · exact .inl ⟨e, h, d, .inr (.inr (.inl h1.2.2.1))⟩
  · exact .inl ⟨e, h, d, .inr (.inr (.inr h1.2.2.2))⟩
  · exact .inr ⟨⟨v.1, v.2.1, v.2.2.1⟩, .inl h⟩
  · exact .inr ⟨⟨v.1, v.2.1, v.2.2.1⟩, .inr ⟨h, R, .inl h1⟩⟩
  · exact .inr ⟨⟨v.1, v.2.1, v.2.2.1⟩, .inr ⟨h, R, .inr ⟨K, T', Q', d, hS', hq⟩⟩⟩
theorem Seat_eq {T : Option Tab} {Q : List api_Seat} {st : St} (hS : SI T Q st) (c : Int) :
    (¬ (0 ≤ c ∧ c < 16) ∧ shard_Shard_Seat.f (some ⟨T, Q⟩) c = some (zeroQ, false)) ∨ ((0 ≤ c ∧ c < 16) ∧ (((rd Q c).Seq = 0 ∧ shard_Shard_Seat.f (some ⟨T, Q⟩) c = some (zeroQ, false)) ∨ ((rd Q c).Seq ≠ 0 ∧ shard_Shard_Seat.f (some ⟨T, Q⟩) c = some (rd Q c, true)))) := by
  unfold shard_Shard_Seat.f
  rw [if_neg (by simp)]
  by_cases hc : 0 ≤ c ∧ c < 16
  · right
    refine ⟨hc, ?_⟩
    rw [if_neg (by omega), if_neg (by omega), Option.bind_some, if_pos hc]
    by_cases z : (rd Q c).Seq = 0
    · exact .inl ⟨z, by rw [decide_eq_true z]; rfl⟩
    · refine .inr ⟨z, ?_⟩
      rw [decide_eq_false z]
      unfold shard_Shard_Seat.j1
      rw [if_neg (by simp), Option.bind_some, if_pos hc, bind_eq (own_eq (q := api_Seat.mk (rd Q c).Client (rd Q c).Seq (rd Q c).Answer) ⟨(hS.mem hc).key, (hS.mem hc).val⟩)]
  · left
    refine ⟨hc, ?_⟩
    split
    · rfl
    · rw [if_pos (by omega)]; rfl
theorem same_loop (a b : List Int) (hl : a.length = b.length) : ∀ (n i m : Nat), i + n = a.length → n < m → a.length < 4000000000 →
    loop (fun (s_ : Int) => haulagelaw14_same.b1 a b s_) m (i : Int) = some (if a.drop i = b.drop i then Sum.inl () else Sum.inr false)
  | _, _, 0, _, h, _ => absurd h (by omega)
  | 0, i, m + 1, h, _, _ => by
    refine loop_done ?_
    unfold haulagelaw14_same.b1
    rw [if_neg (by omega), if_pos]
    rw [List.drop_of_length_le (by omega), List.drop_of_length_le (by omega)]
  | n + 1, i, m + 1, h, hm, hb => by
    have hi : i < a.length := by omega
    have hj : i < b.length := by omega
    rw [List.drop_eq_getElem_cons hi, List.drop_eq_getElem_cons hj]
    by_cases c : a[i] = b[i]
    · rw [loop_next (s' := ((i + 1 : Nat) : Int)), same_loop a b hl n (i + 1) m (by omega) (by omega) hb]
      · simp only [c, List.cons.injEq, true_and]
      · unfold haulagelaw14_same.b1
        rw [if_pos (by omega), if_pos (by omega), if_pos (by omega), rd_eq hi, rd_eq hj, if_pos c, wrS i (by omega)]
    · rw [if_neg (by simp only [List.cons.injEq, c, false_and, not_false_eq_true])]
      refine loop_done ?_
      unfold haulagelaw14_same.b1
      rw [if_pos (by omega), if_pos (by omega), if_pos (by omega), rd_eq hi, rd_eq hj, if_neg c]
theorem same_eq {k : Nat} (hk : Fuel k) (a b : List Int) (h : a.length < 4000000000 ∨ b.length < 4000000000) : haulagelaw14_same.f k a b = some (decide (a = b)) := by
  have h24 : 1099511627776 ≤ k := hk
  unfold haulagelaw14_same.f
  by_cases c : a.length = b.length
  · rw [if_pos (by omega), show (0 : Int) = ((0 : Nat) : Int) from rfl, bind_eq (same_loop a b c a.length 0 k (by omega) (by omega) (by omega))]
    simp only [List.drop_zero]
    by_cases e : a = b
    · simp [e, haulagelaw14_same.j2]
    · simp [e]
  · rw [if_neg (by omega), decide_eq_false (fun e => c (by rw [e]))]
theorem same_refl {k : Nat} (hk : Fuel k) {a : List Int} (h : a.length < 4000000000) : haulagelaw14_same.f k a a = some true := by rw [same_eq hk a a (.inl h)]; simp
theorem sameAnswer_refl {k : Nat} (hk : Fuel k) {a : api_Answer} (h1 : a.Key.length < 4000000000) (h2 : a.Value.length < 4000000000) : haulagelaw14_sameAnswer.f k a a = some true := by
  unfold haulagelaw14_sameAnswer.f
  rw [if_pos (by simp), bind_eq (same_refl hk h1), if_pos rfl, bind_eq (same_refl hk h2), if_pos rfl, if_pos rfl]
  simp
end Go.Proofs.Ythankpjbfpcldaa.G
namespace Go.Proofs.Ythankpjbfpcldaa.G
open Go
set_option linter.unusedVariables false
set_option linter.unusedSimpArgs false
abbrev Q0 : List api_Seat := List.replicate 16 zeroQ
theorem rd_Q0 {i : Nat} (hi : i < 16) : rd Q0 (i : Int) = zeroQ := by rw [rd_eq (by simpa using hi)]; exact List.getElem_replicate _
theorem new_si : ∃ t, table_New.f = some t ∧ shard_New.f = some (some ⟨t, Q0⟩) ∧ SI t Q0 ([], 0) := by
  obtain ⟨t, e, R⟩ := new_rep
  refine ⟨t, e, ?_, R, by simp, fun q hq => ?_⟩
  · unfold shard_New.f; rw [bind_eq e]
  · obtain rfl := (List.mem_replicate.1 hq).2
    exact ⟨by simp, by simp⟩
theorem lay_zero {k : Nat} (hk : Fuel k) {b : List Int} (hb : b.length ≤ 1000) : shard_seats_lay.f k Q0 (W 1048576 b) = some (W 1048576 (b ++ fm 0)) := by
  have h24 : 1099511627776 ≤ k := hk
  have f0 := fm_len 0; have n0 := nm_le 0
  unfold shard_seats_lay.f
  have L := loop_inv (f := fun (s_ : Int × Int) => shard_seats_lay.b1 Q0 s_.1 s_.2) (I := fun i s => s = (0, (i : Int))) (P := fun x => x = 0) (N := 16) ?_ ?_ 16 0 (0, 0) k rfl rfl (by omega)
  · obtain ⟨x, e, rfl⟩ := L
    rw [bind_eq e]
    unfold shard_seats_lay.j2
    rw [wru (by omega) (by omega), show ((0 : Int)) = ((0 : Nat) : Int) from rfl, bind_eq (Num_eq hk (room := 1048576) (b := b) (n := 0) (by omega) (by omega) (by omega))]
    have M := loop_inv (f := fun (s_ : (Option Wri) × Int) => shard_seats_lay.b5 k Q0 s_.1 s_.2) (I := fun i s => s = (W 1048576 (b ++ fm 0), (i : Int))) (P := fun x => x = W 1048576 (b ++ fm 0)) (N := 16) ?_ ?_ 16 0 (W 1048576 (b ++ fm 0), 0) k rfl rfl (by omega)
    · obtain ⟨x, e, rfl⟩ := M
      have e' : loop (fun (s_ : (Option Wri) × Int) => shard_seats_lay.b5 k Q0 s_.1 s_.2) k (W 1048576 (b ++ fm 0), ((0 : Nat) : Int)) = some (W 1048576 (b ++ fm 0)) := e
      rw [bind_eq e']; rfl
    · rintro i _ hi rfl
      left
      refine ⟨_, ?_, rfl⟩
      simp only [shard_seats_lay.b5]
      rw [if_pos (by omega), if_pos (by omega), rd_Q0 hi, if_pos rfl, wrS i (by omega)]
    · rintro _ rfl
      refine ⟨_, ?_, rfl⟩
      simp only [shard_seats_lay.b5]
      rw [if_neg (by omega)]
  · rintro i _ hi rfl
    left
    refine ⟨_, ?_, rfl⟩
    simp only [shard_seats_lay.b1]
    rw [if_pos (by omega), if_pos (by omega), rd_Q0 hi, if_neg (by simp), wrS i (by omega)]
  · rintro _ rfl
    refine ⟨_, ?_, rfl⟩
    simp only [shard_seats_lay.b1]
    rw [if_neg (by omega)]
theorem Export_zero {k : Nat} (hk : Fuel k) {t : Option Tab} (hR : RepS t ([], 0)) : shard_Shard_Export.f k (some ⟨t, Q0⟩) = some [2, 0, 0, 0] := by
  have ef : form ([], 0) = [0, 0] := by decide
  have f2 : fm 2 = [2] := by decide
  have f0 : fm 0 = [0] := by decide
  unfold shard_Shard_Export.f
  rw [if_neg (by simp), bind_eq (show parcel_New.f 1048576 = some (W 1048576 []) from rfl), Option.bind_some, bind_eq (bytes_eq hk (by simp) hR), ef,
    bind_eq (Text_eq hk (by simp [f2]) (by omega))]
  simp only [List.length_cons, List.length_nil, Nat.zero_add, Nat.reduceAdd, f2, List.nil_append]
  rw [bind_eq (lay_zero hk (by simp)), bind_eq (done_eq (by simp [f0])), f0]
  rfl
theorem Size_zero {k : Nat} (hk : Fuel k) {t : Option Tab} (hR : RepS t ([], 0)) : shard_Shard_Size.f k (some ⟨t, Q0⟩) = some 4 := by
  have f0 : fm 0 = [0] := by decide
  have es : (nm (([] : List Ent), 0).2 + nm (([] : List Ent), 0).1.length + sz (([] : List Ent), 0).1 : Int) = ((2 : Nat) : Int) := by decide
  have eb : shard_seats_bytes.f k Q0 = some [0] := by
    unfold shard_seats_bytes.f
    rw [bind_eq (show parcel_New.f 1048576 = some (W 1048576 []) from rfl), bind_eq (lay_zero hk (by simp)), bind_eq (done_eq (by simp [f0])), f0]
    rfl
  unfold shard_Shard_Size.f
  rw [if_neg (by simp), Option.bind_some, bind_eq (size_eq hk (by simp) hR), es, bind_eq (numSize_eq hk (by omega)), bind_eq eb]
  decide
theorem SRev_eq {T : Option Tab} {Q : List api_Seat} {st : St} (h : SI T Q st) : shard_Shard_Rev.f (some ⟨T, Q⟩) = some (st.2 : Int) := by
  unfold shard_Shard_Rev.f; rw [if_neg (by simp), Option.bind_some, bind_eq (Rev_eq h.rep)]
theorem SLen_eq {T : Option Tab} {Q : List api_Seat} {st : St} (h : SI T Q st) : shard_Shard_Len.f (some ⟨T, Q⟩) = some (st.1.length : Int) := by
  unfold shard_Shard_Len.f; rw [if_neg (by simp), Option.bind_some, bind_eq (Len_eq h.rep)]
theorem SRows_eq {T : Option Tab} {Q : List api_Seat} {st : St} (hr : st.2 < 4194304) (h : SI T Q st) : shard_Shard_Rows.f (some ⟨T, Q⟩) = some (st.1.map rowOf) := by
  unfold shard_Shard_Rows.f; rw [if_neg (by simp), Option.bind_some, bind_eq (Rows_eq hr h.rep)]
theorem act1 : act [] 0 (api_Op.mk 2 [97] [49] 0) = (⟨true, [], [], 0, 1⟩, 0, [(bs [97], ⟨[49], 1⟩)], 1) := by
  simp [act, right, keyok, look, ins, told]
theorem act2 : act [(bs [97], ⟨[49], 1⟩)] 1 (api_Op.mk 1 [97] [] 0) = (⟨true, sb (bs [97]), [49], 1, 1⟩, 0, [(bs [97], ⟨[49], 1⟩)], 1) := by
  simp [act, right, keyok, look, ins, told, lt_irr]
theorem putop_eq : haulagelaw14_put.f ({ data := #[97] }) ({ data := #[49] }) = some (api_Op.mk 2 [97] [49] 0) := by
  unfold haulagelaw14_put.f
  rw [if_pos (by decide), if_pos (by decide)]; rfl
theorem get_eq' : haulagelaw14_get.f ({ data := #[97] }) = some (api_Op.mk 1 [97] [] 0) := by
  unfold haulagelaw14_get.f
  rw [if_pos (by decide)]; rfl
theorem known_eq {k : Nat} (hk : Fuel k) : haulagelaw14_known.f k = some true := by
  obtain ⟨t, _, eN, S0⟩ := new_si
  have st1 : stepS ([], 0) (api_Op.mk 2 [97] [49] 0) = ([(bs [97], ⟨[49], 1⟩)], 1) := by unfold stepS; simp only; rw [act1]
  have st2 : stepS ([(bs [97], ⟨[49], 1⟩)], 1) (api_Op.mk 2 [97] [49] 0) = ([(bs [97], ⟨[49], 2⟩)], 2) := by unfold stepS; simp [act, right, keyok, look, ins, told, lt_irr]
  have st3 : stepS ([(bs [97], ⟨[49], 1⟩)], 1) (api_Op.mk 1 [97] [] 0) = ([(bs [97], ⟨[49], 1⟩)], 1) := by unfold stepS; simp only; rw [act2]
  have r1 : right (api_Op.mk 2 [97] [49] 0) = true := by decide
  have r2 : right (api_Op.mk 1 [97] [] 0) = true := by decide
  have z1 : ¬ (200000 < sz [(bs [97], ⟨[49], 1⟩)]) := by decide
  have z2 : ¬ (200000 < sz [(bs [97], ⟨[49], 2⟩)]) := by decide
  obtain ⟨T1, Q1, e1, S1, q1⟩ : ∃ T1 Q1, shard_Shard_Do.f k (some ⟨t, Q0⟩) 3 1 (api_Op.mk 2 [97] [49] 0) = some (⟨true, [], [], 0, 1⟩, true, 0, some ⟨T1, Q1⟩) ∧ SI T1 Q1 ([(bs [97], ⟨[49], 1⟩)], 1) ∧ rd Q1 3 = ⟨3, 1, ⟨true, [], [], 0, 1⟩⟩ := by
    have s0 : (rd Q0 3).Seq = 0 := rfl
    rcases sh_do hk (by simp) S0 3 1 (api_Op.mk 2 [97] [49] 0) (by rw [st1]; simp) with ⟨e, _, _, h | h | h | h⟩ | ⟨_, ⟨h, _⟩ | ⟨_, _, ⟨h, _⟩ | ⟨_, T', Q', e, S', hq⟩⟩⟩
    · omega
    · rw [r1] at h; cases h
    · rw [s0] at h; omega
    · rw [st1] at h; exact absurd h z1
    · rw [s0] at h; omega
    · simp at h
    · rw [act1] at e hq
      rw [st1] at S'
      exact ⟨T', Q', e, S', by rw [hq]; rfl⟩
  have e2 : shard_Shard_Do.f k (some ⟨T1, Q1⟩) 3 1 (api_Op.mk 2 [97] [49] 0) = some (⟨true, [], [], 0, 1⟩, false, 0, some ⟨T1, Q1⟩) := by
    rcases sh_do hk (by simp) S1 3 1 (api_Op.mk 2 [97] [49] 0) (by rw [st2]; simp) with ⟨e, _, _, h | h | h | h⟩ | ⟨_, ⟨h, e⟩ | ⟨h, _⟩⟩
    · omega
    · rw [r1] at h; cases h
    · rw [q1] at h; simp only at h; omega
    · rw [st2] at h; exact absurd h z2
    · rw [e, q1]
    · rw [q1] at h; simp only at h; omega
  have e3 : shard_Shard_Do.f k (some ⟨T1, Q1⟩) 3 2 (api_Op.mk 1 [97] [] 0) = some (⟨true, sb (bs [97]), [49], 1, 1⟩, false, 0, some ⟨T1, Q1⟩) := by
    rcases sh_do hk (by simp) S1 3 2 (api_Op.mk 1 [97] [] 0) (by rw [st3]; simp) with ⟨e, _, _, h | h | h | h⟩ | ⟨_, ⟨h, e⟩ | ⟨_, _, ⟨h, e⟩ | ⟨h, _⟩⟩⟩
    · omega
    · rw [r2] at h; cases h
    · rw [q1] at h; simp only at h; omega
    · rw [st3] at h; exact absurd h z1
    · rw [q1] at h; simp only at h; omega
    · rw [e]; simp only; rw [act2]
    · simp at h
  unfold haulagelaw14_known.f
  rw [bind_eq eN, if_neg (by simp), bind_eq (Export_zero hk S0.rep), bind_eq (same_refl hk (by simp)), if_pos rfl, bind_eq (Size_zero hk S0.rep)]
  unfold haulagelaw14_known.j1
  rw [if_neg (by simp), bind_eq putop_eq, bind_eq e1, bind_eq putop_eq]
  simp only
  rw [bind_eq e2, bind_eq get_eq']
  simp only
  rw [bind_eq e3]
  unfold haulagelaw14_num.f
  simp only [Option.bind_some, if_true, Bool.false_eq_true, if_false]
  rw [bind_eq (sameAnswer_refl hk (by simp) (by simp))]
  unfold haulagelaw14_known.j2
  have eb : sb (bs [97]) = [97] := by decide
  simp only [Bool.not_true, Bool.false_eq_true, if_false, if_true, eb]
  rw [bind_eq (same_refl hk (by simp)), if_pos rfl, bind_eq (same_refl hk (by simp)), if_pos rfl, bind_eq (SRev_eq S1), if_pos (by simp), bind_eq (SLen_eq S1)]
  simp
end Go.Proofs.Ythankpjbfpcldaa.G
namespace Go.Proofs.Ythankpjbfpcldaa.G
open Go
set_option linter.unusedVariables false
set_option linter.unusedSimpArgs false
theorem new_tot (x : Int) (hx : x ≤ 1000000000000) : ∃ w, parcel_New.f x = some w ∧ WT 0 w :=
  ⟨_, rfl, _, [], 0, rfl, by simp, by omega, by omega, by omega⟩
theorem fnv_tot {k : Nat} (hk : Fuel k) (p : List Int) (hp : p.length ≤ 1000000000) : ∃ n, seal_FNV.f k [p] = some n := by
  have h24 : 1099511627776 ≤ k := hk
  unfold seal_FNV.f
  have L := loop_inv (f := fun (s_ : Int × Int) => seal_FNV.b3 k [p] s_.1 s_.2) (I := fun i s => s.2 = (i : Int)) (P := fun _ => True) (N := 1) ?_ ?_ 1 0 (14695981039346656037, 0) k rfl rfl (by omega)
  · obtain ⟨x, e, _⟩ := L
    rw [bind_eq e]; exact ⟨_, rfl⟩
  · rintro i ⟨h, j⟩ hi hj
    left
    simp only at hj; subst hj
    obtain rfl : i = 0 := by omega
    have e0 : rd [p] ((0 : Nat) : Int) = p := rfl
    have M := loop_inv (f := fun (s_ : Int × Int) => seal_FNV.b1 [p] ((0 : Nat) : Int) s_.1 s_.2) (I := fun i s => s.2 = (i : Int)) (P := fun _ => True) (N := p.length) ?_ ?_ p.length 0 (h, 0) k rfl (by omega) (by omega)
    · obtain ⟨x, e, _⟩ := M
      simp only [seal_FNV.b3]
      rw [if_pos (by simp), if_pos (by simp), bind_eq e]
      exact ⟨_, rfl, rfl⟩
    · rintro i ⟨h, j⟩ hi hj
      left
      simp only at hj; subst hj
      simp only [seal_FNV.b1]
      rw [e0, if_pos (by omega), if_pos (by omega), wrS i (by omega)]
      exact ⟨_, rfl, rfl⟩
    · rintro ⟨h, j⟩ hj
      simp only at hj; subst hj
      simp only [seal_FNV.b1]
      rw [e0, if_neg (by omega)]
      exact ⟨_, rfl, trivial⟩
  · rintro ⟨h, j⟩ hj
    simp only at hj; subst hj
    simp only [seal_FNV.b3]
    rw [if_neg (by simp)]
    exact ⟨_, rfl, trivial⟩
theorem down_tot {k : Nat} (hk : Fuel k) (x : Int) : ∃ l, parcel_downuint64.f k (List.replicate 8 (0 : Int)) x = some l ∧ l.length = 8 := by
  have h24 : 1099511627776 ≤ k := hk
  unfold parcel_downuint64.f
  have L := loop_inv (f := fun (s_ : (List Int) × Int × Int) => parcel_downuint64.b1 (List.replicate 8 (0 : Int)) s_.1 s_.2.1 s_.2.2) (I := fun i s => s.1.length = 8 ∧ s.2.2 = (i : Int)) (P := fun l => l.length = 8) (N := 8) ?_ ?_ 8 0 (List.replicate 8 (0 : Int), x, 0) k ⟨rfl, rfl⟩ rfl (by omega)
  · obtain ⟨l, e, h⟩ := L
    rw [bind_eq e]
    exact ⟨l, by unfold parcel_downuint64.j2; rw [if_pos (by rw [h]; rfl)], h⟩
  · rintro i ⟨l, y, j⟩ hi ⟨hl, hj⟩
    left
    simp only at hj hl; subst hj
    simp only [parcel_downuint64.b1]
    rw [if_pos (by simp; omega), if_pos (by omega), wrS i (by omega)]
    exact ⟨_, rfl, by simpa using hl, rfl⟩
  · rintro ⟨l, y, j⟩ ⟨hl, hj⟩
    simp only at hj hl; subst hj
    simp only [parcel_downuint64.b1]
    rw [if_neg (by simp)]
    exact ⟨_, rfl, hl⟩
theorem WT.fixed {k : Nat} (hk : Fuel k) {n m : Nat} {w : Option Wri} (h : WT n w) (x : Int) (hm : n + 8 ≤ m) (hM : m ≤ 100000000) : ∃ w', parcel_Writer_Fixed.f k w x 8 = some w' ∧ WT m w' := by
  obtain ⟨l, e, hl⟩ := down_tot hk x
  obtain ⟨w', e', h'⟩ := h.lay (a := l) (m := m) (by omega) hM
  refine ⟨w', ?_, h'⟩
  unfold parcel_Writer_Fixed.f parcel_Writer_Fixed.j1
  rw [if_neg (by omega), decide_eq_false (by omega), if_neg (by simp), if_pos (by omega), if_neg (by omega), if_neg (by omega), if_neg (by omega)]
  have e8 : (8 : Int).toNat = 8 := rfl
  rw [e8, bind_eq e, bind_eq e']
theorem cut_tot {k : Nat} (hk : Fuel k) {n : Nat} {w : Option Wri} (h : WT n w) : ∃ r, merkle_cut.f k w 64 = some r := by
  obtain ⟨l, x, e, hl⟩ := h.done
  obtain ⟨r, er⟩ := fnv_tot hk l (by obtain ⟨_, _, _, _, _, h, _⟩ := h; omega)
  unfold merkle_cut.f
  rw [bind_eq e, bind_eq er, if_pos (by decide), if_pos (by decide)]
  exact ⟨_, rfl⟩
def RB (r : api_Row) : Prop := r.Key.length ≤ 1000 ∧ r.Value.length ≤ 1000
theorem ofRow_tot {k : Nat} (hk : Fuel k) {r : api_Row} (h : RB r) : ∃ n, merkle_ofRow.f k r 64 = some n := by
  obtain ⟨h1, h2⟩ := h
  obtain ⟨w0, e0, W0⟩ := new_tot (IntKind.i64.wrap ((IntKind.i64.wrap ((r.Key.length : Int) + (r.Value.length : Int))) + 31)) (by rw [wr (n := (r.Key.length : Int) + (r.Value.length : Int)) (by omega) (by omega), wr (by omega) (by omega)]; omega)
  obtain ⟨w1, e1, W1⟩ := W0.byte 1 (by omega) (m := 1) (by omega) (by omega)
  obtain ⟨w2, e2, W2⟩ := W1.text hk r.Key (m := 1100) (by omega) (by omega)
  obtain ⟨w3, e3, W3⟩ := W2.text hk r.Value (m := 2200) (by omega) (by omega)
  obtain ⟨w4, e4, W4⟩ := W3.num hk (BitVec.ofInt 64 (shl .u64 (IntKind.u64.wrap r.Rev) 1) ^^^ BitVec.ofInt 64 (IntKind.u64.wrap (shr .i64 r.Rev 63))).toNat (m := 2300) (by omega) (by omega)
  have e4 : parcel_Writer_Num.f k w3 (bxor .u64 (shl .u64 (IntKind.u64.wrap r.Rev) 1) (IntKind.u64.wrap (shr .i64 r.Rev 63))) = some w4 := e4
  obtain ⟨n, e5⟩ := cut_tot hk W4
  unfold merkle_ofRow.f parcel_Writer_Int.f
  rw [bind_eq e0, bind_eq e1, bind_eq e2, bind_eq e3, bind_eq e4, Option.bind_some, bind_eq e5]
  exact ⟨_, rfl⟩
theorem ofPair_tot {k : Nat} (hk : Fuel k) (x y : Int) : ∃ n, merkle_ofPair.f k x y 64 = some n := by
  obtain ⟨w0, e0, W0⟩ := new_tot 17 (by omega)
  obtain ⟨w1, e1, W1⟩ := W0.byte 3 (by omega) (m := 1) (by omega) (by omega)
  obtain ⟨w2, e2, W2⟩ := W1.fixed hk x (m := 9) (by omega) (by omega)
  obtain ⟨w3, e3, W3⟩ := W2.fixed hk y (m := 17) (by omega) (by omega)
  obtain ⟨n, e5⟩ := cut_tot hk W3
  unfold merkle_ofPair.f
  rw [bind_eq e0, bind_eq e1, bind_eq e2, bind_eq e3, bind_eq e5]
  exact ⟨_, rfl⟩
@[irreducible] def ei (i : Nat) : Nat := 1 + 8 * i
theorem ofBucket_tot {k : Nat} (hk : Fuel k) {R : List api_Row} (hl : R.length ≤ 4194304) (hR : ∀ r ∈ R, RB r) : ∃ n, merkle_ofBucket.f k R 64 = some n := by
  have h24 : 1099511627776 ≤ k := hk
  have es : ∀ i, ei (i + 1) = ei i + 8 := by intro i; unfold ei; omega
  have el : ∀ i, i ≤ 4194304 → ei i ≤ 34000000 := by intro i h; unfold ei; omega
  have ez : ei 0 = 1 := by unfold ei; rfl
  obtain ⟨w0, e0, W0⟩ := new_tot (IntKind.i64.wrap (1 + (IntKind.i64.wrap (8 * (R.length : Int))))) (by rw [wr (n := 8 * (R.length : Int)) (by omega) (by omega), wr (by omega) (by omega)]; omega)
  obtain ⟨w1, e1, W1⟩ := W0.byte 2 (by omega) (m := ei 0) (by omega) (by omega)
  unfold merkle_ofBucket.f
  rw [bind_eq e0, bind_eq e1]
  have L := loop_inv (f := fun (s_ : (Option Wri) × Int) => merkle_ofBucket.b1 k R 64 s_.1 s_.2) (I := fun i s => WT (ei i) s.1 ∧ s.2 = (i : Int)) (P := fun w => WT (ei R.length) w) (N := R.length) ?_ ?_ R.length 0 (w1, 0) k ⟨W1, rfl⟩ (by omega) (by omega)
  · obtain ⟨w, e, hw⟩ := L
    obtain ⟨n, en⟩ := cut_tot hk hw
    rw [bind_eq e]
    unfold merkle_ofBucket.j2
    rw [bind_eq en]
    exact ⟨_, rfl⟩
  · rintro i ⟨w, j⟩ hi ⟨hw, hj⟩
    left
    simp only at hj hw; subst hj
    have s1 := es i; have s2 := el (i + 1) (by omega)
    obtain ⟨n, en⟩ := ofRow_tot hk (hR (rd R (i : Int)) (by rw [rd_eq hi]; exact List.getElem_mem _))
    obtain ⟨w', ew, hw'⟩ := hw.fixed hk n (m := ei (i + 1)) (by omega) (by omega)
    simp only [merkle_ofBucket.b1]
    rw [if_pos (by omega), if_pos (by omega), bind_eq en, bind_eq ew, wrS i (by omega)]
    exact ⟨_, rfl, hw', rfl⟩
  · rintro ⟨w, j⟩ ⟨hw, hj⟩
    simp only at hj hw; subst hj
    simp only [merkle_ofBucket.b1]
    rw [if_neg (by omega)]
    exact ⟨_, rfl, hw⟩
theorem rising_tot {k : Nat} (hk : Fuel k) {R : List api_Row} (hl : R.length ≤ 4194304) : ∃ b, merkle_rising.f k R = some b := by
  have h24 : 1099511627776 ≤ k := hk
  unfold merkle_rising.f
  have L := loop_inv (f := fun (s_ : Int) => merkle_rising.b1 R s_) (I := fun i s => s = ((i + 1 : Nat) : Int)) (P := fun _ => True) (N := R.length) ?_ ?_ R.length 0 1 k rfl (by omega) (by omega)
  · obtain ⟨x, e, _⟩ := L
    rw [bind_eq e]
    cases x <;> exact ⟨_, rfl⟩
  · rintro i _ hi rfl
    simp only [merkle_rising.b1, merkle_byKey.f, bytes_Compare.f]
    by_cases c : i + 1 < R.length
    · rw [if_pos (by omega), wr (by omega) (by omega), if_pos (by omega), if_pos (by omega), Option.bind_some, Option.bind_some]
      split
      · exact .inr ⟨_, rfl, trivial⟩
      · exact .inl ⟨_, rfl, by rw [wrS (i + 1) (by omega)]⟩
    · rw [if_neg (by omega)]
      exact .inr ⟨_, rfl, trivial⟩
  · rintro _ rfl
    simp only [merkle_rising.b1]
    rw [if_neg (by omega)]
    exact ⟨_, rfl, trivial⟩
theorem bucket_tot {k : Nat} (hk : Fuel k) (p : List Int) (hp : p.length ≤ 1000000000) : ∃ n : Nat, merkle_bucket.f k p = some (n : Int) ∧ n < 256 := by
  obtain ⟨x, e⟩ := fnv_tot hk p hp
  have h8 : 0 ≤ IntKind.u8.wrap x ∧ IntKind.u8.wrap x < 256 := by
    simp only [IntKind.wrap, IntKind.bits, IntKind.signed]
    simp
    omega
  unfold merkle_bucket.f
  rw [bind_eq e, wr (by omega) (by omega)]
  exact ⟨(IntKind.u8.wrap x).toNat, by rw [Int.toNat_of_nonneg h8.1], by omega⟩
theorem New_tot {k : Nat} (hk : Fuel k) {R : List api_Row} (hl : R.length ≤ 4194304) (hR : ∀ r ∈ R, RB r) : ∃ x, merkle_New.f k R 64 = some x := by
  have h24 : 1099511627776 ≤ k := hk
  obtain ⟨b, eb⟩ := rising_tot hk hl
  unfold merkle_New.f merkle_New.j1
  rw [if_neg (by omega), decide_eq_false (by omega), if_neg (by simp), bind_eq eb]
  split
  · have L := loop_inv (f := fun (s_ : Int × (List (List api_Row))) => merkle_New.b2 k R s_.1 s_.2) (I := fun i s => s.1 = (i : Int) ∧ s.2.length = 256 ∧ ∀ x ∈ s.2, x.length ≤ i ∧ ∀ r ∈ x, RB r) (P := fun x => x.length = 256 ∧ ∀ y ∈ x, y.length ≤ R.length ∧ ∀ r ∈ y, RB r) (N := R.length) ?_ ?_ R.length 0 (0, List.replicate 256 []) k ⟨rfl, List.length_replicate .., fun x hx => by obtain rfl := (List.mem_replicate.1 hx).2; exact ⟨Nat.zero_le _, fun r h => by cases h⟩⟩ (by omega) (by omega)
    · obtain ⟨S, eS, hS, hB⟩ := L
      rw [bind_eq eS]
      unfold merkle_New.j3
      have M := loop_inv (f := fun (s_ : Int × (List Int)) => merkle_New.b4 k 64 S s_.1 s_.2) (I := fun i s => s.1 = (i : Int) ∧ s.2.length = 512) (P := fun x => x.length = 512) (N := 256) ?_ ?_ 256 0 (0, List.replicate 512 (0 : Int)) k ⟨rfl, List.length_replicate ..⟩ (by omega) (by omega)
      · obtain ⟨D, eD, hD⟩ := M
        rw [bind_eq eD]
        unfold merkle_New.j5
        have O := loop_inv (f := fun (s_ : Int × (List Int)) => merkle_New.b6 k 64 s_.1 s_.2) (I := fun i s => s.1 = 255 - (i : Int) ∧ s.2.length = 512) (P := fun x => True) (N := 255) ?_ ?_ 255 0 (255, D) k ⟨rfl, hD⟩ (by omega) (by omega)
        · obtain ⟨D', eD', _⟩ := O
          rw [bind_eq eD']
          exact ⟨_, rfl⟩
        · rintro i ⟨j, l⟩ hi ⟨hj, hl⟩
          left
          simp only at hj hl; subst hj
          simp only [merkle_New.b6]
          obtain ⟨n, en⟩ := ofPair_tot hk (rd l (IntKind.i64.wrap (2 * (255 - (i : Int))))) (rd l (IntKind.i64.wrap ((IntKind.i64.wrap (2 * (255 - (i : Int)))) + 1)))
          have w1 : IntKind.i64.wrap (2 * (255 - (i : Int))) = 2 * (255 - (i : Int)) := wr (by omega) (by omega)
          have w2 : IntKind.i64.wrap (2 * (255 - (i : Int)) + 1) = 2 * (255 - (i : Int)) + 1 := wr (by omega) (by omega)
          rw [w1, w2] at en
          rw [w1, w2, if_pos (by omega), if_pos (by omega), if_pos (by omega), bind_eq en, if_pos (by omega), wr (by omega) (by omega)]
          exact ⟨_, rfl, by simp only; omega, by simpa using hl⟩
        · rintro ⟨j, l⟩ ⟨hj, hl⟩
          simp only at hj hl; subst hj
          simp only [merkle_New.b6]
          rw [if_neg (by omega)]
          exact ⟨_, rfl, trivial⟩
      · rintro i ⟨j, l⟩ hi ⟨hj, hl⟩
        left
        simp only at hj hl; subst hj
        simp only [merkle_New.b4]
        have hm : rd S (i : Int) ∈ S := by rw [rd_eq (by omega)]; exact List.getElem_mem _
        obtain ⟨n, en⟩ := ofBucket_tot hk (R := rd S (i : Int)) (by have := (hB _ hm).1; omega) (hB _ hm).2
        rw [if_pos (by omega), if_pos (by omega), bind_eq en, wr (n := 256 + (i : Int)) (by omega) (by omega), if_pos (by omega), wrS i (by omega)]
        exact ⟨_, rfl, rfl, by simpa using hl⟩
      · rintro ⟨j, l⟩ ⟨hj, hl⟩
        simp only at hj hl; subst hj
        simp only [merkle_New.b4]
        rw [if_neg (by omega)]
        exact ⟨_, rfl, hl⟩
    · rintro i ⟨j, S⟩ hi ⟨hj, hS, hB⟩
      left
      simp only at hj hS hB; subst hj
      have hr := hR (rd R (i : Int)) (by rw [rd_eq hi]; exact List.getElem_mem _)
      obtain ⟨b, eb, hb⟩ := bucket_tot hk (rd R (i : Int)).Key (by have := hr.1; omega)
      have hm : rd S (b : Int) ∈ S := by rw [rd_eq (by omega)]; exact List.getElem_mem _
      have hmb := hB _ hm
      simp only [merkle_New.b2, merkle_own.f, bytes_Clone.f]
      rw [if_pos (by omega), if_pos (by omega), bind_eq eb, if_pos (by omega), if_pos (by have := hr.1; omega), Option.bind_some, if_pos (by have := hr.2; omega), Option.bind_some, Option.bind_some, if_pos (by have := hmb.1; simp; omega), wrS i (by omega)]
      refine ⟨_, rfl, rfl, by simpa using hS, fun x hx => ?_⟩
      rcases List.mem_or_eq_of_mem_set hx with h | rfl
      · exact ⟨by have := (hB x h).1; omega, (hB x h).2⟩
      · refine ⟨by have := hmb.1; simp; omega, fun r h => ?_⟩
        rcases List.mem_append.1 h with h | h
        · exact hmb.2 r h
        · obtain rfl := List.mem_singleton.1 h; exact hr
    · rintro ⟨j, S⟩ ⟨hj, hS, hB⟩
      simp only at hj hS hB; subst hj
      simp only [merkle_New.b2]
      rw [if_neg (by omega)]
      exact ⟨_, rfl, hS, hB⟩
  · exact ⟨_, rfl⟩
theorem Digest_tot (t : Option Mer) : ∃ n, merkle_Tree_Root.f t = some n := by
  unfold merkle_Tree_Root.f merkle_Tree_Digest.f merkle_Tree_Digest.j1
  cases t with
  | none => exact ⟨_, rfl⟩
  | some t => rw [if_neg (by simp), if_neg (by omega), decide_eq_false (by omega), if_neg (by simp), Option.bind_some, if_pos (by omega)]; exact ⟨_, rfl⟩
theorem Root_tot {k : Nat} (hk : Fuel k) {T : Option Tab} {Q : List api_Seat} {st : St} (hr : st.2 < 4194304) (hS : SI T Q st) : ∃ n, shard_Shard_Root.f k (some ⟨T, Q⟩) = some n := by
  have hi := hS.rep.inv
  have hlen := hi.len
  obtain ⟨x, ex⟩ := New_tot hk (R := st.1.map rowOf) (by rw [List.length_map]; omega) fun r hr => by
    obtain ⟨e, he, rfl⟩ := List.mem_map.1 hr
    have := hi.ent e he
    exact ⟨by show (sb e.1).length ≤ _; rw [sb_len]; omega, by show e.2.value.length ≤ _; omega⟩
  obtain ⟨d, ed⟩ := Digest_tot x.1
  obtain ⟨w0, e0, W0⟩ := new_tot 1048576 (by omega)
  obtain ⟨w1, e1, W1⟩ := W0.fixed hk d (m := 8) (by omega) (by omega)
  obtain ⟨w2, e2, W2⟩ := W1.num hk (st.2 : Int) (m := 19) (by omega) (by omega)
  obtain ⟨w3, e3, W3⟩ := lay_tot hk hS.len hS.qb (n := 19) (by omega) W2
  obtain ⟨l, y, e4, hl⟩ := W3.done
  obtain ⟨n, e5⟩ := fnv_tot hk l (by omega)
  unfold shard_Shard_Root.f
  rw [if_neg (by simp), bind_eq (SRows_eq hr hS), bind_eq ex, bind_eq e0, bind_eq ed, bind_eq e1, bind_eq (SRev_eq hS), bind_eq e2, Option.bind_some, bind_eq e3, bind_eq e4, bind_eq e5]
  exact ⟨_, rfl⟩
theorem Export_tot {k : Nat} (hk : Fuel k) {T : Option Tab} {Q : List api_Seat} {st : St} (hr : st.2 < 4194304) (hz : sz st.1 ≤ 262144) (hS : SI T Q st) : ∃ l, shard_Shard_Export.f k (some ⟨T, Q⟩) = some l ∧ l.length < 1000000000 := by
  have h1 := nm_le st.2; have h2 := nm_le st.1.length
  have hf : (form st).length ≤ 300000 := by
    have := flat_len st.1
    unfold Go.Proofs.Ythankpjbfpcldaa.G.form
    rw [List.length_append, List.length_append, fm_len, fm_len]
    omega
  obtain ⟨w0, e0, W0⟩ := new_tot 1048576 (by omega)
  obtain ⟨w1, e1, W1⟩ := W0.text hk (form st) (m := 301000) (by omega) (by omega)
  obtain ⟨w3, e3, W3⟩ := lay_tot hk hS.len hS.qb (n := 301000) (by omega) W1
  obtain ⟨l, y, e4, hl⟩ := W3.done
  unfold shard_Shard_Export.f
  rw [if_neg (by simp), bind_eq e0, Option.bind_some, bind_eq (bytes_eq hk hr hS.rep), bind_eq e1, bind_eq e3, bind_eq e4]
  exact ⟨_, rfl, by simp only; omega⟩
end Go.Proofs.Ythankpjbfpcldaa.G
namespace Go.Proofs.Ythankpjbfpcldaa.G
open Go
set_option linter.unusedVariables false
set_option linter.unusedSimpArgs false
theorem told_at (r : Int) (k : ByteArray) (o : Option table_cell) : (told r k o).At = r := by cases o <;> rfl
theorem act_wr {L : List Ent} {r : Nat} {o : api_Op} (R : right o = true) (K : ¬ (o.Kind = 1 ∨ o.Kind = 5)) : (act L r o).1.At = (r : Int) + 1 ∧ (act L r o).2.2.2 = r + 1 := by
  unfold act
  rw [if_neg (by simp [R]), if_neg (by omega), if_neg (by omega)]
  split
  · exact ⟨told_at .., rfl⟩
  · split
    · exact ⟨told_at .., rfl⟩
    · exact ⟨told_at .., rfl⟩
theorem act_rd {L : List Ent} {r : Nat} {o : api_Op} (R : right o = true) (K : o.Kind = 1 ∨ o.Kind = 5) : (act L r o).1.At = (r : Int) := by
  unfold act
  rw [if_neg (by simp [R])]
  split
  · split <;> exact told_at ..
  · rw [if_pos (by omega)]; exact told_at ..
structure Mi (Q : List api_Seat) (l : List haulagelaw14_again) (rv : Nat) : Prop where
  len : l.length = 16
  ok : ∀ j : Nat, j < 16 → ((rd l (j : Int)).is = false ∧ (rd Q (j : Int)).Seq = 0) ∨ ((rd l (j : Int)).is = true ∧ 1 ≤ (rd Q (j : Int)).Seq ∧ (rd Q (j : Int)).Seq ≤ 1073741824 ∧ (rd Q (j : Int)).Client = (j : Int) ∧ (rd l (j : Int)).step.Seq = (rd Q (j : Int)).Seq ∧ (rd l (j : Int)).answer = (rd Q (j : Int)).Answer ∧ right (rd l (j : Int)).step.Op = true ∧ (rd Q (j : Int)).Answer.At ≤ (rv : Int))
theorem again_refl {k : Nat} (hk : Fuel k) {T : Option Tab} {Q : List api_Seat} {st : St} (hS : SI T Q st) {j : Nat} (hj : j < 16) {a : api_Answer} (h : a = (rd Q (j : Int)).Answer) : haulagelaw14_sameAnswer.f k (rd Q (j : Int)).Answer a = some true := by
  have q := hS.mem (c := (j : Int)) (by omega)
  have h1 := q.key; have h2 := q.val
  rw [h]
  exact sameAnswer_refl hk (by omega) (by omega)
theorem seats_ok {k : Nat} (hk : Fuel k) {T : Option Tab} {Q : List api_Seat} {st : St} (hS : SI T Q st) {l : List haulagelaw14_again} {rv : Nat} (hM : Mi Q l rv) {t : api_Answer × Bool × Int × Option Sha} (ht : t.2.2.2 = some ⟨T, Q⟩) (i : Nat) (hi : i < 4000000) (r : Int) :
    haulagelaw14_ShardOnce.j21 k t (i : Int) r l = some (.next (some ⟨T, Q⟩, r, ((i + 1 : Nat) : Int), l)) := by
  have h24 : 1099511627776 ≤ k := hk
  unfold haulagelaw14_ShardOnce.j21
  have L := loop_inv (f := fun (s_ : Int) => haulagelaw14_ShardOnce.b23 k t l s_) (I := fun i s => s = (i : Int)) (P := fun x => x = .inl ()) (N := 16) ?_ ?_ 16 0 0 k rfl (by omega) (by omega)
  · obtain ⟨x, e, rfl⟩ := L
    rw [bind_eq e]
    simp only [haulagelaw14_ShardOnce.j24]
    rw [ht, wrS i (by omega)]
  · rintro j _ hj rfl
    left
    refine ⟨_, ?_, rfl⟩
    simp only [haulagelaw14_ShardOnce.b23]
    rw [ht, if_pos (by omega)]
    rcases hM.ok j hj with ⟨h1, h2⟩ | ⟨h1, h2, h3, h4, h5, h6, h7, h8⟩
    · rcases Seat_eq hS (j : Int) with ⟨h, _⟩ | ⟨_, ⟨_, h⟩ | ⟨h, _⟩⟩
      · omega
      · rw [bind_eq h, if_pos (by omega), h1, if_pos (by rfl), if_neg (by simp)]
        simp only [haulagelaw14_ShardOnce.j22]
        rw [if_neg (by simp), wrS j (by omega)]
      · omega
    · rcases Seat_eq hS (j : Int) with ⟨h, _⟩ | ⟨_, ⟨h, _⟩ | ⟨_, h⟩⟩
      · omega
      · omega
      · rw [bind_eq h, if_pos (by omega), h1, if_pos (by rfl), if_pos (by rfl), if_pos h4, if_pos (by omega), if_pos h5.symm, if_pos (by omega), bind_eq (again_refl hk hS hj h6)]
        simp only [haulagelaw14_ShardOnce.j22]
        rw [if_neg (by simp), wrS j (by omega)]
  · rintro _ rfl
    refine ⟨_, ?_, rfl⟩
    simp only [haulagelaw14_ShardOnce.b23]
    rw [if_neg (by omega)]
section
variable {k : Nat} {ops : List haulagelaw14_Step} {l : List haulagelaw14_again} {rev : Int} {i : Int} {inn : Bool}
theorem head_ok (hk : Fuel k) {T : Option Tab} {Q : List api_Seat} {st : St} {E : List Int} {R : Int} (hE : shard_Shard_Export.f k (some ⟨T, Q⟩) = some E) (hL : E.length < 1000000000) (hR : shard_Shard_Root.f k (some ⟨T, Q⟩) = some R) {a : api_Answer} {e : Int} (h : e = 0 ∨ a = zeroA) :
    haulagelaw14_ShardOnce.j13 k ops E R (a, false, e, some ⟨T, Q⟩) rev i l inn = haulagelaw14_ShardOnce.j15 k ops (a, false, e, some ⟨T, Q⟩) rev i l inn false := by
  have h14 : haulagelaw14_ShardOnce.j14 k ops E R (a, false, e, some ⟨T, Q⟩) rev i l inn false = haulagelaw14_ShardOnce.j15 k ops (a, false, e, some ⟨T, Q⟩) rev i l inn false := by
    unfold haulagelaw14_ShardOnce.j14
    rw [if_neg (by simp), if_neg (by simp), bind_eq hE, bind_eq (same_refl hk (by omega)), if_pos rfl, bind_eq hR, decide_eq_true rfl]
    rfl
  unfold haulagelaw14_ShardOnce.j13 haulagelaw14_num.f
  rw [Option.bind_some]
  by_cases c : e = 0
  · rw [if_pos c, h14]
  · obtain rfl : a = zeroA := h.resolve_left c
    rw [if_neg c, if_neg (by simp), if_pos (by rfl), if_neg (by show ¬ (false = true); simp), decide_eq_false (by show ¬ ((0 : Int) < 0); omega), h14]
theorem head_new {E : List Int} {R : Int} {a : api_Answer} {s : Option Sha} : haulagelaw14_ShardOnce.j13 k ops E R (a, true, 0, s) rev i l inn = haulagelaw14_ShardOnce.j15 k ops (a, true, 0, s) rev i l inn false := by
  unfold haulagelaw14_ShardOnce.j13 haulagelaw14_num.f haulagelaw14_ShardOnce.j14
  rw [Option.bind_some, if_pos rfl, if_neg (by simp), if_pos rfl]
theorem mid_ok {t : api_Answer × Bool × Int × Option Sha} (hn : inn = true → 0 ≤ (rd ops i).Client ∧ (rd ops i).Client < 16)
    (h : inn = true → (rd l (rd ops i).Client).is = true → 1 ≤ (rd ops i).Seq → right (rd ops i).Op = true → ((rd ops i).Seq < (rd l (rd ops i).Client).step.Seq → t.2.2.1 = 141) ∧ ((rd ops i).Seq = (rd l (rd ops i).Client).step.Seq → t.2.2.1 = 0 ∧ t.2.1 = false ∧ haulagelaw14_sameAnswer.f k t.1 (rd l (rd ops i).Client).answer = some true)) :
    haulagelaw14_ShardOnce.j15 k ops t rev i l inn false = haulagelaw14_ShardOnce.j18 k ops t rev i l inn := by
  have h16 : haulagelaw14_ShardOnce.j16 k ops t rev i l inn false = haulagelaw14_ShardOnce.j18 k ops t rev i l inn := by
    unfold haulagelaw14_ShardOnce.j16
    rw [if_neg (by simp)]
  have h17 : haulagelaw14_ShardOnce.j17 k ops t rev i l inn false = haulagelaw14_ShardOnce.j18 k ops t rev i l inn := by
    unfold haulagelaw14_ShardOnce.j17
    rw [if_neg (by simp)]
  unfold haulagelaw14_ShardOnce.j15
  rw [if_neg (by simp)]
  by_cases c1 : inn = true
  · have hc := hn c1
    rw [if_pos c1, if_pos hc]
    by_cases c2 : (rd l (rd ops i).Client).is = true
    · rw [if_pos c2]
      by_cases c3 : 1 ≤ (rd ops i).Seq
      · rw [if_pos c3, bind_eq (right_eq _)]
        by_cases c4 : right (rd ops i).Op = true
        · obtain ⟨g1, g2⟩ := h c1 c2 c3 c4
          unfold haulagelaw14_ShardOnce.j16 haulagelaw14_num.f
          rw [if_pos c4, if_pos hc, Option.bind_some, Option.bind_some]
          by_cases c5 : (rd ops i).Seq < (rd l (rd ops i).Client).step.Seq
          · rw [if_pos c5, if_pos (g1 c5), if_neg (by omega), h17]
          · rw [if_neg c5]
            by_cases c6 : (rd ops i).Seq = (rd l (rd ops i).Client).step.Seq
            · obtain ⟨q1, q2, q3⟩ := g2 c6
              rw [if_pos c6, if_pos q1, if_neg (by simp [q2]), bind_eq q3]
              exact h17
            · rw [if_neg c6, h17]
        · rw [show right (rd ops i).Op = false by simpa using c4, h16]
      · rw [if_neg c3, h16]
    · rw [if_neg c2, h16]
  · rw [if_neg c1, h16]
theorem tail_old {t : api_Answer × Bool × Int × Option Sha} (hf : t.2.1 = false) (h : t.2.2.1 = 0 → t.1.At ≤ rev) : haulagelaw14_ShardOnce.j18 k ops t rev i l inn = haulagelaw14_ShardOnce.j21 k t i rev l := by
  have h19 : haulagelaw14_ShardOnce.j19 k ops t rev i l inn false = haulagelaw14_ShardOnce.j21 k t i rev l := by
    unfold haulagelaw14_ShardOnce.j19
    rw [if_neg (by simp), if_neg (by simp [hf])]
  unfold haulagelaw14_ShardOnce.j18 haulagelaw14_num.f
  rw [Option.bind_some]
  by_cases c : t.2.2.1 = 0
  · have := h c
    rw [if_pos c, if_neg (by simp [hf]), decide_eq_false (by omega), h19]
  · rw [if_neg c, h19]
theorem tail_new {a : api_Answer} {T : Option Tab} {Q : List api_Seat} {r : Nat} (hi : inn = true) (hc : 0 ≤ (rd ops i).Client ∧ (rd ops i).Client < 16) (hr : r < 4194304) (hA : a.At = (r : Int) + 1) (hV : shard_Shard_Rev.f (some ⟨T, Q⟩) = some ((r + 1 : Nat) : Int)) (h1 : 1 ≤ (rd ops i).Seq) (hl : (rd l (rd ops i).Client).is = true → (rd l (rd ops i).Client).step.Seq < (rd ops i).Seq) :
    haulagelaw14_ShardOnce.j18 k ops (a, true, 0, some ⟨T, Q⟩) (r : Int) i l inn = haulagelaw14_ShardOnce.j21 k (a, true, 0, some ⟨T, Q⟩) i ((r + 1 : Nat) : Int) (l.set (rd ops i).Client.toNat ⟨true, rd ops i, a⟩) := by
  have h20 : haulagelaw14_ShardOnce.j20 k ops (a, true, 0, some ⟨T, Q⟩) (r : Int) i l false = haulagelaw14_ShardOnce.j21 k (a, true, 0, some ⟨T, Q⟩) i ((r + 1 : Nat) : Int) (l.set (rd ops i).Client.toNat ⟨true, rd ops i, a⟩) := by
    unfold haulagelaw14_ShardOnce.j20
    rw [if_neg (by simp), if_pos hc, wrS r (by omega)]
  unfold haulagelaw14_ShardOnce.j18 haulagelaw14_num.f haulagelaw14_ShardOnce.j19
  rw [Option.bind_some, if_pos rfl, if_pos rfl, if_neg (by simp), if_pos rfl, if_pos hi, wrS r (by omega), if_pos (by simp only; omega), bind_eq hV, if_pos rfl, if_neg (by omega), if_pos hc]
  by_cases c : (rd l (rd ops i).Client).is = true
  · have := hl c
    rw [if_pos c, if_pos hc, decide_eq_false (by omega), h20]
  · rw [if_neg c, h20]
end
theorem Mi.set {Q : List api_Seat} {l : List haulagelaw14_again} {r : Nat} (h : Mi Q l r) (hQ : Q.length = 16) {c : Nat} (hc : c < 16) {s : haulagelaw14_Step} {a : api_Answer} (h1 : 1 ≤ s.Seq ∧ s.Seq ≤ 1073741824) (hr : right s.Op = true) (ha : a.At = (r : Int) + 1) : Mi (Q.set c ⟨(c : Int), s.Seq, a⟩) (l.set c ⟨true, s, a⟩) (r + 1) := by
  have hl := h.len
  refine ⟨by rw [List.length_set]; exact hl, fun j hj => ?_⟩
  have e1 : rd (l.set c ⟨true, s, a⟩) (j : Int) = if c = j then ⟨true, s, a⟩ else rd l (j : Int) := by
    rw [rd_eq (by rw [List.length_set]; omega), List.getElem_set]
    split
    · rfl
    · rw [rd_eq (by omega)]
  have e2 : rd (Q.set c ⟨(c : Int), s.Seq, a⟩) (j : Int) = if c = j then ⟨(c : Int), s.Seq, a⟩ else rd Q (j : Int) := by
    rw [rd_eq (by rw [List.length_set]; omega), List.getElem_set]
    split
    · rfl
    · rw [rd_eq (by omega)]
  rw [e1, e2]
  by_cases q : c = j
  · rw [if_pos q, if_pos q]
    exact .inr ⟨rfl, h1.1, h1.2, by simp only; omega, rfl, rfl, hr, by simp only; omega⟩
  · rw [if_neg q, if_neg q]
    rcases h.ok j hj with g | ⟨g1, g2, g3, g4, g5, g6, g7, g8⟩
    · exact .inl g
    · exact .inr ⟨g1, g2, g3, g4, g5, g6, g7, by omega⟩
theorem Mi.zero : Mi Q0 (List.replicate 16 (haulagelaw14_again.mk false (haulagelaw14_Step.mk 0 0 0 0 (api_Op.mk 0 [] [] 0)) (api_Answer.mk false [] [] 0 0))) 0 :=
  ⟨List.length_replicate .., fun j hj => .inl ⟨by rw [rd_eq (by simpa using hj), List.getElem_replicate], by rw [rd_Q0 hj]⟩⟩
theorem do_again {k : Nat} (hk : Fuel k) {T : Option Tab} {Q : List api_Seat} {st : St} (hr : st.2 ≤ 4000000) (hS : SI T Q st) {j : Nat} (hj : j < 16) (h1 : 1 ≤ (rd Q (j : Int)).Seq) (h2 : (rd Q (j : Int)).Seq ≤ 1073741824) (o : api_Op) :
    (right o = true → shard_Shard_Do.f k (some ⟨T, Q⟩) (j : Int) (rd Q (j : Int)).Seq o = some ((rd Q (j : Int)).Answer, false, 0, some ⟨T, Q⟩)) ∧ (right o = false → shard_Shard_Do.f k (some ⟨T, Q⟩) (j : Int) (rd Q (j : Int)).Seq o = some (zeroA, false, 131, some ⟨T, Q⟩)) := by
  have hsr := step_r st o
  have hv : Vd (j : Int) (rd Q (j : Int)).Seq := ⟨by omega, by omega, h1, h2⟩
  rcases sh_do2 hk (by omega) hS (j : Int) (rd Q (j : Int)).Seq o (by omega) with ⟨e, _, d, h | ⟨_, h, rfl⟩ | ⟨_, _, h, _⟩ | ⟨_, _, h, _⟩⟩ | ⟨_, R, ⟨_, d⟩ | ⟨h, _⟩⟩
  · exact absurd hv h.1
  · exact ⟨fun q => absurd (q.symm.trans h) (by simp), fun _ => d⟩
  · omega
  · omega
  · exact ⟨fun _ => d, fun q => by rw [q] at R; cases R⟩
  · omega
theorem ShardOnce_true {k : Nat} (hk : Fuel k) (ops : List haulagelaw14_Step) (hn : ops.length < 4000000) (other : api_Op) : haulagelaw14_ShardOnce.f k ops other = some true := by
  have h24 : 1099511627776 ≤ k := hk
  obtain ⟨t, eT, eN, S0⟩ := new_si
  unfold haulagelaw14_ShardOnce.f
  rw [bind_eq (known_eq hk), if_pos rfl, bind_eq eN]
  have L := loop_inv (f := fun (s_ : (Option Sha) × Int × Int × (List haulagelaw14_again)) => haulagelaw14_ShardOnce.b25 k ops s_.1 s_.2.1 s_.2.2.1 s_.2.2.2)
    (I := fun i s => ∃ T Q st l, s = (some ⟨T, Q⟩, (st.2 : Int), (i : Int), l) ∧ SI T Q st ∧ st.2 ≤ i ∧ sz st.1 ≤ 262144 ∧ Mi Q l st.2)
    (P := fun x => ∃ T Q st l, x = .inl (some ⟨T, Q⟩, l) ∧ SI T Q st ∧ st.2 ≤ ops.length ∧ sz st.1 ≤ 262144 ∧ Mi Q l st.2) (N := ops.length) ?_ ?_ ops.length 0 (some ⟨t, Q0⟩, 0, 0, _) k ⟨t, Q0, ([], 0), _, rfl, S0, Nat.le_refl _, by show sz [] ≤ _; decide, Mi.zero⟩ (by omega) (by omega)
  · obtain ⟨x, ex, T, Q, st, l, rfl, hS, hst, hz, hM⟩ := L
    rw [bind_eq ex]
    simp only
    unfold haulagelaw14_ShardOnce.j26
    have M := loop_inv (f := fun (s_ : (Option Sha) × Int) => haulagelaw14_ShardOnce.b35 k other l s_.1 s_.2) (I := fun i s => s = (some ⟨T, Q⟩, (i : Int))) (P := fun x => x = .inl ()) (N := 16) ?_ ?_ 16 0 (some ⟨T, Q⟩, 0) k rfl (by omega) (by omega)
    · obtain ⟨y, ey, rfl⟩ := M
      rw [bind_eq ey]; rfl
    · rintro j _ hj rfl
      left
      refine ⟨_, ?_, rfl⟩
      simp only [haulagelaw14_ShardOnce.b35]
      rw [if_pos (by omega), if_pos (by omega)]
      rcases hM.ok j hj with ⟨h1, h2⟩ | ⟨h1, h2, h3, h4, h5, h6, h7, h8⟩
      · rw [h1, if_neg (by simp), wrS j (by omega)]
      · obtain ⟨E, hE, hL⟩ := Export_tot hk (by omega) hz hS
        have d1 := (do_again hk (by omega) hS hj h2 h3 (rd l (j : Int)).step.Op).1 h7
        have d2 := do_again hk (by omega) hS hj h2 h3 other
        have a1 := again_refl hk hS hj h6
        rw [if_pos h1, bind_eq hE, if_pos (by omega), if_pos (by omega), h5, bind_eq d1]
        unfold haulagelaw14_ShardOnce.j31
        rw [if_pos (by omega), h5]
        simp only
        have h34 : ∀ t : api_Answer × Bool × Int × Option Sha, t.2.2.2 = some ⟨T, Q⟩ → haulagelaw14_ShardOnce.j34 t (j : Int) false = some (.next (some ⟨T, Q⟩, ((j + 1 : Nat) : Int))) := by
          intro t ht
          unfold haulagelaw14_ShardOnce.j34
          rw [if_neg (by simp), ht, wrS j (by omega)]
        have h32 : ∀ (b : api_Answer) (f : Int), haulagelaw14_ShardOnce.j32 k other l E ((rd Q (j : Int)).Answer, false, 0, some ⟨T, Q⟩) (b, false, f, some ⟨T, Q⟩) (j : Int) = haulagelaw14_ShardOnce.j33 k other l (b, false, f, some ⟨T, Q⟩) (j : Int) false := by
          intro b f
          unfold haulagelaw14_ShardOnce.j32 haulagelaw14_num.f
          rw [Option.bind_some, if_pos rfl, if_neg (by simp), if_pos (by omega), bind_eq a1, if_pos rfl, if_neg (by simp), bind_eq hE, bind_eq (same_refl hk (by omega))]
          rfl
        by_cases R : right other = true
        · rw [bind_eq (d2.1 R), h32]
          unfold haulagelaw14_ShardOnce.j33 haulagelaw14_num.f
          rw [if_neg (by simp), bind_eq (right_eq _), if_pos R, Option.bind_some, if_pos rfl, if_pos (by omega), bind_eq a1, if_pos rfl, bind_eq (right_eq _), if_pos R]
          exact h34 _ rfl
        · have R' : right other = false := by simpa using R
          rw [bind_eq (d2.2 R'), h32]
          unfold haulagelaw14_ShardOnce.j33 haulagelaw14_num.f
          rw [if_neg (by simp), bind_eq (right_eq _), if_neg R, bind_eq (right_eq _), if_neg R, Option.bind_some, decide_eq_true rfl]
          exact h34 _ rfl
    · rintro _ rfl
      refine ⟨_, ?_, rfl⟩
      simp only [haulagelaw14_ShardOnce.b35]
      rw [if_neg (by omega)]
  · rintro i _ hi ⟨T, Q, st, l, rfl, hS, hst, hz, hM⟩
    left
    have hsr := step_r st (rd ops (i : Int)).Op
    obtain ⟨E, hE, hL⟩ := Export_tot hk (by omega) hz hS
    obtain ⟨R, hR⟩ := Root_tot hk (by omega) hS
    have hbase : ∀ (d : api_Answer × Bool × Int × Option Sha), shard_Shard_Do.f k (some ⟨T, Q⟩) (rd ops (i : Int)).Client (rd ops (i : Int)).Seq (rd ops (i : Int)).Op = some d →
        haulagelaw14_ShardOnce.b25 k ops (some ⟨T, Q⟩) (st.2 : Int) (i : Int) l = haulagelaw14_ShardOnce.j13 k ops E R d (st.2 : Int) (i : Int) l (decide (0 ≤ (rd ops (i : Int)).Client ∧ (rd ops (i : Int)).Client < 16)) := by
      intro d h1
      unfold haulagelaw14_ShardOnce.b25
      rw [if_pos (by omega), if_pos (by omega), bind_eq hE, bind_eq hR, bind_eq h1]
      split
      · rename_i c; congr 1; simp [c]
      · rename_i c; congr 1; simp [c]
    show ∃ s', haulagelaw14_ShardOnce.b25 k ops (some ⟨T, Q⟩) (st.2 : Int) (i : Int) l = some (.next s') ∧ _
    have hin : decide (0 ≤ (rd ops (i : Int)).Client ∧ (rd ops (i : Int)).Client < 16) = true → 0 ≤ (rd ops (i : Int)).Client ∧ (rd ops (i : Int)).Client < 16 := of_decide_eq_true
    have hok : 0 ≤ (rd ops (i : Int)).Client ∧ (rd ops (i : Int)).Client < 16 → _ := fun c => hM.ok (rd ops (i : Int)).Client.toNat (by omega)
    have hcl : 0 ≤ (rd ops (i : Int)).Client → (((rd ops (i : Int)).Client.toNat : Nat) : Int) = (rd ops (i : Int)).Client := fun c => Int.toNat_of_nonneg c
    rcases sh_do2 hk (by omega) hS (rd ops (i : Int)).Client (rd ops (i : Int)).Seq (rd ops (i : Int)).Op (by omega) with ⟨e, he, hd, hwhy⟩ | ⟨hv, hRi, ⟨hs, hd⟩ | ⟨hs, hrest⟩⟩
    · rw [hbase _ hd, head_ok (st := st) hk hE hL hR (.inr rfl), mid_ok hin (fun c1 c2 c3 c4 => by
        have hc := hin c1
        have := hok hc
        rw [hcl hc.1] at this
        rcases this with ⟨g, _⟩ | ⟨g1, g2, g3, g4, g5, g6, g7, g8⟩
        · rw [g] at c2; cases c2
        · refine ⟨fun q => ?_, fun q => ?_⟩
          · rcases hwhy with ⟨h, _⟩ | ⟨_, h, _⟩ | ⟨_, _, _, h⟩ | ⟨_, _, h, _⟩
            · exact absurd ⟨hc.1, hc.2, c3, by omega⟩ h
            · rw [c4] at h; cases h
            · exact h
            · omega
          · exfalso
            rcases hwhy with ⟨h, _⟩ | ⟨_, h, _⟩ | ⟨_, _, h, _⟩ | ⟨_, _, h, _⟩
            · exact absurd ⟨hc.1, hc.2, c3, by omega⟩ h
            · rw [c4] at h; cases h
            · omega
            · omega), tail_old rfl (fun h => absurd h he), seats_ok hk hS hM rfl i (by omega)]
      exact ⟨_, rfl, T, Q, st, l, rfl, hS, by omega, hz, hM⟩
    · have hc : 0 ≤ (rd ops (i : Int)).Client ∧ (rd ops (i : Int)).Client < 16 := ⟨hv.1, hv.2.1⟩
      have hv3 := hv.2.2
      have hm := hok hc
      have e2 := hcl hc.1
      rw [hcl hc.1] at hm
      rcases hm with ⟨_, g⟩ | ⟨g1, g2, g3, g4, g5, g6, g7, g8⟩
      · omega
      · have ag := again_refl hk hS (j := (rd ops (i : Int)).Client.toNat) (by omega) (a := (rd l (rd ops (i : Int)).Client).answer) (by rw [e2]; exact g6)
        rw [e2] at ag
        rw [hbase _ hd, head_ok (st := st) hk hE hL hR (.inl rfl), mid_ok hin (fun c1 c2 c3 c4 => ⟨fun q => by omega, fun q => ⟨rfl, rfl, ag⟩⟩), tail_old rfl (fun h => g8), seats_ok hk hS hM rfl i (by omega)]
        exact ⟨_, rfl, T, Q, st, l, rfl, hS, by omega, hz, hM⟩
    · have hc : 0 ≤ (rd ops (i : Int)).Client ∧ (rd ops (i : Int)).Client < 16 := ⟨hv.1, hv.2.1⟩
      have hv3 := hv.2.2
      have hm := hok hc
      have e2 := hcl hc.1
      rw [hcl hc.1] at hm
      have hlt : (rd l (rd ops (i : Int)).Client).is = true → (rd l (rd ops (i : Int)).Client).step.Seq < (rd ops (i : Int)).Seq := fun q => by
        rcases hm with ⟨g, _⟩ | ⟨g1, g2, g3, g4, g5, g6, g7, g8⟩
        · rw [g] at q; cases q
        · omega
      rcases hrest with ⟨K, hd⟩ | ⟨K, T', Q', hd, hS', hQ', hz'⟩
      · rw [hbase _ hd, head_ok (st := st) hk hE hL hR (.inl rfl), mid_ok hin (fun c1 c2 c3 c4 => by have := hlt c2; exact ⟨fun q => by omega, fun q => by omega⟩), tail_old rfl (fun h => by rw [act_rd hRi K]; omega), seats_ok hk hS hM rfl i (by omega)]
        exact ⟨_, rfl, T, Q, st, l, rfl, hS, by omega, hz, hM⟩
      · have hw := act_wr (L := st.1) (r := st.2) hRi K
        have hs2 : (stepS st (rd ops (i : Int)).Op).2 = st.2 + 1 := hw.2
        have hM' := hM.set hS.len (c := (rd ops (i : Int)).Client.toNat) (by omega) (s := rd ops (i : Int)) ⟨by omega, by omega⟩ hRi hw.1
        rw [e2, ← hQ'] at hM'
        rw [hbase _ hd, head_new, mid_ok hin (fun c1 c2 c3 c4 => by have := hlt c2; exact ⟨fun q => by omega, fun q => by omega⟩),
          tail_new (decide_eq_true hc) hc (by omega) hw.1 (by rw [SRev_eq hS', hs2]) (by omega) hlt, seats_ok hk hS' hM' rfl i (by omega)]
        exact ⟨_, rfl, T', Q', _, _, by rw [hs2], hS', by omega, hz', by rw [hs2]; exact hM'⟩
  · rintro _ ⟨T, Q, st, l, rfl, hS, hst, hz, hM⟩
    refine ⟨_, ?_, T, Q, st, l, rfl, hS, hst, hz, hM⟩
    simp only [haulagelaw14_ShardOnce.b25]
    rw [if_neg (by omega)]
end Go.Proofs.Ythankpjbfpcldaa.G
namespace Go.Proofs.Ythankpjbfpcldaa.shardOnce
open Go.ChangeShapes Go.WideShapes Go.ChangeAt Go.RowKit
set_option linter.unusedVariables false
set_option maxRecDepth 100000 in
theorem contract (H : Type) (enc : TypeId × Value → H) (W : World) (base : Nat) (args : Array Value) (ds gs : List (DataW H)) (before : List MemPlace)
    (hval : ∀ (j : Nat) t v, Try.f4.params[j]? = some t → args[j]? = some v → Value.okWide Try.prog W .any base t v)
    (hW : DataW.Whole enc Try.prog Try.f4.params.toList Rows.shardOnceSpec.vars false W args.toList ds gs before) (hk : Rows.uptoSmall H (ds ++ gs) = true) :
    Calls Try.prog 4 args W fun e W' => ∃ v, e = .returned v ∧ Rows.shardOnceSpec.post enc Try.prog Try.f4 false true false false W args v W' := by
  have hW' := hW
  obtain ⟨p, q, hA0, hV, rfl, hfz, hnd⟩ := hW
  have hA : DataW.TrodAll enc Try.prog W 0 (fun _ => true) true Try.f4.params.toList args.toList ds p := hA0
  rw [Try.params4] at hA hval
  obtain ⟨v0, vs0, d0, ds0, p0, q0, hargs, rfl, rfl, h0, r0⟩ := trodAll_cons hA
  obtain ⟨v1, vs1, d1, ds1, p1, q1, rfl, rfl, rfl, h1, r1⟩ := trodAll_cons r0
  obtain ⟨rfl, rfl, rfl⟩ := trodAll_nil r1
  obtain rfl : args = #[v0, v1] := by cases args; simp_all
  obtain ⟨rfl, rfl⟩ := trodVars_none hV
  have k0 := h0
  have lt0 : ∀ x ∈ p0, x.block < W.heap.size := by obtain ⟨m, hm⟩ := k0; exact DataW.trod_lt m _ _ _ hm
  obtain ⟨A0, C0, a0, rfl, s0, b0, o0⟩ := G.arg_steps (okWide_slice Try.underlying22 (hval 0 22 v0 rfl rfl)) h0
  have l0 := G.len_sum G.wt_haulagelaw14_Step G.wt_haulagelaw14_Step_pos a0
  have k1 := h1
  have lt1 : ∀ x ∈ p1, x.block < W.heap.size := by obtain ⟨m, hm⟩ := k1; exact DataW.trod_lt m _ _ _ hm
  obtain ⟨M1_0, M1_1, M1_2, M1_3, a1, rfl, s1_0, s1_1, b1, o1⟩ := G.arg_op (okWide_struct Try.underlying30 (hval 1 30 v1 rfl rfl)) h1
  have hb : Rows.uptoBulkAll [d0, d1] ≤ 1048576 := of_decide_eq_true hk
  simp only [Rows.uptoBulkAll] at hb
  refine (G.haulagelaw14_ShardOnce.calls 1099511627776 (m := 1) (c0 := G.c0) (w0 := W) (Nat.lt_succ_self 0) (fun _ _ => Nat.lt_succ_self 0) s0 s1_0 s1_1 true (G.ShardOnce_true (k := 1099511627776) (Nat.le_refl _) _ (by omega) _)).mono fun e W' ⟨c_, he, ev_, _⟩ => ?_
  subst he
  have bel : Below W.heap.size W W' := G.Ev.below ev_
  exact ⟨_, rfl, _, _, _, [], _, [], hW', trodAll_mk1 (shut_bool Try.underlying4 _), (trodAll_cons_mk (Below.trod G.row_laidOut (by kernel_rfl) (of_decide_eq_true (by kernel_rfl)) k0 bel lt0) (trodAll_cons_mk (Below.trod G.row_laidOut (by kernel_rfl) (of_decide_eq_true (by kernel_rfl)) k1 bel lt1) trodAll_mk0)), rfl, bel.frame _, fun h => by cases h⟩
set_option maxRecDepth 100000 in
theorem lifted (os : Os) (started : os.Started) (H : Type) (enc : TypeId × Value → H) (F : Stop.Interp) :
    ReturnsInHanded {} Try.checked os 4 .any ((Rows.OpenSpec.upto Rows.shardOnceSpec).pre6 enc Try.prog Try.f4 Rows.shardOnceUptoRow.domain false) (((Rows.OpenSpec.upto Rows.shardOnceSpec).at F).post enc Try.prog Try.f4 false true false false) := by
  refine returnsInHanded_of_cond (C := Try.checked) (s := Rows.OpenSpec.upto Rows.shardOnceSpec) (k := Rows.uptoSmall) rfl G.row_own started (by kernel_rfl) Try.func4
    (OpenSpec.witness (enc := enc) (C := Try.checked) (s := Rows.OpenSpec.upto Rows.shardOnceSpec) (k := Rows.uptoSmall) rfl false ⟨#[], #[.slice none 0 0, .agg #[.int .i64 0, .slice none 0 0, .slice none 0 0, .int .i64 0]], []⟩ 8 (by kernel_rfl) (by kernel_rfl) (by kernel_rfl)
      (x := ([.nil, .agg [.lit (.int .i64 0), .nil, .nil, .lit (.int .i64 0)]], [], [])) (by kernel_rfl) rfl (by kernel_rfl)) ?_
  intro W base args ds gs before hval hW _ hk _
  exact contract H enc W base args ds gs before hval hW hk
theorem over : Rows.shardOnceUptoRow.holds Try.pinned (Rows.OpenSpec.upto Rows.shardOnceSpec) :=
  OpenClaim.holds_of_cond 4 Try.f4 rfl rfl rfl rfl rfl rfl rfl ⟨rfl, rfl, rfl, rfl, rfl⟩ rfl rfl rfl rfl rfl (by kernel_rfl) Try.func4 (by kernel_rfl)
    (of_decide_eq_true (by kernel_rfl)) (by unfold Func.isWrapper; first | (rw [if_pos (by decide +kernel)]; kernel_rfl) | (rw [if_neg (by decide +kernel)]; exact ⟨rfl, rfl⟩))
    (fun os started H enc _ F => lifted os started H enc F)
theorem proved : Rows.ShardOnceUptoSaid := over
end Go.Proofs.Ythankpjbfpcldaa.shardOnce
namespace Go.Proofs.Ythankpjbfpcldaa
theorem shardOnce_holds : Rows.ShardOnceUptoSaid := shardOnce.proved
end Go.Proofs.Ythankpjbfpcldaa