/- The row of 'TableScripts', its '..UptoSaid': whatever the input of bulk at most 1048576, the law returns true and the input reads as it did; its condition: that bulk. -/
import Derived.Test.YtcolmmjcdlmcoaaGreatHTableScriptsE
import Derived.Test.YtcolmmjcdlmcoaaGreatHTableScriptsA
import Derived.Test.YtcolmmjcdlmcoaaGreatRows
import Derived.WalkKit
import Derived.ProofKit
import Derived.OpenShut
import Derived.JoinedCond
import Derived.Below
import Derived.ChangeOld
namespace Go.Proofs.YtcolmmjcdlmcoaaGreat.G
open Go
set_option linter.unusedVariables false
set_option linter.unusedSimpArgs false
abbrev Fuel (k : Nat) : Prop := 1099511627776 ≤ k
theorem be {α β : Type} {x : Option α} {f : α → Option β} {a : α} (h : x = some a) : x.bind f = f a := by rw [h]; rfl
theorem shr7 (n : Nat) : shr .i64 (n : Int) 7 = ((n / 128 : Nat) : Int) := by
 unfold shr; have : (2 : Int) ^ (min (7 : Int).toNat IntKind.i64.bits) = 128 := by decide
 rw [this, Int.fdiv_eq_ediv_of_nonneg _ (by omega)]
 omega
theorem shr7u (n : Nat) : shr .u64 (n : Int) 7 = ((n / 128 : Nat) : Int) := by
 unfold shr; have : (2 : Int) ^ (min (7 : Int).toNat IntKind.u64.bits) = 128 := by decide
 rw [this, Int.fdiv_eq_ediv_of_nonneg _ (by omega)]
 omega
def nmF : Nat → Nat → Nat
 | 0, _ => 0
 | f + 1, n => if n ≤ 127 then 0 else nmF f (n / 128) + 1
def nm (n : Nat) : Nat := 1 + nmF 9 n
theorem nmF_le : ∀ f n, nmF f n ≤ f
 | 0, _ => Nat.le_refl _
 | f + 1, n => by
  have := nmF_le f (n / 128); unfold nmF; split <;> omega
theorem num_loop : ∀ (f n s k : Nat), n < 128 ^ f → f < k → s + f < 1000 → loop (fun (s_ : Int × Int) => table_num.b1 s_.1 s_.2) k ((n : Int), (s : Int)) = some ((s + nmF f n : Nat) : Int)
 | _, _, _, 0, _, h, _ => absurd h (by omega)
 | 0, n, s, k + 1, h, _, _ => by
  have : n = 0 := by simpa using h
  subst this; rw [loop_done (x := (s : Int))]
  ·simp [nmF]
  ·simp [table_num.b1]
 | f + 1, n, s, k + 1, h, hk, hs => by
  by_cases c : n ≤ 127
  ·rw [loop_done (x := (s : Int))]
   ·simp [nmF, c]
   ·unfold table_num.b1; rw [if_neg (by omega)]
  ·have hd : n / 128 < 128 ^ f := by rw [Nat.pow_succ] at h; omega
   rw [loop_next (s' := (((n / 128 : Nat) : Int), ((s + 1 : Nat) : Int)))]
   ·rw [num_loop f (n / 128) (s + 1) k hd (by omega) (by omega)]
    simp only [nmF, if_neg c]; congr 2; omega
   ·unfold table_num.b1
    rw [if_pos (by omega), shr7, wr (by omega) (by omega)]
    congr 3
theorem num_eq {k n : Nat} (hk : Fuel k) (hn : n < 9223372036854775808) : table_num.f k (n : Int) = some (nm n : Int) := by
 unfold table_num.f; rw [show ((n : Int), (1 : Int)) = ((n : Int), ((1 : Nat) : Int)) from rfl, be (num_loop 9 n 1 k (by omega) (by omega) (by omega))]
 rfl
def lg (k : ByteArray) (c : TC) : Int := nm k.size + k.size + nm c.value.length + c.value.length + nm c.rev.toNat
def sz (L : List Ent) : Int := (L.map fun e => lg e.1 e.2).sum
structure Inv (L : List Ent) (r : Nat) : Prop where
 ord : Ord L
 len : L.length ≤ r
 ent : ∀ e ∈ L, 1 ≤ e.1.size ∧ e.1.size ≤ 64 ∧ e.2.value.length ≤ 256 ∧ 1 ≤ e.2.rev ∧ e.2.rev ≤ r
theorem nm_le (n : Nat) : 1 ≤ nm n ∧ nm n ≤ 10 := by have := nmF_le 9 n; unfold nm; omega
theorem lg_le {k : ByteArray} {c : TC} (h1 : k.size ≤ 64) (h2 : c.value.length ≤ 256) : 0 ≤ lg k c ∧ lg k c ≤ 400 := by
 have := nm_le k.size; have := nm_le c.value.length; have := nm_le c.rev.toNat; unfold lg; omega
theorem sz_le : ∀ {L : List Ent} {r : Nat}, (∀ e ∈ L, 1 ≤ e.1.size ∧ e.1.size ≤ 64 ∧ e.2.value.length ≤ 256 ∧ 1 ≤ e.2.rev ∧ e.2.rev ≤ (r : Int)) → 0 ≤ sz L ∧ sz L ≤ 400 * L.length
 | [], _, _ => by simp [sz]
 | e :: L, r, h => by
  have h1 := sz_le (L := L) (r := r) (fun x hx => h x (by simp [hx])); have h2 := h e (by simp); have h3 := lg_le h2.2.1 h2.2.2.1
  simp only [sz, List.map_cons, List.sum_cons, List.length_cons] at h1 ⊢
  omega
theorem long_eq {k : Nat} (hk : Fuel k) {key : ByteArray} {c : TC} (h1 : key.size ≤ 64) (h2 : c.value.length ≤ 256) (h3 : 0 ≤ c.rev) (h4 : c.rev ≤ 1099511627776) : table_long.f k key c = some (lg key c) := by
 have e3 : (c.rev : Int) = ((c.rev.toNat : Nat) : Int) := by omega
 have := nm_le key.size; have := nm_le c.value.length; have := nm_le c.rev.toNat; unfold table_long.f; rw [be (num_eq hk (n := key.size) (by omega)), be (num_eq hk (n := c.value.length) (by omega)), e3, be (num_eq hk (n := c.rev.toNat) (by omega))]; rw [wr (n := (nm key.size : Int) + key.size) (by omega) (by omega), wr (n := (nm key.size : Int) + key.size + nm c.value.length) (by omega) (by omega), wr (n := (nm key.size : Int) + key.size + nm c.value.length + c.value.length) (by omega) (by omega), wr (by omega) (by omega)]
 rfl
theorem sz_cons (e : Ent) (L : List Ent) : sz (e :: L) = lg e.1 e.2 + sz L := by simp [sz]
theorem sz_ins (k : ByteArray) (v : TC) : ∀ L : List Ent, sz (ins k v L) = sz L + lg k v - (look k L).elim 0 (fun o => lg k o)
 | [] => by simp [ins, look, sz]
 | (a, x) :: L => by
  simp only [ins, look]
  split
  ·simp only [sz_cons, Option.elim]; omega
  ·split
   ·rw [sz_cons, sz_cons, sz_ins k v L]; omega
   ·rename_i c1 c2
    have he : k = a := lt_tri (by simpa using c1) (by simpa using c2); subst he
    simp only [sz_cons, Option.elim]; omega
theorem sz_del (k : ByteArray) : ∀ L : List Ent, sz (del k L) = sz L - (look k L).elim 0 (fun o => lg k o)
 | [] => by simp [del, look, sz]
 | (a, x) :: L => by
  simp only [del, look]
  split
  ·simp only [Option.elim]; omega
  ·split
   ·rw [sz_cons, sz_cons, sz_del k L]; omega
   ·rename_i c1 c2
    have he : k = a := lt_tri (by simpa using c1) (by simpa using c2); subst he
    simp only [sz_cons, Option.elim]; omega
theorem Inv.look {L : List Ent} {r : Nat} (h : Inv L r) {k : ByteArray} {c : TC} (hl : look k L = some c) : 1 ≤ k.size ∧ k.size ≤ 64 ∧ c.value.length ≤ 256 ∧ 1 ≤ c.rev ∧ c.rev ≤ r := h.ent _ (look_mem L hl)
theorem Inv.ins {L : List Ent} {r : Nat} (h : Inv L r) {k : ByteArray} {v : List Int} (h1 : 1 ≤ k.size) (h2 : k.size ≤ 64) (h3 : v.length ≤ 256) : Inv (ins k ⟨v, r + 1⟩ L) (r + 1) := by
 refine ⟨ins_ord L h.ord, ?_, fun e he => ?_⟩
 ·have := ins_len k ⟨v, r + 1⟩ L; have := h.len; omega
 ·rcases mem_ins L he with rfl | he
  ·exact ⟨h1, h2, h3, by show (1 : Int) ≤ (r : Int) + 1; omega, by show (r : Int) + 1 ≤ ((r + 1 : Nat) : Int); omega⟩
  ·have := h.ent e he; refine ⟨this.1, this.2.1, this.2.2.1, this.2.2.2.1, ?_⟩; have := this.2.2.2.2; omega
theorem Inv.del {L : List Ent} {r : Nat} (h : Inv L r) (k : ByteArray) : Inv (del k L) (r + 1) := by
 refine ⟨del_ord L h.ord, ?_, fun e he => ?_⟩
 ·have := del_len k L; have := h.len; omega
 ·have := h.ent e (mem_del L he); refine ⟨this.1, this.2.1, this.2.2.1, this.2.2.2.1, ?_⟩; have := this.2.2.2.2; omega
theorem Inv.up {L : List Ent} {r : Nat} (h : Inv L r) : Inv L (r + 1) := by
 refine ⟨h.ord, by have := h.len; omega, fun e he => ?_⟩; have := h.ent e he; refine ⟨this.1, this.2.1, this.2.2.1, this.2.2.2.1, ?_⟩; have := this.2.2.2.2; omega
def Rep (t : Option Tab) (L : List Ent) (r : Nat) : Prop := ∃ rows, t = some ⟨rows, r, sz L⟩ ∧ rows.WF ∧ rows.list = L ∧ Inv L r
def told (r : Int) (k : ByteArray) (o : Option TC) : AA := match o with
 | some c => ⟨true, sb k, c.value, c.rev, r⟩
 | none => ⟨false, [], [], 0, r⟩
def zeroA : AA := ⟨false, [], [], 0, 0⟩
def keyok (o : AO) : Bool := decide (0 < o.Key.length) && decide (o.Key.length ≤ 64)
def right (o : AO) : Bool :=
 if o.Kind = 4 then keyok o && decide (o.Value.length ≤ 256) && decide (0 ≤ o.Rev) && decide (o.Rev ≤ 1099511627776)
 else if o.Kind = 2 then keyok o && decide (o.Value.length ≤ 256) && decide (o.Rev = 0)
 else if o.Kind = 5 then decide (o.Key.length ≤ 65) && decide (o.Value.length = 0) && decide (o.Rev = 0)
 else if o.Kind = 1 ∨ o.Kind = 3 then keyok o && decide (o.Value.length = 0) && decide (o.Rev = 0)
 else false
theorem j4_eq (a b c : Bool) : table_Right.j4 a b c = some (a && b && c) := by cases a <;> cases b <;> cases c <;> rfl
theorem right_eq (o : AO) : table_Right.f o = some (right o) := by
 have hk : ∀ b, (if 0 < (o.Key.length : Int) then table_Right.j1 o (decide ((o.Key.length : Int) ≤ 64)) else table_Right.j1 o false) = some b ↔ table_Right.j1 o (keyok o) = some b := by
  intro b; unfold keyok
  by_cases h : 0 < o.Key.length
  ·rw [if_pos (by omega), dt h, Bool.true_and]
   have : decide ((o.Key.length : Int) ≤ 64) = decide (o.Key.length ≤ 64) := by apply decide_eq_decide.2; omega
   rw [this]
  ·rw [if_neg (by omega), dz h, Bool.false_and]
 unfold table_Right.f; rw [hk]; have v1 : decide ((o.Value.length : Int) ≤ 256) = decide (o.Value.length ≤ 256) := by apply decide_eq_decide.2; omega
 have v2 : decide ((o.Value.length : Int) = 0) = decide (o.Value.length = 0) := by apply decide_eq_decide.2; omega
 have v3 : decide ((o.Key.length : Int) ≤ 65) = decide (o.Key.length ≤ 65) := by apply decide_eq_decide.2; omega
 unfold table_Right.j1 table_Right.j2 table_Right.j3 right
 simp only [j4_eq, v1, v2, v3]
 by_cases c4 : o.Kind = 4
 ·simp only [c4, if_true]
  by_cases c : 0 ≤ o.Rev
  ·simp [c]
  ·simp [c]
 ·simp only [c4, if_false]
  by_cases c2 : o.Kind = 2
  ·simp only [c2, if_true]
  ·simp only [c2, if_false]
   by_cases c5 : o.Kind = 5
   ·simp only [c5, if_true]
   ·simp only [c5, if_false]
    by_cases c1 : o.Kind = 1
    ·simp [c1]
    ·by_cases c3 : o.Kind = 3
     ·simp [c3]
     ·simp [c1, c3]
def isW (o : AO) : Bool := decide (o.Kind = 2) || decide (o.Kind = 3) || decide (o.Kind = 4)
theorem writes_eq (o : AO) : table_writes.f o = some (isW o) := by
 unfold table_writes.f isW
 by_cases c2 : o.Kind = 2
 ·simp [c2]
 ·by_cases c3 : o.Kind = 3
  ·simp [c3]
  ·simp [c2, c3]
theorem bs_size (l : List Int) : (bs l).size = l.length := by simp [bs, ByteArray.size]
theorem right_key {o : AO} (h : right o = true) : o.Key.length ≤ 65 ∧ o.Value.length ≤ 256 ∧ (o.Kind ≠ 5 → 1 ≤ o.Key.length ∧ o.Key.length ≤ 64) ∧ (o.Kind = 1 ∨ o.Kind = 2 ∨ o.Kind = 3 ∨ o.Kind = 4 ∨ o.Kind = 5) := by
 unfold right keyok at h
 split at h
 ·simp only [Bool.and_eq_true, decide_eq_true_eq] at h; omega
 ·split at h
  ·simp only [Bool.and_eq_true, decide_eq_true_eq] at h; omega
  ·split at h
   ·simp only [Bool.and_eq_true, decide_eq_true_eq] at h; omega
   ·split at h
    ·simp only [Bool.and_eq_true, decide_eq_true_eq] at h; omega
    ·cases h
theorem told_some {rows : Tr} {r z : Int} {k : ByteArray} {c : TC} (h1 : k.size ≤ 1000) (h2 : c.value.length ≤ 1000) : T_told.f (some ⟨rows, r, z⟩) k c true = some (told r k (some c)) := by
 unfold T_told.f bC_.f
 simp only [oB, if_true]
 rw [if_pos (by omega), if_pos (by omega)]
 rfl
theorem told_none {rows : Tr} {r z : Int} {k : ByteArray} {c : TC} : T_told.f (some ⟨rows, r, z⟩) k c false = some (told r k none) := by
 unfold T_told.f
 simp [told]
theorem told_look {rows : Tr} {r z : Int} {k : ByteArray} {L : List Ent} {n : Nat} (hI : Inv L n) :
  T_told.f (some ⟨rows, r, z⟩) k (gotQ (look k L)).1 (gotQ (look k L)).2 = some (told r k (look k L)) := by
 cases h : look k L with
 | none => exact told_none
 | some c => have := hI.look h; exact told_some (k := k) (c := c) (by omega) (by omega)
def okE (e : Ent) : Prop := e.1.size ≤ 64 ∧ e.2.value.length ≤ 256 ∧ 0 ≤ e.2.rev ∧ e.2.rev ≤ 1099511627776
theorem sz_ok : ∀ {L : List Ent}, (∀ e ∈ L, okE e) → 0 ≤ sz L ∧ sz L ≤ 400 * L.length
 | [], _ => by simp [sz]
 | e :: L, h => by
  have h1 := sz_ok (L := L) (fun x hx => h x (by simp [hx])); have h2 := h e (by simp); have h3 := lg_le h2.1 h2.2.1
  simp only [sz, List.map_cons, List.sum_cons, List.length_cons] at h1 ⊢
  omega
theorem set_put0 {k : Nat} (hk : Fuel k) {rows : Tr} {L : List Ent} {R : Int} (hlen : L.length < 10000000000) (hw : rows.WF) (hl : rows.list = L) (ho : Ord L) (hE : ∀ e ∈ L, okE e) {key : ByteArray} {c : TC} (hc : okE (key, c)) :
  ∃ u, T_set.f k (some ⟨rows, R, sz L⟩) key c true = some (some ⟨u, R, sz (ins key c L)⟩) ∧ u.WF ∧ u.list = ins key c L := by
 subst hl; have hh := rows.hgt_le; obtain ⟨u, eu, wu, lu⟩ := put_eq k rows key c (by have : 1099511627776 ≤ k := hk; omega) hw ho (by unfold big; omega); have hsz := sz_ok hE; have hlg := lg_le (k := key) (c := c) hc.1 hc.2.1; have hlk : 0 ≤ (look key rows.list).elim 0 (fun o => lg key o) ∧ (look key rows.list).elim 0 (fun o => lg key o) ≤ 400 := by
  cases h : look key rows.list with
  | none => simp
  | some x => have := hE _ (look_mem _ h); exact lg_le (k := key) (c := x) this.1 this.2.1
 have hput : T_set.j1 k key c true ⟨rows, R, sz rows.list⟩ (sz rows.list - (look key rows.list).elim 0 (fun o => lg key o)) = some (some ⟨u, R, sz (ins key c rows.list)⟩) := by
  unfold T_set.j1; rw [if_pos rfl, be eu, be (long_eq hk (key := key) (c := c) hc.1 hc.2.1 hc.2.2.1 hc.2.2.2)]; rw [sz_ins]; rw [wr (by omega) (by omega)]
  simp only [Option.some.injEq, Tab.mk.injEq, true_and]; omega
 refine ⟨u, ?_, wu, lu⟩; unfold T_set.f
 simp only [oB]
 rw [be (get_eq k rows key (by have : 1099511627776 ≤ k := hk; omega) ho)]
 cases h : look key rows.list with
 | none =>
  rw [h] at hput
  simp only [Option.elim, Int.sub_zero] at hput
  rw [if_neg (by simp [gotQ])]; exact hput
 | some x =>
  have hx := hE _ (look_mem _ h); rw [h] at hput
  simp only [Option.elim] at hput
  have hL : table_long.f k key (gotQ (some x)).1 = some (lg key x) := long_eq hk (c := x) hx.1 hx.2.1 hx.2.2.1 hx.2.2.2; rw [if_pos (show (gotQ (some x)).2 = true from rfl), be hL]; have := lg_le (k := key) (c := x) hx.1 hx.2.1; rw [wr (by omega) (by omega)]; exact hput
theorem set_put {k : Nat} (hk : Fuel k) {rows : Tr} {L : List Ent} {r : Nat} (hlen : L.length < 10000000000) (hr : r < 1099511627776) (hw : rows.WF) (hl : rows.list = L) (hI : Inv L r) {key : ByteArray} {v : List Int} (h1 : 1 ≤ key.size) (h2 : key.size ≤ 64) (h3 : v.length ≤ 256) :
  ∃ t, T_set.f k (some ⟨rows, r + 1, sz L⟩) key ⟨v, r + 1⟩ true = some t ∧ Rep t (ins key ⟨v, r + 1⟩ L) (r + 1) := by
 obtain ⟨u, e, wu, lu⟩ := set_put0 hk (R := (r : Int) + 1) hlen hw hl hI.ord (fun e he => by have := hI.ent e he; exact ⟨this.2.1, this.2.2.1, by omega, by omega⟩) (key := key) (c := ⟨v, (r : Int) + 1⟩) ⟨h2, h3, by show (0 : Int) ≤ (r : Int) + 1; omega, by show (r : Int) + 1 ≤ _; omega⟩; exact ⟨_, e, u, rfl, wu, lu, hI.ins h1 h2 h3⟩
theorem set_del {k : Nat} (hk : Fuel k) {rows : Tr} {L : List Ent} {r : Nat} (hlen : L.length < 10000000000) (hr : r < 1099511627776) (hw : rows.WF) (hl : rows.list = L) (hI : Inv L r) {key : ByteArray} {c0 : TC} :
  ∃ t, T_set.f k (some ⟨rows, r + 1, sz L⟩) key c0 false = some t ∧ Rep t (del key L) (r + 1) := by
 subst hl; have hh := rows.hgt_le; obtain ⟨u, eu, wu, lu⟩ := delete_eq k rows key (by have : 1099511627776 ≤ k := hk; omega) hw hI.ord (by unfold big; omega); have hsz := sz_le hI.ent; have hput : T_set.j1 k key c0 false ⟨rows, r + 1, sz rows.list⟩ (sz rows.list - (look key rows.list).elim 0 (fun o => lg key o)) = some (some ⟨u, r + 1, sz (del key rows.list)⟩) := by
  unfold T_set.j1; rw [if_neg (by simp), be eu, sz_del]
 refine ⟨_, ?_, u, rfl, wu, lu, hI.del key⟩; unfold T_set.f
 simp only [oB]
 rw [be (get_eq k rows key (by have : 1099511627776 ≤ k := hk; omega) hI.ord)]; rw [show ((r + 1 : Nat) : Int) = (r : Int) + 1 by omega]
 cases h : look key rows.list with
 | none =>
  rw [h] at hput
  simp only [Option.elim, Int.sub_zero] at hput
  rw [if_neg (by simp [gotQ])]; exact hput
 | some c =>
  have hc := hI.look h; rw [h] at hput
  simp only [Option.elim] at hput
  have hL : table_long.f k key (gotQ (some c)).1 = some (lg key c) := long_eq hk (c := c) hc.2.1 hc.2.2.1 (by omega) (by omega); rw [if_pos (show (gotQ (some c)).2 = true from rfl), be hL]; have := lg_le hc.2.1 hc.2.2.1; rw [wr (by omega) (by omega)]; exact hput
def act (L : List Ent) (r : Nat) (o : AO) : AA × Int × List Ent × Nat :=
 if right o = false then (zeroA, 131, L, r)
 else if o.Kind = 5 then ((match above (bs o.Key) L with | [] => told r .empty none | (k, v) :: _ => told r k (some v)), 0, L, r)
 else if o.Kind = 1 then (told r (bs o.Key) (look (bs o.Key) L), 0, L, r)
 else if o.Kind = 3 then (told ((r : Int) + 1) (bs o.Key) (look (bs o.Key) L), 0, del (bs o.Key) L, r + 1)
 else if o.Kind = 2 ∨ (look (bs o.Key) L).elim 0 (fun c => c.rev) = o.Rev then ({ told ((r : Int) + 1) (bs o.Key) (look (bs o.Key) L) with Done := true }, 0, ins (bs o.Key) ⟨o.Value, r + 1⟩ L, r + 1)
 else ({ told ((r : Int) + 1) (bs o.Key) (look (bs o.Key) L) with Done := false }, 0, L, r + 1)
theorem above_mem {key : ByteArray} {L : List Ent} {e : Ent} {M : List Ent} (h : above key L = e :: M) : e ∈ L := by
 have : e ∈ above key L := by rw [h]; simp
 exact (List.mem_filter.1 this).1
def fullQ (r : Nat) (o : AO) : Prop := right o = true ∧ isW o = true ∧ r = 1099511627776
instance (r : Nat) (o : AO) : Decidable (fullQ r o) := by unfold fullQ; infer_instance
def actE (L : List Ent) (r : Nat) (o : AO) : AA × Int × List Ent × Nat := if fullQ r o then (zeroA, 132, L, r) else act L r o
theorem do_eq0 {k : Nat} (hk : Fuel k) {t : Option Tab} {L : List Ent} {r : Nat} (hlen : L.length < 2000000000) (hr : r ≤ 1099511627776) (hT : Rep t L r) (o : AO) :
  ∃ t', T_Do.f k t o = some ((actE L r o).1, (actE L r o).2.1, t') ∧ Rep t' (actE L r o).2.2.1 (actE L r o).2.2.2 := by
 obtain ⟨rows, rfl, hw, hl, hI⟩ := hT; subst hl; have hT : Rep (some ⟨rows, r, sz rows.list⟩) rows.list r := ⟨rows, rfl, hw, rfl, hI⟩; have hh := rows.hgt_le; have h24 : 1099511627776 ≤ k := hk; unfold T_Do.f actE act; rw [if_neg (by simp), be (right_eq o)]
 cases hR : right o with
 | false => rw [if_neg (show ¬ fullQ r o from fun h => by have := h.1; rw [hR] at this; cases this)]; exact ⟨_, rfl, hT⟩
 | true =>
  obtain ⟨k1, k2, k3, k4⟩ := right_key hR; rw [if_pos rfl, if_neg (show ¬ (true = false) by simp)]
  by_cases c5 : o.Kind = 5
  ·rw [if_neg (show ¬ fullQ r o from fun h => by have := h.2.1; simp [isW, c5] at this)]
   rw [if_pos c5, if_pos c5]
   simp only [oB]
   rw [be (seek_eq rows (bs o.Key) hI.ord)]; unfold T_Do.j1
   cases hA : above (bs o.Key) rows.list with
   | nil =>
    refine ⟨_, ?_, hT⟩; rw [be (show T_told.f (some ⟨rows, r, sz rows.list⟩) (seekQ []).1 (seekQ []).2.1 (seekQ []).2.2 = _ from told_none)]; rfl
   | cons e M =>
    have := hI.ent e (above_mem hA); refine ⟨_, ?_, hT⟩; rw [be (show T_told.f (some ⟨rows, r, sz rows.list⟩) (seekQ (e :: M)).1 (seekQ (e :: M)).2.1 (seekQ (e :: M)).2.2 = _ from told_some (k := e.1) (c := e.2) (by omega) (by omega))]
  ·rw [if_neg c5, if_neg c5]
   have k3' := k3 c5
   simp only [oB]
   rw [be (get_eq k rows (bs o.Key) (by omega) hI.ord), be (writes_eq o)]
   by_cases c1 : o.Kind = 1
   ·rw [if_neg (show ¬ fullQ r o from fun h => by have := h.2.1; simp [isW, c1] at this)]
    rw [if_pos c1, if_neg (by simp [isW, c1])]; refine ⟨_, ?_, hT⟩; rw [be (told_look hI)]
   ·have hiw : isW o = true := by unfold isW; simp; omega
    by_cases cf : r = 1099511627776
    ·rw [if_pos (show fullQ r o from ⟨hR, hiw, cf⟩), if_pos hiw, if_pos (by show ((r : Int) = _); omega)]
     exact ⟨_, rfl, hT⟩
    have hr : r < 1099511627776 := by omega
    rw [if_neg (show ¬ fullQ r o from fun h => cf h.2.2)]; rw [if_neg c1, if_pos hiw, if_neg (by show ¬ ((r : Int) = _); omega)]; rw [wr (n := (r : Int) + 1) (by omega) (by omega), be (told_look hI)]; have hcl : bC_.f o.Value = some o.Value := by unfold bC_.f; rw [if_pos (by omega)]
    rw [be hcl]; unfold T_Do.j2; rw [wr (n := (r : Int) + 1) (by omega) (by omega)]
    by_cases c3 : o.Kind = 3
    ·rw [if_pos c3, if_pos c3]
     obtain ⟨t', e', R'⟩ := set_del hk (c0 := ⟨o.Value, (r : Int) + 1⟩) (key := bs o.Key) (by omega) hr hw rfl hI; exact ⟨t', by rw [be e'], R'⟩
    ·rw [if_neg c3, if_neg c3]
     obtain ⟨t', e', R'⟩ := set_put hk (key := bs o.Key) (v := o.Value) (by omega) hr hw rfl hI (by rw [bs_size]; omega) (by rw [bs_size]; omega) k2; have hj : ∀ b, T_Do.j3 k o ⟨rows, r, sz rows.list⟩ (told ((r : Int) + 1) (bs o.Key) (look (bs o.Key) rows.list)) o.Value b = if b = true then some ({ told ((r : Int) + 1) (bs o.Key) (look (bs o.Key) rows.list) with Done := true }, 0, t') else some ({ told ((r : Int) + 1) (bs o.Key) (look (bs o.Key) rows.list) with Done := false }, 0, some ⟨rows, r + 1, sz rows.list⟩) := by
      intro b; unfold T_Do.j3; rw [wr (n := (r : Int) + 1) (by omega) (by omega)]
      cases b with
      | true => rw [if_pos rfl, if_pos rfl, be e']
      | false => rw [if_neg (by simp), if_neg (by simp)]
     have hold : (gotQ (look (bs o.Key) rows.list)).1.rev = (look (bs o.Key) rows.list).elim 0 (fun c => c.rev) := by
      cases look (bs o.Key) rows.list <;> rfl
     by_cases c2 : o.Kind = 2
     ·rw [if_pos c2, if_pos (Or.inl c2), hj, if_pos rfl]
      exact ⟨t', rfl, R'⟩
     ·rw [if_neg c2, hj, hold]
      by_cases c : (look (bs o.Key) rows.list).elim 0 (fun c => c.rev) = o.Rev
      ·rw [if_pos (Or.inr c), if_pos (by simp [c])]
       exact ⟨t', rfl, R'⟩
      ·rw [if_neg (show ¬ (o.Kind = 2 ∨ (look (bs o.Key) rows.list).elim 0 (fun c => c.rev) = o.Rev) from fun h => h.elim c2 c), if_neg (by simp [c])]
       exact ⟨_, rfl, rows, by simp, hw, rfl, hI.up⟩
theorem act_r (L : List Ent) (r : Nat) (o : AO) : (act L r o).2.2.2 = r ∨ (act L r o).2.2.2 = r + 1 := by
 unfold act
 repeat' split
 all_goals simp
theorem new_rep : ∃ t, table_New.f = some t ∧ Rep t [] 0 := ⟨_, rfl, .nil, rfl, trivial, rfl, ⟨List.Pairwise.nil, Nat.le_refl _, fun e he => by cases he⟩⟩
theorem rd_eq {α : Type} [Inhabited α] {xs : List α} {i : Nat} (h : i < xs.length) : rd xs (i : Int) = xs[i] := by
 unfold rd; rw [Int.toNat_natCast, List.getD_eq_getElem?_getD, List.getElem?_eq_getElem h]
 rfl
theorem wrS (i : Nat) (h : i < 1000000000000) : IntKind.i64.wrap ((i : Int) + 1) = ((i + 1 : Nat) : Int) := by rw [wr (by omega) (by omega)]; omega
abbrev St := List Ent × Nat
abbrev RepS (t : Option Tab) (s : St) : Prop := Rep t s.1 s.2
theorem loop_inv {S X : Type} {f : S → Option (Ctl S X)} {I : Nat → S → Prop} {P : X → Prop} {N : Nat}
  (step : ∀ i s, i < N → I i s → (∃ s', f s = some (.next s') ∧ I (i + 1) s') ∨ (∃ x, f s = some (.done x) ∧ P x))
  (last : ∀ s, I N s → ∃ x, f s = some (.done x) ∧ P x) : ∀ (n i : Nat) (s : S) (m : Nat), I i s → i + n = N → n < m → ∃ x, loop f m s = some x ∧ P x
 | _, _, _, 0, _, _, h => absurd h (by omega)
 | 0, i, s, m + 1, hI, hN, _ => by
  obtain rfl : i = N := by omega
  obtain ⟨x, h1, h2⟩ := last s hI; exact ⟨x, loop_done h1, h2⟩
 | n + 1, i, s, m + 1, hI, hN, hm => by
  rcases step i s (by omega) hI with ⟨s', h1, h2⟩ | ⟨x, h1, h2⟩
  ·rw [loop_next h1]
   exact loop_inv step last n (i + 1) s' m h2 (by omega) (by omega)
  ·exact ⟨x, loop_done h1, h2⟩
def fmP : Nat → Nat → List Int
 | 0, _ => []
 | f + 1, n => if n ≤ 127 then [] else bor .u8 (IntKind.u8.wrap n) 128 :: fmP f (n / 128)
def fmL : Nat → Nat → Nat
 | 0, n => n
 | f + 1, n => if n ≤ 127 then n else fmL f (n / 128)
def fm (n : Nat) : List Int := fmP 9 n ++ [IntKind.u8.wrap (fmL 9 n)]
theorem fmP_len : ∀ f n, (fmP f n).length = nmF f n
 | 0, _ => rfl
 | f + 1, n => by
  unfold fmP nmF
  split
  ·rfl
  ·rw [List.length_cons, fmP_len f]
theorem fm_len (n : Nat) : (fm n).length = nm n := by unfold fm nm; rw [lA, fmP_len]; simp; omega
theorem form_loop : ∀ (f n k : Nat) (l : List Int), n < 128 ^ f → f < k → l.length + f < 1000 → loop (fun (s_ : Int × List Int) => parcel_form.b1 s_.1 s_.2) k ((n : Int), l) = some ((fmL f n : Int), l ++ fmP f n)
 | _, _, 0, _, _, h, _ => absurd h (by omega)
 | 0, n, k + 1, l, h, _, _ => by
  have : n = 0 := by simpa using h
  subst this; rw [loop_done (x := ((0 : Int), l))]
  ·simp [fmP, fmL]
  ·simp [parcel_form.b1]
 | f + 1, n, k + 1, l, h, hk, hs => by
  by_cases c : n ≤ 127
  ·rw [loop_done (x := ((n : Int), l))]
   ·simp [fmP, fmL, c]
   ·unfold parcel_form.b1; rw [if_neg (by omega)]
  ·have hd : n / 128 < 128 ^ f := by rw [Nat.pow_succ] at h; omega
   rw [loop_next (s' := (((n / 128 : Nat) : Int), l ++ [bor .u8 (IntKind.u8.wrap n) 128]))]
   ·rw [form_loop f (n / 128) k _ hd (by omega) (by simp; omega)]
    simp [fmP, fmL, c]
   ·unfold parcel_form.b1
    rw [if_pos (by omega), if_pos (by simp; omega), shr7u]
theorem form_eq {k n : Nat} (hk : Fuel k) (hn : n < 9223372036854775808) : parcel_form.f k (n : Int) = some (fm n) := by
 have h24 : 1099511627776 ≤ k := hk; have := nmF_le 9 n; unfold parcel_form.f; rw [if_pos (by decide), be (form_loop 9 n k _ (by omega) (by omega) (by simp))]; unfold parcel_form.j2
 simp only [Int.toNat_zero, List.replicate_zero, List.nil_append]
 rw [if_pos (by rw [fmP_len]; simp; omega)]
 rfl
theorem wru {n : Int} (h0 : 0 ≤ n) (h1 : n < 9223372036854775808) : IntKind.u64.wrap n = n := by
 simp only [IntKind.wrap, IntKind.bits, IntKind.signed]; simp; omega
abbrev W (room : Int) (b : List Int) : Option Wri := some ⟨room, b, [], 0⟩
theorem lay_eq {room : Int} {b a : List Int} (h1 : (b.length + a.length : Nat) ≤ room) (h2 : room ≤ 1000000000000) : W_lay.f (W room b) a = some (W room (b ++ a)) := by
 unfold W_lay.f W_whole.f
 simp only [Option.isNone_some, Bool.false_eq_true, if_false, oB, decide_true, if_true]
 rw [wr (by omega) (by omega), if_neg (by omega), if_pos (by omega)]
theorem Num_eq {k : Nat} (hk : Fuel k) {room : Int} {b : List Int} {n : Nat} (hn : n < 9223372036854775808) (h1 : (b.length + (fm n).length : Nat) ≤ room) (h2 : room ≤ 1000000000000) :
  W_Num.f k (W room b) (n : Int) = some (W room (b ++ fm n)) := by
 unfold W_Num.f; rw [be (form_eq hk hn), be (lay_eq h1 h2)]
theorem concat_eq {k : Nat} (hk : Fuel k) {x y : List Int} (h : x.length + y.length < 2000000000000) : sC_.f k [x, y] = some (x ++ y) := by
 have h24 : 1099511627776 ≤ k := hk; obtain ⟨q, rfl⟩ : ∃ q, k = q + 1 + 1 + 1 := ⟨k - 3, by omega⟩; unfold sC_.f; have e1 : loop (fun (s_ : Int × Int) => sC_.b1 [x, y] s_.1 s_.2) (q + 1 + 1 + 1) (0, 0) = some ((x.length + y.length : Nat) : Int) := by
  rw [loop_next (s' := ((x.length : Int), (1 : Int)))]
  ·rw [loop_next (s' := (((x.length + y.length : Nat) : Int), (2 : Int)))]
   ·refine loop_done ?_
    simp [sC_.b1]
   ·have r1 : rd [x, y] 1 = y := rfl
    have w1 : IntKind.i64.wrap ((x.length : Int) + (y.length : Int)) = ((x.length + y.length : Nat) : Int) := by rw [wr (by omega) (by omega)]; omega
    unfold sC_.b1
    simp only [r1, w1]
    rw [if_pos (by simp), if_pos (by simp), if_neg (by omega)]
    rfl
  ·have r1 : rd [x, y] 0 = x := rfl
   have w1 : IntKind.i64.wrap (0 + (x.length : Int)) = (x.length : Int) := by rw [wr (by omega) (by omega)]; omega
   unfold sC_.b1
   simp only [r1, w1]
   rw [if_pos (by simp), if_pos (by simp), if_neg (by omega)]
   rfl
 rw [be e1]; unfold sC_.j2; have e2 : slices_Grow.f [] ((x.length + y.length : Nat) : Int) = some [] := by
  unfold slices_Grow.f; rw [if_pos ⟨by omega, by omega, rfl⟩]
 rw [be e2]; have e3 : loop (fun (s_ : (List Int) × Int) => sC_.b3 [x, y] s_.1 s_.2) (q + 1 + 1 + 1) ([], 0) = some (x ++ y) := by
  rw [loop_next (s' := (x, (1 : Int)))]
  ·rw [loop_next (s' := (x ++ y, (2 : Int)))]
   ·refine loop_done ?_
    simp [sC_.b3]
   ·have r1 : rd [x, y] 1 = y := rfl
    unfold sC_.b3
    simp only [r1]
    rw [if_pos (by simp), if_pos (by simp), if_pos (by omega)]
    rfl
  ·have r1 : rd [x, y] 0 = x := rfl
   unfold sC_.b3
   simp only [r1]
   rw [if_pos (by simp), if_pos (by simp), if_pos (by simp; omega)]
   rfl
 rw [be e3]
 rfl
theorem Text_eq {k : Nat} (hk : Fuel k) {room : Int} {b a : List Int} (h1 : (b.length + (fm a.length).length + a.length : Nat) ≤ room) (h2 : room ≤ 1000000000000) :
  W_Text.f k (W room b) a = some (W room (b ++ (fm a.length ++ a))) := by
 have := fm_len a.length; have := nm_le a.length; have e : ((b.length + (fm a.length ++ a).length : Nat) : Int) ≤ room := by rw [lA]; omega
 unfold W_Text.f; rw [wru (by omega) (by omega), be (form_eq hk (by omega)), be (concat_eq hk (by omega)), be (lay_eq e h2)]
def ef (e : Ent) : List Int := (fm e.1.size ++ sb e.1) ++ ((fm e.2.value.length ++ e.2.value) ++ fm e.2.rev.toNat)
theorem sb_len (k : ByteArray) : (sb k).length = k.size := by unfold sb; rw [List.length_map]; rfl
theorem ef_len (e : Ent) : ((ef e).length : Int) = lg e.1 e.2 := by
 unfold ef lg
 simp only [lA, fm_len, sb_len]; omega
theorem bytes_fold {k : Nat} (hk : Fuel k) {room : Int} (h2 : room ≤ 1000000000000) {r : Nat} (hr : r ≤ 1099511627776) : ∀ (L : List Ent) (b : List Int), (∀ e ∈ L, 1 ≤ e.1.size ∧ e.1.size ≤ 64 ∧ e.2.value.length ≤ 256 ∧ 1 ≤ e.2.rev ∧ e.2.rev ≤ (r : Int)) → b.length + sz L ≤ room →
  foldC (fun (s_ : (Option Wri)) (k_ : ByteArray) (v_ : TC) => T_Bytes.b1 k s_ k_ v_) L (W room b) = some (.next (W room (b ++ L.flatMap ef)))
 | [], b, _, _ => by simp [foldC]
 | e :: L, b, h, hb => by
  have he := h e (by simp); have h3 := sz_le (L := L) (r := r) (fun x hx => h x (by simp [hx])); rw [sz_cons] at hb; have hl := ef_len e; have hl' := hl; unfold lg at hl'; have f1 := fm_len e.1.size; have f2 := fm_len e.2.value.length; have f3 := fm_len e.2.rev.toNat; have hs := sb_len e.1; have hrev : e.2.rev = ((e.2.rev.toNat : Nat) : Int) := by omega
  have step : T_Bytes.b1 k (W room b) e.1 e.2 = some (Ctl.next (W room (b ++ ef e))) := by
   unfold T_Bytes.b1; rw [if_pos (by omega), be (Text_eq hk (a := sb e.1) (by rw [hs]; omega) h2), be (Text_eq hk (a := e.2.value) (by simp only [lA, hs]; omega) h2), hrev, wru (by omega) (by omega),
    be (Num_eq hk (n := e.2.rev.toNat) (by omega) (by simp only [lA, hs]; omega) h2)]
   unfold ef; rw [hs]
   simp only [List.append_assoc]
  show thenC (T_Bytes.b1 k (W room b) e.1 e.2) _ = _
  rw [step]
  show foldC _ L (W room (b ++ ef e)) = _
  rw [bytes_fold hk h2 hr L (b ++ ef e) (fun x hx => h x (by simp [hx])) (by simp only [lA]; omega)]
  simp
def form (s : St) : List Int := fm s.2 ++ fm s.1.length ++ s.1.flatMap ef
theorem done_eq {room : Int} {b : List Int} (h : b.length ≤ 1000000000000) : W_Done.f (W room b) = some (b, 0) := by
 unfold W_Done.f
 simp only [Option.isNone_some, Bool.false_eq_true, if_false, oB, if_true, List.length_nil]
 rw [if_neg (by omega), if_pos (by omega)]
 simp
theorem RepS.inv {t : Option Tab} {s : St} (hT : RepS t s) : Inv s.1 s.2 := by obtain ⟨rows, _, _, _, hI⟩ := hT; exact hI
theorem size_eq0 {k : Nat} (hk : Fuel k) {t : Option Tab} {s : St} (hl0 : s.1.length < 2000000000) (hr : s.2 ≤ 1099511627776) (hT : RepS t s) : T_Size.f k t = some (nm s.2 + nm s.1.length + sz s.1) := by
 obtain ⟨rows, rfl, hw, hl, hI⟩ := hT; have hlen := hI.len; have hsz := sz_le hI.ent; have := nm_le s.2; have := nm_le s.1.length; unfold T_Size.f
 simp only [Option.isNone_some, Bool.false_eq_true, if_false, oB]
 rw [be (num_eq hk (n := s.2) (by omega)), be (len_eq hw), hl, be (num_eq hk (n := s.1.length) (by omega)), wr (n := (nm s.2 : Int) + nm s.1.length) (by omega) (by omega), wr (by omega) (by omega)]
theorem flat_len : ∀ L : List Ent, ((L.flatMap ef).length : Int) = sz L
 | [] => rfl
 | e :: L => by rw [List.flatMap_cons, lA, sz_cons, ← flat_len L, ← ef_len]; omega
theorem bytes_eq0 {k : Nat} (hk : Fuel k) {t : Option Tab} {s : St} (hl0 : s.1.length < 2000000000) (hr : s.2 ≤ 1099511627776) (hT : RepS t s) : T_Bytes.f k t = some (form s) := by
 have hS := size_eq0 hk hl0 hr hT; obtain ⟨rows, rfl, hw, hl, hI⟩ := hT; have hlen := hI.len; have hsz := sz_le hI.ent; have h1 := nm_le s.2; have h2 := nm_le s.1.length; have f1 := fm_len s.2; have f2 := fm_len s.1.length; unfold T_Bytes.f; rw [if_neg (by simp), be hS]; have e0 : parcel_New.f (nm s.2 + nm s.1.length + sz s.1) = some (W (nm s.2 + nm s.1.length + sz s.1) []) := by
  unfold parcel_New.f; rw [Int.max_eq_left (by omega)]
 rw [be e0]
 simp only [oB]
 rw [wru (by omega) (by omega), be (Num_eq hk (n := s.2) (by omega) (by simp only [List.length_nil]; omega) (by omega)), be (len_eq hw), hl, wru (by omega) (by omega),
  be (Num_eq hk (n := s.1.length) (by omega) (by simp only [lA, List.length_nil]; omega) (by omega))]
 show (some (It.all rows)).bind _ = _
 rw [oB]
 show (Tr.up _ rows _).bind _ = _
 rw [up_eq, hl, be (bytes_fold hk (by omega) hr s.1 _ hI.ent (by simp only [lA, List.length_nil]; omega))]; have hfl := flat_len s.1
 show (W_Done.f _).bind _ = _
 rw [be (done_eq (by simp only [lA, List.length_nil]; omega))]
 simp [form]
theorem copy_eq {t : Option Tab} {s : St} (hT : RepS t s) : T_Copy.f t = some t := by
 obtain ⟨rows, rfl, hw, hl, hI⟩ := hT
 rfl
theorem Rev_eq {t : Option Tab} {s : St} (hT : RepS t s) : T_Rev.f t = some (s.2 : Int) := by
 obtain ⟨rows, rfl, hw, hl, hI⟩ := hT
 rfl
theorem Len_eq {t : Option Tab} {s : St} (hT : RepS t s) : T_Len.f t = some (s.1.length : Int) := by
 obtain ⟨rows, rfl, hw, hl, hI⟩ := hT; unfold T_Len.f; rw [if_neg (by simp)]
 show (t_Len.f rows).bind _ = _
 rw [be (len_eq hw), hl]
def rowOf (e : Ent) : AW := ⟨sb e.1, e.2.value, e.2.rev⟩
theorem rows_fold : ∀ (L : List Ent) (b : List AW), (∀ e ∈ L, e.1.size ≤ 64 ∧ e.2.value.length ≤ 256) → b.length + L.length ≤ 2000000000 →
  foldC (X := Unit) (fun (s_ : List AW) (k_ : ByteArray) (v_ : TC) => T_Rows.b1 s_ k_ v_) L b = some (.next (b ++ L.map rowOf))
 | [], b, _, _ => by simp [foldC]
 | e :: L, b, h, hb => by
  have he := h e (by simp); rw [List.length_cons] at hb; have step : T_Rows.b1 b e.1 e.2 = some (Ctl.next (b ++ [rowOf e])) := by
   unfold T_Rows.b1 bC_.f; rw [if_pos (by omega), if_pos (by omega), oB, if_pos (by simp only [List.length_singleton]; omega)]
   rfl
  show thenC (T_Rows.b1 b e.1 e.2) _ = _
  rw [step]
  show foldC _ L (b ++ [rowOf e]) = _
  rw [rows_fold L _ (fun x hx => h x (by simp [hx])) (by simp; omega)]
  simp
theorem Rows_eq0 {t : Option Tab} {s : St} (hl0 : s.1.length < 2000000000) (hT : RepS t s) : T_Rows.f t = some (s.1.map rowOf) := by
 obtain ⟨rows, rfl, hw, hl, hI⟩ := hT; have hlen := hI.len; unfold T_Rows.f; rw [if_neg (by simp)]
 show (Tr.up _ rows _).bind _ = _
 rw [up_eq, hl, be (rows_fold s.1 [] (fun e he => ⟨(hI.ent e he).2.1, (hI.ent e he).2.2.1⟩) (by simp; omega))]
 rfl
theorem or128 : ∀ x : Fin 256, x.val ||| 128 = x.val % 128 + 128 := by decide +kernel
theorem and127 : ∀ x : Fin 256, x.val &&& 127 = x.val % 128 := by decide +kernel
theorem wr8 (n : Nat) : IntKind.u8.wrap (n : Int) = ((n % 256 : Nat) : Int) := by
 simp only [IntKind.wrap, IntKind.bits, IntKind.signed]; simp
theorem bv8 (n : Nat) (h : n < 256) : (BitVec.ofInt IntKind.u8.bits (n : Int)) = BitVec.ofNat 8 n := by
 show BitVec.ofInt 8 (n : Int) = _
 rw [BitVec.ofInt_natCast]
theorem bor8 (n : Nat) : bor .u8 (IntKind.u8.wrap (n : Int)) 128 = ((n % 128 + 128 : Nat) : Int) := by
 rw [wr8]; unfold bor; rw [bv8 (n % 256) (by omega)]
 show IntKind.u8.wrap ((BitVec.ofNat 8 (n % 256) ||| BitVec.ofInt 8 128).toNat : Int) = _
 have e : (BitVec.ofNat 8 (n % 256) ||| BitVec.ofInt 8 128).toNat = (n % 256) ||| 128 := by
  rw [BitVec.toNat_or, BitVec.toNat_ofNat]; have : (BitVec.ofInt 8 128).toNat = 128 := by decide
  rw [this, Nat.mod_eq_of_lt (show n % 256 < 2 ^ 8 by omega)]
 rw [e, or128 ⟨n % 256, by omega⟩, wr8]
 congr 1
 show (n % 256 % 128 + 128) % 256 = n % 128 + 128
 omega
theorem band8 {c : Int} (h0 : 0 ≤ c) (h1 : c ≤ 255) : band .u8 c 127 = c % 128 := by
 obtain ⟨n, rfl⟩ := Int.eq_ofNat_of_zero_le h0; unfold band; rw [bv8 n (by omega)]
 show IntKind.u8.wrap ((BitVec.ofNat 8 n &&& BitVec.ofInt 8 127).toNat : Int) = _
 have e : (BitVec.ofNat 8 n &&& BitVec.ofInt 8 127).toNat = n &&& 127 := by
  rw [BitVec.toNat_and, BitVec.toNat_ofNat]; have : (BitVec.ofInt 8 127).toNat = 127 := by decide
  rw [this, Nat.mod_eq_of_lt (show n < 2 ^ 8 by omega)]
 rw [e, and127 ⟨n, by omega⟩, wr8]
 show ((n % 128 % 256 : Nat) : Int) = (n : Int) % 128
 omega
theorem wr64 {n : Nat} (h : n < 2 ^ 64) : IntKind.u64.wrap (n : Int) = (n : Int) := by
 simp only [IntKind.wrap, IntKind.bits, IntKind.signed]; simp; omega
theorem shl64 {d k : Nat} (hk : k ≤ 9) (h : d * 2 ^ (7 * k) < 2 ^ 64) : shl .u64 (IntKind.u64.wrap (d : Int)) (7 * (k : Int)) = ((d * 2 ^ (7 * k) : Nat) : Int) := by
 have hd : d < 2 ^ 64 := Nat.lt_of_le_of_lt (Nat.le_mul_of_pos_right _ (Nat.two_pow_pos _)) h; rw [wr64 hd]; unfold shl; have e1 : (7 * (k : Int)).toNat = 7 * k := by omega
 rw [e1, show min (7 * k) IntKind.u64.bits = 7 * k from Nat.min_eq_left (by show 7 * k ≤ 64; omega)]; have e2 : (d : Int) * 2 ^ (7 * k) = ((d * 2 ^ (7 * k) : Nat) : Int) := by push_cast; rfl
 rw [e2, wr64 h]
theorem bor64 {a d k : Nat} (ha : a < 2 ^ (7 * k)) (h : a + d * 2 ^ (7 * k) < 2 ^ 64) : bor .u64 (a : Int) ((d * 2 ^ (7 * k) : Nat) : Int) = ((a + d * 2 ^ (7 * k) : Nat) : Int) := by
 unfold bor
 show IntKind.u64.wrap ((BitVec.ofInt 64 (a : Int) ||| BitVec.ofInt 64 ((d * 2 ^ (7 * k) : Nat) : Int)).toNat : Int) = _
 rw [BitVec.ofInt_natCast, BitVec.ofInt_natCast, BitVec.toNat_or, BitVec.toNat_ofNat, BitVec.toNat_ofNat, Nat.mod_eq_of_lt (by omega), Nat.mod_eq_of_lt (by omega)]; have e : a ||| d * 2 ^ (7 * k) = a + d * 2 ^ (7 * k) := by
  rw [Nat.or_comm, Nat.mul_comm d, ← Nat.two_pow_add_eq_or_of_lt ha, Nat.add_comm]
 rw [e, wr64 h]
def acc (k : Nat) (n c : Int) : Int := bor .u64 n (shl .u64 (IntKind.u64.wrap (band .u8 c 127)) (7 * (k : Int)))
theorem acc_eq {k n c : Nat} (hk : k ≤ 9) (hc : c ≤ 255) (hn : n < 2 ^ (7 * k)) (ht : n + c % 128 * 2 ^ (7 * k) < 2 ^ 64) : acc k (n : Int) (c : Int) = ((n + c % 128 * 2 ^ (7 * k) : Nat) : Int) := by
 unfold acc; rw [band8 (by omega) (by omega), show (c : Int) % 128 = ((c % 128 : Nat) : Int) by omega, shl64 hk (by omega), bor64 hn ht]
theorem rnum_nil (f : Int) (k : Nat) (n : Int) : rnum f [] k n = .inl ([], f) := rfl
theorem rnum_cons (f c : Int) (xs : List Int) (k : Nat) (n : Int) : rnum f (c :: xs) k n = if (k = 9 ∧ 1 < c) ∨ (0 < k ∧ c = 0) then .inr (0, xs, 11) else if c < 128 then .inr (acc k n c, xs, f) else rnum f xs (k + 1) (acc k n c) := rfl
theorem pow_step (k : Nat) : 2 ^ (7 * (k + 1)) = 128 * 2 ^ (7 * k) := by
 rw [Nat.mul_add, Nat.pow_add, Nat.mul_comm]
theorem tot (n m B : Nat) : n + m % 128 * B + m / 128 * (128 * B) = n + m * B := by
 have h : m % 128 * B + m / 128 * (128 * B) = m * B := by
  rw [← Nat.mul_assoc, ← Nat.add_mul, Nat.mul_comm (m / 128), Nat.mod_add_div]
 omega
theorem small {n d B : Nat} (hn : n < B) (hd : d < 128) : n + d * B < 128 * B := by
 have : d * B ≤ 127 * B := Nat.mul_le_mul_right B (by omega)
 omega
theorem k9 {k c n : Nat} (hk : k ≤ 9) (hn : n < 2 ^ (7 * k)) (hc : c < 128) (h9 : k = 9 → c ≤ 1) : n + c * 2 ^ (7 * k) < 2 ^ 64 := by
 by_cases h : k = 9
 ·subst h
  have : c * 2 ^ (7 * 9) ≤ 1 * 2 ^ (7 * 9) := Nat.mul_le_mul_right _ (h9 rfl)
  omega
 ·have h1 := small hn hc
  have h2 : 2 ^ (7 * k) ≤ 2 ^ 56 := Nat.pow_le_pow_right (by omega) (by omega)
  omega
theorem rnum_fm (ou : List Int) : ∀ (f m k n : Nat), m < 128 ^ (f + 1) → k + f ≤ 9 → n < 2 ^ (7 * k) → n + m * 2 ^ (7 * k) < 2 ^ 64 → (k = 0 ∨ 0 < m) →
  rnum 0 (fmP f m ++ (IntKind.u8.wrap (fmL f m) :: ou)) k (n : Int) = .inr (((n + m * 2 ^ (7 * k) : Nat) : Int), ou, 0) := by
 have base : ∀ (m k n : Nat), m < 128 → k ≤ 9 → n < 2 ^ (7 * k) → n + m * 2 ^ (7 * k) < 2 ^ 64 → (k = 0 ∨ 0 < m) → rnum 0 (IntKind.u8.wrap (m : Int) :: ou) k (n : Int) = .inr (((n + m * 2 ^ (7 * k) : Nat) : Int), ou, 0) := by
  intro m k n hm hk hn ht h0; have e : IntKind.u8.wrap (m : Int) = (m : Int) := by rw [wr8]; congr 1; omega
  rw [e, rnum_cons, if_neg, if_pos (by omega), acc_eq hk (by omega) hn (by rw [Nat.mod_eq_of_lt hm]; exact ht), Nat.mod_eq_of_lt hm]; rintro (⟨rfl, h⟩ | ⟨h1, h2⟩)
  ·have : 2 * 2 ^ (7 * 9) ≤ m * 2 ^ (7 * 9) := Nat.mul_le_mul_right _ (by omega)
   omega
  ·omega
 intro f
 induction f with
 | zero =>
  intro m k n hm hk hn ht h0; exact base m k n (by simpa using hm) (by omega) hn ht h0
 | succ f ih =>
  intro m k n hm hk hn ht h0
  by_cases c : m ≤ 127
  ·have e1 : fmP (f + 1) m = [] := by simp [fmP, c]
   have e2 : fmL (f + 1) m = m := by simp [fmL, c]
   rw [e1, e2]; exact base m k n (by omega) (by omega) hn ht h0
  ·have e1 : fmP (f + 1) m = ((m % 128 + 128 : Nat) : Int) :: fmP f (m / 128) := by
    conv => lhs; unfold fmP
    rw [if_neg c, bor8]
   have e2 : fmL (f + 1) m = fmL f (m / 128) := by
    conv => lhs; unfold fmL
    rw [if_neg c]
   rw [e1, e2, List.cons_append, rnum_cons, if_neg (by omega), if_neg (by omega)]; have hmod : (m % 128 + 128) % 128 = m % 128 := by omega
   have hd : m % 128 * 2 ^ (7 * k) ≤ m * 2 ^ (7 * k) := Nat.mul_le_mul_right _ (Nat.mod_le _ _); rw [acc_eq (by omega) (by omega) hn (by rw [hmod]; omega), hmod]; have hB := pow_step k; have ht2 := tot n m (2 ^ (7 * k)); rw [ih (m / 128) (k + 1) (n + m % 128 * 2 ^ (7 * k)) (by rw [Nat.pow_succ] at hm; omega) (by omega) (by rw [hB]; exact small hn (by omega)) (by rw [hB, ht2]; exact ht) (Or.inr (by omega)), hB, ht2]
theorem rnum_form {m : Nat} (hm : m < 2 ^ 64) (ou : List Int) : rnum 0 (fm m ++ ou) 0 0 = .inr ((m : Int), ou, 0) := by
 have := rnum_fm ou 9 m 0 0 (by omega) (by omega) (by decide) (by simpa using hm) (Or.inl rfl); unfold fm; rw [List.append_assoc]
 simpa using this
def bytesR (l : List Int) : Prop := ∀ c ∈ l, 0 ≤ c ∧ c ≤ 255
theorem rnum_inv : ∀ (l : List Int) (k n : Nat), bytesR l → k ≤ 9 → n < 2 ^ (7 * k) →
  (∃ l', rnum 0 l k (n : Int) = .inl (l', 0)) ∨ (∃ rest, rnum 0 l k (n : Int) = .inr (0, rest, 11)) ∨
  ∃ m rest, rnum 0 l k (n : Int) = .inr (((n + m * 2 ^ (7 * k) : Nat) : Int), rest, 0) ∧ (k = 0 ∨ 0 < m) ∧ n + m * 2 ^ (7 * k) < 2 ^ 64 ∧ l = fmP (9 - k) m ++ (IntKind.u8.wrap (fmL (9 - k) m) :: rest)
 | [], k, n, _, _, _ => Or.inl ⟨[], rfl⟩
 | c :: xs, k, n, hb, hk, hn => by
  obtain ⟨h0, h1⟩ := hb c (by simp); obtain ⟨d, rfl⟩ := Int.eq_ofNat_of_zero_le h0; rw [rnum_cons]
  by_cases bad : (k = 9 ∧ 1 < (d : Int)) ∨ (0 < k ∧ (d : Int) = 0)
  ·rw [if_pos bad]; exact Or.inr (Or.inl ⟨xs, rfl⟩)
  ·rw [if_neg bad]
   have hb9 : k = 9 → d ≤ 1 := fun e => by
    rcases Nat.lt_or_ge 1 d with g | g
    ·exact absurd (Or.inl ⟨e, by omega⟩) bad
    ·exact g
   have hb0 : k = 0 ∨ 0 < d := by
    rcases Nat.eq_zero_or_pos k with g | g
    ·exact Or.inl g
    ·right
     rcases Nat.eq_zero_or_pos d with g2 | g2
     ·exact absurd (Or.inr ⟨g, by omega⟩) bad
     ·exact g2
   by_cases c : d < 128
   ·rw [if_pos (by omega)]
    have ht := k9 hk hn c hb9
    right; right
    refine ⟨d, xs, ?_, hb0, ht, ?_⟩
    ·rw [acc_eq hk (by omega) hn (by rw [Nat.mod_eq_of_lt c]; exact ht), Nat.mod_eq_of_lt c]
    ·have e1 : fmP (9 - k) d = [] := by cases 9 - k with | zero => rfl | succ q => simp [fmP]; omega
     have e2 : fmL (9 - k) d = d := by cases 9 - k with | zero => rfl | succ q => simp [fmL]; omega
     rw [e1, e2, wr8, Nat.mod_eq_of_lt (by omega)]; rfl
   ·rw [if_neg (by omega)]
    have hk8 : k ≤ 8 := by
     rcases Nat.lt_or_ge k 9 with g | g
     ·omega
     ·have := hb9 (by omega); omega
    have ht : n + d % 128 * 2 ^ (7 * k) < 2 ^ 64 := k9 hk hn (by omega) (by omega); rw [acc_eq hk (by omega) hn ht]; have hB := pow_step k
    rcases rnum_inv xs (k + 1) (n + d % 128 * 2 ^ (7 * k)) (fun x hx => hb x (by simp [hx])) (by omega) (by rw [hB]; exact small hn (by omega)) with h | h | ⟨m, rest, e, hm, htt, hl⟩
    ·exact Or.inl h
    ·exact Or.inr (Or.inl h)
    ·right; right
     have hm0 : 0 < m := by omega
     have hq1 : (d % 128 + 128 * m) % 128 = d % 128 := by omega
     have hq2 : (d % 128 + 128 * m) / 128 = m := by omega
     have T := tot n (d % 128 + 128 * m) (2 ^ (7 * k)); rw [hq1, hq2] at T; rw [hB] at e htt; rw [T] at e htt; refine ⟨d % 128 + 128 * m, rest, e, Or.inr (by omega), htt, ?_⟩; have e9 : 9 - k = (9 - (k + 1)) + 1 := by omega
     have e1 : fmP (9 - k) (d % 128 + 128 * m) = (d : Int) :: fmP (9 - (k + 1)) m := by
      rw [e9]
      conv => lhs; unfold fmP
      rw [if_neg (by omega), bor8, hq1, hq2]
      congr 1; omega
     have e2 : fmL (9 - k) (d % 128 + 128 * m) = fmL (9 - (k + 1)) m := by
      rw [e9]
      conv => lhs; unfold fmL
      rw [if_neg (by omega), hq2]
     rw [e1, e2, hl]; rfl
theorem bytesR_app {a b : List Int} : bytesR (a ++ b) ↔ bytesR a ∧ bytesR b := by
 unfold bytesR
 constructor
 ·intro h; exact ⟨fun c hc => h c (by simp [hc]), fun c hc => h c (by simp [hc])⟩
 ·rintro ⟨h1, h2⟩ c hc
  rcases List.mem_append.1 hc with h | h
  ·exact h1 c h
  ·exact h2 c h
theorem Num_fault {r : Rdr} (h : r.fault ≠ 0) : R_Num.f (some r) = some (0, some r) := by
 unfold R_Num.f; simp only [if_neg h]
theorem Text_fault {r : Rdr} (h : r.fault ≠ 0) (most : Int) : R_Text.f (some r) most = some ([], some r) := by
 unfold R_Text.f; simp only [if_neg h]
theorem Num_fwd {m : Nat} (hm : m < 2 ^ 64) (rest : List Int) (ou : List (List Int)) : R_Num.f (some ⟨fm m ++ rest, ou, 0⟩) = some ((m : Int), some ⟨rest, ou, 0⟩) := by
 unfold R_Num.f
 simp only [if_true, rnum_form hm, rtake]
theorem Num_inv (l : List Int) (ou : List (List Int)) (hb : bytesR l) : ∃ v r', R_Num.f (some ⟨l, ou, 0⟩) = some (v, some r') ∧
  ((r'.fault = 0 ∧ ∃ m rest, v = ((m : Nat) : Int) ∧ m < 2 ^ 64 ∧ l = fm m ++ rest ∧ r' = ⟨rest, ou, 0⟩) ∨ (r'.fault ≠ 0 ∧ v = 0)) := by
 unfold R_Num.f
 simp only [if_true]
 rcases rnum_inv l 0 0 hb (by omega) (by decide) with ⟨l', e⟩ | ⟨rest, e⟩ | ⟨m, rest, e, -, ht, hl⟩
 ·rw [show ((0 : Nat) : Int) = 0 from rfl] at e
  rw [e]; exact ⟨0, ⟨l', ou, 10⟩, rfl, Or.inr ⟨(by show ¬ _; simp), rfl⟩⟩
 ·rw [show ((0 : Nat) : Int) = 0 from rfl] at e
  rw [e]; exact ⟨0, ⟨rest, ou, 11⟩, rfl, Or.inr ⟨(by show ¬ _; simp), rfl⟩⟩
 ·rw [show ((0 : Nat) : Int) = 0 from rfl] at e
  rw [e]; have e0 : 0 + m * 2 ^ (7 * 0) = m := by omega
  rw [e0] at ht ⊢; refine ⟨(m : Int), ⟨rest, ou, 0⟩, rfl, Or.inl ⟨rfl, m, rest, rfl, ht, ?_, rfl⟩⟩; unfold fm; rw [List.append_assoc]; exact hl
theorem rnum_short : ∀ (l : List Int) (k : Nat) (n : Int) (rest : List Int) (x f' : Int), rnum 0 l k n = .inr (x, rest, f') → rest.length ≤ l.length
 | [], k, n, rest, x, f', h => by rw [rnum_nil] at h; cases h
 | c :: xs, k, n, rest, x, f', h => by
  rw [rnum_cons] at h
  split at h
  ·cases h; simp
  ·split at h
   ·cases h; simp
   ·have := rnum_short xs (k + 1) _ rest x f' h; simp; omega
theorem fm_pos (n : Nat) : 1 ≤ (fm n).length := by rw [fm_len]; exact (nm_le n).1
theorem wrapmax {most : Int} (h0 : 0 ≤ most) (h1 : most ≤ 1000000) : IntKind.u64.wrap (max most 0) = most := by
 rw [Int.max_eq_left h0, wru h0 (by omega)]
theorem Text_fwd {v : List Int} {most : Int} (h0 : 0 ≤ most) (h1 : most ≤ 1000000) (hv : (v.length : Int) ≤ most) (rest : List Int) (hr : (v ++ rest).length ≤ 140737488355328) (ou : List (List Int)) :
  R_Text.f (some ⟨fm v.length ++ (v ++ rest), ou, 0⟩) most = some (v, some ⟨rest, ou, 0⟩) := by
 have hlen : (v ++ rest).length = v.length + rest.length := lA; have e : rtext (fm v.length ++ (v ++ rest)) 0 most = some (.inr (v, rest, 0)) := by
  unfold rtext rsize; rw [wrapmax h0 h1, rnum_form (by omega)]
  simp only [if_true]
  rw [if_neg (by omega), if_neg (by omega)]
  simp only
  rw [wr (by omega) (by omega), if_pos (by omega)]
  simp
 unfold R_Text.f
 simp only [if_true, e, oB, rtake]
theorem Text_inv (l : List Int) (ou : List (List Int)) (hb : bytesR l) (hl : l.length ≤ 140737488355328) {most : Int} (h0 : 0 ≤ most) (h1 : most ≤ 1000000) :
  ∃ v r', R_Text.f (some ⟨l, ou, 0⟩) most = some (v, some r') ∧
   ((r'.fault = 0 ∧ ∃ rest, l = fm v.length ++ (v ++ rest) ∧ (v.length : Int) ≤ most ∧ r' = ⟨rest, ou, 0⟩) ∨ (r'.fault ≠ 0 ∧ v = [])) := by
 unfold R_Text.f rtext rsize
 simp only [if_true, wrapmax h0 h1]
 rcases rnum_inv l 0 0 hb (by omega) (by decide) with ⟨l', e⟩ | ⟨rest, e⟩ | ⟨m, rest, e, -, ht, he⟩
 ·rw [show ((0 : Nat) : Int) = 0 from rfl] at e
  rw [e]; exact ⟨[], ⟨l', ou, 10⟩, rfl, Or.inr ⟨(by show ¬ _; simp), rfl⟩⟩
 ·have hrl : rest.length ≤ l.length := by
   rw [show ((0 : Nat) : Int) = 0 from rfl] at e; exact rnum_short l 0 0 rest 0 11 e
  rw [show ((0 : Nat) : Int) = 0 from rfl] at e; rw [e]
  simp only [show ¬ ((11 : Int) = 0) by decide, if_false]
  rw [if_pos (by omega)]; exact ⟨[], ⟨rest, ou, 11⟩, rfl, Or.inr ⟨(by show ¬ _; simp), rfl⟩⟩
 ·have e0 : 0 + m * 2 ^ (7 * 0) = m := by omega
  rw [show ((0 : Nat) : Int) = 0 from rfl, e0] at e; rw [e]; have hfm : l = fm m ++ rest := by unfold fm; rw [List.append_assoc]; exact he
  have hrl : rest.length ≤ l.length := by rw [hfm, lA]; omega
  simp only [if_true]
  by_cases g1 : most < (m : Int)
  ·rw [if_pos g1]
   simp only
   rw [if_pos (by omega)]; exact ⟨[], ⟨rest, ou, 11⟩, rfl, Or.inr ⟨(by show ¬ _; simp), rfl⟩⟩
  ·rw [if_neg g1]
   by_cases g2 : (rest.length : Int) < (m : Int)
   ·rw [if_pos g2]
    simp only
    rw [if_pos (by omega)]; exact ⟨[], ⟨rest, ou, 10⟩, rfl, Or.inr ⟨(by show ¬ _; simp), rfl⟩⟩
   ·rw [if_neg g2]
    simp only
    rw [wr (by omega) (by omega), if_pos (by omega), Int.toNat_natCast]; refine ⟨rest.take m, ⟨rest.drop m, ou, 0⟩, rfl, Or.inl ⟨rfl, rest.drop m, ?_, ?_, rfl⟩⟩
    ·rw [List.take_append_drop, List.length_take, Nat.min_eq_left (by omega)]; exact hfm
    ·rw [List.length_take]; omega
theorem len_sub {α : Type} [DecidableEq α] : ∀ F G : List α, F.Nodup → (∀ x ∈ F, x ∈ G) → F.length ≤ G.length
 | [], G, _, _ => Nat.zero_le _
 | x :: F, G, hn, hs => by
  rw [List.nodup_cons] at hn; have hx := hs x (by simp); have := len_sub F (G.erase x) hn.2 (fun y hy => (List.mem_erase_of_ne (fun e => hn.1 (by rw [← e]; exact hy))).2 (hs y (by simp [hy]))); rw [List.length_erase_of_mem hx] at this; have := List.length_pos_of_mem hx
  simp only [List.length_cons]; omega
def brange (xs : List Int) : Prop := ∀ n ∈ xs, 0 ≤ n ∧ n ≤ 255
theorem sb_bs {xs : List Int} (h : brange xs) : sb (bs xs) = xs := by
 unfold sb bs
 simp only [List.map_map]
 have : ∀ l : List Int, brange l → l.map ((fun b : UInt8 => (b.toNat : Int)) ∘ fun n => UInt8.ofNat n.toNat) = l := by
  intro l
  induction l with
  | nil => intro _; rfl
  | cons a l ih =>
   intro hl; have ha := hl a (by simp); rw [List.map_cons, ih (fun n hn => hl n (by simp [hn]))]
   congr 1
   show ((UInt8.ofNat a.toNat).toNat : Int) = a
   rw [UInt8.toNat_ofNat']
   omega
 exact this xs h
theorem bs_inj {a b : List Int} (ha : brange a) (hb : brange b) (h : bs a = bs b) : a = b := by rw [← sb_bs ha, ← sb_bs hb, h]
theorem bs_toList (l : List Int) : (bs l).toList = l.map fun n => UInt8.ofNat n.toNat := by
 rw [ByteArray.toList_eq]; simp [bs]
theorem num_any {k : Nat} (hk : Fuel k) {n : Int} (hn : n < 9223372036854775808) : ∃ y, table_num.f k n = some y ∧ 1 ≤ y ∧ y ≤ 10 := by
 by_cases h : 0 ≤ n
 ·obtain ⟨q, rfl⟩ := Int.eq_ofNat_of_zero_le h
  have := nm_le q; exact ⟨_, num_eq hk (by omega), by omega, by omega⟩
 ·have h24 : 1099511627776 ≤ k := hk
  obtain ⟨q, rfl⟩ : ∃ q, k = q + 1 := ⟨k - 1, by omega⟩; refine ⟨1, ?_, by omega, by omega⟩; unfold table_num.f; rw [be (loop_done (x := (1 : Int)) ?_)]
  ·rfl
  ·unfold table_num.b1; rw [if_neg (by omega)]
theorem long_any {k : Nat} (hk : Fuel k) {key : ByteArray} {c : TC} (h1 : key.size ≤ 64) (h2 : c.value.length ≤ 256) (h4 : c.rev < 9223372036854775808) : ∃ y, table_long.f k key c = some y := by
 obtain ⟨y, e, _⟩ := num_any hk h4; unfold table_long.f; rw [be (num_eq hk (n := key.size) (by omega)), be (num_eq hk (n := c.value.length) (by omega)), be e]; exact ⟨_, rfl⟩
theorem set_any {k : Nat} (hk : Fuel k) {rows : Tr} {L : List Ent} {R z : Int} (hlen : L.length < 10000000000) (hw : rows.WF) (hl : rows.list = L) (ho : Ord L) (hE : ∀ e ∈ L, okE e) {key : ByteArray} {c : TC} (h1 : key.size ≤ 64) (h2 : c.value.length ≤ 256) (h4 : c.rev < 9223372036854775808) :
  ∃ t, T_set.f k (some ⟨rows, R, z⟩) key c true = some t := by
 subst hl; have hh := rows.hgt_le; have h24 : 1099511627776 ≤ k := hk; obtain ⟨u, eu, wu, lu⟩ := put_eq k rows key c (by omega) hw ho (by unfold big; omega); obtain ⟨y, ey⟩ := long_any hk h1 h2 h4; have j1 : ∀ x, ∃ t, T_set.j1 k key c true ⟨rows, R, z⟩ x = some t := by
  intro x; unfold T_set.j1; rw [if_pos rfl, be eu, be ey]; exact ⟨_, rfl⟩
 unfold T_set.f
 simp only [oB]
 rw [be (get_eq k rows key (by omega) ho)]
 cases h : look key rows.list with
 | none => rw [if_neg (by simp [gotQ])]; exact j1 _
 | some x =>
  have hx := hE _ (look_mem _ h); obtain ⟨y2, ey2⟩ := long_any hk (key := key) (c := x) hx.1 hx.2.1 (by have h3 : x.rev ≤ 1099511627776 := hx.2.2.2; omega); rw [if_pos (show (gotQ (some x)).2 = true from rfl), be (show table_long.f k key (gotQ (some x)).1 = some y2 from ey2)]; exact j1 _
theorem ins_end {key : ByteArray} {c : TC} : ∀ L : List Ent, (∀ e ∈ L, lt e.1 key = true) → ins key c L = L ++ [(key, c)]
 | [], _ => rfl
 | (a, x) :: L, h => by
  have h1 : lt a key = true := h (a, x) (by simp)
  simp only [ins, h1, lt_asym h1]
  rw [ins_end L (fun e he => h e (by simp [he]))]
  simp
theorem lt_empty {k : ByteArray} (h : 1 ≤ k.size) : lt .empty k = true := by
 unfold lt; rw [ByteArray.toList_eq, ByteArray.toList_eq]; have : k.data.toList ≠ [] := by
  intro e; have : k.data.toList.length = 0 := by rw [e]; rfl
  rw [Array.length_toList] at this; exact absurd h (by show ¬ 1 ≤ k.data.size; omega)
 cases hq : k.data.toList with
 | nil => exact absurd hq this
 | cons a l => rfl
theorem lt_size {a k : ByteArray} (h : lt a k = true) : 1 ≤ k.size := by
 unfold lt at h; rw [ByteArray.toList_eq k] at h
 rcases Nat.eq_zero_or_pos k.size with q | q
 ·have : k.data.toList = [] := by
   apply List.length_eq_zero_iff.1
   rw [Array.length_toList]; exact q
  rw [this] at h
  cases a.toList <;> simp [Op.bytesLess] at h
 ·exact q
theorem notless {a b : ByteArray} : (Op.bytesLess a.toList b.toList || (a.toList == b.toList)) = !lt b a := by
 rw [keq]
 cases h : lt b a with
 | true =>
  have h1 : Op.bytesLess a.toList b.toList = false := lt_asym h; have h2 : ¬ a = b := fun e => by subst e; rw [lt_irr] at h; cases h
  simp [h1, h2]
 | false =>
  by_cases e : a = b
  ·simp [e]
  ·cases h2 : Op.bytesLess a.toList b.toList with
   | true => simp
   | false => exact absurd (lt_tri h2 h) e
abbrev revs (L : List Ent) : List Int := L.map fun e => e.2.rev
structure Part (R : Nat) (L : List Ent) (last : ByteArray) (m : MpV Bool) : Prop where
 ord : Ord L
 ent : ∀ e ∈ L, 1 ≤ e.1.size ∧ e.1.size ≤ 64 ∧ e.2.value.length ≤ 256 ∧ 1 ≤ e.2.rev ∧ e.2.rev ≤ (R : Int)
 low : ∀ e ∈ L, e.1 = last ∨ lt e.1 last = true
 top : (L = [] ∧ last = .empty) ∨ ∃ e ∈ L, e.1 = last
 map : ∀ a, m.f a = if a ∈ revs L then some true else none
 dis : (revs L).Nodup
 cnt : m.n = L.length
def TabR (t : Option Tab) (R : Int) (L : List Ent) : Prop := ∃ rows, t = some ⟨rows, R, sz L⟩ ∧ rows.WF ∧ rows.list = L
theorem Part.next {R : Nat} {L : List Ent} {last : ByteArray} {m : MpV Bool} (h : Part R L last m) {key : ByteArray} {v : List Int} {at_ : Int} (h1 : lt last key = true) (h2 : key.size ≤ 64) (h3 : v.length ≤ 256) (h4 : 1 ≤ at_) (h5 : at_ ≤ (R : Int)) (h6 : at_ ∉ revs L) :
  Part R (L ++ [(key, ⟨v, at_⟩)]) key ⟨fun i => if i = at_ then some true else m.f i, m.n + 1⟩ := by
 have below : ∀ e ∈ L, lt e.1 key = true := fun e he => by
  rcases h.low e he with q | q
  ·rw [q]; exact h1
  ·exact lt_tr q h1
 refine ⟨?_, ?_, ?_, Or.inr ⟨_, List.mem_append.2 (Or.inr (List.mem_singleton.2 rfl)), rfl⟩, ?_, ?_, ?_⟩
 ·unfold Ord
  rw [List.pairwise_append]; refine ⟨h.ord, by simp, fun x hx y hy => ?_⟩; rw [List.mem_singleton] at hy; subst hy; exact below x hx
 ·intro e he
  rcases List.mem_append.1 he with q | q
  ·exact h.ent e q
  ·rw [List.mem_singleton] at q; subst q; exact ⟨lt_size h1, h2, h3, h4, h5⟩
 ·intro e he
  rcases List.mem_append.1 he with q | q
  ·exact Or.inr (below e q)
  ·rw [List.mem_singleton] at q; subst q; exact Or.inl rfl
 ·intro a
  show (if a = at_ then some true else m.f a) = _
  rw [h.map a]; unfold revs; rw [List.map_append]
  by_cases q : a = at_
  ·subst q; simp
  ·rw [if_neg q]
   by_cases q2 : a ∈ revs L
   ·rw [if_pos q2, if_pos (List.mem_append.2 (Or.inl q2))]
   ·rw [if_neg q2, if_neg]
    intro h'
    rcases List.mem_append.1 h' with g | g
    ·exact q2 g
    ·simp at g; exact q g
 ·unfold revs
  rw [List.map_append]; refine List.nodup_append.2 ⟨h.dis, by simp, fun x hx y hy => ?_⟩
  simp at hy
  subst hy; intro e; subst e; exact h6 hx
 ·rw [lA, ← h.cnt]; rfl
theorem row_eq {k : Nat} (hk : Fuel k) {R : Nat} (hR : R ≤ 1099511627776) {L : List Ent} {last : ByteArray} {m : MpV Bool} (hP : Part R L last m) (hlen : L.length < 8000000000) {tab : Option Tab} (hT : TabR tab R L) {t17 : Int × Option Rdr} (h17 : t17.1 = (R : Int))
  {kb vb : List Int} (hkb : kb.length ≤ 64) (hvb : vb.length ≤ 256) {r1 r2 r3 : Option Rdr} {a : Int} (ha0 : 0 ≤ a) (ha1 : a < 18446744073709551616) {many : Int} (hm0 : 0 < many) (hm1 : many < 18446744073709551616) (hN : R_Num.f r2 = some (a, r3)) :
  ∃ tab' g m', tR_.j5 k t17 (kb, r1) (vb, r2) many tab m last = some (.next (r3, many - 1, tab', g, m', bs kb)) ∧
   (g = true ↔ (lt last (bs kb) = true ∧ 0 < a ∧ a ≤ (R : Int) ∧ a ∉ revs L)) ∧ (g = true → TabR tab' R (L ++ [(bs kb, ⟨vb, a⟩)]) ∧ Part R (L ++ [(bs kb, ⟨vb, a⟩)]) (bs kb) m') := by
 obtain ⟨rows, rfl, hw, hl⟩ := hT; have hE : ∀ e ∈ L, okE e := fun e he => by have := hP.ent e he; exact ⟨this.2.1, this.2.2.1, by omega, by omega⟩
 have hwf : (Lit.int .u64 a).wf = true := by
  simp [Lit.wf, IntKind.min, IntKind.max, IntKind.signed, IntKind.bits]; omega
 have hwm : IntKind.u64.wrap (many - 1) = many - 1 := by
  simp only [IntKind.wrap, IntKind.bits, IntKind.signed]; simp; omega
 have hks : (bs kb).size ≤ 64 := by rw [bs_size]; omega
 have hwr : IntKind.i64.wrap a < 9223372036854775808 := by rw [IntKind.wrap_i64]; omega
 have hn : m.n < 140737488355328 := by rw [hP.cnt]; omega
 have j6 : ∀ g, ∃ tab' m', tR_.j6 k (kb, r1) (vb, r2) (a, r3) many (some ⟨rows, R, sz L⟩) m g = some (.next (r3, many - 1, tab', g, m', bs kb)) ∧
   (lt last (bs kb) = true → 0 < a → a ≤ (R : Int) → a ∉ revs L → TabR tab' R (L ++ [(bs kb, ⟨vb, a⟩)]) ∧ Part R (L ++ [(bs kb, ⟨vb, a⟩)]) (bs kb) m') := by
  intro g; unfold tR_.j6; rw [if_pos ⟨hwf, hn⟩]
  by_cases c : lt last (bs kb) = true ∧ 0 < a ∧ a ≤ (R : Int) ∧ a ∉ revs L
  ·obtain ⟨c1, c2, c3, c4⟩ := c
   have hwa : IntKind.i64.wrap a = a := wr (by omega) (by omega); obtain ⟨u, eu, wu, lu⟩ := set_put0 hk (R := (R : Int)) (Nat.lt_trans hlen (by omega)) hw hl hP.ord hE (key := bs kb) (c := ⟨vb, a⟩) ⟨hks, hvb, ha0, by show a ≤ _; omega⟩
   simp only [hwa]
   rw [be eu, hwm]; have hne : ins (bs kb) ⟨vb, a⟩ L = L ++ [(bs kb, ⟨vb, a⟩)] := ins_end L (fun e he => by
    rcases hP.low e he with q | q
    ·rw [q]; exact c1
    ·exact lt_tr q c1)
   refine ⟨_, _, rfl, fun _ _ _ _ => ⟨⟨u, by rw [hne], wu, by rw [lu, hne]⟩, hP.next c1 hks hvb (by omega) c3 c4⟩⟩
  ·obtain ⟨t, et⟩ := set_any hk (R := (R : Int)) (z := sz L) (Nat.lt_trans hlen (by omega)) hw hl hP.ord hE (key := bs kb) (c := ⟨vb, IntKind.i64.wrap a⟩) hks hvb hwr
   simp only
   rw [be et, hwm]; exact ⟨_, _, rfl, fun c1 c2 c3 c4 => absurd ⟨c1, c2, c3, c4⟩ c⟩
 unfold tR_.j5
 simp only
 rw [be hN]
 simp only
 rw [notless]
 cases c1 : lt last (bs kb) with
 | false =>
  rw [if_pos (by simp)]; obtain ⟨tab', m', e, _⟩ := j6 false; exact ⟨tab', false, m', e, by simp, fun h => by cases h⟩
 | true =>
  rw [if_neg (by simp)]
  by_cases c2 : 0 < a
  ·rw [if_pos c2, h17]
   by_cases c3 : a ≤ (R : Int)
   ·rw [if_pos c3, if_pos hwf]
    by_cases c4 : a ∈ revs L
    ·rw [hP.map a, if_pos c4]
     obtain ⟨tab', m', e, _⟩ := j6 false; exact ⟨tab', false, m', e, by simp [c4], fun h => by cases h⟩
    ·rw [hP.map a, if_neg c4]
     obtain ⟨tab', m', e, h⟩ := j6 true; exact ⟨tab', true, m', e, by simp [c2, c3, c4], fun _ => h c1 c2 c3 c4⟩
   ·rw [if_neg c3]
    obtain ⟨tab', m', e, _⟩ := j6 false; exact ⟨tab', false, m', e, by simp [c3], fun h => by cases h⟩
  ·rw [if_neg c2]
   obtain ⟨tab', m', e, _⟩ := j6 false; exact ⟨tab', false, m', e, by simp [c2], fun h => by cases h⟩
abbrev RS := (Option Rdr) × Int × (Option Tab) × Bool × (MpV Bool) × ByteArray
abbrev rloop (k : Nat) (t17 : Int × Option Rdr) (n : Nat) (s : RS) : Option ((Option Rdr) × (Option Tab) × Bool) := loop (fun (s_ : RS) => tR_.b7 k t17 s_.1 s_.2.1 s_.2.2.1 s_.2.2.2.1 s_.2.2.2.2.1 s_.2.2.2.2.2) n s
theorem rloop_end {k : Nat} {t17 : Int × Option Rdr} {n : Nat} {r : Option Rdr} {many : Int} {tab : Option Tab} {g : Bool} {m : MpV Bool} {last : ByteArray} (h : ¬ 0 < many ∨ g = false) (hn : 0 < n) : rloop k t17 n (r, many, tab, g, m, last) = some (r, tab, g) := by
 obtain ⟨q, rfl⟩ : ∃ q, n = q + 1 := ⟨n - 1, by omega⟩; refine loop_done ?_
 show tR_.b7 k t17 r many tab g m last = _
 unfold tR_.b7 tR_.j4
 by_cases c : 0 < many
 ·rcases h with h | h
  ·exact absurd c h
  ·rw [if_pos c, h, if_neg (by simp)]
 ·rw [if_neg c, if_neg (by simp)]
theorem ef_split {kb vb : List Int} {a : Nat} (hk : bytesR kb) (rest : List Int) : fm kb.length ++ (kb ++ (fm vb.length ++ (vb ++ (fm a ++ rest)))) = ef (bs kb, ⟨vb, (a : Int)⟩) ++ rest := by
 unfold ef
 simp only [bs_size, sb_bs (show brange kb from hk), Int.toNat_natCast, List.append_assoc]
theorem bytesR_ef {l : List Int} {e : Ent} {rest : List Int} (h : bytesR l) (e1 : l = ef e ++ rest) : bytesR rest := by rw [e1] at h; exact (bytesR_app.1 h).2
theorem rloop_any {k : Nat} (hk : Fuel k) {R : Nat} (hR : R ≤ 1099511627776) {t17 : Int × Option Rdr} (h17 : t17.1 = (R : Int)) (ou : List (List Int)) : ∀ (q : Nat) (l : List Int) (many : Int) (tab : Option Tab) (L : List Ent) (m : MpV Bool) (last : ByteArray) (n : Nat),
  l.length ≤ q → bytesR l → l.length + L.length < 8000000000 → 0 ≤ many → many < 18446744073709551616 → TabR tab R L → Part R L last m → q + 2 < n →
  ∃ r' tab' g, rloop k t17 n (some ⟨l, ou, 0⟩, many, tab, true, m, last) = some (some r', tab', g) ∧
   (g = true → ∃ M l', l = M.flatMap ef ++ l' ∧ (M.length : Int) = many ∧ r' = ⟨l', ou, 0⟩ ∧ TabR tab' R (L ++ M) ∧ ∃ last' m', Part R (L ++ M) last' m') := by
 intro q
 induction q with
 | zero =>
  intro l many tab L m last n hl hb hs hm0 hm1 hT hP hn; have : l = [] := List.length_eq_zero_iff.1 (by omega); subst this
  by_cases c : 0 < many
  ·-- nothing can be read
   have e1 : R_Text.f (some ⟨[], ou, 0⟩) 64 = some ([], some ⟨[], ou, 10⟩) := rfl; have e2 : R_Text.f (some ⟨[], ou, 10⟩) 256 = some ([], some ⟨[], ou, 10⟩) := rfl; have e3 : R_Num.f (some ⟨[], ou, 10⟩) = some (0, some ⟨[], ou, 10⟩) := rfl; obtain ⟨tab', g, m', e, hg, _⟩ := row_eq hk hR hP (by omega) hT h17 (kb := []) (vb := []) (by simp) (by simp) (r1 := some ⟨[], ou, 10⟩) (r2 := some ⟨[], ou, 10⟩) (r3 := some ⟨[], ou, 10⟩) (a := 0) (by omega) (by omega) c hm1 e3; have hgf : g = false := by
    cases g with
    | false => rfl
    | true => have := (hg.1 rfl).2.1; omega
   obtain ⟨n, rfl⟩ : ∃ p, n = p + 1 := ⟨n - 1, by omega⟩; refine ⟨⟨[], ou, 10⟩, tab', false, ?_, fun h => by cases h⟩
   show loop _ (n + 1) _ = _
   rw [loop_next (s' := (some ⟨[], ou, 10⟩, many - 1, tab', g, m', bs []))]
   ·rw [hgf]; exact rloop_end (Or.inr rfl) (by omega)
   ·show tR_.b7 k t17 _ many tab true m last = _
    unfold tR_.b7 tR_.j4; rw [if_pos c, if_pos rfl, be e1, be e2]; exact e
  ·exact ⟨⟨[], ou, 0⟩, tab, true, rloop_end (Or.inl c) (by omega), fun _ => ⟨[], [], rfl, by simp; omega, rfl, by simpa using hT, last, m, by simpa using hP⟩⟩
 | succ q ih =>
  intro l many tab L m last n hl hb hs hm0 hm1 hT hP hn
  by_cases c : 0 < many
  ·obtain ⟨n, rfl⟩ : ∃ p, n = p + 1 := ⟨n - 1, by omega⟩
   obtain ⟨kb, r1, e1, h1⟩ := Text_inv l ou hb (by omega) (most := 64) (by omega) (by omega); obtain ⟨vb, r2, e2, h2⟩ : ∃ vb r2, R_Text.f (some r1) 256 = some (vb, some r2) ∧
     ((r2.fault = 0 ∧ ∃ l1 rest, r1 = ⟨l1, ou, 0⟩ ∧ l1 = fm vb.length ++ (vb ++ rest) ∧ (vb.length : Int) ≤ 256 ∧ r2 = ⟨rest, ou, 0⟩) ∨ (r2.fault ≠ 0 ∧ vb = [])) := by
    rcases h1 with ⟨f1, rest, hl1, hk1, rfl⟩ | ⟨f1, rfl⟩
    ·have hb1 : bytesR rest := by rw [hl1] at hb; exact (bytesR_app.1 (bytesR_app.1 hb).2).2
     have hlen1 : rest.length ≤ l.length := by rw [hl1]; simp only [lA]; omega
     obtain ⟨vb, r2, e2, h2⟩ := Text_inv rest ou hb1 (by omega) (most := 256) (by omega) (by omega); refine ⟨vb, r2, e2, ?_⟩
     rcases h2 with ⟨f2, rest2, hl2, hv2, rfl⟩ | ⟨f2, hv⟩
     ·exact Or.inl ⟨f2, rest, rest2, rfl, hl2, hv2, rfl⟩
     ·exact Or.inr ⟨f2, hv⟩
    ·exact ⟨[], r1, Text_fault f1 256, Or.inr ⟨f1, rfl⟩⟩
   obtain ⟨a, r3, e3, h3⟩ : ∃ a r3, R_Num.f (some r2) = some (a, some r3) ∧
     ((r3.fault = 0 ∧ ∃ l2 p rest, r2 = ⟨l2, ou, 0⟩ ∧ a = ((p : Nat) : Int) ∧ p < 2 ^ 64 ∧ l2 = fm p ++ rest ∧ r3 = ⟨rest, ou, 0⟩) ∨ (r3.fault ≠ 0 ∧ a = 0)) := by
    rcases h2 with ⟨f2, l1, rest, hr1, hl2, hv2, rfl⟩ | ⟨f2, rfl⟩
    ·have hb1 : bytesR rest := by
      rcases h1 with ⟨f1, rest0, hl1, hk1, hr0⟩ | ⟨f1, -⟩
      ·rw [hr1] at hr0; cases hr0
       rw [hl1] at hb; have := (bytesR_app.1 (bytesR_app.1 hb).2).2; rw [hl2] at this; exact (bytesR_app.1 (bytesR_app.1 this).2).2
      ·rw [hr1] at f1; exact absurd rfl f1
     obtain ⟨v, r3, e3, h3⟩ := Num_inv rest ou hb1; refine ⟨v, r3, e3, ?_⟩
     rcases h3 with ⟨f3, p, rest3, hv, hp, hl3, rfl⟩ | ⟨f3, hv⟩
     ·exact Or.inl ⟨f3, rest, p, rest3, rfl, hv, hp, hl3, rfl⟩
     ·exact Or.inr ⟨f3, hv⟩
    ·exact ⟨0, r2, Num_fault f2, Or.inr ⟨f2, rfl⟩⟩
   have hkb : kb.length ≤ 64 := by
    rcases h1 with ⟨_, _, _, hk1, _⟩ | ⟨_, rfl⟩
    ·omega
    ·simp
   have hvb : vb.length ≤ 256 := by
    rcases h2 with ⟨_, _, _, _, _, hk1, _⟩ | ⟨_, rfl⟩
    ·omega
    ·simp
   have ha : 0 ≤ a ∧ a < 18446744073709551616 := by
    rcases h3 with ⟨_, _, p, _, _, rfl, hp, _⟩ | ⟨_, rfl⟩
    ·omega
    ·omega
   obtain ⟨tab', g, m', e, hg, hgo⟩ := row_eq hk hR hP (by omega) hT h17 hkb hvb (r1 := some r1) (r2 := some r2) (r3 := some r3) ha.1 ha.2 c hm1 e3; have hstep : tR_.b7 k t17 (some ⟨l, ou, 0⟩) many tab true m last = some (.next (some r3, many - 1, tab', g, m', bs kb)) := by
    unfold tR_.b7 tR_.j4; rw [if_pos c, if_pos rfl, be e1, be e2]; exact e
   have hloop : rloop k t17 (n + 1) (some ⟨l, ou, 0⟩, many, tab, true, m, last) = rloop k t17 n (some r3, many - 1, tab', g, m', bs kb) := loop_next (by exact hstep)
   cases g with
   | false => exact ⟨r3, tab', false, by rw [hloop]; exact rloop_end (Or.inr rfl) (by omega), fun h => by cases h⟩
   | true =>
    have hgt := hg.1 rfl; obtain ⟨hT', hP'⟩ := hgo rfl
    rcases h3 with ⟨f3, l2, p, rest3, hr2, rfl, hp, hl3, rfl⟩ | ⟨f3, rfl⟩
    ·rcases h2 with ⟨f2, l1, rest2, hr1, hl2, hv2, hr2'⟩ | ⟨f2, -⟩
     ·rw [hr2] at hr2'; cases hr2'
      rcases h1 with ⟨f1, rest1, hl1, hk1, hr1'⟩ | ⟨f1, -⟩
      ·rw [hr1] at hr1'; cases hr1'
       have hkr : bytesR kb := by rw [hl1] at hb; exact (bytesR_app.1 (bytesR_app.1 hb).2).1
       have hle : l = ef (bs kb, ⟨vb, (p : Int)⟩) ++ rest3 := by rw [hl1, hl2, hl3, ef_split hkr]
       have hlen3 : rest3.length + 1 ≤ l.length := by
        rw [hle, lA]; have : 1 ≤ (ef (bs kb, ⟨vb, (p : Int)⟩)).length := by
         unfold ef; simp only [lA]; have := fm_pos (bs kb).size; omega
        omega
       obtain ⟨r', tab2, g2, e2', h2'⟩ := ih rest3 (many - 1) tab' (L ++ [(bs kb, ⟨vb, (p : Int)⟩)]) m' (bs kb) n (by omega) (bytesR_ef hb hle) (by simp; omega) (by omega) (by omega) hT' hP' (by omega); refine ⟨r', tab2, g2, by rw [hloop]; exact e2', fun hg2 => ?_⟩; obtain ⟨M, l', hl', hM, hr', hT2, last2, m2, hP2⟩ := h2' hg2; refine ⟨(bs kb, ⟨vb, (p : Int)⟩) :: M, l', ?_, by simp; omega, hr', by simpa using hT2, last2, m2, by simpa using hP2⟩; rw [hle, hl', List.flatMap_cons, List.append_assoc]
      ·rw [hr1] at f1; exact absurd rfl f1
     ·rw [hr2] at f2; exact absurd rfl f2
    ·exact absurd hgt.2.1 (by omega)
  ·exact ⟨⟨l, ou, 0⟩, tab, true, rloop_end (Or.inl c) (by omega), fun _ => ⟨[], l, rfl, by simp; omega, rfl, by simpa using hT, last, m, by simpa using hP⟩⟩
theorem Num_outer {l : List Int} {ou : List (List Int)} {f v : Int} {r' : Rdr} (h : R_Num.f (some ⟨l, ou, f⟩) = some (v, some r')) : r'.outer = ou := by
 unfold R_Num.f at h
 simp only at h
 split at h
 ·unfold rtake at h
  split at h
  ·simp only [Option.some.injEq, Prod.mk.injEq] at h; rw [← h.2]
  ·split at h
   ·simp only [Option.some.injEq, Prod.mk.injEq] at h; rw [← h.2]
   ·simp only [Option.some.injEq, Prod.mk.injEq] at h; rw [← h.2]
 ·simp only [Option.some.injEq, Prod.mk.injEq] at h; rw [← h.2]
theorem Done_eq (l : List Int) (f : Int) : R_Done.f (some ⟨l, [], f⟩) = some (if f = 0 then (if 0 < l.length then 12 else 0) else f) := by
 unfold R_Done.f R_Done.j1
 by_cases c : f = 0
 ·by_cases c2 : 0 < l.length
  ·simp [c, c2]
  ·simp [c, c2]
 ·simp [c]
theorem Part.empty (R : Nat) : Part R [] { data := #[] } ⟨fun _ => none, 0⟩ :=
 ⟨List.Pairwise.nil, fun e he => (by cases he), fun e he => (by cases he), Or.inl ⟨rfl, rfl⟩, fun a => by simp, List.nodup_nil, rfl⟩
theorem revs_len {R : Nat} {L : List Ent} (hd : (revs L).Nodup) (h : ∀ e ∈ L, 1 ≤ e.2.rev ∧ e.2.rev ≤ (R : Int)) : L.length ≤ R := by
 have := len_sub ((revs L)) ((List.range R).map fun i => ((i + 1 : Nat) : Int)) hd (fun x hx => by
  obtain ⟨e, he, rfl⟩ := List.mem_map.1 hx; have := h e he; exact List.mem_map.2 ⟨(e.2.rev - 1).toNat, List.mem_range.2 (by omega), by omega⟩)
 simpa using this
structure Sound (s : St) : Prop where
 inv : Inv s.1 s.2
 dis : (revs s.1).Nodup
 top : s.2 ≤ 1099511627776
theorem Sound.of {R : Nat} (hR : R ≤ 1099511627776) {L : List Ent} {last : ByteArray} {m : MpV Bool} (h : Part R L last m) : Sound (L, R) :=
 ⟨⟨h.ord, revs_len h.dis (fun e he => (h.ent e he).2.2.2), h.ent⟩, h.dis, hR⟩
theorem TabR.rep {t : Option Tab} {s : St} (h : TabR t s.2 s.1) (hS : Sound s) : RepS t s := by
 obtain ⟨rows, e, hw, hl⟩ := h; exact ⟨rows, e, hw, hl, hS.inv⟩
theorem new_eq : table_New.f = some (some (Tab.mk .nil 0 0)) := rfl
theorem read_any {k : Nat} (hk : Fuel k) (p : List Int) (hb : bytesR p) (hl : p.length < 2000000000) :
  ∃ t e, tR_.f k p = some (t, e) ∧ ((e = 130 ∧ t = none) ∨ (e = 0 ∧ ∃ s, RepS t s ∧ Sound s ∧ p = form s)) := by
 have h24 : 1099511627776 ≤ k := hk; have e0 : parcel_Read.f p = some (some ⟨p, [], 0⟩) := by unfold parcel_Read.f; rw [if_pos (by omega)]
 obtain ⟨rv, r1, e1, h1⟩ := Num_inv p [] hb; have fail : ∀ (o : Option Rdr) (tb : Option Tab), tR_.j8 o tb false = some (none, 130) := fun o tb => by
  unfold tR_.j8 tR_.j9; rw [if_neg (by simp), if_pos rfl]
 have failD : ∀ (r : Rdr) (tb : Option Tab), r.fault ≠ 0 → r.outer = [] → tR_.j8 (some r) tb true = some (none, 130) := fun r tb hf ho => by
  obtain ⟨l, ou, f⟩ := r
  simp only at hf ho
  subst ho; unfold tR_.j8; rw [if_pos rfl, be (Done_eq l f), if_neg hf]; unfold tR_.j9; rw [if_pos (by simp [hf])]
 unfold tR_.f; rw [be e0, be e1]
 rcases h1 with ⟨f1, m, rest, rfl, hm, hp, rfl⟩ | ⟨f1, rfl⟩
 ·have hb1 : bytesR rest := by rw [hp] at hb; exact (bytesR_app.1 hb).2
  have hlr : rest.length ≤ p.length := by rw [hp, lA]; omega
  obtain ⟨mv, r2, e2, h2⟩ := Num_inv rest [] hb1
  simp only
  rw [be e2, be new_eq, oB]
  by_cases hg : (m : Int) ≤ 1099511627776
  ·have hwm : IntKind.i64.wrap (min (m : Int) 1099511627776) = (m : Int) := by rw [Int.min_eq_left hg, wr (by omega) (by omega)]
   simp only [hwm, dt hg]
   rcases h2 with ⟨f2, q, rest2, rfl, hq, hp2, rfl⟩ | ⟨f2, rfl⟩
   ·have hb2 : bytesR rest2 := by rw [hp2] at hb1; exact (bytesR_app.1 hb1).2
    have hlr2 : rest2.length ≤ rest.length := by rw [hp2, lA]; omega
    obtain ⟨r', tab', g, e3, h3⟩ := rloop_any hk (R := m) (by omega) (t17 := ((m : Int), some ⟨rest, [], 0⟩)) rfl [] rest2.length rest2 (q : Int) (some ⟨.nil, (m : Int), 0⟩) [] ⟨fun _ => none, 0⟩ { data := #[] } k
     (Nat.le_refl _) hb2 (by simp; omega) (by omega) (by omega) ⟨.nil, rfl, trivial, rfl⟩ (Part.empty m) (by omega)
    rw [be e3]
    cases g with
    | false => exact ⟨none, 130, fail _ _, Or.inl ⟨rfl, rfl⟩⟩
    | true =>
     obtain ⟨M, l', hl', hM, rfl, hT, last', m', hP⟩ := h3 rfl; rw [List.nil_append] at hT hP; unfold tR_.j8
     simp only [if_true]
     rw [be (Done_eq l' 0)]
     by_cases hle : 0 < l'.length
     ·rw [if_pos rfl, if_pos hle]
      exact ⟨none, 130, rfl, Or.inl ⟨rfl, rfl⟩⟩
     ·rw [if_pos rfl, if_neg hle]
      have hl0 : l' = [] := List.length_eq_zero_iff.1 (by omega); subst hl0; have hS : Sound (M, m) := Sound.of (by omega) hP; refine ⟨tab', 0, rfl, Or.inr ⟨rfl, (M, m), TabR.rep hT hS, hS, ?_⟩⟩; have hMq : M.length = q := by omega
      rw [hp, hp2, hl', List.append_nil]; unfold form
      simp only [hMq, List.append_assoc]
   ·-- the count isn't read
    obtain ⟨l2, ou2, f2'⟩ := r2; have hou : ou2 = [] := Num_outer e2; rw [be (rloop_end (k := k) (Or.inl (by omega)) (by omega))]; exact ⟨none, 130, failD _ _ f2 hou, Or.inl ⟨rfl, rfl⟩⟩
  ·simp only [dz hg]
   rw [be (rloop_end (k := k) (Or.inr rfl) (by omega))]; exact ⟨none, 130, fail _ _, Or.inl ⟨rfl, rfl⟩⟩
 ·-- the revision isn't read
  have e2 := Num_fault f1; have hou : r1.outer = [] := Num_outer e1
  simp only
  rw [be e2, be new_eq, oB]
  simp only
  rw [be (rloop_end (k := k) (Or.inl (by omega)) (by omega))]; rw [dt (by omega)]; exact ⟨none, 130, failD _ _ f1 hou, Or.inl ⟨rfl, rfl⟩⟩
theorem bs_sb (k : ByteArray) : bs (sb k) = k := by
 apply toList_inj
 rw [bs_toList, ByteArray.toList_eq]; unfold sb; rw [List.map_map]; have : ∀ l : List UInt8, l.map ((fun n : Int => UInt8.ofNat n.toNat) ∘ fun b : UInt8 => (b.toNat : Int)) = l := by
  intro l
  induction l with
  | nil => rfl
  | cons a l ih =>
   rw [List.map_cons, ih]
   congr 1
   show UInt8.ofNat ((a.toNat : Int).toNat) = a
   rw [Int.toNat_natCast]; exact UInt8.ofNat_toNat
 exact this _
theorem ef_flat (e : Ent) (rest : List Int) : ef e ++ rest = fm (sb e.1).length ++ (sb e.1 ++ (fm e.2.value.length ++ (e.2.value ++ (fm e.2.rev.toNat ++ rest)))) := by
 unfold ef; rw [sb_len]
 simp only [List.append_assoc]
theorem ef_pos (e : Ent) : 1 ≤ (ef e).length := by
 unfold ef; simp only [lA]; have := fm_pos e.1.size; omega
theorem flat_pos : ∀ L : List Ent, L.length ≤ (L.flatMap ef).length
 | [] => Nat.le_refl _
 | e :: L => by rw [List.flatMap_cons, lA, List.length_cons]; have := flat_pos L; have := ef_pos e; omega
theorem form_len (s : St) : s.1.length ≤ (form s).length := by
 unfold form; simp only [lA]; have := flat_pos s.1; omega
theorem rloop_fwd {k : Nat} (hk : Fuel k) {R : Nat} (hR : R ≤ 1099511627776) {t17 : Int × Option Rdr} (h17 : t17.1 = (R : Int)) (ou : List (List Int)) (y : List Int) : ∀ (M : List Ent) (tab : Option Tab) (L : List Ent) (m : MpV Bool) (last : ByteArray) (n : Nat),
  (M.flatMap ef ++ y).length + L.length < 8000000000 → TabR tab R L → Part R L last m → Ord (L ++ M) → (revs (L ++ M)).Nodup →
  (∀ e ∈ M, 1 ≤ e.1.size ∧ e.1.size ≤ 64 ∧ e.2.value.length ≤ 256 ∧ 1 ≤ e.2.rev ∧ e.2.rev ≤ (R : Int)) → M.length < n →
  ∃ tab', rloop k t17 n (some ⟨M.flatMap ef ++ y, ou, 0⟩, (M.length : Int), tab, true, m, last) = some (some ⟨y, ou, 0⟩, tab', true) ∧ TabR tab' R (L ++ M)
 | [], tab, L, m, last, n, _, hT, _, _, _, _, hn => ⟨tab, rloop_end (Or.inl (by simp)) hn, by simpa using hT⟩
 | e :: M, tab, L, m, last, n, hs, hT, hP, ho, hd, hE, hn => by
  obtain ⟨n, rfl⟩ : ∃ p, n = p + 1 := ⟨n - 1, by omega⟩; obtain ⟨key, v, a⟩ := e; obtain ⟨e1, e2, e3, e4, e5⟩ := hE (key, ⟨v, a⟩) (by simp)
  simp only at e1 e2 e3 e4 e5
  have hML : M.length ≤ (M.flatMap ef).length := flat_pos M; have hlen : (((key, (⟨v, a⟩ : TC)) :: M).flatMap ef ++ y).length = (ef (key, ⟨v, a⟩)).length + ((M.flatMap ef).length + y.length) := by
   rw [List.flatMap_cons]; simp only [lA]; omega
  rw [hlen] at hs; have hflat : ((key, (⟨v, a⟩ : TC)) :: M).flatMap ef ++ y = fm (sb key).length ++ (sb key ++ (fm v.length ++ (v ++ (fm a.toNat ++ (M.flatMap ef ++ y))))) := by
   rw [List.flatMap_cons, List.append_assoc, ef_flat]
  have hall : (fm (sb key).length ++ (sb key ++ (fm v.length ++ (v ++ (fm a.toNat ++ (M.flatMap ef ++ y)))))).length < 8000000000 := by
   rw [← hflat, hlen]; omega
  simp only [lA] at hall
  have hks : (sb key).length = key.size := sb_len key; have t1 := Text_fwd (v := sb key) (most := 64) (by omega) (by omega) (by omega) (fm v.length ++ (v ++ (fm a.toNat ++ (M.flatMap ef ++ y)))) (by simp only [lA]; omega) ou; have t2 := Text_fwd (v := v) (most := 256) (by omega) (by omega) (by omega) (fm a.toNat ++ (M.flatMap ef ++ y)) (by simp only [lA]; omega) ou; have t3 := Num_fwd (m := a.toNat) (by omega) (M.flatMap ef ++ y) ou; have ha : ((a.toNat : Nat) : Int) = a := by omega
  rw [ha] at t3; have hmany : ((((key, (⟨v, a⟩ : TC)) :: M).length : Nat) : Int) = (M.length : Int) + 1 := by simp
  obtain ⟨tab', g, m', e, hg, hgo⟩ := row_eq hk hR hP (by omega) hT h17 (kb := sb key) (vb := v) (by omega) e3 (r1 := some ⟨fm v.length ++ (v ++ (fm a.toNat ++ (M.flatMap ef ++ y))), ou, 0⟩) (r2 := some ⟨fm a.toNat ++ (M.flatMap ef ++ y), ou, 0⟩) (r3 := some ⟨M.flatMap ef ++ y, ou, 0⟩) (a := a) (by omega) (by omega) (many := (M.length : Int) + 1) (by omega) (by omega) t3; rw [bs_sb] at e hg hgo; have hord : ∀ x ∈ L, lt x.1 key = true := fun x hx => by
   unfold Ord at ho; rw [List.pairwise_append] at ho; exact ho.2.2 x hx (key, ⟨v, a⟩) (by simp)
  have hlt : lt last key = true := by
   rcases hP.top with ⟨_, q⟩ | ⟨x, hx, q⟩
   ·rw [q]; exact lt_empty e1
   ·rw [← q]; exact hord x hx
  have hnot : a ∉ revs L := by
   unfold revs at hd ⊢; rw [List.map_append, List.nodup_append] at hd; intro q; exact hd.2.2 a q a (by simp) rfl
  have hgt : g = true := hg.2 ⟨hlt, by omega, e5, hnot⟩; subst hgt; obtain ⟨hT', hP'⟩ := hgo rfl; obtain ⟨tab2, e', hT2⟩ := rloop_fwd hk hR h17 ou y M tab' (L ++ [(key, ⟨v, a⟩)]) m' key n (by simp only [lA, List.length_singleton]; have := ef_pos (key, (⟨v, a⟩ : TC)); omega) hT' hP' (by simpa using ho) (by simpa using hd) (fun x hx => hE x (by simp [hx])) (by simp at hn; omega); refine ⟨tab2, ?_, by simpa using hT2⟩; have hstep : tR_.b7 k t17 (some ⟨((key, (⟨v, a⟩ : TC)) :: M).flatMap ef ++ y, ou, 0⟩) ((((key, (⟨v, a⟩ : TC)) :: M).length : Nat) : Int) tab true m last = some (.next (some ⟨M.flatMap ef ++ y, ou, 0⟩, (M.length : Int), tab', true, m', key)) := by
   rw [hflat, hmany]; unfold tR_.b7 tR_.j4; rw [if_pos (by omega), if_pos rfl, be t1, be t2]; rw [show (M.length : Int) + 1 - 1 = (M.length : Int) by omega] at e; exact e
  exact (loop_next (by exact hstep)).trans e'
theorem read_fwd {k : Nat} (hk : Fuel k) {s : St} (hS : Sound s) (y : List Int) (hl : (form s ++ y).length < 4000000000) :
  ∃ t, tR_.f k (form s ++ y) = some (if y = [] then (t, 0) else (none, 130)) ∧ RepS t s := by
 have h24 : 1099511627776 ≤ k := hk; have hR := hS.top; have hflen := form_len s; rw [lA] at hl; have hp : form s ++ y = fm s.2 ++ (fm s.1.length ++ (s.1.flatMap ef ++ y)) := by unfold form; simp only [List.append_assoc]
 have hlen2 : (s.1.flatMap ef ++ y).length ≤ (form s ++ y).length := by rw [hp]; simp only [lA]; omega
 rw [show (form s ++ y).length = (form s).length + y.length from lA] at hlen2; have e0 : parcel_Read.f (form s ++ y) = some (some ⟨fm s.2 ++ (fm s.1.length ++ (s.1.flatMap ef ++ y)), [], 0⟩) := by
  unfold parcel_Read.f; rw [if_pos (by rw [lA]; omega), hp]
 have e1 := Num_fwd (m := s.2) (by omega) (fm s.1.length ++ (s.1.flatMap ef ++ y)) []; have e2 := Num_fwd (m := s.1.length) (by omega) (s.1.flatMap ef ++ y) []; obtain ⟨tab', e3, hT⟩ := rloop_fwd hk hR (t17 := ((s.2 : Int), some ⟨fm s.1.length ++ (s.1.flatMap ef ++ y), [], 0⟩)) rfl [] y s.1 (some ⟨.nil, (s.2 : Int), 0⟩) [] ⟨fun _ => none, 0⟩ { data := #[] } k
  (by simp only [List.length_nil]; omega) ⟨.nil, rfl, trivial, rfl⟩ (Part.empty s.2) (by simpa using hS.inv.ord) (by simpa using hS.dis) hS.inv.ent (by omega)
 rw [List.nil_append] at hT; refine ⟨tab', ?_, TabR.rep hT hS⟩; unfold tR_.f; rw [be e0, be e1]
 simp only
 rw [be e2, be new_eq, oB]; have hwm : IntKind.i64.wrap (min (s.2 : Int) 1099511627776) = (s.2 : Int) := by rw [Int.min_eq_left (by omega), wr (by omega) (by omega)]
 simp only [hwm, dt (show (s.2 : Int) ≤ 1099511627776 by omega)]
 rw [be e3]; unfold tR_.j8
 simp only [if_true]
 rw [be (Done_eq y 0)]
 by_cases hy : y = []
 ·subst hy
  rfl
 ·have hp : 0 < y.length := by
   rcases Nat.eq_zero_or_pos y.length with q | q
   ·exact absurd (List.length_eq_zero_iff.1 q) hy
   ·exact q
  rw [if_neg hy, if_pos rfl, if_pos hp]
  rfl
theorem form_size (s : St) : ((form s).length : Int) = nm s.2 + nm s.1.length + sz s.1 := by
 have h := flat_len s.1; unfold form
 simp only [lA, fm_len]
 omega
theorem fmP_bytes : ∀ f n, bytesR (fmP f n)
 | 0, _ => fun c hc => by simp [fmP] at hc
 | f + 1, n => by
  unfold fmP
  split
  ·intro c hc; simp at hc
  ·intro c hc
   rcases List.mem_cons.1 hc with rfl | h
   ·rw [bor8]; omega
   ·exact fmP_bytes f _ c h
theorem fm_bytes (n : Nat) : bytesR (fm n) := by
 unfold fm; refine bytesR_app.2 ⟨fmP_bytes 9 n, fun c hc => ?_⟩; rw [List.mem_singleton] at hc; subst hc; rw [wr8]; omega
theorem sb_bytes (k : ByteArray) : bytesR (sb k) := by
 intro c hc; obtain ⟨b, _, rfl⟩ := List.mem_map.1 hc; have := b.toNat_lt
 omega
theorem form_bytes {s : St} (h : ∀ e ∈ s.1, bytesR e.2.value) : bytesR (form s) := by
 unfold form; refine bytesR_app.2 ⟨bytesR_app.2 ⟨fm_bytes _, fm_bytes _⟩, fun c hc => ?_⟩; obtain ⟨e, he, hce⟩ := List.mem_flatMap.1 hc; have : bytesR (ef e) := by
  unfold ef; exact bytesR_app.2 ⟨bytesR_app.2 ⟨fm_bytes _, sb_bytes _⟩, bytesR_app.2 ⟨bytesR_app.2 ⟨fm_bytes _, h e he⟩, fm_bytes _⟩⟩
 exact this c hce
theorem oa_next {S X : Type} {f : S → Option (Ctl S X)} {n : Nat} {s s' : S} (h : f s = some (.next s')) : loop f (n + 1) s = loop f n s' := by
 show (f s).bind _ = _; rw [h]; rfl
theorem oa_done {S X : Type} {f : S → Option (Ctl S X)} {n : Nat} {s : S} {x : X} (h : f s = some (.done x)) : loop f (n + 1) s = some x := by
 show (f s).bind _ = _; rw [h]; rfl
theorem oa_count' {S X : Type} {f : S → Option (Ctl S X)} {s : Nat → S} {x : X} {N : Nat} (step : ∀ i, i < N → f (s i) = some (.next (s (i + 1)))) (last : f (s N) = some (.done x)) : ∀ (n i m : Nat), i + n = N → n < m → loop f m (s i) = some x
 | _, _, 0, _, h => absurd h (by omega)
 | 0, i, m + 1, hN, _ => by
  obtain rfl : i = N := by omega
  exact oa_done last
 | n + 1, i, m + 1, hN, hm => by rw [oa_next (step i (by omega))]; exact oa_count' step last n (i + 1) m (by omega) (by omega)
theorem oa_count {S X : Type} {f : S → Option (Ctl S X)} {s : Nat → S} {x : X} {N k : Nat} (hk : N < k) (step : ∀ i, i < N → f (s i) = some (.next (s (i + 1)))) (last : f (s N) = some (.done x)) : loop f k (s 0) = some x := oa_count' step last N 0 k (by omega) hk
theorem oa_rd {α : Type} [Inhabited α] {xs : List α} {i : Nat} (h : i < xs.length) : rd xs (i : Int) = xs[i] := by
 unfold rd; rw [Int.toNat_natCast, List.getD_eq_getElem?_getD, List.getElem?_eq_getElem h]
 rfl
section
set_option linter.unusedSectionVars false
variable {α : Type} [Inhabited α] {L L0 : List (List α)} {i k len n : Nat}
end
theorem same_loop (a b : List Int) (hl : a.length = b.length) : ∀ (n i m : Nat), i + n = a.length → n < m → a.length < 4000000000 →
  loop (fun (s_ : Int) => l3_same.b1 a b s_) m (i : Int) = some (if a.drop i = b.drop i then Sum.inl () else Sum.inr false)
 | _, _, 0, _, h, _ => absurd h (by omega)
 | 0, i, m + 1, h, _, _ => by
  refine loop_done ?_; unfold l3_same.b1; rw [if_neg (by omega), if_pos]; rw [List.drop_of_length_le (by omega), List.drop_of_length_le (by omega)]
 | n + 1, i, m + 1, h, hm, hb => by
  have hi : i < a.length := by omega
  have hj : i < b.length := by omega
  rw [List.drop_eq_getElem_cons hi, List.drop_eq_getElem_cons hj]
  by_cases c : a[i] = b[i]
  ·rw [loop_next (s' := ((i + 1 : Nat) : Int)), same_loop a b hl n (i + 1) m (by omega) (by omega) hb]
   ·simp only [c, List.cons.injEq, true_and]
   ·unfold l3_same.b1
    rw [if_pos (by omega), if_pos (by omega), if_pos (by omega), rd_eq hi, rd_eq hj, if_pos c, wrS i (by omega)]
  ·rw [if_neg (by simp only [List.cons.injEq, c, false_and, not_false_eq_true])]
   refine loop_done ?_; unfold l3_same.b1; rw [if_pos (by omega), if_pos (by omega), if_pos (by omega), rd_eq hi, rd_eq hj, if_neg c]
theorem same_eq {k : Nat} (hk : Fuel k) (a b : List Int) (h : a.length < 4000000000 ∨ b.length < 4000000000) : l3_same.f k a b = some (decide (a = b)) := by
 have h24 : 1099511627776 ≤ k := hk; unfold l3_same.f
 by_cases c : a.length = b.length
 ·rw [if_pos (by omega), show (0 : Int) = ((0 : Nat) : Int) from rfl, be (same_loop a b c a.length 0 k (by omega) (by omega) (by omega))]
  simp only [List.drop_zero]
  by_cases e : a = b
  ·simp [e, l3_same.j2]
  ·simp [e]
 ·rw [if_neg (by omega), dz (fun e => c (by rw [e]))]
theorem sameRow_eq {k : Nat} (hk : Fuel k) (a b : AW) (h1 : a.Key.length < 4000000000 ∨ b.Key.length < 4000000000) (h2 : a.Value.length < 4000000000 ∨ b.Value.length < 4000000000) : l3_sameRow.f k a b = some (decide (a = b)) := by
 obtain ⟨a1, a2, a3⟩ := a; obtain ⟨b1, b2, b3⟩ := b; unfold l3_sameRow.f; rw [be (same_eq hk _ _ h1)]
 by_cases c1 : a1 = b1
 ·rw [if_pos (by simp [c1]), be (same_eq hk _ _ h2)]
  by_cases c2 : a2 = b2
  ·rw [if_pos (by simp [c2])]; simp [c1, c2]
  ·rw [if_neg (by simp [c2])]; simp [c2]
 ·rw [if_neg (by simp [c1])]; simp [c1]
theorem sameAnswer_eq {k : Nat} (hk : Fuel k) (a b : AA) (h1 : a.Key.length < 4000000000 ∨ b.Key.length < 4000000000) (h2 : a.Value.length < 4000000000 ∨ b.Value.length < 4000000000) : l3_sameAnswer.f k a b = some (decide (a = b)) := by
 obtain ⟨a0, a1, a2, a3, a4⟩ := a; obtain ⟨b0, b1, b2, b3, b4⟩ := b; unfold l3_sameAnswer.f
 by_cases c0 : a0 = b0
 ·rw [if_pos (by simp [c0]), be (same_eq hk _ _ h1)]
  by_cases c1 : a1 = b1
  ·rw [if_pos (by simp [c1]), be (same_eq hk _ _ h2)]
   by_cases c2 : a2 = b2
   ·rw [if_pos (by simp [c2])]
    by_cases c3 : a3 = b3
    ·simp [c0, c1, c2, c3]
    ·simp [c3]
   ·rw [if_neg (by simp [c2])]; simp [c2]
  ·rw [if_neg (by simp [c1])]; simp [c1]
 ·rw [if_neg (by simp [c0])]; simp [c0]
theorem yd_wr (n : Nat) : IntKind.u8.wrap (IntKind.u8.wrap (Int.tmod (n : Int) 128) + 128) = bor .u8 (IntKind.u8.wrap n) 128 := by
 rw [bor8]; have e : Int.tmod (n : Int) 128 = ((n % 128 : Nat) : Int) := by rw [Int.tmod_eq_emod_of_nonneg (by omega)]; omega
 rw [e, wr8]; have : ((n % 128 % 256 : Nat) : Int) + 128 = ((n % 128 + 128 : Nat) : Int) := by omega
 rw [this, wr8]
 congr 1; omega
theorem yd_div (n : Nat) (h : n < 9223372036854775808) : IntKind.u64.wrap (Int.tdiv (n : Int) 128) = ((n / 128 : Nat) : Int) := by
 have e : Int.tdiv (n : Int) 128 = ((n / 128 : Nat) : Int) := by rw [Int.tdiv_eq_ediv_of_nonneg (by omega)]; omega
 rw [e, wru (by omega) (by omega)]
theorem rform_loop : ∀ (f n k : Nat) (l : List Int), n < 128 ^ f → n < 9223372036854775808 → f < k → l.length + f < 1000 → loop (fun (s_ : Int × List Int) => d1_Form.b1 s_.1 s_.2) k ((n : Int), l) = some ((fmL f n : Int), l ++ fmP f n)
 | _, _, 0, _, _, _, h, _ => absurd h (by omega)
 | 0, n, k + 1, l, h, _, _, _ => by
  have : n = 0 := by simpa using h
  subst this; rw [loop_done (x := ((0 : Int), l))]
  ·simp [fmP, fmL]
  ·simp [d1_Form.b1]
 | f + 1, n, k + 1, l, h, h63, hk, hs => by
  by_cases c : n ≤ 127
  ·rw [loop_done (x := ((n : Int), l))]
   ·simp [fmP, fmL, c]
   ·simp only; unfold d1_Form.b1; rw [if_neg (by omega)]
  ·have hd : n / 128 < 128 ^ f := by rw [Nat.pow_succ] at h; omega
   rw [loop_next (s' := (((n / 128 : Nat) : Int), l ++ [bor .u8 (IntKind.u8.wrap n) 128]))]
   ·rw [rform_loop f (n / 128) k _ hd (by omega) (by omega) (by simp; omega)]
    simp [fmP, fmL, c]
   ·simp only
    unfold d1_Form.b1; rw [if_pos (by omega), if_pos (by simp; omega), yd_div n h63, yd_wr]
theorem rform_eq {k n : Nat} (hk : Fuel k) (hn : n < 9223372036854775808) : d1_Form.f k (n : Int) = some (fm n) := by
 have h24 : 1099511627776 ≤ k := hk; have := nmF_le 9 n; unfold d1_Form.f; rw [be (rform_loop 9 n k [] (by omega) hn (by omega) (by simp))]; unfold d1_Form.j2
 simp only [List.nil_append]
 rw [if_pos (by rw [fmP_len]; simp; omega)]
 rfl
abbrev W1 (room : Int) (b : List Int) : Option Wr1 := some ⟨room, b, [], 0⟩
theorem take_succ' {α : Type} {xs : List α} {i : Nat} (h : i < xs.length) : xs.take (i + 1) = xs.take i ++ [xs[i]] := by rw [List.take_add_one, List.getElem?_eq_getElem h]; rfl
theorem rlay_eq {k : Nat} (hk : Fuel k) {room : Int} {b a : List Int} (h1 : (b.length + a.length : Nat) ≤ room) (h2 : room ≤ 1000000000000) : wW_lay.f k (W1 room b) false a = some (W1 room (b ++ a)) := by
 have h24 : 1099511627776 ≤ k := hk; unfold wW_lay.f wW_dead.f
 simp only [Option.isNone_some, Bool.false_eq_true, if_false, oB, decide_true, Bool.not_true]
 rw [wr (by omega) (by omega), if_neg (by omega)]; have e : loop (fun (s_ : Int × (List Int)) => wW_lay.b1 a s_.1 s_.2) k (0, b) = some (b ++ a) := by
  have e0 : ((0 : Int), b) = (((0 : Nat) : Int), b ++ a.take 0) := by simp
  rw [e0]; refine oa_count (s := fun i : Nat => ((i : Int), b ++ a.take i)) (N := a.length) (by omega) (fun i hi => ?_) ?_
  ·simp only
   unfold wW_lay.b1; rw [if_pos (by omega), if_pos (by omega), if_pos (by simp; omega), wrS i (by omega), rd_eq hi, take_succ' hi, List.append_assoc]
  ·simp only
   unfold wW_lay.b1; rw [if_neg (by omega), List.take_length]
 rw [be e]; rfl
theorem rNum_eq {k : Nat} (hk : Fuel k) {room : Int} {b : List Int} {n : Nat} (hn : n < 9223372036854775808) (h1 : (b.length + (fm n).length : Nat) ≤ room) (h2 : room ≤ 1000000000000) :
  wW_Num.f k (W1 room b) (n : Int) = some (W1 room (b ++ fm n)) := by
 unfold wW_Num.f; rw [be (rform_eq hk hn), be (rlay_eq hk h1 h2)]
theorem rText_eq {k : Nat} (hk : Fuel k) {room : Int} {b a : List Int} (h1 : (b.length + (fm a.length).length + a.length : Nat) ≤ room) (h2 : room ≤ 1000000000000) :
  wW_Text.f k (W1 room b) a = some (W1 room (b ++ (fm a.length ++ a))) := by
 have h24 : 1099511627776 ≤ k := hk; unfold wW_Text.f; rw [wru (by omega) (by omega), be (rform_eq hk (by omega))]; have e : loop (fun (s_ : (List Int) × Int) => wW_Text.b1 a s_.1 s_.2) k (fm a.length, 0) = some (fm a.length ++ a) := by
  have e0 : (fm a.length, (0 : Int)) = (fm a.length ++ a.take 0, ((0 : Nat) : Int)) := by simp
  rw [e0]; refine oa_count (s := fun i : Nat => (fm a.length ++ a.take i, (i : Int))) (N := a.length) (by omega) (fun i hi => ?_) ?_
  ·simp only
   unfold wW_Text.b1; rw [if_pos (by omega), if_pos (by omega), if_pos (by simp; omega), wrS i (by omega), rd_eq hi, take_succ' hi, List.append_assoc]
  ·simp only
   unfold wW_Text.b1; rw [if_neg (by omega), List.take_length]
 rw [be e]; unfold wW_Text.j2; rw [be (rlay_eq hk (by simp; omega) h2)]
theorem rDone_eq {k : Nat} (hk : Fuel k) {room : Int} {b : List Int} (h : b.length ≤ 1000000000000) : wW_Done.f k (W1 room b) = some (b, 0) := by
 have h24 : 1099511627776 ≤ k := hk; unfold wW_Done.f
 simp only [Option.isNone_some, Bool.false_eq_true, if_false, oB, if_true, List.length_nil]
 rw [if_neg (by simp)]; have e : loop (fun (s_ : (List Int) × Int) => wW_Done.b1 ⟨room, b, [], 0⟩ s_.1 s_.2) k ([], 0) = some b := by
  have e0 : (([] : List Int), (0 : Int)) = (b.take 0, ((0 : Nat) : Int)) := by simp
  rw [e0]; refine oa_count (s := fun i : Nat => (b.take i, (i : Int))) (N := b.length) (by omega) (fun i hi => ?_) ?_
  ·simp only
   unfold wW_Done.b1
   simp only
   rw [if_pos (by omega), if_pos (by omega), if_pos (by simp; omega), wrS i (by omega), rd_eq hi, take_succ' hi]
  ·simp only
   unfold wW_Done.b1
   simp only
   rw [if_neg (by omega), List.take_length]
 rw [be e]; rfl
theorem ef_le {e : Ent} (h1 : e.1.size ≤ 64) (h2 : e.2.value.length ≤ 256) : (ef e).length ≤ 400 := by
 have := ef_len e; have := lg_le (k := e.1) (c := e.2) h1 h2; omega
theorem flat_le : ∀ {M : List Ent}, (∀ e ∈ M, e.1.size ≤ 64 ∧ e.2.value.length ≤ 256) → (M.flatMap ef).length ≤ 400 * M.length
 | [], _ => by simp
 | e :: M, h => by
  have h1 := ef_le (h e (by simp)).1 (h e (by simp)).2; have h2 := flat_le (M := M) fun x hx => h x (by simp [hx]); rw [List.flatMap_cons, lA, List.length_cons]; omega
def entOk (r : Nat) (L : List Ent) : Prop := ∀ e ∈ L, 1 ≤ e.1.size ∧ e.1.size ≤ 64 ∧ e.2.value.length ≤ 256 ∧ 1 ≤ e.2.rev ∧ e.2.rev ≤ r
theorem rd_map {L : List Ent} {i : Nat} (h : i < L.length) : rd (L.map rowOf) (i : Int) = rowOf L[i] := by rw [rd_eq (by simpa using h)]; simp
theorem rbytes_eq {k : Nat} (hk : Fuel k) {L : List Ent} {r : Nat} (hr : r ≤ 1099511627776) (hl : L.length < 2000000000) (hI : entOk r L) : D_Bytes.f k (some ⟨L.map rowOf, (r : Int)⟩) = some (form (L, r)) := by
 have h24 : 1099511627776 ≤ k := hk; unfold D_Bytes.f
 simp only [Option.isNone_some, Bool.false_eq_true, if_false, oB, List.length_map]
 rw [wr (n := 400 * (L.length : Int)) (by omega) (by omega), wr (by omega) (by omega)]; have hf : ∀ n, (fm n).length ≤ 10 := fun n => by rw [fm_len]; exact (nm_le n).2
 have f1 := hf r; have f2 := hf L.length; have e1 : d1_New.f (30 + 400 * (L.length : Int)) = some (W1 (30 + 400 * (L.length : Int)) []) := by
  unfold d1_New.f d1_New.j1; rw [if_neg (by omega)]
 rw [be e1, wru (n := (r : Int)) (by omega) (by omega), be (rNum_eq hk (by omega) (by simp; omega) (by omega)), wru (n := (L.length : Int)) (by omega) (by omega), be (rNum_eq hk (by omega) (by simp; omega) (by omega))]; have hI' : ∀ e ∈ L, e.1.size ≤ 64 ∧ e.2.value.length ≤ 256 := fun e he => ⟨(hI e he).2.1, (hI e he).2.2.1⟩; obtain ⟨room, hroom⟩ : ∃ room, room = 30 + 400 * (L.length : Int) := ⟨_, rfl⟩; obtain ⟨hd, hhd⟩ : ∃ hd, hd = [] ++ fm r ++ fm L.length := ⟨_, rfl⟩; have lhd : hd.length ≤ 20 := by rw [hhd]; simp; omega
 rw [← hroom, ← hhd]; have e : loop (fun (s_ : (Option Wr1) × Int) => D_Bytes.b1 k ⟨L.map rowOf, (r : Int)⟩ s_.1 s_.2) k (W1 room hd, 0) = some (W1 room (hd ++ L.flatMap ef)) := by
  have e0 : (W1 room hd, (0 : Int)) = (W1 room (hd ++ (L.take 0).flatMap ef), ((0 : Nat) : Int)) := by simp
  rw [e0]; refine oa_count (s := fun i : Nat => (W1 room (hd ++ (L.take i).flatMap ef), (i : Int))) (N := L.length) (by omega) (fun i hi => ?_) ?_
  ·simp only
   unfold D_Bytes.b1; have hm := hI L[i] (List.getElem_mem hi); have hfl := flat_le (M := L.take i) fun e he => hI' e (List.mem_of_mem_take he); have hfi : (L.take i).length = i := by simp; omega
   have g1 := hf (sb L[i].1).length; have g2 := hf L[i].2.value.length; have g3 := hf L[i].2.rev.toNat; have gs := sb_len L[i].1; rw [if_pos (by simp; omega), if_pos (by simp; omega), rd_map hi]; rw [be (rText_eq hk (a := (rowOf L[i]).Key) (by simp only [rowOf, lA]; omega) (by omega)), if_pos (by simp; omega)]; rw [be (rText_eq hk (a := (rowOf L[i]).Value) (by simp only [rowOf, lA]; omega) (by omega)), if_pos (by simp; omega)]; have er : IntKind.u64.wrap (rowOf L[i]).Rev = ((L[i].2.rev.toNat : Nat) : Int) := by
    show IntKind.u64.wrap L[i].2.rev = _
    rw [wru (by omega) (by omega)]; omega
   rw [er, be (rNum_eq hk (by omega) (by simp only [rowOf, lA]; omega) (by omega)), wrS i (by omega), take_succ' hi, List.flatMap_append]
   simp only [List.flatMap_cons, List.flatMap_nil, List.append_nil]
   congr 4
   show _ = hd ++ ((L.take i).flatMap ef ++ ef L[i])
   unfold ef rowOf
   simp only [List.append_assoc, sb_len]
  ·simp only
   unfold D_Bytes.b1; rw [if_neg (by simp), List.take_length]
 rw [be e]; unfold D_Bytes.j2; have hfl := flat_le (M := L) hI'; rw [be (rDone_eq hk (by rw [lA]; omega))]; rw [hhd]; rfl
def rs1 (p : List Int) (a : Nat) (f : Int) : Rd1 := ⟨p, (a : Int), [(p.length : Int)], f⟩
theorem rleft_eq {p : List Int} {a : Nat} {f : Int} (ha : a ≤ p.length) (hl : p.length < 1000000000000) : r1_left.f (some (rs1 p a f)) = some ((p.length : Int) - (a : Int)) := by
 unfold r1_left.f rs1
 simp only [oB, List.length_cons, List.length_nil]
 rw [if_pos (by decide)]
 show some (IntKind.i64.wrap ((p.length : Int) - (a : Int))) = _
 rw [wr (by omega) (by omega)]
theorem rbytes_no {k : Nat} {p : List Int} {a n : Nat} (ha : a ≤ p.length) (hl : p.length < 1000000000000) (h : p.length - a < n) : r1_bytes.f k (some (rs1 p a 0)) (n : Int) = some ([], some (rs1 p a 10)) := by
 unfold r1_bytes.f; rw [be (rleft_eq ha hl), if_pos (by omega)]; rfl
theorem rbytes_yes {k : Nat} (hk : Fuel k) {p : List Int} {a n : Nat} (ha : a + n ≤ p.length) (hl : p.length < 1000000000000) : r1_bytes.f k (some (rs1 p a 0)) (n : Int) = some ((p.drop a).take n, some (rs1 p (a + n) 0)) := by
 have h24 : 1099511627776 ≤ k := hk; unfold r1_bytes.f; rw [be (rleft_eq (by omega) hl), if_neg (by omega)]; have e : loop (fun (s_ : (List Int) × Int) => r1_bytes.b1 (some (rs1 p a 0)) (n : Int) s_.1 s_.2) k ([], 0) = some ((p.drop a).take n) := by
  have e0 : (([] : List Int), (0 : Int)) = ((p.drop a).take 0, ((0 : Nat) : Int)) := by simp
  rw [e0]; refine oa_count (s := fun i : Nat => ((p.drop a).take i, (i : Int))) (N := n) (by omega) (fun i hi => ?_) ?_
  ·simp only
   unfold r1_bytes.b1 rs1
   simp only [oB]
   have hd : i < (p.drop a).length := by simp; omega
   rw [if_pos (by omega), wr (by omega) (by omega), if_pos (by omega), if_pos (by simp; omega), wrS i (by omega), show (a : Int) + (i : Int) = ((a + i : Nat) : Int) from by omega, rd_eq (by omega), take_succ' hd, List.getElem_drop]
  ·simp only
   unfold r1_bytes.b1; rw [if_neg (by omega)]
 rw [be e]; unfold r1_bytes.j2 rs1
 simp only [oB]
 rw [wr (by omega) (by omega), show (a : Int) + (n : Int) = ((a + n : Nat) : Int) from by omega]
def NumR (p : List Int) (a k n : Nat) (v : Int) (r : Rd1) : Prop := ∃ (a' : Nat) (f : Int), r = rs1 p a' f ∧ a ≤ a' ∧ a' ≤ p.length ∧
 ((f ≠ 0 ∧ v = 0 ∧ ∀ m rest, rnum 0 (p.drop a) k (n : Int) ≠ .inr (m, rest, 0)) ∨ (f = 0 ∧ a < a' ∧ rnum 0 (p.drop a) k (n : Int) = .inr (v, p.drop a', 0)))
theorem pow64 {k : Nat} (h : k ≤ 9) : 2 ^ (7 * k) ≤ 9223372036854775808 := by
 have : 2 ^ (7 * k) ≤ 2 ^ 63 := Nat.pow_le_pow_right (by decide) (by omega)
 simpa using this
theorem acc_ref {k n c : Nat} (hk : k ≤ 9) (hc : c ≤ 255) (hn : n < 2 ^ (7 * k)) (ht : n + c % 128 * 2 ^ (7 * k) < 2 ^ 64) :
  IntKind.u64.wrap ((n : Int) + IntKind.u64.wrap (((2 ^ (7 * k) : Nat) : Int) * IntKind.u64.wrap (Int.tmod (c : Int) 128))) = acc k (n : Int) (c : Int) := by
 have e : Int.tmod (c : Int) 128 = ((c % 128 : Nat) : Int) := by rw [Int.tmod_eq_emod_of_nonneg (by omega)]; omega
 rw [acc_eq hk hc hn ht, e, wr64 (by omega : c % 128 < 2 ^ 64), ← Int.natCast_mul, Nat.mul_comm (2 ^ (7 * k)), wr64 (by omega), ← Int.natCast_add, wr64 ht]
theorem rnumber_loop {k0 : Nat} (hk0 : Fuel k0) {p : List Int} (hb : bytesR p) (hl : p.length < 1000000000000) : ∀ (j k n a m : Nat), k + j = 9 → n < 2 ^ (7 * k) → a ≤ p.length → j < m →
  ∃ v r, loop (fun (s_ : (Option Rd1) × Int × Int × Int) => r1_number.b3 k0 s_.1 s_.2.1 s_.2.2.1 s_.2.2.2) m (some (rs1 p a 0), (n : Int), ((2 ^ (7 * k) : Nat) : Int), (k : Int)) = some (.inr (v, some r)) ∧ NumR p a k n v r := by
 intro j
 induction j with
 | zero =>
  intro k n a m hkj hn ha hm; obtain rfl : k = 9 := by omega
  obtain ⟨m, rfl⟩ : ∃ q, m = q + 1 := ⟨m - 1, by omega⟩
  by_cases hs : a < p.length
  ·have hd : p.drop a = p[a] :: p.drop (a + 1) := List.drop_eq_getElem_cons hs
   obtain ⟨c0, c1⟩ := hb p[a] (List.getElem_mem hs); obtain ⟨c, hc⟩ := Int.eq_ofNat_of_zero_le c0; rw [hc] at hd c1; have eb : r1_bytes.f k0 (some (rs1 p a 0)) 1 = some ([(c : Int)], some (rs1 p (a + 1) 0)) := by
    have := rbytes_yes hk0 (p := p) (a := a) (n := 1) (by omega) hl; rw [hd] at this; simpa using this
   by_cases bad : 1 < (c : Int) ∨ (c : Int) = 0
   ·refine ⟨0, rs1 p (a + 1) 11, loop_done ?_, a + 1, 11, rfl, by omega, by omega, .inl ⟨by decide, rfl, fun m rest h => ?_⟩⟩
    ·simp only
     unfold r1_number.b3; rw [if_pos (by decide), be eb]
     simp only [oB, rs1, if_true]
     rw [if_pos (by simp), if_pos (by decide)]
     show (if 1 < (c : Int) then _ else _) = _
     by_cases b1 : 1 < (c : Int)
     ·rw [if_pos b1]; rfl
     ·rw [if_neg b1]
      have b0 : (c : Int) = 0 := bad.resolve_left b1
      show (if (c : Int) = 0 then _ else _) = _
      rw [if_pos b0]; rfl
    ·rw [hd, rnum_cons, if_pos (by omega)] at h; cases h
   ·have c1' : c = 1 := by omega
    subst c1'; have ht : n + 1 % 128 * 2 ^ (7 * 9) < 2 ^ 64 := by
     have : n < 2 ^ 63 := hn; have e2 : (2 : Nat) ^ (7 * 9) = 9223372036854775808 := by decide
     have e3 : (2 : Nat) ^ 63 = 9223372036854775808 := by decide
     have e4 : (2 : Nat) ^ 64 = 18446744073709551616 := by decide
     omega
    refine ⟨acc 9 n 1, rs1 p (a + 1) 0, loop_done ?_, a + 1, 0, rfl, by omega, by omega, .inr ⟨rfl, by omega, ?_⟩⟩
    ·simp only
     unfold r1_number.b3; rw [if_pos (by decide), be eb]
     simp only [oB, rs1, if_true]
     rw [if_pos (by simp), if_pos (by decide)]
     show r1_number.j2 ([1], _) n _ 9 false = _
     unfold r1_number.j2; rw [if_neg (by simp)]
     show (if (1 : Int) < 128 then some (Ctl.done (Sum.inr (IntKind.u64.wrap ((n : Int) + IntKind.u64.wrap (((2 ^ (7 * 9) : Nat) : Int) * IntKind.u64.wrap (Int.tmod ((1 : Nat) : Int) 128))), _))) else _) = _
     rw [if_pos (by decide), acc_ref (by omega) (by omega) hn ht]; rfl
    ·rw [hd, rnum_cons, if_neg (by omega), if_pos (by decide)]; rfl
  ·refine ⟨0, rs1 p a 10, loop_done ?_, a, 10, rfl, Nat.le_refl _, ha, .inl ⟨by decide, rfl, fun m rest h => ?_⟩⟩
   ·simp only
    unfold r1_number.b3; have eb : r1_bytes.f k0 (some (rs1 p a 0)) 1 = some ([], some (rs1 p a 10)) := rbytes_no (k := k0) (p := p) (a := a) (n := 1) ha hl (by omega); rw [if_pos (by decide), be eb]
    simp only [oB, rs1]
    rw [if_neg (by decide)]
   ·rw [List.drop_of_length_le (by omega), rnum_nil] at h; cases h
 | succ j ih =>
  intro k n a m hkj hn ha hm; obtain ⟨m, rfl⟩ : ∃ q, m = q + 1 := ⟨m - 1, by omega⟩; have k8 : k ≤ 8 := by omega
  by_cases hs : a < p.length
  ·have hd : p.drop a = p[a] :: p.drop (a + 1) := List.drop_eq_getElem_cons hs
   obtain ⟨c0, c1⟩ := hb p[a] (List.getElem_mem hs); obtain ⟨c, hc⟩ := Int.eq_ofNat_of_zero_le c0; rw [hc] at hd c1; have c255 : c ≤ 255 := by omega
   have eb : r1_bytes.f k0 (some (rs1 p a 0)) 1 = some ([(c : Int)], some (rs1 p (a + 1) 0)) := by
    have := rbytes_yes hk0 (p := p) (a := a) (n := 1) (by omega) hl; rw [hd] at this; simpa using this
   have ht : n + c % 128 * 2 ^ (7 * k) < 2 ^ 64 := k9 (by omega) hn (by omega) (by omega); have hstep : r1_number.b3 k0 (some (rs1 p a 0)) (n : Int) ((2 ^ (7 * k) : Nat) : Int) (k : Int) = r1_number.j2 ([(c : Int)], some (rs1 p (a + 1) 0)) (n : Int) ((2 ^ (7 * k) : Nat) : Int) (k : Int) (decide ((c : Int) = 0) && decide (0 < (k : Int))) := by
    unfold r1_number.b3; rw [if_pos (by omega), be eb]
    simp only [oB, rs1, if_true]
    rw [if_pos (by simp), if_neg (by omega)]
    show (if (c : Int) = 0 then _ else _) = _
    by_cases z : (c : Int) = 0
    ·rw [if_pos z, dt z, Bool.true_and]
    ·rw [if_neg z, dz z, Bool.false_and]
   by_cases bad : 0 < k ∧ (c : Int) = 0
   ·refine ⟨0, rs1 p (a + 1) 11, loop_done ?_, a + 1, 11, rfl, by omega, by omega, .inl ⟨by decide, rfl, fun m rest h => ?_⟩⟩
    ·simp only
     rw [hstep, dt bad.2, dt (show 0 < (k : Int) by omega)]; rfl
    ·rw [hd, rnum_cons, if_pos (.inr bad)] at h; cases h
   ·have hf : (decide ((c : Int) = 0) && decide (0 < (k : Int))) = false := by
     rw [Bool.and_eq_false_iff, decide_eq_false_iff_not, decide_eq_false_iff_not]; omega
    have hb9 : ¬ ((k = 9 ∧ 1 < (c : Int)) ∨ (0 < k ∧ (c : Int) = 0)) := by omega
    have hval : IntKind.u64.wrap ((n : Int) + IntKind.u64.wrap (((2 ^ (7 * k) : Nat) : Int) * IntKind.u64.wrap (Int.tmod (c : Int) 128))) = acc k (n : Int) (c : Int) := acc_ref (by omega) c255 hn ht
    by_cases c128 : (c : Int) < 128
    ·refine ⟨acc k n c, rs1 p (a + 1) 0, loop_done ?_, a + 1, 0, rfl, by omega, by omega, .inr ⟨rfl, by omega, ?_⟩⟩
     ·simp only
      rw [hstep, hf]; unfold r1_number.j2; rw [if_neg (by simp)]
      show (if (c : Int) < 128 then some (Ctl.done (Sum.inr (IntKind.u64.wrap ((n : Int) + IntKind.u64.wrap (((2 ^ (7 * k) : Nat) : Int) * IntKind.u64.wrap (Int.tmod (c : Int) 128))), _))) else _) = _
      rw [if_pos c128, hval]
     ·rw [hd, rnum_cons, if_neg hb9, if_pos c128]
    ·have hn' : n + c % 128 * 2 ^ (7 * k) < 2 ^ (7 * (k + 1)) := by rw [pow_step]; exact small hn (by omega)
     obtain ⟨v, r, e, a', f, hr, h1, h2, h3⟩ := ih (k + 1) (n + c % 128 * 2 ^ (7 * k)) (a + 1) m (by omega) hn' (by omega) (by omega); have hw : IntKind.u64.wrap (128 * ((2 ^ (7 * k) : Nat) : Int)) = ((2 ^ (7 * (k + 1)) : Nat) : Int) := by
      have := pow64 (k := k + 1) (by omega); rw [show (128 : Int) * ((2 ^ (7 * k) : Nat) : Int) = ((128 * 2 ^ (7 * k) : Nat) : Int) by rw [Int.natCast_mul]; rfl, ← pow_step, wr64 (by omega)]
     have hacc : acc k (n : Int) (c : Int) = ((n + c % 128 * 2 ^ (7 * k) : Nat) : Int) := acc_eq (by omega) c255 hn ht; refine ⟨v, r, ?_, a', f, hr, by omega, h2, ?_⟩
     ·rw [loop_next (s' := (some (rs1 p (a + 1) 0), ((n + c % 128 * 2 ^ (7 * k) : Nat) : Int), ((2 ^ (7 * (k + 1)) : Nat) : Int), ((k + 1 : Nat) : Int)))]
      ·exact e
      ·simp only
       rw [hstep, hf]; unfold r1_number.j2; rw [if_neg (by simp)]
       show (if (c : Int) < 128 then _ else some (Ctl.next (some (rs1 p (a + 1) 0), IntKind.u64.wrap ((n : Int) + IntKind.u64.wrap (((2 ^ (7 * k) : Nat) : Int) * IntKind.u64.wrap (Int.tmod (c : Int) 128))), IntKind.u64.wrap (128 * ((2 ^ (7 * k) : Nat) : Int)), IntKind.i64.wrap ((k : Int) + 1)))) = _
       rw [if_neg c128, hval, hw, hacc, wrS k (by omega)]
     ·rw [hd, rnum_cons, if_neg hb9, if_neg c128, hacc]
      rcases h3 with ⟨g1, g2, g3⟩ | ⟨g1, g2, g3⟩
      ·exact .inl ⟨g1, g2, g3⟩
      ·exact .inr ⟨g1, by omega, g3⟩
  ·refine ⟨0, rs1 p a 10, loop_done ?_, a, 10, rfl, Nat.le_refl _, ha, .inl ⟨by decide, rfl, fun m rest h => ?_⟩⟩
   ·simp only
    unfold r1_number.b3; have eb : r1_bytes.f k0 (some (rs1 p a 0)) 1 = some ([], some (rs1 p a 10)) := rbytes_no (k := k0) (p := p) (a := a) (n := 1) ha hl (by omega); rw [if_pos (by omega), be eb]
    simp only [oB, rs1]
    rw [if_neg (by decide)]
   ·rw [List.drop_of_length_le (by omega), rnum_nil] at h; cases h
theorem rnumber_eq {k : Nat} (hk : Fuel k) {p : List Int} (hb : bytesR p) (hl : p.length < 1000000000000) {a : Nat} (ha : a ≤ p.length) :
  ∃ v a' f, r1_number.f k (some (rs1 p a 0)) = some (v, some (rs1 p a' f)) ∧ a ≤ a' ∧ a' ≤ p.length ∧
   ((f ≠ 0 ∧ v = 0 ∧ ∀ m rest, m < 2 ^ 64 → p.drop a ≠ fm m ++ rest) ∨ (f = 0 ∧ a < a' ∧ ∃ m : Nat, v = (m : Int) ∧ m < 2 ^ 64 ∧ p.drop a = fm m ++ p.drop a')) := by
 have h24 : 1099511627776 ≤ k := hk; obtain ⟨v, r, e, a', f, rfl, h1, h2, h3⟩ := rnumber_loop hk hb hl 9 0 0 a k (by omega) (by decide) ha (by omega); have hbd : bytesR (p.drop a) := fun c hc => hb c (List.mem_of_mem_drop hc); refine ⟨v, a', f, ?_, h1, h2, ?_⟩
 ·unfold r1_number.f
  have e' : loop (fun (s_ : (Option Rd1) × Int × Int × Int) => r1_number.b3 k s_.1 s_.2.1 s_.2.2.1 s_.2.2.2) k (some (rs1 p a 0), 0, 1, 0) = some (.inr (v, some (rs1 p a' f))) := e; rw [be e']
 ·rcases h3 with ⟨g1, g2, g3⟩ | ⟨g1, g2, g3⟩
  ·refine .inl ⟨g1, g2, fun m rest hm he => ?_⟩
   have := rnum_form hm rest; rw [← he] at this; exact g3 _ _ this
  ·refine .inr ⟨g1, g2, ?_⟩
   rcases rnum_inv (p.drop a) 0 0 hbd (by omega) (by decide) with ⟨l', e1⟩ | ⟨rest, e1⟩ | ⟨m, rest, e1, -, ht, hl'⟩
   ·rw [e1] at g3; cases g3
   ·rw [e1] at g3; cases g3
   ·rw [e1] at g3
    injection g3 with g4
    have g5 : ((0 + m * 2 ^ (7 * 0) : Nat) : Int) = v := congrArg (·.1) g4; have g6 : rest = p.drop a' := congrArg (·.2.1) g4; refine ⟨m, by rw [← g5]; simp, by simpa using ht, ?_⟩; rw [hl', ← g6]; unfold fm; rw [List.append_assoc]; rfl
theorem rNum_any {k : Nat} (hk : Fuel k) {p : List Int} (hb : bytesR p) (hl : p.length < 1000000000000) {a : Nat} (ha : a ≤ p.length) {f0 : Int} :
  ∃ v a' f, r1_Num.f k (some (rs1 p a f0)) = some (v, some (rs1 p a' f)) ∧ a ≤ a' ∧ a' ≤ p.length ∧ 0 ≤ v ∧ (f0 ≠ 0 → f = f0) ∧
   (f0 = 0 → ((f ≠ 0 ∧ ∀ m rest, m < 2 ^ 64 → p.drop a ≠ fm m ++ rest) ∨ (f = 0 ∧ a < a' ∧ ∃ m : Nat, v = (m : Int) ∧ m < 2 ^ 64 ∧ p.drop a = fm m ++ p.drop a'))) := by
 unfold r1_Num.f r1_dead.f
 by_cases c : f0 = 0
 ·subst c
  obtain ⟨v, a', f, e, h1, h2, h3⟩ := rnumber_eq hk hb hl ha; refine ⟨v, a', f, ?_, h1, h2, ?_, fun h => absurd rfl h, fun _ => h3.imp (fun h => ⟨h.1, h.2.2⟩) id⟩
  ·simp only [Option.isNone_some, Bool.false_eq_true, if_false, oB, rs1, decide_true, Bool.not_true]
   exact be e
  ·rcases h3 with ⟨-, g, -⟩ | ⟨-, -, m, g, -⟩ <;> omega
 ·refine ⟨0, a, f0, ?_, Nat.le_refl _, ha, Int.le_refl 0, fun _ => rfl, fun h => absurd h c⟩
  simp [rs1, c]
theorem rText_any {k : Nat} (hk : Fuel k) {p : List Int} (hb : bytesR p) (hl : p.length < 1000000000000) {a : Nat} (ha : a ≤ p.length) {f0 : Int} {most : Nat} (hm : most ≤ 1000000) :
  ∃ v a' f, r1_Text.f k (some (rs1 p a f0)) (most : Int) = some (v, some (rs1 p a' f)) ∧ a ≤ a' ∧ a' ≤ p.length ∧ bytesR v ∧ v.length ≤ p.length ∧ (f0 ≠ 0 → f = f0) ∧
   (f0 = 0 → ((f ≠ 0 ∧ ∀ (u rest : List Int), u.length ≤ most → p.drop a ≠ fm u.length ++ (u ++ rest)) ∨ (f = 0 ∧ a < a' ∧ v.length ≤ most ∧ p.drop a = fm v.length ++ (v ++ p.drop a')))) := by
 have bnil : bytesR [] := fun c hc => by cases hc
 unfold r1_Text.f r1_dead.f
 by_cases c : f0 = 0
 ·subst c
  simp only [Option.isNone_some, Bool.false_eq_true, if_false, oB, rs1, decide_true, Bool.not_true]
  rw [if_neg (by omega)]; unfold r1_Text.j1; obtain ⟨v, a1, f1, e, h1, h2, h3⟩ := rnumber_eq hk hb hl ha; have e' := e; unfold rs1 at e'; rw [be e']
  simp only [oB]
  rcases h3 with ⟨g1, g2, g3⟩ | ⟨g1, g2, m, g3, g4, g5⟩
  ·refine ⟨[], a1, f1, by rw [if_neg g1], h1, h2, bnil, by simp, fun h => absurd rfl h, fun _ => .inl ⟨g1, fun u rest hu he => ?_⟩⟩
   exact g3 u.length (u ++ rest) (by omega) he
  ·subst g1
   rw [if_pos rfl, wru (n := (most : Int)) (by omega) (by omega)]
   by_cases big : (most : Int) < v
   ·refine ⟨[], a1, 11, by rw [if_pos big], h1, h2, bnil, by simp, fun h => absurd rfl h, fun _ => .inl ⟨by decide, fun u rest hu he => ?_⟩⟩
    have hE := rnum_form (m := m) g4 (p.drop a1); have hE2 := rnum_form (m := u.length) (by omega) (u ++ rest); rw [← g5] at hE; rw [← he] at hE2; rw [hE] at hE2
    injection hE2 with q
    have : (m : Int) = (u.length : Int) := congrArg (·.1) q
    omega
   ·rw [if_neg big, g3, wr (n := (m : Int)) (by omega) (by omega)]
    have hE := rnum_form (m := m) g4 (p.drop a1); rw [← g5] at hE
    by_cases short : p.length - a1 < m
    ·have eb := rbytes_no (k := k) (p := p) (a := a1) (n := m) h2 hl short
     unfold rs1 at eb; refine ⟨[], a1, 10, by rw [be eb], h1, h2, bnil, by simp, fun h => absurd rfl h, fun _ => .inl ⟨by decide, fun u rest hu he => ?_⟩⟩; have hE2 := rnum_form (m := u.length) (by omega) (u ++ rest); rw [← he, hE] at hE2
     injection hE2 with q
     have q1 : (m : Int) = (u.length : Int) := congrArg (·.1) q; have q2 : p.drop a1 = u ++ rest := congrArg (·.2.1) q; have := congrArg List.length q2
     simp at this; omega
    ·have eb := rbytes_yes hk (p := p) (a := a1) (n := m) (by omega) hl
     unfold rs1 at eb; have hvl : ((p.drop a1).take m).length = m := by simp; omega
     refine ⟨(p.drop a1).take m, a1 + m, 0, by rw [be eb], by omega, by omega, fun c hc => hb c (List.mem_of_mem_drop (List.mem_of_mem_take hc)), by omega, fun h => absurd rfl h, fun _ => .inr ⟨rfl, by omega, by omega, ?_⟩⟩; rw [hvl, g5, ← List.drop_drop, List.take_append_drop]
 ·refine ⟨[], a, f0, ?_, Nat.le_refl _, ha, bnil, by simp, fun _ => rfl, fun h => absurd h c⟩
  simp [rs1, c]
def cmpL : List Int → List Int → Int
 | [], [] => 0
 | [], _ :: _ => -1
 | _ :: _, [] => 1
 | x :: a, y :: b => if x < y then -1 else if y < x then 1 else cmpL a b
theorem order_loop (a b : List Int) (hl : a.length < 1000000000000) : ∀ (n i m : Nat), i + n = a.length → n < m → i ≤ b.length →
  (∃ v, loop (fun (s_ : Int) => d3_order.b2 a b s_) m (i : Int) = some (.inr v) ∧ cmpL (a.drop i) (b.drop i) = v) ∨
  (loop (fun (s_ : Int) => d3_order.b2 a b s_) m (i : Int) = some (.inl ()) ∧ d3_order.j3 a b = some (cmpL (a.drop i) (b.drop i)))
 | _, _, 0, _, h, _ => absurd h (by omega)
 | 0, i, m + 1, h, _, hb => by
  right
  refine ⟨loop_done ?_, ?_⟩
  ·unfold d3_order.b2 d3_order.j1; rw [if_neg (by omega), if_neg (by simp)]
  ·rw [List.drop_of_length_le (by omega : a.length ≤ i)]
   unfold d3_order.j3
   by_cases c : i < b.length
   ·rw [List.drop_eq_getElem_cons c, if_pos (by omega)]; rfl
   ·rw [List.drop_of_length_le (by omega), if_neg (by omega), if_neg (by omega)]; rfl
 | n + 1, i, m + 1, h, hm, hb => by
  have hi : i < a.length := by omega
  rw [List.drop_eq_getElem_cons hi]
  by_cases c : i < b.length
  ·rw [List.drop_eq_getElem_cons c]
   have hstep : d3_order.b2 a b (i : Int) = if a[i] < b[i] then some (.done (.inr (-1))) else if b[i] < a[i] then some (.done (.inr 1)) else some (.next ((i + 1 : Nat) : Int)) := by
    unfold d3_order.b2 d3_order.j1; rw [if_pos (by omega), dt (by omega), if_pos rfl, if_pos (by omega), if_pos (by omega), rd_eq hi, rd_eq c]
    by_cases c1 : a[i] < b[i]
    ·rw [if_pos c1, if_pos c1]
    ·rw [if_neg c1, if_neg c1, if_pos (by omega), if_pos (by omega), wrS i (by omega)]
   unfold cmpL
   by_cases c1 : a[i] < b[i]
   ·left; exact ⟨-1, loop_done (by rw [hstep, if_pos c1]), by rw [if_pos c1]⟩
   ·by_cases c2 : b[i] < a[i]
    ·left; exact ⟨1, loop_done (by rw [hstep, if_neg c1, if_pos c2]), by rw [if_neg c1, if_pos c2]⟩
    ·rw [if_neg c1, if_neg c2, loop_next (s' := ((i + 1 : Nat) : Int)) (by rw [hstep, if_neg c1, if_neg c2])]
     exact order_loop a b hl n (i + 1) m (by omega) (by omega) (by omega)
  ·right
   rw [List.drop_of_length_le (by omega : b.length ≤ i)]; refine ⟨loop_done ?_, ?_⟩
   ·unfold d3_order.b2 d3_order.j1
    rw [if_pos (by omega), dz (by omega), if_neg (by simp)]
   ·unfold d3_order.j3
    rw [if_neg (by omega), if_pos (by omega)]; rfl
theorem order_eq {k : Nat} (hk : Fuel k) (a b : List Int) (hl : a.length < 1000000000) : d3_order.f k a b = some (cmpL a b) := by
 have h24 : 1099511627776 ≤ k := hk; unfold d3_order.f
 rcases order_loop a b (by omega) a.length 0 k (by omega) (by omega) (by omega) with ⟨v, e, hv⟩ | ⟨e, hv⟩
 ·have e' : loop (fun (s_ : Int) => d3_order.b2 a b s_) k 0 = some (.inr v) := e
  rw [be e']; simp only; rw [← hv]; rfl
 ·have e' : loop (fun (s_ : Int) => d3_order.b2 a b s_) k 0 = some (.inl ()) := e
  rw [be e']; exact hv
theorem cmpL_lt : ∀ a b : List Int, brange a → brange b → (0 ≤ cmpL a b ↔ Op.bytesLess (a.map fun n => UInt8.ofNat n.toNat) (b.map fun n => UInt8.ofNat n.toNat) = false)
 | [], [], _, _ => by simp [cmpL, Op.bytesLess]
 | [], _ :: _, _, _ => by simp [cmpL, Op.bytesLess]
 | _ :: _, [], _, _ => by simp [cmpL, Op.bytesLess]
 | x :: a, y :: b, ha, hb => by
  have ih := cmpL_lt a b (fun n hn => ha n (by simp [hn])) (fun n hn => hb n (by simp [hn])); obtain ⟨x0, x1⟩ := ha x (by simp); obtain ⟨y0, y1⟩ := hb y (by simp); obtain ⟨m, rfl⟩ := Int.eq_ofNat_of_zero_le x0; obtain ⟨n, rfl⟩ := Int.eq_ofNat_of_zero_le y0; have em : (UInt8.ofNat m).toNat = m := by rw [UInt8.toNat_ofNat']; omega
  have en : (UInt8.ofNat n).toNat = n := by rw [UInt8.toNat_ofNat']; omega
  unfold cmpL
  simp only [List.map_cons, Int.toNat_natCast, Op.bytesLess, Bool.or_eq_false_iff, Bool.and_eq_false_iff, decide_eq_false_iff_not, beq_eq_false_iff_ne, UInt8.lt_iff_toNat_lt, em, en, ne_eq]
  have eq : (UInt8.ofNat m = UInt8.ofNat n) ↔ m = n := ⟨fun h => by rw [← em, ← en, h], fun h => by rw [h]⟩; rw [eq]
  by_cases c1 : (m : Int) < n
  ·rw [if_pos c1]; constructor
   ·intro h; omega
   ·intro h; omega
  ·rw [if_neg c1]
   by_cases c2 : (n : Int) < m
   ·rw [if_pos c2]; constructor
    ·intro _; exact ⟨by omega, .inl (by omega)⟩
    ·intro _; omega
   ·rw [if_neg c2, ih]; constructor
    ·intro h; exact ⟨by omega, .inr h⟩
    ·intro h; exact h.2.resolve_left (fun q => q (by omega))
theorem cmpL_ge {a b : List Int} (ha : brange a) (hb : brange b) : decide (0 ≤ cmpL a b) = !lt (bs a) (bs b) := by
 unfold lt; rw [bs_toList, bs_toList]; have := cmpL_lt a b ha hb
 by_cases c : 0 ≤ cmpL a b
 ·rw [dt c, this.1 c]; rfl
 ·rw [dz c]
  cases h : Op.bytesLess (a.map fun n => UInt8.ofNat n.toNat) (b.map fun n => UInt8.ofNat n.toNat) with
  | true => rfl
  | false => exact absurd (this.2 h) c
def rowIn (row : AW) : Prop := bytesR row.Key ∧ bytesR row.Value ∧ -9223372036854775808 ≤ row.Rev ∧ row.Rev ≤ 9223372036854775807 ∧ row.Key.length < 1000000000
def rowGood (rev : Int) (row : AW) : Prop := 1 ≤ row.Key.length ∧ row.Key.length ≤ 64 ∧ row.Value.length ≤ 256 ∧ 1 ≤ row.Rev ∧ row.Rev ≤ rev
structure UpTo (rev : Int) (R : List AW) (i : Nat) : Prop where
 good : ∀ q (h : q < R.length), q < i → rowGood rev R[q]
 dis : ∀ q q' (h : q < R.length) (h' : q' < R.length), q' < q → q < i → R[q'].Rev ≠ R[q].Rev
 ord : ∀ q (h : q < R.length) (h' : q - 1 < R.length), 0 < q → q < i → lt (bs R[q - 1].Key) (bs R[q].Key) = true
structure Seen (R : List AW) (i : Nat) (o : MpV Bool) : Prop where
 n : o.n = i
 f : ∀ x, (o.f x).getD false = true ↔ ∃ q, ∃ h : q < R.length, q < i ∧ R[q].Rev = x
theorem brange_of {l : List Int} (h : bytesR l) : brange l := h
theorem sound_step {k : Nat} (hk : Fuel k) {R : List AW} {rev : Int} (hin : ∀ r ∈ R, rowIn r) (hl : R.length < 1000000000) {i : Nat} (hi : i < R.length) {o : MpV Bool} (hS : Seen R i o) (hU : UpTo rev R i) :
  (∃ o', d3_Sound.b6 k ⟨R, rev⟩ o (i : Int) = some (.next (o', ((i + 1 : Nat) : Int))) ∧ Seen R (i + 1) o' ∧ UpTo rev R (i + 1)) ∨
  (d3_Sound.b6 k ⟨R, rev⟩ o (i : Int) = some (.done (.inr false)) ∧ ¬ UpTo rev R R.length) := by
 have hI := hin R[i] (List.getElem_mem hi); have hno : ∀ b, d3_Sound.j4 k ⟨R, rev⟩ o (i : Int) b = if b = true then some (.done (.inr false)) else d3_Sound.j4 k ⟨R, rev⟩ o (i : Int) false := by
  intro b; cases b
  ·simp
  ·rfl
 have bad : ∀ (h : ¬ rowGood rev R[i]), ¬ UpTo rev R R.length := fun h hu => h (hu.good i hi hi); unfold d3_Sound.b6
 simp only
 rw [if_pos (by omega), if_pos (by omega), rd_eq hi]
 by_cases c1 : (R[i].Key.length : Int) < 1
 ·rw [if_pos c1]; exact .inr ⟨rfl, bad fun h => by have := h.1; omega⟩
 rw [if_neg c1]
 by_cases c2 : 64 < (R[i].Key.length : Int)
 ·rw [if_pos c2]; exact .inr ⟨rfl, bad fun h => by have := h.2.1; omega⟩
 rw [if_neg c2]
 by_cases c3 : 256 < (R[i].Value.length : Int)
 ·rw [if_pos c3]; exact .inr ⟨rfl, bad fun h => by have := h.2.2.1; omega⟩
 rw [if_neg c3]
 by_cases c4 : R[i].Rev < 1
 ·rw [if_pos c4]; exact .inr ⟨rfl, bad fun h => by have := h.2.2.2.1; omega⟩
 rw [if_neg c4]
 by_cases c5 : rev < R[i].Rev
 ·rw [if_pos c5]; exact .inr ⟨rfl, bad fun h => by have := h.2.2.2.2; omega⟩
 rw [if_neg c5]; have wf : (Lit.int .i64 R[i].Rev).wf = true := by
  have := hI.2.2; simp [Lit.wf, IntKind.min, IntKind.max, IntKind.signed, IntKind.bits]; omega
 rw [if_pos wf]
 cases hs : (o.f R[i].Rev).getD false with
 | true =>
  right
  refine ⟨rfl, fun hu => ?_⟩; obtain ⟨q, hq, hqi, e⟩ := (hS.f _).1 hs; exact hu.dis i q hi hq hqi hi e
 | false =>
  have hnew : ∀ q (h : q < R.length), q < i → R[q].Rev ≠ R[i].Rev := fun q h hqi e => by
   have := (hS.f R[i].Rev).2 ⟨q, h, hqi, e⟩; rw [hs] at this; cases this
  unfold d3_Sound.j4
  simp only
  rw [if_neg (by simp), if_pos ⟨by rw [rd_eq hi]; exact wf, by rw [hS.n]; omega⟩]; have hgood : rowGood rev R[i] := ⟨by omega, by omega, by omega, by omega, by omega⟩; have hS' : Seen R (i + 1) ⟨fun i_ => if i_ = (rd R (i : Int)).Rev then some true else o.f i_, o.n + 1⟩ := by
   refine ⟨by show o.n + 1 = i + 1; rw [hS.n], fun x => ?_⟩
   simp only
   rw [rd_eq hi]
   by_cases cx : x = R[i].Rev
   ·rw [if_pos cx]; simp only [Option.getD_some, true_iff]
    exact ⟨i, hi, by omega, cx.symm⟩
   ·rw [if_neg cx, hS.f]
    constructor
    ·rintro ⟨q, h, h1, h2⟩; exact ⟨q, h, by omega, h2⟩
    ·rintro ⟨q, h, h1, h2⟩
     refine ⟨q, h, ?_, h2⟩
     rcases Nat.lt_succ_iff_lt_or_eq.1 h1 with g | g
     ·exact g
     ·subst g; exact absurd h2.symm cx
  have hdis : ∀ q q' (h : q < R.length) (h' : q' < R.length), q' < q → q < i + 1 → R[q'].Rev ≠ R[q].Rev := fun q q' h h' h1 h2 => by
   rcases Nat.lt_succ_iff_lt_or_eq.1 h2 with g | g
   ·exact hU.dis q q' h h' h1 g
   ·subst g; exact hnew q' h' h1
  have hg : ∀ q (h : q < R.length), q < i + 1 → rowGood rev R[q] := fun q h h2 => by
   rcases Nat.lt_succ_iff_lt_or_eq.1 h2 with g | g
   ·exact hU.good q h g
   ·subst g; exact hgood
  by_cases i0 : 0 < (i : Int)
  ·rw [if_pos i0, wr (by omega) (by omega), if_pos (by omega), show (i : Int) - 1 = ((i - 1 : Nat) : Int) from by omega, rd_eq (by omega : i - 1 < R.length), rd_eq hi]
   have hJ := hin R[i - 1] (List.getElem_mem (by omega)); rw [be (order_eq hk _ _ hJ.2.2.2.2), cmpL_ge hJ.1 hI.1]; unfold d3_Sound.j5
   cases hlt : lt (bs R[i - 1].Key) (bs R[i].Key) with
   | true =>
    left
    rw [if_neg (by simp), wrS i (by omega)]; refine ⟨_, rfl, hS', hg, hdis, fun q h h' h1 h2 => ?_⟩
    rcases Nat.lt_succ_iff_lt_or_eq.1 h2 with g | g
    ·exact hU.ord q h h' h1 g
    ·subst g; exact hlt
   | false =>
    right
    refine ⟨rfl, fun hu => ?_⟩; have := hu.ord i hi (by omega) (by omega) hi; rw [hlt] at this; cases this
  ·left
   have : i = 0 := by omega
   subst this; rw [if_neg i0]; unfold d3_Sound.j5; rw [if_neg (by simp), wrS 0 (by omega)]; exact ⟨_, rfl, hS', hg, hdis, fun q h h' h1 h2 => absurd h1 (by omega)⟩
theorem rsound_eq {k : Nat} (hk : Fuel k) {R : List AW} {rev : Int} (hin : ∀ r ∈ R, rowIn r) (hl : R.length < 1000000000) :
  ∃ b, d3_Sound.f k (some ⟨R, rev⟩) = some b ∧ (b = true ↔ 0 ≤ rev ∧ rev ≤ 1099511627776 ∧ UpTo rev R R.length) := by
 have h24 : 1099511627776 ≤ k := hk; unfold d3_Sound.f
 simp only [oB]
 by_cases c1 : rev < 0
 ·rw [if_pos c1]; exact ⟨false, rfl, by simp; omega⟩
 rw [if_neg c1]
 by_cases c2 : 1099511627776 < rev
 ·rw [dt c2]; exact ⟨false, rfl, by simp; omega⟩
 rw [dz c2]; unfold d3_Sound.j1; rw [if_neg (by simp)]; obtain ⟨x, hx, hP⟩ := loop_inv (f := fun (s_ : (MpV Bool) × Int) => d3_Sound.b6 k ⟨R, rev⟩ s_.1 s_.2) (I := fun i s => s.2 = (i : Int) ∧ Seen R i s.1 ∧ UpTo rev R i)
  (P := fun x => (x = Sum.inl () ∧ UpTo rev R R.length) ∨ (x = Sum.inr false ∧ ¬ UpTo rev R R.length)) (N := R.length)
  (by
   rintro i ⟨o, z⟩ hi ⟨rfl, hS, hU⟩
   rcases sound_step hk hin hl hi hS hU with ⟨o', e, h1, h2⟩ | ⟨e, h1⟩
   ·exact .inl ⟨_, e, rfl, h1, h2⟩
   ·exact .inr ⟨_, e, .inr ⟨rfl, h1⟩⟩)
  (by
   rintro ⟨o, z⟩ ⟨rfl, hS, hU⟩; refine ⟨_, ?_, .inl ⟨rfl, hU⟩⟩
   simp only
   unfold d3_Sound.b6; rw [if_neg (by simp)]) R.length 0 (⟨fun _ => none, 0⟩, ((0 : Nat) : Int)) k
  ⟨rfl, ⟨rfl, fun x => ⟨fun h => by simp at h, fun ⟨q, h, h1, _⟩ => absurd h1 (by omega)⟩⟩, ⟨fun q h h1 => absurd h1 (by omega), fun q q' h h' h1 h2 => absurd h2 (by omega), fun q h h' h1 h2 => absurd h2 (by omega)⟩⟩ (by omega) (by omega)
 have hx' : loop (fun (s_ : (MpV Bool) × Int) => d3_Sound.b6 k ⟨R, rev⟩ s_.1 s_.2) k (⟨fun _ => none, 0⟩, 0) = some x := hx; rw [be hx']
 rcases hP with ⟨rfl, hu⟩ | ⟨rfl, hu⟩
 ·exact ⟨true, rfl, by simp only [true_iff]; exact ⟨by omega, by omega, hu⟩⟩
 ·exact ⟨false, rfl, by simp; intros; exact hu⟩
def entOf (r : AW) : Ent := (bs r.Key, ⟨r.Value, r.Rev⟩)
theorem rowOf_entOf {r : AW} (h : bytesR r.Key) : rowOf (entOf r) = r := by
 unfold rowOf entOf; simp only; rw [sb_bs h]
theorem map_entOf {R : List AW} (h : ∀ r ∈ R, rowIn r) : (R.map entOf).map rowOf = R := by
 rw [List.map_map]
 conv => rhs; rw [← List.map_id R]
 exact List.map_congr_left fun r hr => rowOf_entOf (h r hr).1
theorem upto_sound {R : List AW} {rev : Nat} (hu : UpTo rev R R.length) (hr : rev ≤ 1099511627776) : Sound (R.map entOf, rev) := by
 have hent : ∀ e ∈ R.map entOf, 1 ≤ e.1.size ∧ e.1.size ≤ 64 ∧ e.2.value.length ≤ 256 ∧ 1 ≤ e.2.rev ∧ e.2.rev ≤ (rev : Int) := by
  intro e he; obtain ⟨r, hr', rfl⟩ := List.mem_map.1 he; obtain ⟨q, hq, rfl⟩ := List.getElem_of_mem hr'; obtain ⟨g1, g2, g3, g4, g5⟩ := hu.good q hq hq; unfold entOf; simp only [bs_size]; exact ⟨g1, g2, g3, g4, g5⟩
 have hdis : (revs (R.map entOf)).Nodup := by
  have : revs (R.map entOf) = R.map (·.Rev) := by simp [revs, entOf]
  rw [this, List.Nodup, List.pairwise_map, List.pairwise_iff_getElem]; intro i j hi hj hij; exact hu.dis j i hj hi hij hj
 refine ⟨⟨?_, revs_len hdis fun e he => (hent e he).2.2.2, hent⟩, hdis, hr⟩; unfold Ord; rw [List.pairwise_map, List.pairwise_iff_getElem]; have key : ∀ (d i : Nat) (hi : i < R.length) (hj : i + d + 1 < R.length), lt (bs R[i].Key) (bs R[i + d + 1].Key) = true := by
  intro d
  induction d with
  | zero => intro i hi hj; exact hu.ord (i + 1) hj (by omega) (by omega) hj
  | succ d ih =>
   intro i hi hj; exact lt_tr (ih i hi (by omega)) (hu.ord (i + (d + 1) + 1) hj (by omega) (by omega) hj)
 intro i j hi hj hij; have := key (j - i - 1) i hi (by omega); have e : i + (j - i - 1) + 1 = j := by omega
 simp only [e] at this
 exact this
theorem sound_upto {s : St} (hS : Sound s) : UpTo (s.2 : Int) (s.1.map rowOf) (s.1.map rowOf).length := by
 have ko : ∀ (q : Nat) (h : q < (s.1.map rowOf).length), ∃ h' : q < s.1.length, (s.1.map rowOf)[q] = rowOf s.1[q] := fun q h => ⟨by simpa using h, by simp⟩; refine ⟨fun q h _ => ?_, fun q q' h h' h1 _ => ?_, fun q h h' h1 _ => ?_⟩
 ·obtain ⟨g, e⟩ := ko q h
  rw [e]; have := hS.inv.ent _ (List.getElem_mem g); unfold rowGood rowOf; simp only [sb_len]; exact this
 ·obtain ⟨g, e⟩ := ko q h
  obtain ⟨g', e'⟩ := ko q' h'; rw [e, e']; have hd := hS.dis; unfold revs at hd; rw [List.Nodup, List.pairwise_map, List.pairwise_iff_getElem] at hd; exact hd q' q g' g h1
 ·obtain ⟨g, e⟩ := ko q h
  obtain ⟨g', e'⟩ := ko (q - 1) h'; rw [e, e']; have ho := hS.inv.ord; unfold Ord at ho; rw [List.pairwise_iff_getElem] at ho; have := ho (q - 1) q g' g (by omega); unfold rowOf; simp only [bs_sb]; exact this
theorem rread_eq {k : Nat} (hk : Fuel k) (p : List Int) (hl : p.length < 2000000000) : d1_Read.f k p = some (some (rs1 p 0 0)) := by
 have h24 : 1099511627776 ≤ k := hk; unfold d1_Read.f; have e : loop (fun (s_ : Int × (List Int)) => d1_Read.b1 p s_.1 s_.2) k (0, []) = some p := by
  have e0 : ((0 : Int), ([] : List Int)) = (((0 : Nat) : Int), p.take 0) := by simp
  rw [e0]; refine oa_count (s := fun i : Nat => ((i : Int), p.take i)) (N := p.length) (by omega) (fun i hi => ?_) ?_
  ·simp only
   unfold d1_Read.b1; rw [if_pos (by omega), if_pos (by omega), if_pos (by simp; omega), wrS i (by omega), rd_eq hi, take_succ' hi]
  ·simp only
   unfold d1_Read.b1; rw [if_neg (by omega), List.take_length]
 rw [be e]; rfl
theorem fm_inj {m n : Nat} (hm : m < 2 ^ 64) (hn : n < 2 ^ 64) {x y : List Int} (h : fm m ++ x = fm n ++ y) : m = n ∧ x = y := by
 have h1 := rnum_form hm x; have h2 := rnum_form hn y; rw [h, h2] at h1
 injection h1 with q
 have q1 : (n : Int) = (m : Int) := congrArg (·.1) q; have q2 : y = x := congrArg (·.2.1) q; exact ⟨by omega, q2.symm⟩
theorem tx_inj {u v x y : List Int} (hu : u.length < 2 ^ 64) (hv : v.length < 2 ^ 64) (h : fm u.length ++ (u ++ x) = fm v.length ++ (v ++ y)) : u = v ∧ x = y := by
 obtain ⟨h1, h2⟩ := fm_inj hu hv h; exact List.append_inj h2 h1
def RowsIn (p : List Int) (R : List AW) : Prop := ∀ r ∈ R, rowIn r
theorem wrapin (v : Int) : -9223372036854775808 ≤ IntKind.i64.wrap v ∧ IntKind.i64.wrap v ≤ 9223372036854775807 := by rw [IntKind.wrap_i64]; omega
theorem rread_j2 {k : Nat} {o : Option Rd1} {i : Int} {R : List AW} : d3_Read.j2 k o i R false = some (.done (o, R)) := by
 unfold d3_Read.j2; rw [if_neg (by simp)]
theorem rread_b3 {k : Nat} {t34 : Int × Option Rd1} {p : List Int} {a : Nat} {f i : Int} {R : List AW} : d3_Read.b3 k t34 (some (rs1 p a f)) i R = d3_Read.j2 k (some (rs1 p a f)) i R (decide (i < t34.1) && decide (f = 0)) := by
 unfold d3_Read.b3
 by_cases c : i < t34.1
 ·rw [if_pos c, dt c, Bool.true_and]; rfl
 ·rw [if_neg c, dz c, Bool.false_and]
theorem rread_any {k : Nat} (hk : Fuel k) {p : List Int} (hb : bytesR p) (hl : p.length < 1000000000) (t34 : Int × Option Rd1) : ∀ (q m a : Nat) (f i : Int) (R : List AW), a ≤ p.length → p.length - a ≤ q → q + 1 < m → R.length + q < 2000000000 → RowsIn p R →
  ∃ a' f' R', loop (fun (s_ : (Option Rd1) × Int × (List AW)) => d3_Read.b3 k t34 s_.1 s_.2.1 s_.2.2) m (some (rs1 p a f), i, R) = some (some (rs1 p a' f'), R') ∧ a' ≤ p.length ∧ R'.length ≤ R.length + q + 1 ∧ RowsIn p R' := by
 intro q
 induction q with
 | zero =>
  intro m a f i R ha hq hm hR hin; obtain ⟨m, rfl⟩ : ∃ z, m = z + 1 := ⟨m - 1, by omega⟩
  cases hc : (decide (i < t34.1) && decide (f = 0)) with
  | false => exact ⟨a, f, R, loop_done (by simp only; rw [rread_b3, hc, rread_j2]), ha, by omega, hin⟩
  | true =>
   simp only [Bool.and_eq_true, decide_eq_true_eq] at hc
   obtain ⟨c1, rfl⟩ := hc; obtain ⟨v1, a1, f1, e1, h1, h1', b1, l1, -, r1⟩ := rText_any hk hb (by omega) ha (f0 := 0) (most := 64) (by omega); obtain ⟨v2, a2, f2, e2, h2, h2', b2, l2, n2, r2⟩ := rText_any hk hb (by omega) h1' (f0 := f1) (most := 256) (by omega); obtain ⟨v3, a3, f3, e3, h3, h3', b3, n3, r3⟩ := rNum_any hk hb (by omega) h2' (f0 := f2); have hf1 : f1 ≠ 0 := by rcases r1 rfl with ⟨g, _⟩ | ⟨g, g2, _⟩; exact g; omega
   have hf2 : f2 ≠ 0 := by rw [n2 hf1]; exact hf1
   have hf3 : f3 ≠ 0 := by rw [n3 hf2]; exact hf2
   obtain ⟨m, rfl⟩ : ∃ z, m = z + 1 := ⟨m - 1, by omega⟩; refine ⟨a3, f3, R ++ [AW.mk v1 v2 (IntKind.i64.wrap v3)], ?_, h3', by simp, ?_⟩
   ·rw [loop_next (s' := (some (rs1 p a3 f3), IntKind.u64.wrap (i + 1), R ++ [AW.mk v1 v2 (IntKind.i64.wrap v3)]))]
    ·exact loop_done (by simp only; rw [rread_b3, dz hf3, Bool.and_false, rread_j2])
    ·simp only
     rw [rread_b3, dt c1, dt rfl]; unfold d3_Read.j2; have e1' : r1_Text.f k (some (rs1 p a 0)) 64 = some (v1, some (rs1 p a1 f1)) := e1; have e2' : r1_Text.f k (some (rs1 p a1 f1)) 256 = some (v2, some (rs1 p a2 f2)) := e2; rw [if_pos (by simp), be e1', be e2', be e3, if_pos (by simp; omega)]
   ·intro r hr
    rcases List.mem_append.1 hr with g | g
    ·exact hin r g
    ·rw [List.mem_singleton.1 g]; exact ⟨b1, b2, (wrapin _).1, (wrapin _).2, by show v1.length < 1000000000; omega⟩
 | succ q ih =>
  intro m a f i R ha hq hm hR hin; obtain ⟨m, rfl⟩ : ∃ z, m = z + 1 := ⟨m - 1, by omega⟩
  cases hc : (decide (i < t34.1) && decide (f = 0)) with
  | false => exact ⟨a, f, R, loop_done (by simp only; rw [rread_b3, hc, rread_j2]), ha, by omega, hin⟩
  | true =>
   simp only [Bool.and_eq_true, decide_eq_true_eq] at hc
   obtain ⟨c1, rfl⟩ := hc; obtain ⟨v1, a1, f1, e1, h1, h1', b1, l1, -, r1⟩ := rText_any hk hb (by omega) ha (f0 := 0) (most := 64) (by omega); obtain ⟨v2, a2, f2, e2, h2, h2', b2, l2, n2, r2⟩ := rText_any hk hb (by omega) h1' (f0 := f1) (most := 256) (by omega); obtain ⟨v3, a3, f3, e3, h3, h3', b3, n3, r3⟩ := rNum_any hk hb (by omega) h2' (f0 := f2); have hstep : d3_Read.b3 k t34 (some (rs1 p a 0)) i R = some (.next (some (rs1 p a3 f3), IntKind.u64.wrap (i + 1), R ++ [AW.mk v1 v2 (IntKind.i64.wrap v3)])) := by
    rw [rread_b3, dt c1, dt rfl]; unfold d3_Read.j2; have e1' : r1_Text.f k (some (rs1 p a 0)) 64 = some (v1, some (rs1 p a1 f1)) := e1; have e2' : r1_Text.f k (some (rs1 p a1 f1)) 256 = some (v2, some (rs1 p a2 f2)) := e2; rw [if_pos (by simp), be e1', be e2', be e3, if_pos (by simp; omega)]
   have hin' : RowsIn p (R ++ [AW.mk v1 v2 (IntKind.i64.wrap v3)]) := by
    intro r hr
    rcases List.mem_append.1 hr with g | g
    ·exact hin r g
    ·rw [List.mem_singleton.1 g]; exact ⟨b1, b2, (wrapin _).1, (wrapin _).2, by show v1.length < 1000000000; omega⟩
   by_cases hf3 : f3 = 0
   ·have hf2 : f2 = 0 := Classical.byContradiction fun h => by have := n3 h; rw [hf3] at this; exact h this.symm
    have hf1 : f1 = 0 := Classical.byContradiction fun h => by have := n2 h; rw [hf2] at this; exact h this.symm
    have g1 : a < a1 := by rcases r1 rfl with ⟨g, _⟩ | ⟨_, g, _⟩; exact absurd hf1 g; exact g
    obtain ⟨a', f', R', e, x1, x2, x3⟩ := ih m a3 f3 (IntKind.u64.wrap (i + 1)) (R ++ [AW.mk v1 v2 (IntKind.i64.wrap v3)]) h3' (by omega) (by omega) (by simp; omega) hin'; exact ⟨a', f', R', by rw [loop_next hstep]; exact e, x1, by simp at x2; omega, x3⟩
   ·obtain ⟨m, rfl⟩ : ∃ z, m = z + 1 := ⟨m - 1, by omega⟩
    exact ⟨a3, f3, _, by rw [loop_next hstep]; exact loop_done (by simp only; rw [rread_b3, dz hf3, Bool.and_false, rread_j2]), h3', by (rw [lA]; simp), hin'⟩
theorem ef_row (e : Ent) (rest : List Int) : ef e ++ rest = fm (rowOf e).Key.length ++ ((rowOf e).Key ++ (fm (rowOf e).Value.length ++ ((rowOf e).Value ++ (fm e.2.rev.toNat ++ rest)))) := by
 unfold ef rowOf; simp only [List.append_assoc, sb_len]
theorem rread_fwd {k : Nat} (hk : Fuel k) {p : List Int} (hb : bytesR p) (hl : p.length < 1000000000) {N : Nat} (hN : N < 1000000000) (t34 : Int × Option Rd1) (h34 : t34.1 = (N : Int)) : ∀ (L : List Ent) (m a i : Nat) (R : List AW), (∀ e ∈ L, 1 ≤ e.1.size ∧ e.1.size ≤ 64 ∧ e.2.value.length ≤ 256 ∧ 1 ≤ e.2.rev ∧ e.2.rev ≤ 1099511627776) → a ≤ p.length → p.drop a = L.flatMap ef → i + L.length = N → L.length < m → R.length + L.length < 1000000000 →
  loop (fun (s_ : (Option Rd1) × Int × (List AW)) => d3_Read.b3 k t34 s_.1 s_.2.1 s_.2.2) m (some (rs1 p a 0), (i : Int), R) = some (some (rs1 p p.length 0), R ++ L.map rowOf)
 | [], m, a, i, R, _, ha, hd, hi, hm, _ => by
  obtain ⟨m, rfl⟩ : ∃ z, m = z + 1 := ⟨m - 1, by omega⟩; have : a = p.length := by
   have := congrArg List.length hd
   simp at this; omega
  subst this; rw [List.map_nil, List.append_nil]; refine loop_done ?_
  simp only
  have : ¬ ((i : Int) < t34.1) := by rw [h34]; simp at hi; omega
  rw [rread_b3, dz this, Bool.false_and, rread_j2]
 | x :: L, m, a, i, R, hE, ha, hd, hi, hm, hR => by
  obtain ⟨m, rfl⟩ : ∃ z, m = z + 1 := ⟨m - 1, by simp at hm; omega⟩; obtain ⟨q1, q2, q3, q4, q5⟩ := hE x (by simp); rw [List.flatMap_cons, ef_row] at hd; have lk : (rowOf x).Key.length = x.1.size := sb_len _; have lv : (rowOf x).Value.length = x.2.value.length := rfl; obtain ⟨v1, a1, f1, e1, h1, h1', b1, l1, -, r1⟩ := rText_any hk hb (by omega) ha (f0 := 0) (most := 64) (by omega); have p64 : (2 : Nat) ^ 64 = 18446744073709551616 := by decide
  rcases r1 rfl with ⟨_, g⟩ | ⟨rfl, w1, w2, w3⟩
  ·exact absurd hd (g _ _ (by omega))
  obtain ⟨rfl, t1⟩ := tx_inj (by omega) (by omega) (w3.symm.trans hd); obtain ⟨v2, a2, f2, e2, h2, h2', b2, l2, -, r2⟩ := rText_any hk hb (by omega) h1' (f0 := 0) (most := 256) (by omega)
  rcases r2 rfl with ⟨_, g⟩ | ⟨rfl, w4, w5, w6⟩
  ·exact absurd t1 (g _ _ (by omega))
  obtain ⟨rfl, t2⟩ := tx_inj (by omega) (by omega) (w6.symm.trans t1); obtain ⟨v3, a3, f3, e3, h3, h3', b3, -, r3⟩ := rNum_any hk hb (by omega) h2' (f0 := 0)
  rcases r3 rfl with ⟨_, g⟩ | ⟨rfl, w7, n, w8, w9, w10⟩
  ·exact absurd t2 (g _ _ (by omega))
  obtain ⟨hn, t3⟩ := fm_inj w9 (by omega) (w10.symm.trans t2); have hrow : AW.mk (rowOf x).Key (rowOf x).Value (IntKind.i64.wrap v3) = rowOf x := by
   rw [w8, hn, wr (by omega) (by omega)]
   show AW.mk _ _ _ = AW.mk _ _ x.2.rev
   congr 1; omega
  have c1 : (i : Int) < t34.1 := by rw [h34]; simp at hi; omega
  rw [loop_next (s' := (some (rs1 p a3 0), ((i + 1 : Nat) : Int), R ++ [rowOf x]))]
  ·rw [rread_fwd hk hb hl hN t34 h34 L m a3 (i + 1) (R ++ [rowOf x]) (fun e he => hE e (by simp [he])) h3' t3 (by simp at hi; omega) (by simp at hm; omega) (by simp at hR ⊢; omega)]
   simp
  ·simp only
   rw [rread_b3, dt c1, dt rfl]; unfold d3_Read.j2; have e1' : r1_Text.f k (some (rs1 p a 0)) 64 = some ((rowOf x).Key, some (rs1 p a1 0)) := e1; have e2' : r1_Text.f k (some (rs1 p a1 0)) 256 = some ((rowOf x).Value, some (rs1 p a2 0)) := e2; rw [if_pos (by simp), be e1', be e2', be e3, if_pos (by simp at hR ⊢; omega)]
   simp only
   rw [hrow, show (i : Int) + 1 = ((i + 1 : Nat) : Int) from by omega, wru (by omega) (by simp at hi; omega)]
theorem rDone_no {p : List Int} {a : Nat} {f : Int} (ha : a ≤ p.length) (hl : p.length < 1000000000) : r1_Done.f (some (rs1 p a f)) = some (if f = 0 then (if a < p.length then 12 else 0) else f) := by
 unfold r1_Done.f
 simp only [Option.isNone_some, Bool.false_eq_true, if_false, oB]
 by_cases c : f = 0
 ·rw [if_pos (show (rs1 p a f).Fault = 0 from c), if_pos c, be (rleft_eq ha (by omega))]
  by_cases c2 : a < p.length
  ·rw [if_pos (by omega), if_pos c2]; rfl
  ·rw [if_neg (by omega), if_neg c2]; rfl
 ·rw [if_neg (show ¬ (rs1 p a f).Fault = 0 from c), if_neg c]; rfl
theorem rRead_any {k : Nat} (hk : Fuel k) (p : List Int) (hb : bytesR p) (hl : p.length < 900000000) :
  ∃ m e, d3_Read.f k p = some (m, e) ∧ ((e = 130 ∧ m = none ∧ ∀ s : St, Sound s → (∀ e ∈ s.1, bytesR e.2.value) → p ≠ form s) ∨ (e = 0 ∧ ∃ s : St, m = some ⟨s.1.map rowOf, (s.2 : Int)⟩ ∧ Sound s ∧ (∀ e ∈ s.1, bytesR e.2.value) ∧ p = form s)) := by
 have h24 : 1099511627776 ≤ k := hk; have p64 : (2 : Nat) ^ 64 = 18446744073709551616 := by decide
 obtain ⟨v1, a1, f1, e1, h1, h1', b1, -, r1⟩ := rNum_any hk hb (by omega) (Nat.zero_le p.length) (f0 := 0); obtain ⟨v2, a2, f2, e2, h2, h2', b2, n2, r2⟩ := rNum_any hk hb (by omega) h1' (f0 := f1); obtain ⟨a3, f3, R, e3, h3, h3', hin⟩ := rread_any hk hb (by omega) (v2, some (rs1 p a2 f2)) p.length k a2 f2 0 [] h2' (by omega) (by omega) (by simp; omega) (fun r hr => by cases hr); have hRl : R.length < 1000000000 := by simp at h3'; omega
 have hread : d3_Read.f k p = d3_Read.j4 k p (v1, some (rs1 p a1 f1)) (some (rs1 p a3 f3)) R := by
  unfold d3_Read.f; rw [be (rread_eq hk p (by omega)), be e1, be e2]; exact be e3
 have j5f : ∀ t l, d3_Read.j5 t l true = some (none, 130) := fun t l => rfl; have fwd : ∀ s : St, Sound s → p = form s → f3 = 0 ∧ a3 = p.length ∧ R = s.1.map rowOf ∧ IntKind.i64.wrap v1 = (s.2 : Int) := by
  intro s hS hp; have ht := hS.top; have hlen : s.1.length ≤ s.2 := hS.inv.len; have d0 : p.drop 0 = fm s.2 ++ (fm s.1.length ++ s.1.flatMap ef) := by rw [List.drop_zero, hp]; unfold form; rw [List.append_assoc]
  have hsl : s.1.length < 1000000000 := by have := form_len s; rw [← hp] at this; omega
  rcases r1 rfl with ⟨_, g⟩ | ⟨rfl, w1, n, w2, w3, w4⟩
  ·exact absurd d0 (g _ _ (by omega))
  obtain ⟨hn1, t1⟩ := fm_inj w3 (by omega) (w4.symm.trans d0)
  rcases r2 rfl with ⟨_, g⟩ | ⟨rfl, w5, n', w6, w7, w8⟩
  ·exact absurd t1 (g _ _ (by omega))
  obtain ⟨hn2, t2⟩ := fm_inj w7 (by omega) (w8.symm.trans t1); have hE : ∀ e ∈ s.1, 1 ≤ e.1.size ∧ e.1.size ≤ 64 ∧ e.2.value.length ≤ 256 ∧ 1 ≤ e.2.rev ∧ e.2.rev ≤ 1099511627776 := fun e he => by have := hS.inv.ent e he; omega
  have := rread_fwd hk hb (by omega) (N := s.1.length) hsl (v2, some (rs1 p a2 0)) (by show v2 = _; rw [w6, hn2]) s.1 k a2 0 [] hE h2' t2 (by omega) (by omega) (by simp; omega); have e3' := e3; rw [show ((0 : Nat) : Int) = 0 from rfl] at this; rw [this] at e3'
  injection e3' with q
  have q1 : some (rs1 p p.length 0) = some (rs1 p a3 f3) := congrArg (·.1) q; have q2 : [] ++ s.1.map rowOf = R := congrArg (·.2) q
  injection q1 with q3
  have q4 : (p.length : Int) = (a3 : Int) := congrArg Rd1.At q3; have q5 : (0 : Int) = f3 := congrArg Rd1.Fault q3; exact ⟨q5.symm, by omega, by rw [← q2]; rfl, by rw [w2, hn1, wr (by omega) (by omega)]⟩
 have hrv := wrapin v1; obtain ⟨rev, hrev⟩ : ∃ rev, rev = IntKind.i64.wrap v1 := ⟨_, rfl⟩; obtain ⟨b, eb, hb2⟩ := rsound_eq (rev := rev) hk hin (by omega); rw [hread]; unfold d3_Read.j4; rw [be (rDone_no h3 (by omega))]
 by_cases cd : f3 = 0 ∧ a3 = p.length
 ·obtain ⟨rfl, rfl⟩ := cd
  have hd : (if (0 : Int) = 0 then (if p.length < p.length then (12 : Int) else 0) else 0) = 0 := by simp
  rw [if_pos hd, ← hrev, be eb]
  cases hbb : b with
  | false =>
   rw [if_neg (by simp), j5f]; refine ⟨_, _, rfl, .inl ⟨rfl, rfl, fun s hS hv hp => ?_⟩⟩; obtain ⟨_, _, hR, hw⟩ := fwd s hS hp; have : b = true := hb2.2 ⟨by rw [hrev, hw]; omega, by have := hS.top; rw [hrev, hw]; omega, by rw [hR, hrev, hw]; exact sound_upto hS⟩; rw [hbb] at this; cases this
  | true =>
   rw [if_pos rfl]; obtain ⟨r0, r1', hu⟩ := hb2.1 hbb; obtain ⟨rn, rfl⟩ : ∃ rn : Nat, rev = (rn : Int) := ⟨rev.toNat, by omega⟩; have hSd : Sound (R.map entOf, rn) := upto_sound hu (by omega); have hmap := map_entOf hin; have hbytes := rbytes_eq (L := R.map entOf) (r := rn) hk (by omega) (by simp; omega) hSd.inv.ent; rw [hmap] at hbytes; rw [be hbytes]; have hvb : ∀ e ∈ R.map entOf, bytesR e.2.value := fun e he => by obtain ⟨r, hr, rfl⟩ := List.mem_map.1 he; exact (hin r hr).2.1
   have hfb : bytesR (form (R.map entOf, rn)) := form_bytes hvb; rw [keq]
   by_cases ce : bs (form (R.map entOf, rn)) = bs p
   ·have hp : p = form (R.map entOf, rn) := (bs_inj hfb hb ce).symm
    rw [dt ce]; refine ⟨_, _, rfl, .inr ⟨rfl, (R.map entOf, rn), ?_, hSd, hvb, hp⟩⟩
    show some _ = some _
    rw [hmap, ← hrev]
   ·rw [dz ce]
    refine ⟨_, _, rfl, .inl ⟨rfl, rfl, fun s hS hv hp => ?_⟩⟩; obtain ⟨_, _, hR, hw⟩ := fwd s hS hp
    apply ce
    have es : (R.map entOf, rn) = s := by
     have h2 : rn = s.2 := by rw [← hrev] at hw; omega
     have h1 : R.map entOf = s.1 := by
      rw [hR, List.map_map]
      conv => rhs; rw [← List.map_id s.1]
      exact List.map_congr_left fun e he => by
       show entOf (rowOf e) = e
       unfold entOf rowOf; simp only [bs_sb]
     rw [h1, h2]
    rw [es, ← hp]
 ·rw [if_neg, j5f]
  ·refine ⟨_, _, rfl, .inl ⟨rfl, rfl, fun s hS hv hp => ?_⟩⟩
   obtain ⟨g1, g2, _⟩ := fwd s hS hp; exact cd ⟨g1, g2⟩
  ·intro h
   by_cases c0 : f3 = 0
   ·rw [if_pos c0] at h
    by_cases c1 : a3 < p.length
    ·rw [if_pos c1] at h; cases h
    ·exact cd ⟨c0, by omega⟩
   ·rw [if_neg c0] at h; exact c0 h
theorem rd_set {α : Type} [Inhabited α] {L : List α} {i : Nat} (h : i < L.length) (x : α) : rd (L.set i x) (i : Int) = x := by rw [oa_rd (by simpa using h)]; simp
theorem lent_eq {a : List Int} (h : a.length < 1000000000) : l3_lent.f a = some a := by
 unfold l3_lent.f; rw [if_pos (by omega), if_pos (by simp; omega), if_pos (by simp), List.nil_append]
theorem kept_eq {k : Nat} (hk : Fuel k) {a : List Int} (h : a.length < 1000000000) : l3_kept.f k a a = some true := by
 unfold l3_kept.f; have e2 : IntKind.i64.wrap ((a.length : Int) + 2) = ((a.length + 2 : Nat) : Int) := by rw [wr (by omega) (by omega)]; omega
 have e1 : IntKind.i64.wrap ((a.length : Int) + 1) = ((a.length + 1 : Nat) : Int) := by rw [wr (by omega) (by omega)]; omega
 have hT : List.take (a.length + 2) (a ++ [201, 77]) = a ++ [201, 77] := List.take_of_length_le (by simp); rw [e2, e1, Int.toNat_natCast, hT]; have hL : (a ++ [201, 77]).length = a.length + 2 := by simp
 rw [hL, if_pos (by omega), be (same_eq hk a a (.inl (by omega))), dt rfl, if_pos rfl, if_pos (by omega)]; rw [rd_eq (by rw [hL]; omega : a.length < (a ++ [201, 77]).length), rd_eq (by rw [hL]; omega : a.length + 1 < (a ++ [201, 77]).length)]; have g1 : (a ++ [201, 77])[a.length]'(by rw [hL]; omega) = 201 := by rw [List.getElem_append_right (by omega)]; simp
 have g2 : (a ++ [201, 77])[a.length + 1]'(by rw [hL]; omega) = 77 := by rw [List.getElem_append_right (by omega)]; simp
 rw [g1, g2, if_pos rfl, if_pos (by omega), dt rfl]
theorem spoil_loop : ∀ (n m i : Nat) (l : List Int), i + n = l.length → n < m → l.length < 1000000000 → ∃ l', loop (fun (s_ : (List Int) × Int) => l3_spoil.b1 s_.1 s_.2) m (l, (i : Int)) = some l' ∧ l'.length = l.length
 | _, 0, _, _, _, h, _ => absurd h (by omega)
 | 0, m + 1, i, l, h, _, _ => by
  refine ⟨l, loop_done ?_, rfl⟩
  simp only; unfold l3_spoil.b1; rw [if_neg (by omega)]
 | n + 1, m + 1, i, l, h, hm, hl => by
  obtain ⟨l', e, hl'⟩ := spoil_loop n m (i + 1) (l.set i (bxor .u8 (rd l (i : Int)) 255)) (by simp; omega) (by omega) (by simpa using hl); refine ⟨l', ?_, by simpa using hl'⟩; rw [loop_next (s' := (l.set i (bxor .u8 (rd l (i : Int)) 255), ((i + 1 : Nat) : Int)))]
  ·exact e
  ·simp only; unfold l3_spoil.b1
   rw [if_pos (by omega), if_pos (by omega), if_pos (by omega), wrS i (by omega), Int.toNat_natCast]
theorem spoil_eq {k : Nat} (hk : Fuel k) (l : List Int) (hl : l.length < 1000000000) : ∃ l', l3_spoil.f k l = some l' ∧ l'.length = l.length := by
 have h24 : 1099511627776 ≤ k := hk; obtain ⟨l', e, h⟩ := spoil_loop l.length k 0 l (by omega) (by omega) hl; refine ⟨l', ?_, h⟩; unfold l3_spoil.f; have e' : loop (fun (s_ : (List Int) × Int) => l3_spoil.b1 s_.1 s_.2) k (l, 0) = some l' := e; rw [be e']; unfold l3_spoil.j2; rw [if_pos h]
theorem lentOp_eq {o : AO} (h1 : o.Key.length < 1000000000) (h2 : o.Value.length < 1000000000) : l3_lentOp.f o = some o := by
 unfold l3_lentOp.f; rw [be (lent_eq h1), be (lent_eq h2)]
theorem keptOp_eq {k : Nat} (hk : Fuel k) {o : AO} (h1 : o.Key.length < 1000000000) (h2 : o.Value.length < 1000000000) : l3_keptOp.f k o o = some true := by
 unfold l3_keptOp.f; obtain ⟨_, e1, _⟩ := spoil_eq hk o.Key h1; obtain ⟨_, e2, _⟩ := spoil_eq hk o.Value h2; rw [be (kept_eq hk h1), if_pos rfl, be (kept_eq hk h2), be e1, be e2]
theorem sameRows_self {k : Nat} (hk : Fuel k) {R : List AW} (hR : ∀ r ∈ R, r.Key.length < 1000000000 ∧ r.Value.length < 1000000000) (hl : R.length < 1000000000) : l3_sameRows.f k R R = some true := by
 have h24 : 1099511627776 ≤ k := hk; unfold l3_sameRows.f; rw [if_pos rfl]; have e : loop (fun (s_ : Int) => l3_sameRows.b1 k R R s_) k (((0 : Nat)) : Int) = some (.inl ()) := by
  refine oa_count (s := fun i : Nat => (i : Int)) (N := R.length) (by omega) (fun i hi => ?_) ?_
  ·unfold l3_sameRows.b1
   have := hR R[i] (List.getElem_mem hi); rw [if_pos (by omega), if_pos (by omega), if_pos (by omega), rd_eq hi, be (sameRow_eq hk _ _ (.inl (by omega)) (.inl (by omega))), dt rfl, if_pos rfl, wrS i (by omega)]
  ·unfold l3_sameRows.b1; rw [if_neg (by omega)]
 have e' : loop (fun (s_ : Int) => l3_sameRows.b1 k R R s_) k 0 = some (.inl ()) := e; rw [be e']; rfl
theorem rows_spoil {k : Nat} (hk : Fuel k) : ∀ (n m i : Nat) (R : List AW), i + n = R.length → n < m → R.length < 1000000000 → (∀ r ∈ R, r.Key.length < 1000000000 ∧ r.Value.length < 1000000000) → loop (fun (s_ : (List AW) × Int) => l3_does.b1 k s_.1 s_.2) m (R, (i : Int)) = some ()
 | _, 0, _, _, _, h, _, _ => absurd h (by omega)
 | 0, m + 1, i, l, h, _, _, _ => by
  refine loop_done ?_
  simp only; unfold l3_does.b1; rw [if_neg (by omega)]
 | n + 1, m + 1, i, R, h, hm, hl, hR => by
  have hi : i < R.length := by omega
  have hi' : ((i : Int) < (R.length : Int)) := by omega
  obtain ⟨q1, q2⟩ := hR R[i] (List.getElem_mem hi); obtain ⟨l1, e1, n1⟩ := spoil_eq hk (R[i].Key) q1; obtain ⟨l2, e2, n2⟩ := spoil_eq hk (R[i].Value) q2; have ih := rows_spoil hk n m (i + 1) (R.set i (AW.mk l1 l2 (-9))) (by simp; omega) (by omega) (by simpa using hl) (fun r hr => by
   rcases List.mem_or_eq_of_mem_set hr with g | rfl
   ·exact hR r g
   ·exact ⟨by show l1.length < _; omega, by show l2.length < _; omega⟩)
  rw [loop_next (s' := (R.set i (AW.mk l1 l2 (-9)), ((i + 1 : Nat) : Int)))]
  ·exact ih
  ·simp only; unfold l3_does.b1
   simp only [Int.toNat_natCast, List.length_set, rd_set hi, List.set_set]
   rw [if_pos hi', if_pos ⟨by omega, hi'⟩, rd_eq hi, be e1, if_pos ⟨by omega, hi'⟩]; rw [be e2, if_pos ⟨by omega, hi'⟩, wrS i (by omega)]
theorem rcopied_eq {r : AW} (h1 : r.Key.length < 1000000000) (h2 : r.Value.length < 1000000000) : d3_copied.f r = some r := by
 unfold d3_copied.f; rw [if_pos (by omega), if_pos (by omega), List.nil_append, List.nil_append]
def rsmall (R : List AW) : Prop := R.length < 1000000000 ∧ ∀ r ∈ R, r.Key.length < 1000000000 ∧ r.Value.length < 1000000000
theorem rCopy_eq {k : Nat} (hk : Fuel k) {R : List AW} {v : Int} (hR : rsmall R) : D_Copy.f k (some ⟨R, v⟩) = some (some ⟨R, v⟩) := by
 have h24 : 1099511627776 ≤ k := hk; obtain ⟨hl, hR⟩ := hR; unfold D_Copy.f
 simp only [Option.isNone_some, Bool.false_eq_true, if_false, oB]
 have e : loop (fun (s_ : Int × (List AW)) => D_Copy.b1 ⟨R, v⟩ s_.1 s_.2) k (0, []) = some R := by
  have e0 : ((0 : Int), ([] : List AW)) = (((0 : Nat) : Int), R.take 0) := by simp
  rw [e0]; refine oa_count (s := fun i : Nat => ((i : Int), R.take i)) (N := R.length) (by omega) (fun i hi => ?_) ?_
  ·simp only
   unfold D_Copy.b1; obtain ⟨q1, q2⟩ := hR R[i] (List.getElem_mem hi)
   simp only
   rw [if_pos (by omega), if_pos (by omega), rd_eq hi, be (rcopied_eq q1 q2), if_pos (by simp; omega), wrS i (by omega), take_succ' hi]
  ·simp only
   unfold D_Copy.b1
   simp only
   rw [if_neg (by omega), List.take_length]
 rw [be e]; rfl
theorem rRows_eq {k : Nat} (hk : Fuel k) {R : List AW} {v : Int} (hR : rsmall R) : D_Rows.f k (some ⟨R, v⟩) = some R := by
 unfold D_Rows.f
 simp only [Option.isNone_some, Bool.false_eq_true, if_false, oB]
 rw [be (rCopy_eq hk hR)]; rfl
theorem rows_small {s : St} (hI : Inv s.1 s.2) (hl : s.1.length < 1000000000) : rsmall (s.1.map rowOf) := by
 refine ⟨by simpa using hl, fun r hr => ?_⟩; obtain ⟨e, he, rfl⟩ := List.mem_map.1 hr; have := hI.ent e he; unfold rowOf; simp only [sb_len]; omega
def refT (s : St) : Option Tb3 := some ⟨s.1.map rowOf, (s.2 : Int)⟩
theorem j3_true {k : Nat} (hk : Fuel k) {st : l3_Step} {t : Option Tab} {o : Option Tb3} (h1 : st.Op.Key.length < 1000000000) (h2 : st.Op.Value.length < 1000000000) : l3_does.j3 k st st.Op true t o = some (true, t, o) := by
 unfold l3_does.j3; rw [if_pos rfl, be (keptOp_eq hk h1 h2)]
theorem does3 {k : Nat} (hk : Fuel k) {t : Option Tab} {s : St} (hl : s.1.length < 1000000000) (hT : RepS t s) {st : l3_Step} (h3 : st.Kind = 3) (h1 : st.Op.Key.length < 1000000000) (h2 : st.Op.Value.length < 1000000000) :
  l3_does.f k t (refT s) st = some (true, t, refT s) := by
 have h24 : 1099511627776 ≤ k := hk; have hR := rows_small hT.inv hl; have e' : loop (fun (s_ : (List AW) × Int) => l3_does.b1 k s_.1 s_.2) k (s.1.map rowOf, 0) = some () := rows_spoil hk (s.1.map rowOf).length k 0 _ (by omega) (by have := hR.1; omega) hR.1 hR.2; unfold l3_does.f; rw [be (lentOp_eq h1 h2), h3, if_neg (by decide), if_neg (by decide), if_pos rfl]; unfold refT; rw [be (rRows_eq hk hR), be (Rows_eq0 (by omega) hT), be (sameRows_self hk hR.2 hR.1), be e']; exact j3_true hk h1 h2
theorem does4 {k : Nat} (hk : Fuel k) {t : Option Tab} {s : St} (hr : s.2 ≤ 1099511627776) (hl : s.1.length < 1000000000) (hf : (form s).length < 1000000000) (hT : RepS t s) {st : l3_Step} (h3 : st.Kind = 4) (h1 : st.Op.Key.length < 1000000000) (h2 : st.Op.Value.length < 1000000000) :
  l3_does.f k t (refT s) st = some (true, t, refT s) := by
 have hb := rbytes_eq (L := s.1) (r := s.2) hk hr (by omega) hT.inv.ent; have hz : D_Size.f k (refT s) = some ((form s).length : Int) := by
  unfold D_Size.f refT; rw [be hb]
 have hn : D_Len.f (refT s) = some (s.1.length : Int) := by
  unfold D_Len.f refT; simp
 have hv : D_Rev.f (refT s) = some (s.2 : Int) := by
  unfold D_Rev.f refT; simp
 have hs := size_eq0 hk (by omega) hr hT; rw [← form_size s] at hs; obtain ⟨_, e5, _⟩ := spoil_eq hk (form s) hf; unfold l3_does.f; rw [be (lentOp_eq h1 h2), h3, if_neg (by decide), if_neg (by decide), if_neg (by decide), if_pos rfl]; have hb' : D_Bytes.f k (refT s) = some (form s) := hb; rw [be hb', be (bytes_eq0 hk (by omega) hr hT), be hz, be hn, be hv, be (same_eq hk _ _ (.inl (by omega))), dt rfl, if_pos rfl, be hs, if_pos rfl, be (Len_eq hT), if_pos rfl, be (Rev_eq hT), be e5, dt rfl]; exact j3_true hk h1 h2
theorem vals_of {s : St} (h : bytesR (form s)) : ∀ e ∈ s.1, bytesR e.2.value := by
 intro e he c hc; refine h c ?_; unfold form; refine List.mem_append.2 (.inr (List.mem_flatMap.2 ⟨e, he, ?_⟩)); unfold ef; simp only [List.mem_append]; exact .inr (.inl (.inr hc))
theorem read_both {k : Nat} (hk : Fuel k) {p : List Int} (hb : bytesR p) (hl : p.length < 900000000) :
  l3_read.f k p = some (none, none, true) ∨ ∃ t s, l3_read.f k p = some (t, refT s, true) ∧ RepS t s ∧ Sound s ∧ s.1.length ≤ p.length ∧ p = form s := by
 obtain ⟨m, e, er, hm⟩ := rRead_any hk p hb hl; obtain ⟨_, es, _⟩ := spoil_eq hk p (by omega)
 rcases hm with ⟨rfl, rfl, hno⟩ | ⟨rfl, s, rfl, hS, hv, hp⟩
 ·obtain ⟨t, e, et, h⟩ := read_any hk p hb (by omega)
  rcases h with ⟨rfl, rfl⟩ | ⟨rfl, s, hT, hS, hp⟩
  ·left
   unfold l3_read.f; rw [be er, be (lent_eq (by omega)), be et, if_pos rfl, if_pos (by simp), be (kept_eq hk (by omega))]; unfold l3_read.j1; rw [be es]
  ·exact absurd hp (hno s hS (vals_of (by rw [← hp]; exact hb)))
 ·right
  obtain ⟨t, et, hT⟩ := read_fwd hk hS [] (by rw [List.append_nil, ← hp]; omega); rw [List.append_nil, if_pos rfl, ← hp] at et; have hn : Option.isNone t = false := by obtain ⟨rows, rfl, _⟩ := hT; rfl
  refine ⟨t, s, ?_, hT, hS, by rw [hp]; exact form_len s, hp⟩; unfold l3_read.f; rw [be er, be (lent_eq (by omega)), be et, if_pos rfl, if_pos (by simp [hn]), be (kept_eq hk (by omega))]; unfold l3_read.j1; rw [be es]; rfl
def pos (key : ByteArray) : List Ent → Nat
 | [] => 0
 | e :: L => if lt e.1 key = true then pos key L + 1 else 0
theorem pos_le (key : ByteArray) : ∀ L : List Ent, pos key L ≤ L.length
 | [] => Nat.le_refl _
 | e :: L => by
  have := pos_le key L; unfold pos; split <;> simp <;> omega
theorem pos_t {key : ByteArray} {e : Ent} {L : List Ent} (h : lt e.1 key = true) : pos key (e :: L) = pos key L + 1 := by rw [pos, if_pos h]
theorem pos_f {key : ByteArray} {e : Ent} {L : List Ent} (h : lt e.1 key = false) : pos key (e :: L) = 0 := by rw [pos, if_neg (by rw [h]; simp)]
theorem look_pos (key : ByteArray) : ∀ L : List Ent, look key L = match L.drop (pos key L) with | [] => none | e :: _ => if e.1 = key then some e.2 else none
 | [] => rfl
 | (a, x) :: L => by
  have ih := look_pos key L; unfold look
  cases h : lt a key with
  | true => rw [pos_t (e := (a, x)) h, List.drop_succ_cons, if_neg (by rw [lt_asym h]; simp), if_pos rfl]; exact ih
  | false =>
   rw [pos_f (e := (a, x)) h, List.drop_zero]
   simp only
   cases g : lt key a with
   | true => rw [if_pos rfl, if_neg (fun e => by rw [e, lt_irr] at g; cases g)]
   | false => rw [if_neg (by simp), if_neg (by simp), if_pos (lt_tri h g)]
theorem ins_pos (key : ByteArray) (v : TC) : ∀ L : List Ent, ins key v L = L.take (pos key L) ++ (key, v) :: (match L.drop (pos key L) with | [] => [] | e :: M => if e.1 = key then M else e :: M)
 | [] => rfl
 | (a, x) :: L => by
  have ih := ins_pos key v L; unfold ins
  cases h : lt a key with
  | true =>
   rw [pos_t (e := (a, x)) h, if_neg (by rw [lt_asym h]; simp), if_pos rfl, List.take_succ_cons, List.cons_append, List.drop_succ_cons]; exact congrArg _ ih
  | false =>
   rw [pos_f (e := (a, x)) h, List.drop_zero, List.take_zero, List.nil_append]
   simp only
   cases g : lt key a with
   | true => rw [if_pos rfl, if_neg (fun e => by rw [e, lt_irr] at g; cases g)]
   | false => rw [if_neg (by simp), if_neg (by simp), if_pos (lt_tri h g)]
theorem del_pos (key : ByteArray) : ∀ L : List Ent, del key L = L.take (pos key L) ++ (match L.drop (pos key L) with | [] => [] | e :: M => if e.1 = key then M else e :: M)
 | [] => rfl
 | (a, x) :: L => by
  have ih := del_pos key L; unfold del
  cases h : lt a key with
  | true =>
   rw [pos_t (e := (a, x)) h, if_neg (by rw [lt_asym h]; simp), if_pos rfl, List.take_succ_cons, List.cons_append, List.drop_succ_cons]; exact congrArg _ ih
  | false =>
   rw [pos_f (e := (a, x)) h, List.drop_zero, List.take_zero, List.nil_append]
   simp only
   cases g : lt key a with
   | true => rw [if_pos rfl, if_neg (fun e => by rw [e, lt_irr] at g; cases g)]
   | false => rw [if_neg (by simp), if_neg (by simp), if_pos (lt_tri h g)]
theorem above_pos (key : ByteArray) : ∀ L : List Ent, Ord L → above key L = L.drop (pos key L)
 | [], _ => rfl
 | e :: L, ho => by
  have ho' : (∀ b ∈ L, lt e.1 b.1 = true) ∧ Ord L := List.pairwise_cons.1 ho; have ih := above_pos key L ho'.2; unfold above at ih ⊢
  cases h : lt e.1 key with
  | true => rw [pos_t h, List.filter_cons_of_neg (by simp [h]), ih, List.drop_succ_cons]
  | false =>
   rw [pos_f h, List.drop_zero, List.filter_eq_self]; intro b hb
   rcases List.mem_cons.1 hb with rfl | hb
   ·simp [h]
   ·cases g : lt b.1 key with
    | false => rfl
    | true => have := lt_tr (ho'.1 b hb) g; rw [h] at this; cases this
theorem order_zero {a b : List Int} (ha : brange a) (hb : brange b) (h : lt (bs a) (bs b) = false) : (cmpL a b = 0 ↔ bs a = bs b) := by
 have key : ∀ a b : List Int, cmpL a b = 0 ↔ a = b := by
  intro a
  induction a with
  | nil => intro b; cases b <;> simp [cmpL]
  | cons x a ih =>
   intro b
   cases b with
   | nil => simp [cmpL]
   | cons y b =>
    unfold cmpL
    by_cases c1 : x < y
    ·rw [if_pos c1]; simp; omega
    ·rw [if_neg c1]
     by_cases c2 : y < x
     ·rw [if_pos c2]; simp; omega
     ·rw [if_neg c2, ih]; simp; omega
 rw [key]; exact ⟨fun e => by rw [e], fun e => by rw [← sb_bs ha, ← sb_bs hb, e]⟩
theorem at_loop {k : Nat} (hk : Fuel k) {key : List Int} (hkey : brange key) {v : Int} {L : List Ent} (hL : L.length < 2000000000) (hE : ∀ e ∈ L, e.1.size ≤ 64) : ∀ (n i m : Nat), i + n = L.length → n < m →
  loop (fun (s_ : Int) => D_at.b1 k (some ⟨L.map rowOf, v⟩) key s_) m (i : Int) = some (if pos (bs key) (L.drop i) = (L.drop i).length then .inl (L.map rowOf, v) else .inr ((i + pos (bs key) (L.drop i) : Nat) : Int))
 | _, _, 0, _, h => absurd h (by omega)
 | 0, i, m + 1, h, _ => by
  rw [List.drop_of_length_le (by omega : L.length ≤ i), if_pos (show pos (bs key) [] = ([] : List Ent).length from rfl)]; refine loop_done ?_; unfold D_at.b1
  simp only [oB]
  rw [if_neg (by simp; omega)]
 | n + 1, i, m + 1, h, hm => by
  have hi : i < L.length := by omega
  have hi' : (i : Int) < ((L.map rowOf).length : Int) := by simp; omega
  have hs := hE _ (List.getElem_mem hi); have ih := at_loop hk hkey (v := v) hL hE n (i + 1) m (by omega) (by omega); rw [List.drop_eq_getElem_cons hi]; have ho : d3_order.f k (rowOf L[i]).Key key = some (cmpL (sb L[i].1) key) := order_eq hk _ _ (by show (sb L[i].1).length < _; rw [sb_len]; omega); have hg := cmpL_ge (a := sb L[i].1) (b := key) (brange_of (sb_bytes _)) hkey; rw [bs_sb] at hg; have hb : D_at.b1 k (some ⟨L.map rowOf, v⟩) key (i : Int) = if lt L[i].1 (bs key) = true then some (.next ((i + 1 : Nat) : Int)) else some (.done (.inr (i : Int))) := by
   unfold D_at.b1
   simp only [oB]
   rw [if_pos hi', if_pos ⟨by omega, hi'⟩, rd_map hi, be ho, wrS i (by omega)]
   cases c : lt L[i].1 (bs key) with
   | true => rw [c] at hg; rw [if_neg (by intro q; have := dt q; rw [hg] at this; cases this), if_pos rfl]
   | false => rw [c] at hg; rw [if_pos (of_decide_eq_true hg), if_neg (by simp)]
  cases c : lt L[i].1 (bs key) with
  | true =>
   rw [loop_next (s' := ((i + 1 : Nat) : Int)) (by rw [hb, if_pos c]), ih]; rw [pos_t c, List.length_cons]
   by_cases q : pos (bs key) (L.drop (i + 1)) = (L.drop (i + 1)).length
   ·rw [if_pos q, if_pos (by rw [q])]
   ·rw [if_neg q, if_neg (fun e => q (Nat.succ.inj e)), show i + 1 + pos (bs key) (L.drop (i + 1)) = i + (pos (bs key) (L.drop (i + 1)) + 1) from by omega]
  | false =>
   rw [pos_f c, if_neg (show ¬ (0 = (L[i] :: L.drop (i + 1)).length) from fun e => by cases e)]; refine loop_done ?_; rw [hb, if_neg (by rw [c]; simp), Nat.add_zero]
theorem rat_eq {k : Nat} (hk : Fuel k) {key : List Int} (hkey : brange key) {v : Int} {L : List Ent} (hL : L.length < 2000000000) (hE : ∀ e ∈ L, e.1.size ≤ 64) :
  D_at.f k (some ⟨L.map rowOf, v⟩) key = some (pos (bs key) L : Int) := by
 have h24 : 1099511627776 ≤ k := hk; have h := at_loop hk hkey (v := v) hL hE L.length 0 k (by omega) (by omega); rw [List.drop_zero] at h; unfold D_at.f; have h' : loop (fun (s_ : Int) => D_at.b1 k (some ⟨L.map rowOf, v⟩) key s_) k 0 = _ := h; rw [be h']
 by_cases q : pos (bs key) L = L.length
 ·rw [if_pos q]; unfold D_at.j2; simp only [List.length_map, q]
 ·rw [if_neg q]; simp only [Nat.zero_add]
def here (key : ByteArray) (L : List Ent) : Bool := match L.drop (pos key L) with
 | [] => false
 | e :: _ => decide (e.1 = key)
theorem pos_ge {key : ByteArray} : ∀ {L : List Ent} (h : pos key L < L.length), lt L[pos key L].1 key = false
 | e :: L, h => by
  unfold pos at h
  cases c : lt e.1 key with
  | true =>
   have hp := pos_t (L := L) c
   simp only [hp, List.getElem_cons_succ]
   rw [c, if_pos rfl] at h; exact pos_ge (by simp at h; omega)
  | false =>
   have hp := pos_f (L := L) c
   simp only [hp, List.getElem_cons_zero]
   exact c
theorem order_here {k : Nat} (hk : Fuel k) {key : List Int} (hkey : brange key) {L : List Ent} (hE : ∀ e ∈ L, e.1.size ≤ 64) (h : pos (bs key) L < L.length) :
  ∃ z, d3_order.f k (rowOf L[pos (bs key) L]).Key key = some z ∧ decide (z = 0) = here (bs key) L := by
 have hs := hE _ (List.getElem_mem h); refine ⟨_, order_eq hk _ _ (by show (sb _).length < _; rw [sb_len]; omega), ?_⟩; have hz := order_zero (a := sb L[pos (bs key) L].1) (b := key) (brange_of (sb_bytes _)) hkey (by rw [bs_sb]; exact pos_ge h); unfold here; rw [List.drop_eq_getElem_cons h]
 simp only
 rw [bs_sb] at hz; exact decide_eq_decide.2 hz
def tailQ (key : ByteArray) (L : List Ent) : List Ent := match L.drop (pos key L) with
 | [] => []
 | e :: M => if e.1 = key then M else e :: M
theorem here_no {key : ByteArray} {L : List Ent} (h : ¬ pos key L < L.length) : here key L = false := by
 unfold here; rw [List.drop_of_length_le (by omega)]
theorem tail_t {key : ByteArray} {L : List Ent} (h : here key L = true) : tailQ key L = L.drop (pos key L + 1) := by
 by_cases hp : pos key L < L.length
 ·unfold here at h; unfold tailQ
  rw [List.drop_eq_getElem_cons hp] at h ⊢
  simp only at h ⊢
  rw [if_pos (of_decide_eq_true h)]
 ·rw [here_no hp] at h; cases h
theorem tail_f {key : ByteArray} {L : List Ent} (h : here key L = false) : tailQ key L = L.drop (pos key L) := by
 by_cases hp : pos key L < L.length
 ·unfold here at h; unfold tailQ
  rw [List.drop_eq_getElem_cons hp] at h ⊢
  simp only at h ⊢
  rw [if_neg (of_decide_eq_false h)]
 ·unfold tailQ; rw [List.drop_of_length_le (by omega)]
theorem rset_eq {k : Nat} (hk : Fuel k) {key : List Int} (hkey : brange key) {v : Int} {L : List Ent} (hL : L.length < 1000000000) (hE : ∀ e ∈ L, e.1.size ≤ 64) (row : AW) (there : Bool) :
  D_set.f k (some ⟨L.map rowOf, v⟩) key row there = some (some ⟨(L.take (pos (bs key) L)).map rowOf ++ (if there = true then [row] else []) ++ (tailQ (bs key) L).map rowOf, v⟩) := by
 have hp := pos_le (bs key) L; have hlen : ((L.map rowOf).length : Int) = (L.length : Int) := by simp
 have hj3 : ∀ (l : List AW) (j : Nat), j ≤ L.length → l.length ≤ L.length + 1 → D_set.j3 ⟨L.map rowOf, v⟩ l (j : Int) = some (some ⟨l ++ (L.drop j).map rowOf, v⟩) := by
  intro l j hj hl; unfold D_set.j3
  simp only [Int.toNat_natCast]
  rw [if_pos (by rw [hlen]; omega), if_pos (by simp; omega), ← List.map_drop]
 have hj1 : ∀ l : List AW, l.length ≤ L.length + 1 → D_set.j1 k key (pos (bs key) L : Int) ⟨L.map rowOf, v⟩ l = some (some ⟨l ++ (tailQ (bs key) L).map rowOf, v⟩) := by
  intro l hl; unfold D_set.j1
  simp only
  by_cases h : pos (bs key) L < L.length
  ·obtain ⟨z, ez, hz⟩ := order_here hk hkey hE h
   rw [if_pos (by rw [hlen]; omega), if_pos (by rw [hlen]; omega), rd_map h, be ez, hz]; unfold D_set.j2
   cases hh : here (bs key) L with
   | true => rw [if_pos rfl, wrS _ (by omega), hj3 _ _ (by omega) hl, tail_t hh]
   | false => rw [if_neg (by simp), hj3 _ _ (by omega) hl, tail_f hh]
  ·rw [if_neg (by rw [hlen]; omega)]
   unfold D_set.j2; rw [if_neg (by simp), hj3 _ _ (by omega) hl, tail_f (here_no h)]
 unfold D_set.f; rw [be (rat_eq hk hkey (by omega) hE)]
 simp only [oB, Int.toNat_natCast, List.nil_append]
 rw [if_pos (by rw [hlen]; omega), if_pos (by simp; omega)]; rw [← List.map_take]
 cases there with
 | true => rw [if_pos rfl, if_pos (by simp; omega), hj1 _ (by simp; omega), if_pos rfl]
 | false => rw [if_neg (by simp), hj1 _ (by simp; omega), if_neg (by simp), List.append_nil]
def rowQ (key : ByteArray) (o : Option TC) : AW × Bool := match o with
 | none => (⟨[], [], 0⟩, false)
 | some c => (rowOf (key, c), true)
theorem rrow_eq {k : Nat} (hk : Fuel k) {key : List Int} (hkey : brange key) {v : Int} {L : List Ent} (hL : L.length < 1000000000) (hE : ∀ e ∈ L, e.1.size ≤ 64 ∧ e.2.value.length ≤ 256) :
  D_row.f k (some ⟨L.map rowOf, v⟩) key = some (rowQ (bs key) (look (bs key) L)) := by
 have hp := pos_le (bs key) L; have hlen : ((L.map rowOf).length : Int) = (L.length : Int) := by simp
 have hE' : ∀ e ∈ L, e.1.size ≤ 64 := fun e he => (hE e he).1; unfold D_row.f; rw [be (rat_eq hk hkey (by omega) hE')]
 simp only [oB]
 rw [look_pos]
 by_cases h : pos (bs key) L < L.length
 ·obtain ⟨z, ez, hz⟩ := order_here hk hkey hE' h
  have hs := hE _ (List.getElem_mem h); rw [if_pos (by rw [hlen]; omega), if_pos (by rw [hlen]; omega), rd_map h, be ez, hz]; unfold D_row.j1 here; rw [List.drop_eq_getElem_cons h]
  simp only
  by_cases e : L[pos (bs key) L].1 = bs key
  ·rw [dt e, if_pos rfl, if_pos e, if_pos (by rw [hlen]; omega), rd_map h, be (rcopied_eq (by show (sb _).length < _; rw [sb_len]; omega) (by show L[pos (bs key) L].2.value.length < _; omega))]
   unfold rowQ rowOf; simp only [e]
  ·rw [dz e, if_neg (by simp), if_neg e]; rfl
 ·rw [if_neg (by rw [hlen]; omega), List.drop_of_length_le (by omega)]; rfl
theorem rWrites_eq (o : AO) : d3_Writes.f o = some (isW o) := by
 unfold d3_Writes.f isW
 by_cases c2 : o.Kind = 2
 ·rw [if_pos c2]; simp [c2]
 ·rw [if_neg c2]
  by_cases c3 : o.Kind = 3
  ·rw [if_pos c3]; simp [c3]
  ·rw [if_neg c3]; simp [c2, c3]
theorem rRight_eq (o : AO) : d3_Right.f o = some (right o) := by
 have ite_some : ∀ {p : Prop} [Decidable p] {b : Bool}, (if p then some b else some false) = some (decide p && b) := by
  intro p _ b; by_cases h : p
  ·rw [if_pos h, dt h]; rfl
  ·rw [if_neg h, dz h]; rfl
 unfold d3_Right.f d3_Right.j1 right keyok
 simp only [ite_some]
 by_cases c1 : o.Kind = 1
 ·simp [c1, -List.length_eq_zero_iff]; rw [Bool.eq_iff_iff]; simp [-List.length_eq_zero_iff]; omega
 ·by_cases c3 : o.Kind = 3
  ·simp [c3, -List.length_eq_zero_iff]; rw [Bool.eq_iff_iff]; simp [-List.length_eq_zero_iff]; omega
  ·by_cases c2 : o.Kind = 2
   ·simp [c2, -List.length_eq_zero_iff]; rw [Bool.eq_iff_iff]; simp [-List.length_eq_zero_iff]; omega
   ·by_cases c4 : o.Kind = 4
    ·simp [c4, -List.length_eq_zero_iff]; rw [Bool.eq_iff_iff]; simp [-List.length_eq_zero_iff]; omega
    ·by_cases c5 : o.Kind = 5
     ·simp [c5, -List.length_eq_zero_iff]; rw [Bool.eq_iff_iff]; simp [-List.length_eq_zero_iff]; omega
     ·simp [c1, c2, c3, c4, c5]
def refS (L : List Ent) (r : Nat) : Option Tb3 := some ⟨L.map rowOf, (r : Int)⟩
theorem rDo_j1 {k : Nat} (hk : Fuel k) {L : List Ent} {r : Nat} (hL : L.length < 1000000000) (hr : r ≤ 1099511627776) (hI : Inv L r) (o : AO) (hkey : brange o.Key) (hR : right o = true) (hW : isW o = true → r < 1099511627776) :
  D_Do.j1 k (refS L r) o false = some ((act L r o).1, (act L r o).2.1, refS (act L r o).2.2.1 (act L r o).2.2.2) := by
 have hE : ∀ e ∈ L, e.1.size ≤ 64 ∧ e.2.value.length ≤ 256 := fun e he => by have := hI.ent e he; omega
 have hE' : ∀ e ∈ L, e.1.size ≤ 64 := fun e he => (hE e he).1; have hlen : ((L.map rowOf).length : Int) = (L.length : Int) := by simp
 have hp := pos_le (bs o.Key) L; obtain ⟨k1, k2, k3, k4⟩ := right_key hR; unfold D_Do.j1 act; rw [if_neg (by simp), if_neg (by rw [hR]; simp)]; have hrow : D_row.f k (refS L r) o.Key = some (rowQ (bs o.Key) (look (bs o.Key) L)) := rrow_eq hk hkey hL hE; rw [be hrow]
 by_cases c5 : o.Kind = 5
 ·have hw : d3_Writes.f o = some false := by rw [rWrites_eq]; simp [isW, c5]
  have hat : D_at.f k (refS L r) o.Key = some (pos (bs o.Key) L : Int) := rat_eq hk hkey (by omega) hE'; have hj2 : ∀ b l l' i, D_Do.j2 k (refS L r) o b l l' i = some (⟨b, l, l', i, r⟩, 0, refS L r) := by
   intro b l l' i; unfold D_Do.j2; rw [be hw, if_neg (by simp)]; rfl
  rw [if_pos c5, if_pos c5, be hat, above_pos _ _ hI.ord]; unfold refS
  simp only [oB]
  by_cases h : pos (bs o.Key) L < L.length
  ·have hs := hE _ (List.getElem_mem h)
   rw [if_pos (by rw [hlen]; omega), if_pos (by rw [hlen]; omega), rd_map h, be (rcopied_eq (by show (sb _).length < _; rw [sb_len]; omega) (by show L[pos (bs o.Key) L].2.value.length < _; omega)), dt (by rw [hlen]; omega), List.drop_eq_getElem_cons h]; exact hj2 _ _ _ _
  ·rw [if_neg (by rw [hlen]; omega), dz (by rw [hlen]; omega), List.drop_of_length_le (by omega)]
   exact hj2 _ _ _ _
 ·have k3' := k3 c5
  rw [if_neg c5, if_neg c5]
  by_cases c1 : o.Kind = 1
  ·have hw : d3_Writes.f o = some false := by rw [rWrites_eq]; simp [isW, c1]
   rw [if_pos c1]; unfold D_Do.j2; rw [be hw, if_neg (by simp)]
   cases look (bs o.Key) L <;> rfl
  ·have hiw : isW o = true := by unfold isW; simp; omega
   have hr' := hW hiw; have hw : d3_Writes.f o = some true := by rw [rWrites_eq, hiw]
   rw [if_neg c1]; unfold D_Do.j2; rw [be hw, if_pos rfl]; unfold refS
   simp only [oB]
   have hr1 : IntKind.i64.wrap ((r : Int) + 1) = ((r + 1 : Nat) : Int) := by rw [wr (by omega) (by omega)]; omega
   rw [hr1, be (rcopied_eq (r := AW.mk o.Key o.Value ((r + 1 : Nat) : Int)) (by show o.Key.length < _; omega) (by show o.Value.length < _; omega))]; unfold D_Do.j3
   simp only
   have st := rset_eq hk hkey (v := ((r + 1 : Nat) : Int)) hL hE' (AW.mk o.Key o.Value ((r + 1 : Nat) : Int)) true; have sf := rset_eq hk hkey (v := ((r + 1 : Nat) : Int)) hL hE' (AW.mk o.Key o.Value ((r + 1 : Nat) : Int)) false; have hins : (L.take (pos (bs o.Key) L)).map rowOf ++ (if true = true then [AW.mk o.Key o.Value ((r + 1 : Nat) : Int)] else []) ++ (tailQ (bs o.Key) L).map rowOf = (ins (bs o.Key) ⟨o.Value, ((r + 1 : Nat) : Int)⟩ L).map rowOf := by
    rw [ins_pos, if_pos rfl, List.map_append, List.map_cons, List.append_assoc]
    show _ ++ (_ :: _) = _ ++ (rowOf (bs o.Key, ⟨o.Value, ((r + 1 : Nat) : Int)⟩) :: _)
    congr 2
    unfold rowOf; simp only [sb_bs hkey]
   have hdel : (L.take (pos (bs o.Key) L)).map rowOf ++ (if false = true then [AW.mk o.Key o.Value ((r + 1 : Nat) : Int)] else []) ++ (tailQ (bs o.Key) L).map rowOf = (del (bs o.Key) L).map rowOf := by
    rw [del_pos, if_neg (by simp), List.append_nil, List.map_append]; rfl
   rw [hins] at st; rw [hdel] at sf; rw [show ((r : Int) + 1) = ((r + 1 : Nat) : Int) from by omega]
   by_cases c3 : o.Kind = 3
   ·rw [if_neg (by omega), if_pos c3, if_pos c3, be sf]
    cases look (bs o.Key) L <;> rfl
   ·rw [if_neg c3]
    have hrev : (rowQ (bs o.Key) (look (bs o.Key) L)).1.Rev = (look (bs o.Key) L).elim 0 (fun c => c.rev) := by cases look (bs o.Key) L <;> rfl
    by_cases c2 : o.Kind = 2
    ·rw [if_pos c2, if_neg c3, if_pos (Or.inl c2), be st]
     cases look (bs o.Key) L <;> rfl
    ·rw [if_neg c2, if_neg c3, hrev]
     by_cases c : (look (bs o.Key) L).elim 0 (fun c => c.rev) = o.Rev
     ·rw [if_pos c, if_pos (Or.inr c), be st, dt c]
      cases look (bs o.Key) L <;> rfl
     ·rw [if_neg c, if_neg (fun h => h.elim c2 c), dz c]
      cases look (bs o.Key) L <;> rfl
theorem rDo_eq {k : Nat} (hk : Fuel k) {L : List Ent} {r : Nat} (hL : L.length < 1000000000) (hr : r ≤ 1099511627776) (hI : Inv L r) (o : AO) (hkey : brange o.Key) :
  D_Do.f k (refS L r) o = some ((actE L r o).1, (actE L r o).2.1, refS (actE L r o).2.2.1 (actE L r o).2.2.2) := by
 unfold D_Do.f; rw [if_neg (by simp [refS]), be (rRight_eq o)]
 cases hR : right o with
 | false =>
  have : actE L r o = (zeroA, 131, L, r) := by
   unfold actE act; rw [if_neg (show ¬ fullQ r o from fun h => by have := h.1; rw [hR] at this; cases this), if_pos hR]
  rw [if_neg (by simp), this]; rfl
 | true =>
  rw [if_pos rfl, be (rWrites_eq o)]
  cases hW : isW o with
  | false =>
   have : actE L r o = act L r o := if_neg fun h => by have := h.2.1; rw [hW] at this; cases this
   rw [if_neg (by simp), this]; exact rDo_j1 hk hL hr hI o hkey hR (fun h => by rw [hW] at h; cases h)
  | true =>
   rw [if_pos rfl]
   by_cases cf : r = 1099511627776
   ·have : actE L r o = (zeroA, 132, L, r) := if_pos ⟨hR, hW, cf⟩
    rw [this]; unfold refS; simp only [oB]; rw [dt (by omega)]; rfl
   ·have : actE L r o = act L r o := if_neg fun h => cf h.2.2
    have h1 := rDo_j1 hk hL hr hI o hkey hR (fun h => by omega); rw [this, ← h1]; unfold refS; simp only [oB]; rw [dz (by omega)]
theorem told_small {r : Int} {k : ByteArray} {o : Option TC} (h1 : k.size < 1000) (h2 : ∀ c, o = some c → c.value.length < 1000) : (told r k o).Key.length < 1000 ∧ (told r k o).Value.length < 1000 := by
 cases o with
 | none => exact ⟨by show 0 < 1000; decide, by show 0 < 1000; decide⟩
 | some c => exact ⟨by show (sb k).length < _; rw [sb_len]; exact h1, h2 c rfl⟩
theorem actE_small {L : List Ent} {r : Nat} (hI : Inv L r) (o : AO) : (actE L r o).1.Key.length < 1000 ∧ (actE L r o).1.Value.length < 1000 := by
 have z : zeroA.Key.length < 1000 ∧ zeroA.Value.length < 1000 := ⟨by decide, by decide⟩
 by_cases hf : fullQ r o
 ·rw [actE, if_pos hf]; exact z
 ·rw [actE, if_neg hf]
  cases hR : right o with
  | false => rw [act, if_pos hR]; exact z
  | true =>
   obtain ⟨k1, k2, k3, k4⟩ := right_key hR; have hk : (bs o.Key).size < 1000 := by rw [bs_size]; omega
   have hl : ∀ c, look (bs o.Key) L = some c → c.value.length < 1000 := fun c hc => by have := (hI.look hc).2.2.1; omega
   rw [act, if_neg (by rw [hR]; simp)]
   split
   ·cases hA : above (bs o.Key) L with
    | nil => exact told_small (by decide) (fun c hc => by cases hc)
    | cons e M =>
     have := hI.ent e (above_mem hA); exact told_small (by omega) (fun c hc => by cases hc; omega)
   ·split
    ·exact told_small hk hl
    ·split
     ·exact told_small hk hl
     ·split
      ·exact told_small (r := (r : Int) + 1) hk hl
      ·exact told_small (r := (r : Int) + 1) hk hl
theorem actE_len (L : List Ent) (r : Nat) (o : AO) : (actE L r o).2.2.1.length ≤ L.length + 1 := by
 have h1 := ins_len (bs o.Key) ⟨o.Value, r + 1⟩ L; have h2 := del_len (bs o.Key) L; unfold actE act
 repeat' split
 all_goals first | exact Nat.le_succ _ | exact h1 | exact Nat.le_trans h2 (Nat.le_succ _)
theorem actE_top {L : List Ent} {r : Nat} (hr : r ≤ 1099511627776) (o : AO) : (actE L r o).2.2.2 ≤ 1099511627776 := by
 by_cases hf : fullQ r o
 ·rw [actE, if_pos hf]; exact hr
 ·rw [actE, if_neg hf]
  by_cases h : r = 1099511627776
  ·have : (act L r o).2.2.2 = r := by
    cases hR : right o with
    | false => rw [act, if_pos hR]
    | true =>
     obtain ⟨k1, k2, k3, k4⟩ := right_key hR; have hw : ¬ isW o = true := fun q => hf ⟨hR, q, h⟩; have : o.Kind = 1 ∨ o.Kind = 5 := by
      unfold isW at hw; simp at hw; omega
     rw [act, if_neg (by rw [hR]; simp)]
     rcases this with g | g
     ·rw [if_neg (by omega), if_pos g]
     ·rw [if_pos g]
   omega
  ·rcases act_r L r o with q | q <;> omega
def Okk (n : Nat) (s : St) : Prop := s.1.length ≤ n ∧ s.2 ≤ 1099511627776
def stepE (s : St) (o : AO) : St := (actE s.1 s.2 o).2.2
theorem form_small {s : St} (hI : Inv s.1 s.2) (h : Okk 2097153 s) : (form s).length < 1000000000 := by
 have h1 := form_size s; have h2 := sz_le hI.ent; have := nm_le s.2; have := nm_le s.1.length; have := h.1
 omega
theorem rSize_eq {k : Nat} (hk : Fuel k) {s : St} (hI : Inv s.1 s.2) (h : Okk 2097153 s) : D_Size.f k (refT s) = some ((form s).length : Int) := by
 have h1 := h.1; have hb := rbytes_eq (L := s.1) (r := s.2) hk h.2 (by omega) hI.ent; unfold D_Size.f refT; rw [be hb]
theorem j3_some {k : Nat} (hk : Fuel k) {st : l3_Step} {b : Bool} (hb : b = true) {t : Option Tab} {o : Option Tb3} (h1 : st.Op.Key.length < 1000000000) (h2 : st.Op.Value.length < 1000000000) : l3_does.j3 k st st.Op b t o = some (true, t, o) := by
 subst hb; exact j3_true hk h1 h2
theorem does_eq {k : Nat} (hk : Fuel k) {t : Option Tab} {s : St} (hT : RepS t s) (hs : Okk 2097152 s) {st : l3_Step} (hkey : brange st.Op.Key) (h1 : st.Op.Key.length < 1000000000) (h2 : st.Op.Value.length < 1000000000) :
  ∃ t' s', l3_does.f k t (refT s) st = some (true, t', refT s') ∧ RepS t' s' ∧ s'.1.length ≤ s.1.length + 1 ∧ s'.2 ≤ 1099511627776 := by
 have hl := hs.1; have hI := hT.inv
 by_cases c3 : st.Kind = 3
 ·exact ⟨t, s, does3 hk (by omega) hT c3 h1 h2, hT, by omega, hs.2⟩
 by_cases c4 : st.Kind = 4
 ·exact ⟨t, s, does4 hk hs.2 (by omega) (form_small hI ⟨by omega, hs.2⟩) hT c4 h1 h2, hT, by omega, hs.2⟩
 have hd : D_Do.f k (refT s) st.Op = some ((actE s.1 s.2 st.Op).1, (actE s.1 s.2 st.Op).2.1, refT (stepE s st.Op)) := rDo_eq hk (by omega) hs.2 hI st.Op hkey; obtain ⟨t', ed, hT'⟩ := do_eq0 hk (by omega) hs.2 hT st.Op; have hlen := actE_len s.1 s.2 st.Op; have htop := actE_top (L := s.1) hs.2 st.Op; have hsm := actE_small hI st.Op; have hlo := lentOp_eq h1 h2
 by_cases c1 : st.Kind = 1
 ·refine ⟨t', stepE s st.Op, ?_, hT', hlen, htop⟩
  obtain ⟨_, e1, _⟩ := spoil_eq hk (actE s.1 s.2 st.Op).1.Key (by omega); obtain ⟨_, e2, _⟩ := spoil_eq hk (actE s.1 s.2 st.Op).1.Value (by omega); unfold l3_does.f; rw [be hlo, if_pos c1, be hd, be ed, be (sameAnswer_eq hk _ _ (.inl (by show (actE s.1 s.2 st.Op).1.Key.length < _; omega)) (.inl (by show (actE s.1 s.2 st.Op).1.Value.length < _; omega))), if_pos (by simp)]
  simp only
  rw [be e1, be e2]; exact j3_some hk (by simp) h1 h2
 by_cases c2 : st.Kind = 2
 ·refine ⟨t, s, ?_, hT, by omega, hs.2⟩
  have ok' : Okk 2097153 (stepE s st.Op) := ⟨by show (actE s.1 s.2 st.Op).2.2.1.length ≤ _; omega, htop⟩; have hI' : Inv (stepE s st.Op).1 (stepE s st.Op).2 := RepS.inv (s := stepE s st.Op) hT'; have hz := size_eq0 hk (t := t') (s := stepE s st.Op) (by have := ok'.1; omega) htop hT'; rw [← form_size (stepE s st.Op)] at hz; have ha : D_After.f k (refT s) st.Op = some (if (actE s.1 s.2 st.Op).2.1 = 0 then (((form (stepE s st.Op)).length : Int), 0) else (0, (actE s.1 s.2 st.Op).2.1)) := by
   unfold D_After.f; have hc : D_Copy.f k (refT s) = some (refT s) := rCopy_eq hk (rows_small hI (by omega)); rw [be hc, be hd]
   simp only
   by_cases c : (actE s.1 s.2 st.Op).2.1 = 0
   ·rw [if_pos c, if_pos c, be (rSize_eq hk hI' ok')]
   ·rw [if_neg c, if_neg c]
  have hb : T_After.f k t st.Op = some (if (actE s.1 s.2 st.Op).2.1 = 0 then (((form (stepE s st.Op)).length : Int), 0) else (0, (actE s.1 s.2 st.Op).2.1)) := by
   unfold T_After.f; rw [be (copy_eq hT), be ed]
   simp only
   by_cases c : (actE s.1 s.2 st.Op).2.1 = 0
   ·rw [if_pos c, if_pos c, be hz]
   ·rw [if_neg c, if_neg c]
  unfold l3_does.f; rw [be hlo, if_neg c1, if_pos c2, be ha, be hb, if_pos rfl]; exact j3_some hk (by simp) h1 h2
 refine ⟨t, s, ?_, hT, by omega, hs.2⟩; unfold l3_does.f; rw [be hlo, if_neg c1, if_neg c2, if_neg c3, if_neg c4]
 by_cases c7 : st.Kind = 7
 ·rw [if_pos c7, be (rRight_eq _), be (right_eq _)]
  exact j3_some hk (by simp) h1 h2
 ·rw [if_neg c7]
  exact j3_some hk rfl h1 h2
theorem does_none {k : Nat} (hk : Fuel k) {st : l3_Step} (h1 : st.Op.Key.length < 1000000000) (h2 : st.Op.Value.length < 1000000000) :
  l3_does.f k none none st = some (true, none, none) := by
 have h24 : 1099511627776 ≤ k := hk; have hlo := lentOp_eq h1 h2; have s0 : l3_spoil.f k [] = some [] := by
  obtain ⟨l, e, hl⟩ := spoil_eq hk [] (by decide); rw [List.length_eq_zero_iff.1 hl] at e; exact e
 have d1 : D_Do.f k none st.Op = some (⟨false, [], [], 0, 0⟩, 1, none) := rfl; have d2 : T_Do.f k none st.Op = some (⟨false, [], [], 0, 0⟩, 1, none) := rfl; unfold l3_does.f; rw [be hlo]
 by_cases c1 : st.Kind = 1
 ·rw [if_pos c1, be d1, be d2, be (sameAnswer_eq hk _ _ (.inl (by decide)) (.inl (by decide))), if_pos (by simp)]
  simp only
  rw [be s0, be s0]; exact j3_some hk (by simp) h1 h2
 rw [if_neg c1]
 by_cases c2 : st.Kind = 2
 ·have a1 : D_After.f k none st.Op = some (0, 1) := rfl
  have a2 : T_After.f k none st.Op = some (0, 1) := rfl; rw [if_pos c2, be a1, be a2, if_pos rfl]; exact j3_some hk (by simp) h1 h2
 rw [if_neg c2]
 by_cases c3 : st.Kind = 3
 ·have a1 : D_Rows.f k none = some [] := rfl
  have a2 : T_Rows.f none = some [] := rfl; have e' : loop (fun (s_ : (List AW) × Int) => l3_does.b1 k s_.1 s_.2) k ([], 0) = some () := rows_spoil hk 0 k 0 [] rfl (by omega) (by decide) (fun r hr => by cases hr); rw [if_pos c3, be a1, be a2, be (sameRows_self hk (fun r hr => by cases hr) (by decide)), be e']; exact j3_some hk rfl h1 h2
 rw [if_neg c3]
 by_cases c4 : st.Kind = 4
 ·have a1 : D_Bytes.f k none = some [] := rfl
  have a2 : T_Bytes.f k none = some [] := rfl; have a3 : D_Size.f k none = some 0 := rfl; have a4 : D_Len.f none = some 0 := rfl; have a5 : D_Rev.f none = some 0 := rfl; have a6 : T_Size.f k none = some 0 := rfl; have a7 : T_Len.f none = some 0 := rfl; have a8 : T_Rev.f none = some 0 := rfl; rw [if_pos c4, be a1, be a2, be a3, be a4, be a5, be (same_eq hk _ _ (.inl (by decide))), if_pos (by simp), be a6, if_pos rfl, be a7, if_pos rfl, be a8, be s0]; exact j3_some hk (by simp) h1 h2
 rw [if_neg c4]
 by_cases c7 : st.Kind = 7
 ·rw [if_pos c7, be (rRight_eq _), be (right_eq _)]
  exact j3_some hk (by simp) h1 h2
 ·rw [if_neg c7]
  exact j3_some hk rfl h1 h2
def Rel (T : List (Option Tab)) (S : List St) : Prop := T.length = S.length ∧ ∀ j (h : j < S.length) (h' : j < T.length), RepS T[j] S[j]
theorem Rel.set {T : List (Option Tab)} {S : List St} (h : Rel T S) (j : Nat) {t : Option Tab} {s : St} (hT : RepS t s) : Rel (T.set j t) (S.set j s) := by
 refine ⟨by simp [h.1], fun i hi hi' => ?_⟩; rw [List.getElem_set, List.getElem_set]
 by_cases c : j = i
 ·rw [if_pos c, if_pos c]; exact hT
 ·rw [if_neg c, if_neg c]; exact h.2 i (by simpa using hi) (by simpa using hi')
theorem Rel.push {T : List (Option Tab)} {S : List St} (h : Rel T S) {t : Option Tab} {s : St} (hT : RepS t s) : Rel (T ++ [t]) (S ++ [s]) := by
 have hl := h.1; refine ⟨by simp [hl], fun i hi hi' => ?_⟩
 by_cases c : i < S.length
 ·rw [List.getElem_append_left c, List.getElem_append_left (by omega)]; exact h.2 i c (by omega)
 ·rw [List.getElem_append_right (by omega), List.getElem_append_right (by omega)]; simp; exact hT
theorem map_set {α β : Type} (f : α → β) (S : List α) (j : Nat) (s : α) : (S.map f).set j (f s) = (S.set j s).map f := by rw [List.map_set]
theorem round_eq (w : Int) {n : Nat} (hn : n < 1000000000) : ∃ z : Nat, l3_round.f w (IntKind.i64.wrap ((n : Int) + 1)) = some (z : Int) ∧ z ≤ n := by
 rw [wr (by omega) (by omega)]; unfold l3_round.f; have h1 : (Int.tmod w ((n : Int) + 1)).natAbs < (n + 1) := by
  have := Int.natAbs_tmod w ((n : Int) + 1); rw [this]; have e : ((n : Int) + 1).natAbs = n + 1 := by omega
  rw [e]; exact Nat.mod_lt _ (by omega)
 rw [if_pos (by omega)]
 by_cases c : Int.tmod w ((n : Int) + 1) < 0
 ·rw [if_pos c, wr (by omega) (by omega)]
  exact ⟨(Int.tmod w ((n : Int) + 1) + ((n : Int) + 1)).toNat, by congr 1; omega, by omega⟩
 ·rw [if_neg c]
  exact ⟨(Int.tmod w ((n : Int) + 1)).toNat, by congr 1; omega, by omega⟩
def StepOk (st : l3_Step) : Prop := brange st.Op.Key ∧ st.Op.Key.length < 1000000000 ∧ st.Op.Value.length < 1000000000 ∧ bytesR st.P ∧ st.P.length ≤ 1048576
structure SI (i : Nat) (T : List (Option Tab)) (M : List (Option Tb3)) (S : List St) : Prop where
 rel : Rel T S
 ref : M = S.map refT
 len : S.length ≤ 1 + i
 ok : ∀ s ∈ S, Okk (1048576 + i) s
theorem SI.mono {i : Nat} {T : List (Option Tab)} {M : List (Option Tb3)} {S : List St} (h : SI i T M S) : SI (i + 1) T M S := ⟨h.rel, h.ref, by have := h.len; omega, fun s hs => ⟨by have := (h.ok s hs).1; omega, (h.ok s hs).2⟩⟩
theorem SI.push {i : Nat} {T : List (Option Tab)} {M : List (Option Tb3)} {S : List St} (h : SI i T M S) {t : Option Tab} {s : St} (hT : RepS t s) (hs : Okk (1048576 + i) s) : SI (i + 1) (T ++ [t]) (M ++ [refT s]) (S ++ [s]) := by
 refine ⟨h.rel.push hT, by rw [h.ref]; simp, by have := h.len; simp; omega, fun x hx => ?_⟩
 rcases List.mem_append.1 hx with g | g
 ·exact h.mono.ok x g
 ·rw [List.mem_singleton.1 g]; exact ⟨by have := hs.1; omega, hs.2⟩
theorem SI.set {i : Nat} {T : List (Option Tab)} {M : List (Option Tb3)} {S : List St} (h : SI i T M S) (j : Nat) {t : Option Tab} {s : St} (hT : RepS t s) (hs : Okk (1048576 + (i + 1)) s) : SI (i + 1) (T.set j t) (M.set j (refT s)) (S.set j s) := by
 refine ⟨h.rel.set j hT, by rw [h.ref, map_set], by have := h.len; simp; omega, fun x hx => ?_⟩
 rcases List.mem_or_eq_of_mem_set hx with g | g
 ·exact h.mono.ok x g
 ·rw [g]; exact hs
theorem script_step {k : Nat} (hk : Fuel k) {C : List l3_Step} (hC : C.length ≤ 1048576) (hin : ∀ st ∈ C, StepOk st) {i : Nat} (hi : i < C.length) {T : List (Option Tab)} {M : List (Option Tb3)} {S : List St} (h : SI i T M S) :
  ∃ T' M' S', l3_TableScripts.b1 k C T M (i : Int) = some (.next (T', M', ((i + 1 : Nat) : Int))) ∧ SI (i + 1) T' M' S' := by
 obtain ⟨o1, o2, o3, o4, o5⟩ := hin C[i] (List.getElem_mem hi); have hlen := h.len; have hT := h.rel.1; have hM : M.length = S.length := by rw [h.ref]; simp
 obtain ⟨z, ez, hz⟩ := round_eq (C[i].Which) (n := T.length) (by omega); have hi' : ((i : Int) + 1) = ((i + 1 : Nat) : Int) := by omega
 have rdq : ∀ F : ((Option Tab) × (Option Tb3) × Bool) → Option (Ctl ((List (Option Tab)) × (List (Option Tb3)) × Int) (Sum ((List (Option Tab)) × (List (Option Tb3))) Bool)),
   (∀ t, F t = if t.2.2 = true then (if (Option.isNone t.2.1) = true then (some (.next (T, M, IntKind.i64.wrap ((i : Int) + 1)))) else (if (T.length + [t.1].length) * 8 ≤ 140737488355328 then (if (M.length + [t.2.1].length) * 8 ≤ 140737488355328 then (some (.next ((T ++ [t.1]), (M ++ [t.2.1]), IntKind.i64.wrap ((i : Int) + 1)))) else none) else none)) else (some (.done (.inr false)))) →
   ∃ T' M' S', (l3_read.f k (C[i].P)).bind F = some (.next (T', M', ((i + 1 : Nat) : Int))) ∧ SI (i + 1) T' M' S' := by
  intro F hF
  rcases read_both hk o4 (by omega) with e | ⟨t, s, e, hR, hSd, hsl, _⟩
  ·rw [be e, hF, if_pos rfl, if_pos (by simp), wrS i (by omega)]
   exact ⟨T, M, S, rfl, h.mono⟩
  ·rw [be e, hF, if_pos rfl, if_neg (by simp [refT]), if_pos (by simp; omega), if_pos (by simp; omega), wrS i (by omega)]
   exact ⟨_, _, _, rfl, h.push hR ⟨by omega, hSd.top⟩⟩
 unfold l3_TableScripts.b1; rw [if_pos (by omega), if_pos (by omega), rd_eq hi, be ez]
 by_cases c : (z : Int) < (T.length : Int)
 ·have hzT : z < T.length := by omega
  have hzS : z < S.length := by omega
  have hzM : z < M.length := by omega
  have eT : rd T (z : Int) = T[z] := rd_eq hzT; have eM : rd M (z : Int) = refT S[z] := by rw [rd_eq hzM]; simp [h.ref]
  have hRz := h.rel.2 z hzS hzT; have hoz := h.ok _ (List.getElem_mem hzS); rw [if_pos c, if_pos ⟨by omega, c⟩, if_pos (by omega)]
  by_cases c6 : C[i].Kind = 6
  ·rw [if_pos c6]; exact rdq _ (fun t => rfl)
  ·rw [if_neg c6]
   by_cases c5 : C[i].Kind = 5
   ·have hc : D_Copy.f k (refT S[z]) = some (refT S[z]) := rCopy_eq hk (rows_small hRz.inv (by have := hoz.1; omega))
    have hn : Option.isNone T[z] = false := by obtain ⟨rows, e, _⟩ := hRz; rw [e]; rfl
    rw [if_pos c5, eT, eM, be (copy_eq hRz), be hc, if_pos (by simp [hn, refT]), if_neg (by simp [refT]), if_pos (by simp; omega), if_pos (by simp; omega), wrS i (by omega)]; exact ⟨_, _, _, rfl, h.push hRz hoz⟩
   ·obtain ⟨t', s', e, hR', hl', ht'⟩ := does_eq hk hRz (s := S[z]) ⟨by have := hoz.1; omega, hoz.2⟩ (st := C[i]) o1 o2 o3
    rw [if_neg c5, eT, eM]; have e' : l3_does.f k T[z] (refT S[z]) (l3_Step.mk C[i].Kind C[i].Which C[i].Op C[i].P) = some (true, t', refT s') := e; rw [be e', if_pos rfl, wrS i (by omega), Int.toNat_natCast]; exact ⟨_, _, _, rfl, h.set z hR' ⟨by have := hoz.1; omega, ht'⟩⟩
 ·rw [if_neg c]
  by_cases c6 : C[i].Kind = 6
  ·rw [if_pos c6]; exact rdq _ (fun t => rfl)
  ·rw [if_neg c6]
   by_cases c5 : C[i].Kind = 5
   ·have a1 : T_Copy.f none = some none := rfl
    have a2 : D_Copy.f k none = some none := rfl; rw [if_pos c5, be a1, be a2, if_pos (by simp), if_pos (by simp), wrS i (by omega)]; exact ⟨T, M, S, rfl, h.mono⟩
   ·have e' : l3_does.f k none none (l3_Step.mk C[i].Kind C[i].Which C[i].Op C[i].P) = some (true, none, none) := does_none (st := C[i]) hk o2 o3
    rw [if_neg c5, be e', if_pos rfl, wrS i (by omega)]; exact ⟨T, M, S, rfl, h.mono⟩
theorem last_step {k : Nat} (hk : Fuel k) {n i : Nat} (hn : n ≤ 1048576) {T : List (Option Tab)} {M : List (Option Tb3)} {S : List St} (h : SI n T M S) (hi : i < T.length) :
  ∃ T' M', l3_TableScripts.b3 k T M (i : Int) = some (.next (T', M', ((i + 1 : Nat) : Int))) ∧ SI n T' M' S ∧ T'.length = T.length := by
 have hlen := h.len; have hT := h.rel.1; have hM : M.length = S.length := by rw [h.ref]; simp
 have hS : i < S.length := by omega
 have eT : rd T (i : Int) = T[i] := rd_eq hi; have hiM : i < M.length := by omega
 have eM : rd M (i : Int) = refT S[i] := by rw [rd_eq hiM]; simp [h.ref]
 have hRz := h.rel.2 i hS hi; have hoz := h.ok _ (List.getElem_mem hS); have hl := hoz.1; have d4 := does4 (st := l3_Step.mk 4 0 (AO.mk 0 [] [] 0) []) hk hoz.2 (by omega) (form_small hRz.inv ⟨by omega, hoz.2⟩) hRz rfl (by simp) (by simp); unfold l3_TableScripts.b3; rw [if_pos (by omega), if_pos (by omega), if_pos (by omega), eT, eM, be d4, if_pos rfl, wrS i (by omega), Int.toNat_natCast]; refine ⟨_, _, rfl, ?_, by simp⟩; have q1 : T.set i T[i] = T := by simp
 have q2 : M.set i (refT S[i]) = M := by
  have : refT S[i] = M[i] := by simp [h.ref]
  rw [this]; simp
 simp only
 rw [q1, q2]; exact h
theorem TableScripts_true {k : Nat} (hk : Fuel k) (C : List l3_Step) (hC : C.length ≤ 1048576) (hin : ∀ st ∈ C, StepOk st) : l3_TableScripts.f k C = some true := by
 have h24 : 1099511627776 ≤ k := hk; obtain ⟨t0, e0, hR0⟩ := new_rep; have hn0 : Option.isNone t0 = false := by obtain ⟨rows, e, _⟩ := hR0; rw [e]; rfl
 have e1 : d3_New.f = some (refT ([], 0)) := rfl; have h0 : SI 0 [t0] [refT ([], 0)] [([], 0)] := by
  refine ⟨⟨rfl, fun j h h' => ?_⟩, rfl, by simp, fun s hs => ?_⟩
  ·obtain rfl : j = 0 := by simp at h; exact h
   exact hR0
  ·rw [List.mem_singleton.1 hs]; exact ⟨by simp, by simp⟩
 obtain ⟨x, hx, hP⟩ := loop_inv (f := fun (s_ : (List (Option Tab)) × (List (Option Tb3)) × Int) => l3_TableScripts.b1 k C s_.1 s_.2.1 s_.2.2)
  (I := fun i s => s.2.2 = (i : Int) ∧ ∃ S, SI i s.1 s.2.1 S) (P := fun x => ∃ T M S, x = Sum.inl (T, M) ∧ SI C.length T M S) (N := C.length)
  (by
   rintro i ⟨T, M, z⟩ hi ⟨rfl, S, h⟩; obtain ⟨T', M', S', e, h'⟩ := script_step hk hC hin hi h; exact .inl ⟨_, e, rfl, S', h'⟩)
  (by
   rintro ⟨T, M, z⟩ ⟨rfl, S, h⟩; refine ⟨_, ?_, T, M, S, rfl, h⟩
   simp only
   unfold l3_TableScripts.b1; rw [if_neg (by omega)]) C.length 0 ([t0], [refT ([], 0)], ((0 : Nat) : Int)) k ⟨rfl, _, h0⟩ (by omega) (by omega)
 obtain ⟨T, M, S, rfl, h⟩ := hP; have hlen := h.len; have hTl := h.rel.1; obtain ⟨y, hy, hQ⟩ := loop_inv (f := fun (s_ : (List (Option Tab)) × (List (Option Tb3)) × Int) => l3_TableScripts.b3 k s_.1 s_.2.1 s_.2.2)
  (I := fun i s => s.2.2 = (i : Int) ∧ SI C.length s.1 s.2.1 S ∧ s.1.length = T.length) (P := fun x => x = Sum.inl ()) (N := T.length)
  (by
   rintro i ⟨T1, M1, z⟩ hi ⟨rfl, h1, hl⟩; have hl' : T1.length = T.length := hl; obtain ⟨T', M', e, h', hl2⟩ := last_step hk hC h1 (i := i) (by show i < T1.length; omega); exact .inl ⟨_, e, rfl, h', by show T'.length = _; omega⟩)
  (by
   rintro ⟨T1, M1, z⟩ ⟨rfl, h1, hl⟩; have hl' : T1.length = T.length := hl; refine ⟨_, ?_, rfl⟩
   simp only
   unfold l3_TableScripts.b3; rw [if_neg (by omega)]) T.length 0 (T, M, ((0 : Nat) : Int)) k ⟨rfl, h, rfl⟩ (by omega) (by omega)
 unfold l3_TableScripts.f; rw [be e0, be e1, if_pos (by simp)]; have er : rd [t0] (0 : Int) = t0 := rfl; rw [er, hn0, if_neg (by simp)]; have hx' : loop (fun (s_ : (List (Option Tab)) × (List (Option Tb3)) × Int) => l3_TableScripts.b1 k C s_.1 s_.2.1 s_.2.2) k ([t0], [refT ([], 0)], 0) = some (Sum.inl (T, M)) := hx; rw [be hx']
 show l3_TableScripts.j2 k T M = some true
 unfold l3_TableScripts.j2; have hy' : loop (fun (s_ : (List (Option Tab)) × (List (Option Tb3)) × Int) => l3_TableScripts.b3 k s_.1 s_.2.1 s_.2.2) k (T, M, 0) = some (Sum.inl ()) := by rw [← hQ]; exact hy
 rw [be hy']
 show l3_TableScripts.j4 k = some true
 rfl
end Go.Proofs.YtcolmmjcdlmcoaaGreat.G
namespace Go.Proofs.YtcolmmjcdlmcoaaGreat.G
open Go
set_option linter.unusedVariables false
theorem arg_SO {C : List l3_Step} (hs : (C.map wt_haulagelaw13_Step).sum ≤ 1048576) (h : ∀ o ∈ C, ok_haulagelaw13_Step o) : ∀ o ∈ C, StepOk o := by
 intro o ho; have h1 := mem_sum wt_haulagelaw13_Step ho; have h2 := h o ho
 simp only [wt_haulagelaw13_Step, wt_api_Op] at h1
 simp only [ok_haulagelaw13_Step, ok_api_Op] at h2
 exact ⟨fun n hn => (h2.2.2.1.2.1 n hn).range, by omega, by omega, fun n hn => (h2.2.2.2 n hn).range, by omega⟩
end Go.Proofs.YtcolmmjcdlmcoaaGreat.G
namespace Go.Proofs.YtcolmmjcdlmcoaaGreat.tableScripts
open Go.ChangeShapes Go.WideShapes Go.ChangeAt Go.RowKit
set_option linter.unusedVariables false
set_option maxRecDepth 100000 in
theorem contract (H : Type) (enc : TypeId × Value → H) (W : World) (base : Nat) (args : Array Value) (ds gs : List (DataW H)) (before : List MemPlace)
  (hval : ∀ (j : Nat) t v, Tryz.f3.params[j]? = some t → args[j]? = some v → Value.okWide Tryz.prog W .any base t v)
  (hW : DataW.Whole enc Tryz.prog Tryz.f3.params.toList Rows.tableScriptsSpec.vars false W args.toList ds gs before) (hk : Rows.uptoSmall H (ds ++ gs) = true) :
  Calls Tryz.prog 3 args W fun e W' => ∃ v, e = .returned v ∧ Rows.tableScriptsSpec.post enc Tryz.prog Tryz.f3 false true false false W args v W' := by
 have hW' := hW; obtain ⟨p, q, hA0, hV, rfl, hfz, hnd⟩ := hW; have hA : DataW.TrodAll enc Tryz.prog W 0 (fun _ => true) true Tryz.f3.params.toList args.toList ds p := hA0; rw [Tryz.params3] at hA hval; obtain ⟨v0, vs0, d0, ds0, p0, q0, hargs, rfl, rfl, h0, r0⟩ := trodAll_cons hA; obtain ⟨rfl, rfl, rfl⟩ := trodAll_nil r0; obtain rfl : args = #[v0] := by cases args; simp_all
 obtain ⟨rfl, rfl⟩ := trodVars_none hV; have k0 := h0; have lt0 : ∀ x ∈ p0, x.block < W.heap.size := by obtain ⟨m, hm⟩ := k0; exact DataW.trod_lt m _ _ _ hm
 obtain ⟨A0, C0, a0, rfl, s0, b0, o0⟩ := G.arg_steps (okWide_slice Tryz.underlying22 (hval 0 22 v0 rfl rfl)) h0; have l0 := G.len_sum G.wt_haulagelaw13_Step G.wt_haulagelaw13_Step_pos a0; have hb : Rows.uptoBulkAll [d0] ≤ 1048576 := of_decide_eq_true hk
 simp only [Rows.uptoBulkAll] at hb
 refine (G.l3_TableScripts.calls 1099511627776 (m := 1) (c0 := G.c0) (w0 := W) (Nat.lt_succ_self 0) (fun _ _ => Nat.lt_succ_self 0) s0 true (G.TableScripts_true (k := 1099511627776) (Nat.le_refl _) _ (by omega) (G.arg_SO (by omega) o0))).mono fun e W' ⟨c_, he, ev_, _⟩ => ?_; subst he; have bel : Below W.heap.size W W' := G.Ev.below ev_; exact ⟨_, rfl, _, _, _, [], _, [], hW', trodAll_mk1 (shut_bool Tryz.underlying4 _), (trodAll_cons_mk (Below.trod G.row_laidOut (by kernel_rfl) (of_decide_eq_true (by kernel_rfl)) k0 bel lt0) trodAll_mk0), rfl, bel.frame _, fun h => by cases h⟩
set_option maxRecDepth 100000 in
theorem lifted (os : Os) (started : os.Started) (H : Type) (enc : TypeId × Value → H) (F : Stop.Interp) :
  ReturnsInHanded {} Tryz.checked os 3 .any ((Rows.OpenSpec.upto Rows.tableScriptsSpec).pre6 enc Tryz.prog Tryz.f3 Rows.tableScriptsUptoRow.domain false) (((Rows.OpenSpec.upto Rows.tableScriptsSpec).at F).post enc Tryz.prog Tryz.f3 false true false false) := by
 refine returnsInHanded_of_cond (C := Tryz.checked) (s := Rows.OpenSpec.upto Rows.tableScriptsSpec) (k := Rows.uptoSmall) rfl G.row_own started (by kernel_rfl) Tryz.func3
  (OpenSpec.witness (enc := enc) (C := Tryz.checked) (s := Rows.OpenSpec.upto Rows.tableScriptsSpec) (k := Rows.uptoSmall) rfl false ⟨#[], #[.slice none 0 0], []⟩ 8 (by kernel_rfl) (by kernel_rfl) (by kernel_rfl)
   (x := ([.nil], [], [])) (by kernel_rfl) rfl (by kernel_rfl)) ?_
 intro W base args ds gs before hval hW _ hk _; exact contract H enc W base args ds gs before hval hW hk
theorem over : Rows.tableScriptsUptoRow.holds Tryz.pinned (Rows.OpenSpec.upto Rows.tableScriptsSpec) :=
 OpenClaim.holds_of_cond 3 Tryz.f3 rfl rfl rfl rfl rfl rfl rfl ⟨rfl, rfl, rfl, rfl, rfl⟩ rfl rfl rfl rfl rfl (by kernel_rfl) Tryz.func3 (by kernel_rfl)
  (of_decide_eq_true (by kernel_rfl)) (by unfold Func.isWrapper; first | (rw [if_pos (by decide +kernel)]; kernel_rfl) | (rw [if_neg (by decide +kernel)]; exact ⟨rfl, rfl⟩))
  (fun os started H enc _ F => lifted os started H enc F)
theorem proved : Rows.TableScriptsUptoSaid := over
end Go.Proofs.YtcolmmjcdlmcoaaGreat.tableScripts
namespace Go.Proofs.YtcolmmjcdlmcoaaGreat
theorem tableScripts_holds : Rows.TableScriptsUptoSaid := tableScripts.proved
end Go.Proofs.YtcolmmjcdlmcoaaGreat