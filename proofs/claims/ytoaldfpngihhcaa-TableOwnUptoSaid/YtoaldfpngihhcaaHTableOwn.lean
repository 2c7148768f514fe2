/- The row of 'TableOwn', its '..UptoSaid': whatever the input of bulk at most 1048576, the law returns true and the input reads as it did; its condition: that bulk. -/
import Derived.Test.YtoaldfpngihhcaaHTableOwnE
import Derived.Test.YtoaldfpngihhcaaHTableOwnA
import Derived.Test.YtoaldfpngihhcaaRows
import Derived.WalkKit
import Derived.ProofKit
import Derived.OpenShut
import Derived.JoinedCond
import Derived.Below
import Derived.ChangeOld
namespace Go.Proofs.Ytoaldfpngihhcaa.G
open Go
set_option linter.unusedVariables false
set_option linter.unusedSimpArgs false
theorem or128 : ∀ x : Fin 256, x.val ||| 128 = x.val % 128 + 128 := by decide +kernel
theorem and127 : ∀ x : Fin 256, x.val &&& 127 = x.val % 128 := by decide +kernel
theorem wr8 (n : Nat) : IntKind.u8.wrap (n : Int) = ((n % 256 : Nat) : Int) := by
 simp only [IntKind.wrap, IntKind.bits, IntKind.signed]; simp
theorem bv8 (n : Nat) (h : n < 256) : (BitVec.ofInt IntKind.u8.bits (n : Int)) = BitVec.ofNat 8 n := by
 show BitVec.ofInt 8 (n : Int) = _
 rw [BitVec.ofInt_natCast]
theorem bor8 (n : Nat) : bor .u8 (IntKind.u8.wrap (n : Int)) 128 = ((n % 128 + 128 : Nat) : Int) := by
 rw [wr8]
 unfold bor
 rw [bv8 (n % 256) (by omega)]
 show IntKind.u8.wrap ((BitVec.ofNat 8 (n % 256) ||| BitVec.ofInt 8 128).toNat : Int) = _
 have e : (BitVec.ofNat 8 (n % 256) ||| BitVec.ofInt 8 128).toNat = (n % 256) ||| 128 := by
  rw [BitVec.toNat_or, BitVec.toNat_ofNat]
  have : (BitVec.ofInt 8 128).toNat = 128 := by decide
  rw [this, Nat.mod_eq_of_lt (show n % 256 < 2 ^ 8 by omega)]
 rw [e, or128 ⟨n % 256, by omega⟩, wr8]
 congr 1
 show (n % 256 % 128 + 128) % 256 = n % 128 + 128
 omega
theorem band8 {c : Int} (h0 : 0 ≤ c) (h1 : c ≤ 255) : band .u8 c 127 = c % 128 := by
 obtain ⟨n, rfl⟩ := Int.eq_ofNat_of_zero_le h0
 unfold band
 rw [bv8 n (by omega)]
 show IntKind.u8.wrap ((BitVec.ofNat 8 n &&& BitVec.ofInt 8 127).toNat : Int) = _
 have e : (BitVec.ofNat 8 n &&& BitVec.ofInt 8 127).toNat = n &&& 127 := by
  rw [BitVec.toNat_and, BitVec.toNat_ofNat]
  have : (BitVec.ofInt 8 127).toNat = 127 := by decide
  rw [this, Nat.mod_eq_of_lt (show n < 2 ^ 8 by omega)]
 rw [e, and127 ⟨n, by omega⟩, wr8]
 show ((n % 128 % 256 : Nat) : Int) = (n : Int) % 128
 omega
theorem wr64 {n : Nat} (h : n < 2 ^ 64) : IntKind.u64.wrap (n : Int) = (n : Int) := by
 simp only [IntKind.wrap, IntKind.bits, IntKind.signed]; simp; omega
theorem shl64 {d k : Nat} (hk : k ≤ 9) (h : d * 2 ^ (7 * k) < 2 ^ 64) : shl .u64 (IntKind.u64.wrap (d : Int)) (7 * (k : Int)) = ((d * 2 ^ (7 * k) : Nat) : Int) := by
 have hd : d < 2 ^ 64 := Nat.lt_of_le_of_lt (Nat.le_mul_of_pos_right _ (Nat.two_pow_pos _)) h
 rw [wr64 hd]
 unfold shl
 have e1 : (7 * (k : Int)).toNat = 7 * k := by omega
 rw [e1, show min (7 * k) IntKind.u64.bits = 7 * k from Nat.min_eq_left (by show 7 * k ≤ 64; omega)]
 have e2 : (d : Int) * 2 ^ (7 * k) = ((d * 2 ^ (7 * k) : Nat) : Int) := by push_cast; rfl
 rw [e2, wr64 h]
theorem bor64 {a d k : Nat} (ha : a < 2 ^ (7 * k)) (h : a + d * 2 ^ (7 * k) < 2 ^ 64) : bor .u64 (a : Int) ((d * 2 ^ (7 * k) : Nat) : Int) = ((a + d * 2 ^ (7 * k) : Nat) : Int) := by
 unfold bor
 show IntKind.u64.wrap ((BitVec.ofInt 64 (a : Int) ||| BitVec.ofInt 64 ((d * 2 ^ (7 * k) : Nat) : Int)).toNat : Int) = _
 rw [BitVec.ofInt_natCast, BitVec.ofInt_natCast, BitVec.toNat_or, BitVec.toNat_ofNat, BitVec.toNat_ofNat, Nat.mod_eq_of_lt (by omega), Nat.mod_eq_of_lt (by omega)]
 have e : a ||| d * 2 ^ (7 * k) = a + d * 2 ^ (7 * k) := by
  rw [Nat.or_comm, Nat.mul_comm d, ← Nat.two_pow_add_eq_or_of_lt ha, Nat.add_comm]
 rw [e, wr64 h]
def acc (k : Nat) (n c : Int) : Int := bor .u64 n (shl .u64 (IntKind.u64.wrap (band .u8 c 127)) (7 * (k : Int)))
theorem acc_eq {k n c : Nat} (hk : k ≤ 9) (hc : c ≤ 255) (hn : n < 2 ^ (7 * k)) (ht : n + c % 128 * 2 ^ (7 * k) < 2 ^ 64) : acc k (n : Int) (c : Int) = ((n + c % 128 * 2 ^ (7 * k) : Nat) : Int) := by
 unfold acc
 rw [band8 (by omega) (by omega), show (c : Int) % 128 = ((c % 128 : Nat) : Int) by omega, shl64 hk (by omega), bor64 hn ht]
theorem rnum_cons (f c : Int) (xs : List Int) (k : Nat) (n : Int) : rnum f (c :: xs) k n = if (k = 9 ∧ 1 < c) ∨ (0 < k ∧ c = 0) then .inr (0, xs, 11) else if c < 128 then .inr (acc k n c, xs, f) else rnum f xs (k + 1) (acc k n c) := rfl
theorem pow_step (k : Nat) : 2 ^ (7 * (k + 1)) = 128 * 2 ^ (7 * k) := by
 rw [Nat.mul_add, Nat.pow_add, Nat.mul_comm]
theorem tot (n m B : Nat) : n + m % 128 * B + m / 128 * (128 * B) = n + m * B := by
 have h : m % 128 * B + m / 128 * (128 * B) = m * B := by
  rw [← Nat.mul_assoc, ← Nat.add_mul, Nat.mul_comm (m / 128), Nat.mod_add_div]
 omega
theorem small {n d B : Nat} (hn : n < B) (hd : d < 128) : n + d * B < 128 * B := by
 have : d * B ≤ 127 * B := Nat.mul_le_mul_right B (by omega)
 omega
theorem rnum_fm (ou : List Int) : ∀ (f m k n : Nat), m < 128 ^ (f + 1) → k + f ≤ 9 → n < 2 ^ (7 * k) → n + m * 2 ^ (7 * k) < 2 ^ 64 → (k = 0 ∨ 0 < m) →
  rnum 0 (fmP f m ++ (IntKind.u8.wrap (fmL f m) :: ou)) k (n : Int) = .inr (((n + m * 2 ^ (7 * k) : Nat) : Int), ou, 0) := by
 have base : ∀ (m k n : Nat), m < 128 → k ≤ 9 → n < 2 ^ (7 * k) → n + m * 2 ^ (7 * k) < 2 ^ 64 → (k = 0 ∨ 0 < m) → rnum 0 (IntKind.u8.wrap (m : Int) :: ou) k (n : Int) = .inr (((n + m * 2 ^ (7 * k) : Nat) : Int), ou, 0) := by
  intro m k n hm hk hn ht h0
  have e : IntKind.u8.wrap (m : Int) = (m : Int) := by rw [wr8]; congr 1; omega
  rw [e, rnum_cons, if_neg, if_pos (by omega), acc_eq hk (by omega) hn (by rw [Nat.mod_eq_of_lt hm]; exact ht), Nat.mod_eq_of_lt hm]
  rintro (⟨rfl, h⟩ | ⟨h1, h2⟩)
  ·have : 2 * 2 ^ (7 * 9) ≤ m * 2 ^ (7 * 9) := Nat.mul_le_mul_right _ (by omega)
   omega
  ·omega
 intro f
 induction f with
 | zero =>
  intro m k n hm hk hn ht h0
  exact base m k n (by simpa using hm) (by omega) hn ht h0
 | succ f ih =>
  intro m k n hm hk hn ht h0
  by_cases c : m ≤ 127
  ·have e1 : fmP (f + 1) m = [] := by simp [fmP, c]
   have e2 : fmL (f + 1) m = m := by simp [fmL, c]
   rw [e1, e2]
   exact base m k n (by omega) (by omega) hn ht h0
  ·have e1 : fmP (f + 1) m = ((m % 128 + 128 : Nat) : Int) :: fmP f (m / 128) := by
    conv => lhs; unfold fmP
    rw [if_neg c, bor8]
   have e2 : fmL (f + 1) m = fmL f (m / 128) := by
    conv => lhs; unfold fmL
    rw [if_neg c]
   rw [e1, e2, List.cons_append, rnum_cons, if_neg (by omega), if_neg (by omega)]
   have hmod : (m % 128 + 128) % 128 = m % 128 := by omega
   have hd : m % 128 * 2 ^ (7 * k) ≤ m * 2 ^ (7 * k) := Nat.mul_le_mul_right _ (Nat.mod_le _ _)
   rw [acc_eq (by omega) (by omega) hn (by rw [hmod]; omega), hmod]
   have hB := pow_step k
   have ht2 := tot n m (2 ^ (7 * k))
   rw [ih (m / 128) (k + 1) (n + m % 128 * 2 ^ (7 * k)) (by rw [Nat.pow_succ] at hm; omega) (by omega) (by rw [hB]; exact small hn (by omega)) (by rw [hB, ht2]; exact ht) (Or.inr (by omega)), hB, ht2]
theorem rnum_form {m : Nat} (hm : m < 2 ^ 64) (ou : List Int) : rnum 0 (fm m ++ ou) 0 0 = .inr ((m : Int), ou, 0) := by
 have := rnum_fm ou 9 m 0 0 (by omega) (by omega) (by decide) (by simpa using hm) (Or.inl rfl)
 unfold fm
 rw [List.append_assoc]
 simpa using this
def bytesR (l : List Int) : Prop := ∀ c ∈ l, 0 ≤ c ∧ c ≤ 255
theorem Num_fwd {m : Nat} (hm : m < 2 ^ 64) (rest : List Int) (ou : List (List Int)) : parcel_Reader_Num.f (some ⟨fm m ++ rest, ou, 0⟩) = some ((m : Int), some ⟨rest, ou, 0⟩) := by
 unfold parcel_Reader_Num.f
 simp only [if_true, rnum_form hm, rtake]
theorem fm_pos (n : Nat) : 1 ≤ (fm n).length := by rw [fm_len]; exact (nm_le n).1
theorem wrapmax {most : Int} (h0 : 0 ≤ most) (h1 : most ≤ 1000000) : IntKind.u64.wrap (max most 0) = most := by
 rw [Int.max_eq_left h0, wru h0 (by omega)]
theorem Text_fwd {v : List Int} {most : Int} (h0 : 0 ≤ most) (h1 : most ≤ 1000000) (hv : (v.length : Int) ≤ most) (rest : List Int) (hr : (v ++ rest).length ≤ 140737488355328) (ou : List (List Int)) :
  parcel_Reader_Text.f (some ⟨fm v.length ++ (v ++ rest), ou, 0⟩) most = some (v, some ⟨rest, ou, 0⟩) := by
 have hlen : (v ++ rest).length = v.length + rest.length := List.length_append
 have e : rtext (fm v.length ++ (v ++ rest)) 0 most = some (.inr (v, rest, 0)) := by
  unfold rtext rsize
  rw [wrapmax h0 h1, rnum_form (by omega)]
  simp only [if_true]
  rw [if_neg (by omega), if_neg (by omega)]
  simp only
  rw [wr (by omega) (by omega), if_pos (by omega)]
  simp
 unfold parcel_Reader_Text.f
 simp only [if_true, e, Option.bind_some, rtake]
theorem len_sub {α : Type} [DecidableEq α] : ∀ F G : List α, F.Nodup → (∀ x ∈ F, x ∈ G) → F.length ≤ G.length
 | [], G, _, _ => Nat.zero_le _
 | x :: F, G, hn, hs => by
  rw [List.nodup_cons] at hn
  have hx := hs x (by simp)
  have := len_sub F (G.erase x) hn.2 (fun y hy => (List.mem_erase_of_ne (fun e => hn.1 (by rw [← e]; exact hy))).2 (hs y (by simp [hy])))
  rw [List.length_erase_of_mem hx] at this
  have := List.length_pos_of_mem hx
  simp only [List.length_cons]; omega
theorem bs_toList (l : List Int) : (bs l).toList = l.map fun n => UInt8.ofNat n.toNat := by
 rw [ByteArray.toList_eq]; simp [bs]
theorem num_any {k : Nat} (hk : Fuel k) {n : Int} (hn : n < 9223372036854775808) : ∃ y, table_num.f k n = some y ∧ 1 ≤ y ∧ y ≤ 10 := by
 by_cases h : 0 ≤ n
 ·obtain ⟨q, rfl⟩ := Int.eq_ofNat_of_zero_le h
  have := nm_le q
  exact ⟨_, num_eq hk (by omega), by omega, by omega⟩
 ·have h24 : 1099511627776 ≤ k := hk
  obtain ⟨q, rfl⟩ : ∃ q, k = q + 1 := ⟨k - 1, by omega⟩
  refine ⟨1, ?_, by omega, by omega⟩
  unfold table_num.f
  rw [bind_eq (loop_done (x := (1 : Int)) ?_)]
  ·rfl
  ·unfold table_num.b1; rw [if_neg (by omega)]
theorem long_any {k : Nat} (hk : Fuel k) {key : ByteArray} {c : table_cell} (h1 : key.size ≤ 64) (h2 : c.value.length ≤ 256) (h4 : c.rev < 9223372036854775808) : ∃ y, table_long.f k key c = some y := by
 obtain ⟨y, e, _⟩ := num_any hk h4
 unfold table_long.f
 rw [bind_eq (num_eq hk (n := key.size) (by omega)), bind_eq (num_eq hk (n := c.value.length) (by omega)), bind_eq e]
 exact ⟨_, rfl⟩
theorem set_any {k : Nat} (hk : Fuel k) {rows : Tr} {L : List Ent} {R z : Int} (hlen : L.length < 10000000000) (hw : rows.WF) (hl : rows.list = L) (ho : Ord L) (hE : ∀ e ∈ L, okE e) {key : ByteArray} {c : table_cell} (h1 : key.size ≤ 64) (h2 : c.value.length ≤ 256) (h4 : c.rev < 9223372036854775808) :
  ∃ t, table_Table_set.f k (some ⟨rows, R, z⟩) key c true = some t := by
 subst hl
 have hh := rows.hgt_le
 have h24 : 1099511627776 ≤ k := hk
 obtain ⟨u, eu, wu, lu⟩ := put_eq k rows key c (by omega) hw ho (by unfold big; omega)
 obtain ⟨y, ey⟩ := long_any hk h1 h2 h4
 have j1 : ∀ x, ∃ t, table_Table_set.j1 k key c true ⟨rows, R, z⟩ x = some t := by
  intro x
  unfold table_Table_set.j1
  rw [if_pos rfl, bind_eq eu, bind_eq ey]
  exact ⟨_, rfl⟩
 unfold table_Table_set.f
 simp only [Option.bind_some]
 rw [bind_eq (get_eq k rows key (by omega) ho)]
 cases h : look key rows.list with
 | none => rw [if_neg (by simp [gotQ])]; exact j1 _
 | some x =>
  have hx := hE _ (look_mem _ h)
  obtain ⟨y2, ey2⟩ := long_any hk (key := key) (c := x) hx.1 hx.2.1 (by have h3 : x.rev ≤ 1099511627776 := hx.2.2.2; omega)
  rw [if_pos (show (gotQ (some x)).2 = true from rfl), bind_eq (show table_long.f k key (gotQ (some x)).1 = some y2 from ey2)]
  exact j1 _
theorem ins_end {key : ByteArray} {c : table_cell} : ∀ L : List Ent, (∀ e ∈ L, lt e.1 key = true) → ins key c L = L ++ [(key, c)]
 | [], _ => rfl
 | (a, x) :: L, h => by
  have h1 : lt a key = true := h (a, x) (by simp)
  simp only [ins, h1, lt_asym h1]
  rw [ins_end L (fun e he => h e (by simp [he]))]
  simp
theorem lt_empty {k : ByteArray} (h : 1 ≤ k.size) : lt .empty k = true := by
 unfold lt
 rw [ByteArray.toList_eq, ByteArray.toList_eq]
 have : k.data.toList ≠ [] := by
  intro e
  have : k.data.toList.length = 0 := by rw [e]; rfl
  rw [Array.length_toList] at this
  exact absurd h (by show ¬ 1 ≤ k.data.size; omega)
 cases hq : k.data.toList with
 | nil => exact absurd hq this
 | cons a l => rfl
theorem lt_size {a k : ByteArray} (h : lt a k = true) : 1 ≤ k.size := by
 unfold lt at h
 rw [ByteArray.toList_eq k] at h
 rcases Nat.eq_zero_or_pos k.size with q | q
 ·have : k.data.toList = [] := by
   apply List.length_eq_zero_iff.1
   rw [Array.length_toList]; exact q
  rw [this] at h
  cases a.toList <;> simp [Op.bytesLess] at h
 ·exact q
theorem notless {a b : ByteArray} : (Op.bytesLess a.toList b.toList || (a.toList == b.toList)) = !lt b a := by
 rw [keq]
 cases h : lt b a with
 | true =>
  have h1 : Op.bytesLess a.toList b.toList = false := lt_asym h
  have h2 : ¬ a = b := fun e => by subst e; rw [lt_irr] at h; cases h
  simp [h1, h2]
 | false =>
  by_cases e : a = b
  ·simp [e]
  ·cases h2 : Op.bytesLess a.toList b.toList with
   | true => simp
   | false => exact absurd (lt_tri h2 h) e
abbrev revs (L : List Ent) : List Int := L.map fun e => e.2.rev
structure Part (R : Nat) (L : List Ent) (last : ByteArray) (m : MpV Bool) : Prop where
 ord : Ord L
 ent : ∀ e ∈ L, 1 ≤ e.1.size ∧ e.1.size ≤ 64 ∧ e.2.value.length ≤ 256 ∧ 1 ≤ e.2.rev ∧ e.2.rev ≤ (R : Int)
 low : ∀ e ∈ L, e.1 = last ∨ lt e.1 last = true
 top : (L = [] ∧ last = .empty) ∨ ∃ e ∈ L, e.1 = last
 map : ∀ a, m.f a = if a ∈ revs L then some true else none
 dis : (revs L).Nodup
 cnt : m.n = L.length
def TabR (t : Option Tab) (R : Int) (L : List Ent) : Prop := ∃ rows, t = some ⟨rows, R, sz L⟩ ∧ rows.WF ∧ rows.list = L
theorem Part.next {R : Nat} {L : List Ent} {last : ByteArray} {m : MpV Bool} (h : Part R L last m) {key : ByteArray} {v : List Int} {at_ : Int} (h1 : lt last key = true) (h2 : key.size ≤ 64) (h3 : v.length ≤ 256) (h4 : 1 ≤ at_) (h5 : at_ ≤ (R : Int)) (h6 : at_ ∉ revs L) :
  Part R (L ++ [(key, ⟨v, at_⟩)]) key ⟨fun i => if i = at_ then some true else m.f i, m.n + 1⟩ := by
 have below : ∀ e ∈ L, lt e.1 key = true := fun e he => by
  rcases h.low e he with q | q
  ·rw [q]; exact h1
  ·exact lt_tr q h1
 refine ⟨?_, ?_, ?_, Or.inr ⟨_, List.mem_append.2 (Or.inr (List.mem_singleton.2 rfl)), rfl⟩, ?_, ?_, ?_⟩
 ·unfold Ord
  rw [List.pairwise_append]
  refine ⟨h.ord, by simp, fun x hx y hy => ?_⟩
  rw [List.mem_singleton] at hy
  subst hy
  exact below x hx
 ·intro e he
  rcases List.mem_append.1 he with q | q
  ·exact h.ent e q
  ·rw [List.mem_singleton] at q; subst q; exact ⟨lt_size h1, h2, h3, h4, h5⟩
 ·intro e he
  rcases List.mem_append.1 he with q | q
  ·exact Or.inr (below e q)
  ·rw [List.mem_singleton] at q; subst q; exact Or.inl rfl
 ·intro a
  show (if a = at_ then some true else m.f a) = _
  rw [h.map a]
  unfold revs
  rw [List.map_append]
  by_cases q : a = at_
  ·subst q; simp
  ·rw [if_neg q]
   by_cases q2 : a ∈ revs L
   ·rw [if_pos q2, if_pos (List.mem_append.2 (Or.inl q2))]
   ·rw [if_neg q2, if_neg]
    intro h'
    rcases List.mem_append.1 h' with g | g
    ·exact q2 g
    ·simp at g; exact q g
 ·unfold revs
  rw [List.map_append]
  refine List.nodup_append.2 ⟨h.dis, by simp, fun x hx y hy => ?_⟩
  simp at hy
  subst hy
  intro e
  subst e
  exact h6 hx
 ·rw [List.length_append, ← h.cnt]; rfl
theorem row_eq {k : Nat} (hk : Fuel k) {R : Nat} (hR : R ≤ 1099511627776) {L : List Ent} {last : ByteArray} {m : MpV Bool} (hP : Part R L last m) (hlen : L.length < 8000000000) {tab : Option Tab} (hT : TabR tab R L) {t17 : Int × Option Rdr} (h17 : t17.1 = (R : Int))
  {kb vb : List Int} (hkb : kb.length ≤ 64) (hvb : vb.length ≤ 256) {r1 r2 r3 : Option Rdr} {a : Int} (ha0 : 0 ≤ a) (ha1 : a < 18446744073709551616) {many : Int} (hm0 : 0 < many) (hm1 : many < 18446744073709551616) (hN : parcel_Reader_Num.f r2 = some (a, r3)) :
  ∃ tab' g m', table_Read.j5 k t17 (kb, r1) (vb, r2) many tab m last = some (.next (r3, many - 1, tab', g, m', bs kb)) ∧
   (g = true ↔ (lt last (bs kb) = true ∧ 0 < a ∧ a ≤ (R : Int) ∧ a ∉ revs L)) ∧ (g = true → TabR tab' R (L ++ [(bs kb, ⟨vb, a⟩)]) ∧ Part R (L ++ [(bs kb, ⟨vb, a⟩)]) (bs kb) m') := by
 obtain ⟨rows, rfl, hw, hl⟩ := hT
 have hE : ∀ e ∈ L, okE e := fun e he => by have := hP.ent e he; exact ⟨this.2.1, this.2.2.1, by omega, by omega⟩
 have hwf : (Lit.int .u64 a).wf = true := by
  simp [Lit.wf, IntKind.min, IntKind.max, IntKind.signed, IntKind.bits]; omega
 have hwm : IntKind.u64.wrap (many - 1) = many - 1 := by
  simp only [IntKind.wrap, IntKind.bits, IntKind.signed]; simp; omega
 have hks : (bs kb).size ≤ 64 := by rw [bs_size]; omega
 have hwr : IntKind.i64.wrap a < 9223372036854775808 := by rw [IntKind.wrap_i64]; omega
 have hn : m.n < 140737488355328 := by rw [hP.cnt]; omega
 have j6 : ∀ g, ∃ tab' m', table_Read.j6 k (kb, r1) (vb, r2) (a, r3) many (some ⟨rows, R, sz L⟩) m g = some (.next (r3, many - 1, tab', g, m', bs kb)) ∧
   (lt last (bs kb) = true → 0 < a → a ≤ (R : Int) → a ∉ revs L → TabR tab' R (L ++ [(bs kb, ⟨vb, a⟩)]) ∧ Part R (L ++ [(bs kb, ⟨vb, a⟩)]) (bs kb) m') := by
  intro g
  unfold table_Read.j6
  rw [if_pos ⟨hwf, hn⟩]
  by_cases c : lt last (bs kb) = true ∧ 0 < a ∧ a ≤ (R : Int) ∧ a ∉ revs L
  ·obtain ⟨c1, c2, c3, c4⟩ := c
   have hwa : IntKind.i64.wrap a = a := wr (by omega) (by omega)
   obtain ⟨u, eu, wu, lu⟩ := set_put0 hk (R := (R : Int)) (Nat.lt_trans hlen (by omega)) hw hl hP.ord hE (key := bs kb) (c := ⟨vb, a⟩) ⟨hks, hvb, ha0, by show a ≤ _; omega⟩
   simp only [hwa]
   rw [bind_eq eu, hwm]
   have hne : ins (bs kb) ⟨vb, a⟩ L = L ++ [(bs kb, ⟨vb, a⟩)] := ins_end L (fun e he => by
    rcases hP.low e he with q | q
    ·rw [q]; exact c1
    ·exact lt_tr q c1)
   refine ⟨_, _, rfl, fun _ _ _ _ => ⟨⟨u, by rw [hne], wu, by rw [lu, hne]⟩, hP.next c1 hks hvb (by omega) c3 c4⟩⟩
  ·obtain ⟨t, et⟩ := set_any hk (R := (R : Int)) (z := sz L) (Nat.lt_trans hlen (by omega)) hw hl hP.ord hE (key := bs kb) (c := ⟨vb, IntKind.i64.wrap a⟩) hks hvb hwr
   simp only
   rw [bind_eq et, hwm]
   exact ⟨_, _, rfl, fun c1 c2 c3 c4 => absurd ⟨c1, c2, c3, c4⟩ c⟩
 unfold table_Read.j5
 simp only
 rw [bind_eq hN]
 simp only
 rw [notless]
 cases c1 : lt last (bs kb) with
 | false =>
  rw [if_pos (by simp)]
  obtain ⟨tab', m', e, _⟩ := j6 false
  exact ⟨tab', false, m', e, by simp, fun h => by cases h⟩
 | true =>
  rw [if_neg (by simp)]
  by_cases c2 : 0 < a
  ·rw [if_pos c2, h17]
   by_cases c3 : a ≤ (R : Int)
   ·rw [if_pos c3, if_pos hwf]
    by_cases c4 : a ∈ revs L
    ·rw [hP.map a, if_pos c4]
     obtain ⟨tab', m', e, _⟩ := j6 false
     exact ⟨tab', false, m', e, by simp [c4], fun h => by cases h⟩
    ·rw [hP.map a, if_neg c4]
     obtain ⟨tab', m', e, h⟩ := j6 true
     exact ⟨tab', true, m', e, by simp [c2, c3, c4], fun _ => h c1 c2 c3 c4⟩
   ·rw [if_neg c3]
    obtain ⟨tab', m', e, _⟩ := j6 false
    exact ⟨tab', false, m', e, by simp [c3], fun h => by cases h⟩
  ·rw [if_neg c2]
   obtain ⟨tab', m', e, _⟩ := j6 false
   exact ⟨tab', false, m', e, by simp [c2], fun h => by cases h⟩
abbrev RS := (Option Rdr) × Int × (Option Tab) × Bool × (MpV Bool) × ByteArray
abbrev rloop (k : Nat) (t17 : Int × Option Rdr) (n : Nat) (s : RS) : Option ((Option Rdr) × (Option Tab) × Bool) := loop (fun (s_ : RS) => table_Read.b7 k t17 s_.1 s_.2.1 s_.2.2.1 s_.2.2.2.1 s_.2.2.2.2.1 s_.2.2.2.2.2) n s
theorem rloop_end {k : Nat} {t17 : Int × Option Rdr} {n : Nat} {r : Option Rdr} {many : Int} {tab : Option Tab} {g : Bool} {m : MpV Bool} {last : ByteArray} (h : ¬ 0 < many ∨ g = false) (hn : 0 < n) : rloop k t17 n (r, many, tab, g, m, last) = some (r, tab, g) := by
 obtain ⟨q, rfl⟩ : ∃ q, n = q + 1 := ⟨n - 1, by omega⟩
 refine loop_done ?_
 show table_Read.b7 k t17 r many tab g m last = _
 unfold table_Read.b7 table_Read.j4
 by_cases c : 0 < many
 ·rcases h with h | h
  ·exact absurd c h
  ·rw [if_pos c, h, if_neg (by simp)]
 ·rw [if_neg c, if_neg (by simp)]
theorem Done_eq (l : List Int) (f : Int) : parcel_Reader_Done.f (some ⟨l, [], f⟩) = some (if f = 0 then (if 0 < l.length then 12 else 0) else f) := by
 unfold parcel_Reader_Done.f parcel_Reader_Done.j1
 by_cases c : f = 0
 ·by_cases c2 : 0 < l.length
  ·simp [c, c2]
  ·simp [c, c2]
 ·simp [c]
theorem Part.empty (R : Nat) : Part R [] { data := #[] } ⟨fun _ => none, 0⟩ :=
 ⟨List.Pairwise.nil, fun e he => (by cases he), fun e he => (by cases he), Or.inl ⟨rfl, rfl⟩, fun a => by simp, List.nodup_nil, rfl⟩
theorem revs_len {R : Nat} {L : List Ent} (hd : (revs L).Nodup) (h : ∀ e ∈ L, 1 ≤ e.2.rev ∧ e.2.rev ≤ (R : Int)) : L.length ≤ R := by
 have := len_sub ((revs L)) ((List.range R).map fun i => ((i + 1 : Nat) : Int)) hd (fun x hx => by
  obtain ⟨e, he, rfl⟩ := List.mem_map.1 hx
  have := h e he
  exact List.mem_map.2 ⟨(e.2.rev - 1).toNat, List.mem_range.2 (by omega), by omega⟩)
 simpa using this
structure Sound (s : St) : Prop where
 inv : Inv s.1 s.2
 dis : (revs s.1).Nodup
 top : s.2 ≤ 1099511627776
theorem Sound.of {R : Nat} (hR : R ≤ 1099511627776) {L : List Ent} {last : ByteArray} {m : MpV Bool} (h : Part R L last m) : Sound (L, R) :=
 ⟨⟨h.ord, revs_len h.dis (fun e he => (h.ent e he).2.2.2), h.ent⟩, h.dis, hR⟩
theorem TabR.rep {t : Option Tab} {s : St} (h : TabR t s.2 s.1) (hS : Sound s) : RepS t s := by
 obtain ⟨rows, e, hw, hl⟩ := h
 exact ⟨rows, e, hw, hl, hS.inv⟩
theorem new_eq : table_New.f = some (some (Tab.mk .nil 0 0)) := rfl
theorem bs_sb (k : ByteArray) : bs (sb k) = k := by
 apply toList_inj
 rw [bs_toList, ByteArray.toList_eq]
 unfold sb
 rw [List.map_map]
 have : ∀ l : List UInt8, l.map ((fun n : Int => UInt8.ofNat n.toNat) ∘ fun b : UInt8 => (b.toNat : Int)) = l := by
  intro l
  induction l with
  | nil => rfl
  | cons a l ih =>
   rw [List.map_cons, ih]
   congr 1
   show UInt8.ofNat ((a.toNat : Int).toNat) = a
   rw [Int.toNat_natCast]
   exact UInt8.ofNat_toNat
 exact this _
theorem ef_flat (e : Ent) (rest : List Int) : ef e ++ rest = fm (sb e.1).length ++ (sb e.1 ++ (fm e.2.value.length ++ (e.2.value ++ (fm e.2.rev.toNat ++ rest)))) := by
 unfold ef
 rw [sb_len]
 simp only [List.append_assoc]
theorem ef_pos (e : Ent) : 1 ≤ (ef e).length := by
 unfold ef; simp only [List.length_append]; have := fm_pos e.1.size; omega
theorem flat_pos : ∀ L : List Ent, L.length ≤ (L.flatMap ef).length
 | [] => Nat.le_refl _
 | e :: L => by rw [List.flatMap_cons, List.length_append, List.length_cons]; have := flat_pos L; have := ef_pos e; omega
theorem form_len (s : St) : s.1.length ≤ (form s).length := by
 unfold form; simp only [List.length_append]; have := flat_pos s.1; omega
theorem rloop_fwd {k : Nat} (hk : Fuel k) {R : Nat} (hR : R ≤ 1099511627776) {t17 : Int × Option Rdr} (h17 : t17.1 = (R : Int)) (ou : List (List Int)) (y : List Int) : ∀ (M : List Ent) (tab : Option Tab) (L : List Ent) (m : MpV Bool) (last : ByteArray) (n : Nat),
  (M.flatMap ef ++ y).length + L.length < 8000000000 → TabR tab R L → Part R L last m → Ord (L ++ M) → (revs (L ++ M)).Nodup →
  (∀ e ∈ M, 1 ≤ e.1.size ∧ e.1.size ≤ 64 ∧ e.2.value.length ≤ 256 ∧ 1 ≤ e.2.rev ∧ e.2.rev ≤ (R : Int)) → M.length < n →
  ∃ tab', rloop k t17 n (some ⟨M.flatMap ef ++ y, ou, 0⟩, (M.length : Int), tab, true, m, last) = some (some ⟨y, ou, 0⟩, tab', true) ∧ TabR tab' R (L ++ M)
 | [], tab, L, m, last, n, _, hT, _, _, _, _, hn => ⟨tab, rloop_end (Or.inl (by simp)) hn, by simpa using hT⟩
 | e :: M, tab, L, m, last, n, hs, hT, hP, ho, hd, hE, hn => by
  obtain ⟨n, rfl⟩ : ∃ p, n = p + 1 := ⟨n - 1, by omega⟩
  obtain ⟨key, v, a⟩ := e
  obtain ⟨e1, e2, e3, e4, e5⟩ := hE (key, ⟨v, a⟩) (by simp)
  simp only at e1 e2 e3 e4 e5
  have hML : M.length ≤ (M.flatMap ef).length := flat_pos M
  have hlen : (((key, (⟨v, a⟩ : table_cell)) :: M).flatMap ef ++ y).length = (ef (key, ⟨v, a⟩)).length + ((M.flatMap ef).length + y.length) := by
   rw [List.flatMap_cons]; simp only [List.length_append]; omega
  rw [hlen] at hs
  have hflat : ((key, (⟨v, a⟩ : table_cell)) :: M).flatMap ef ++ y = fm (sb key).length ++ (sb key ++ (fm v.length ++ (v ++ (fm a.toNat ++ (M.flatMap ef ++ y))))) := by
   rw [List.flatMap_cons, List.append_assoc, ef_flat]
  have hall : (fm (sb key).length ++ (sb key ++ (fm v.length ++ (v ++ (fm a.toNat ++ (M.flatMap ef ++ y)))))).length < 8000000000 := by
   rw [← hflat, hlen]; omega
  simp only [List.length_append] at hall
  have hks : (sb key).length = key.size := sb_len key
  have t1 := Text_fwd (v := sb key) (most := 64) (by omega) (by omega) (by omega) (fm v.length ++ (v ++ (fm a.toNat ++ (M.flatMap ef ++ y)))) (by simp only [List.length_append]; omega) ou
  have t2 := Text_fwd (v := v) (most := 256) (by omega) (by omega) (by omega) (fm a.toNat ++ (M.flatMap ef ++ y)) (by simp only [List.length_append]; omega) ou
  have t3 := Num_fwd (m := a.toNat) (by omega) (M.flatMap ef ++ y) ou
  have ha : ((a.toNat : Nat) : Int) = a := by omega
  rw [ha] at t3
  have hmany : ((((key, (⟨v, a⟩ : table_cell)) :: M).length : Nat) : Int) = (M.length : Int) + 1 := by simp
  obtain ⟨tab', g, m', e, hg, hgo⟩ := row_eq hk hR hP (by omega) hT h17 (kb := sb key) (vb := v) (by omega) e3 (r1 := some ⟨fm v.length ++ (v ++ (fm a.toNat ++ (M.flatMap ef ++ y))), ou, 0⟩) (r2 := some ⟨fm a.toNat ++ (M.flatMap ef ++ y), ou, 0⟩) (r3 := some ⟨M.flatMap ef ++ y, ou, 0⟩) (a := a) (by omega) (by omega) (many := (M.length : Int) + 1) (by omega) (by omega) t3
  rw [bs_sb] at e hg hgo
  have hord : ∀ x ∈ L, lt x.1 key = true := fun x hx => by
   unfold Ord at ho
   rw [List.pairwise_append] at ho
   exact ho.2.2 x hx (key, ⟨v, a⟩) (by simp)
  have hlt : lt last key = true := by
   rcases hP.top with ⟨_, q⟩ | ⟨x, hx, q⟩
   ·rw [q]; exact lt_empty e1
   ·rw [← q]; exact hord x hx
  have hnot : a ∉ revs L := by
   unfold revs at hd ⊢
   rw [List.map_append, List.nodup_append] at hd
   intro q
   exact hd.2.2 a q a (by simp) rfl
  have hgt : g = true := hg.2 ⟨hlt, by omega, e5, hnot⟩
  subst hgt
  obtain ⟨hT', hP'⟩ := hgo rfl
  obtain ⟨tab2, e', hT2⟩ := rloop_fwd hk hR h17 ou y M tab' (L ++ [(key, ⟨v, a⟩)]) m' key n (by simp only [List.length_append, List.length_singleton]; have := ef_pos (key, (⟨v, a⟩ : table_cell)); omega) hT' hP' (by simpa using ho) (by simpa using hd) (fun x hx => hE x (by simp [hx])) (by simp at hn; omega)
  refine ⟨tab2, ?_, by simpa using hT2⟩
  have hstep : table_Read.b7 k t17 (some ⟨((key, (⟨v, a⟩ : table_cell)) :: M).flatMap ef ++ y, ou, 0⟩) ((((key, (⟨v, a⟩ : table_cell)) :: M).length : Nat) : Int) tab true m last = some (.next (some ⟨M.flatMap ef ++ y, ou, 0⟩, (M.length : Int), tab', true, m', key)) := by
   rw [hflat, hmany]
   unfold table_Read.b7 table_Read.j4
   rw [if_pos (by omega), if_pos rfl, bind_eq t1, bind_eq t2]
   rw [show (M.length : Int) + 1 - 1 = (M.length : Int) by omega] at e
   exact e
  exact (loop_next (by exact hstep)).trans e'
theorem read_fwd {k : Nat} (hk : Fuel k) {s : St} (hS : Sound s) (y : List Int) (hl : (form s ++ y).length < 4000000000) :
  ∃ t, table_Read.f k (form s ++ y) = some (if y = [] then (t, 0) else (none, 130)) ∧ RepS t s := by
 have h24 : 1099511627776 ≤ k := hk
 have hR := hS.top
 have hflen := form_len s
 rw [List.length_append] at hl
 have hp : form s ++ y = fm s.2 ++ (fm s.1.length ++ (s.1.flatMap ef ++ y)) := by unfold form; simp only [List.append_assoc]
 have hlen2 : (s.1.flatMap ef ++ y).length ≤ (form s ++ y).length := by rw [hp]; simp only [List.length_append]; omega
 rw [show (form s ++ y).length = (form s).length + y.length from List.length_append] at hlen2
 have e0 : parcel_Read.f (form s ++ y) = some (some ⟨fm s.2 ++ (fm s.1.length ++ (s.1.flatMap ef ++ y)), [], 0⟩) := by
  unfold parcel_Read.f; rw [if_pos (by rw [List.length_append]; omega), hp]
 have e1 := Num_fwd (m := s.2) (by omega) (fm s.1.length ++ (s.1.flatMap ef ++ y)) []
 have e2 := Num_fwd (m := s.1.length) (by omega) (s.1.flatMap ef ++ y) []
 obtain ⟨tab', e3, hT⟩ := rloop_fwd hk hR (t17 := ((s.2 : Int), some ⟨fm s.1.length ++ (s.1.flatMap ef ++ y), [], 0⟩)) rfl [] y s.1 (some ⟨.nil, (s.2 : Int), 0⟩) [] ⟨fun _ => none, 0⟩ { data := #[] } k
  (by simp only [List.length_nil]; omega) ⟨.nil, rfl, trivial, rfl⟩ (Part.empty s.2) (by simpa using hS.inv.ord) (by simpa using hS.dis) hS.inv.ent (by omega)
 rw [List.nil_append] at hT
 refine ⟨tab', ?_, TabR.rep hT hS⟩
 unfold table_Read.f
 rw [bind_eq e0, bind_eq e1]
 simp only
 rw [bind_eq e2, bind_eq new_eq, Option.bind_some]
 have hwm : IntKind.i64.wrap (min (s.2 : Int) 1099511627776) = (s.2 : Int) := by rw [Int.min_eq_left (by omega), wr (by omega) (by omega)]
 simp only [hwm, decide_eq_true (show (s.2 : Int) ≤ 1099511627776 by omega)]
 rw [bind_eq e3]
 unfold table_Read.j8
 simp only [if_true]
 rw [bind_eq (Done_eq y 0)]
 by_cases hy : y = []
 ·subst hy
  rfl
 ·have hp : 0 < y.length := by
   rcases Nat.eq_zero_or_pos y.length with q | q
   ·exact absurd (List.length_eq_zero_iff.1 q) hy
   ·exact q
  rw [if_neg hy, if_pos rfl, if_pos hp]
  rfl
theorem form_size (s : St) : ((form s).length : Int) = nm s.2 + nm s.1.length + sz s.1 := by
 have h := flat_len s.1
 unfold form
 simp only [List.length_append, fm_len]
 omega
theorem revs_ins {a : Int} {k : ByteArray} {c : table_cell} : ∀ L : List Ent, a ∈ revs (ins k c L) → a = c.rev ∨ a ∈ revs L := by
 intro L h
 obtain ⟨e, he, rfl⟩ := List.mem_map.1 h
 rcases mem_ins L he with rfl | q
 ·exact Or.inl rfl
 ·exact Or.inr (List.mem_map.2 ⟨e, q, rfl⟩)
theorem ins_nodup {k : ByteArray} {c : table_cell} : ∀ L : List Ent, c.rev ∉ revs L → (revs L).Nodup → (revs (ins k c L)).Nodup
 | [], _, _ => by simp [ins, revs]
 | (a, x) :: L, h, hd => by
  have h1 : ¬ c.rev = x.rev := fun e => h (by simp [revs, e])
  have h2 : c.rev ∉ revs L := fun e => h (by unfold revs at e ⊢; simp [e])
  have hd' : x.rev ∉ revs L ∧ (revs L).Nodup := List.nodup_cons.1 hd
  simp only [ins]
  split
  ·exact List.nodup_cons.2 ⟨h, hd⟩
  ·split
   ·refine List.nodup_cons.2 ⟨fun q => ?_, ins_nodup L h2 hd'.2⟩
    rcases revs_ins L q with e | e
    ·exact h1 e.symm
    ·exact hd'.1 e
   ·exact List.nodup_cons.2 ⟨h2, hd'.2⟩
theorem del_sub (k : ByteArray) : ∀ L : List Ent, (del k L).Sublist L
 | [] => List.Sublist.refl _
 | (a, x) :: L => by
  simp only [del]
  split
  ·exact List.Sublist.refl _
  ·split
   ·exact (del_sub k L).cons_cons _
   ·exact List.sublist_cons_self _ _
theorem del_nodup {k : ByteArray} {L : List Ent} (hd : (revs L).Nodup) : (revs (del k L)).Nodup := ((del_sub k L).map _).nodup hd
structure Good (s : St) : Prop where
 inv : Inv s.1 s.2
 dis : (revs s.1).Nodup
 val : ∀ e ∈ s.1, bytesR e.2.value
theorem fresh {s : St} (h : Good s) : ((s.2 : Int) + 1) ∉ revs s.1 := by
 intro q
 obtain ⟨e, he, e2⟩ := List.mem_map.1 q
 have := h.inv.ent e he
 omega
theorem Good.step {s : St} (h : Good s) {o : api_Op} (ho : bytesR o.Value) (hI : Inv (stepS s o).1 (stepS s o).2) : Good (stepS s o) := by
  refine ⟨hI, ?_, ?_⟩
  · unfold stepS act
    repeat' split
    all_goals first
      | exact h.dis
      | exact del_nodup h.dis
      | exact ins_nodup _ (fresh h) h.dis
  · unfold stepS act
    repeat' split
    all_goals first
      | exact h.val
      | exact fun e he => h.val e (mem_del _ he)
      | (intro e he
         rcases mem_ins _ he with rfl | q
         · exact ho
         · exact h.val e q)
theorem oa_next {S X : Type} {f : S → Option (Ctl S X)} {n : Nat} {s s' : S} (h : f s = some (.next s')) : loop f (n + 1) s = loop f n s' := by
 show (f s).bind _ = _; rw [h]; rfl
theorem oa_done {S X : Type} {f : S → Option (Ctl S X)} {n : Nat} {s : S} {x : X} (h : f s = some (.done x)) : loop f (n + 1) s = some x := by
 show (f s).bind _ = _; rw [h]; rfl
theorem oa_count' {S X : Type} {f : S → Option (Ctl S X)} {s : Nat → S} {x : X} {N : Nat} (step : ∀ i, i < N → f (s i) = some (.next (s (i + 1)))) (last : f (s N) = some (.done x)) : ∀ (n i m : Nat), i + n = N → n < m → loop f m (s i) = some x
 | _, _, 0, _, h => absurd h (by omega)
 | 0, i, m + 1, hN, _ => by
  obtain rfl : i = N := by omega
  exact oa_done last
 | n + 1, i, m + 1, hN, hm => by rw [oa_next (step i (by omega))]; exact oa_count' step last n (i + 1) m (by omega) (by omega)
theorem oa_count {S X : Type} {f : S → Option (Ctl S X)} {s : Nat → S} {x : X} {N k : Nat} (hk : N < k) (step : ∀ i, i < N → f (s i) = some (.next (s (i + 1)))) (last : f (s N) = some (.done x)) : loop f k (s 0) = some x := oa_count' step last N 0 k (by omega) hk
theorem oa_rd {α : Type} [Inhabited α] {xs : List α} {i : Nat} (h : i < xs.length) : rd xs (i : Int) = xs[i] := by
 unfold rd
 rw [Int.toNat_natCast, List.getD_eq_getElem?_getD, List.getElem?_eq_getElem h]
 rfl
theorem oa_rdm {α : Type} [Inhabited α] {v : Nat → α} {n k : Nat} (h : k < n) : rd ((List.range n).map v) (k : Int) = v k := by rw [oa_rd (by simpa using h)]; simp
theorem oa_rdr {α : Type} [Inhabited α] {a : List α} {v : Nat → α} {n k : Nat} (h : k < n) : rd (a ++ (List.range n).map v) ((a.length + k : Nat) : Int) = v k := by
 rw [oa_rd (by simp; omega), List.getElem_append_right (by omega)]; simp
theorem oa_set {α : Type} {v : Nat → α} {l : List α} {k : Nat} (h : k < l.length) : ((List.range k).map v ++ l.drop k).set k (v k) = (List.range (k + 1)).map v ++ l.drop (k + 1) := by
 have e : k - ((List.range k).map v).length = 0 := by simp
 rw [List.drop_eq_getElem_cons h, List.set_append_right _ _ (by simp), e, List.set_cons_zero, List.range_succ, List.map_append, List.append_assoc]; rfl
section
set_option linter.unusedSectionVars false
variable {α : Type} [Inhabited α] {L L0 : List (List α)} {i k len n : Nat}
def oaM (v : Nat → Nat → α) (L : List (List α)) : List (List α) := L.mapIdx fun i l => (List.range l.length).map (v i)
def oaG (n : Nat) (v : Nat → Nat → α) (L : List (List α)) : List (List α) := L.mapIdx fun i l => l ++ (List.range n).map (v i)
theorem oaM_len (v : Nat → Nat → α) : (oaM v L).length = L.length := by simp [oaM]
theorem oaG_len (v : Nat → Nat → α) : (oaG n v L).length = L.length := by simp [oaG]
theorem oaM_rd (v : Nat → Nat → α) (h : i < L.length) : rd (oaM v L) (i : Int) = (List.range (rd L (i : Int)).length).map (v i) := by
 rw [oa_rd (by rw [oaM_len]; exact h), oa_rd h]; simp [oaM]
theorem oaG_rd (v : Nat → Nat → α) (h : i < L.length) : rd (oaG n v L) (i : Int) = rd L (i : Int) ++ (List.range n).map (v i) := by
 rw [oa_rd (by rw [oaG_len]; exact h), oa_rd h]; simp [oaG]
theorem oa_rdset (h : i < L.length) (l : List α) : rd (L.set i l) (i : Int) = l := by rw [oa_rd (by simpa using h)]; simp
theorem oa_fill1 {f : List (List α) × Int → Option (Ctl (List (List α) × Int) (List (List α)))} {v : Nat → α} (hk : len < k) (hi : i < L.length) (hl : (rd L (i : Int)).length = len)
  (step : ∀ (M : List (List α)) (k : Nat), M.length = L.length → (rd M (i : Int)).length = len → k < len → f (M, (k : Int)) = some (.next (M.set i ((rd M (i : Int)).set k (v k)), ((k + 1 : Nat) : Int))))
  (stop : ∀ (M : List (List α)), M.length = L.length → (rd M (i : Int)).length = len → f (M, (len : Int)) = some (.done M)) : loop f k (L, 0) = some (L.set i ((List.range len).map v)) := by
 have e0 : (L, (0 : Int)) = (fun k : Nat => (L.set i ((List.range k).map v ++ (rd L (i : Int)).drop k), (k : Int))) 0 := by
  simp only [List.range_zero, List.map_nil, List.nil_append, List.drop_zero, oa_rd hi]
  rw [List.set_getElem_self]; rfl
 rw [e0]
 refine oa_count (s := fun k : Nat => (L.set i ((List.range k).map v ++ (rd L (i : Int)).drop k), (k : Int))) (N := len) hk (fun k hkk => ?_) ?_
 ·rw [step _ k (by simp) (by rw [oa_rdset hi]; simp; omega) hkk, oa_rdset hi, oa_set (by omega), List.set_set]
 ·rw [stop _ (by simp) (by rw [oa_rdset hi]; simp; omega), List.drop_of_length_le (by omega), List.append_nil]
theorem oa_tk {L M : List (List α)} (h : M.length = L.length) (hi : i < L.length) : rd (M.take i ++ L.drop i) (i : Int) = rd L (i : Int) := by
 rw [oa_rd (by simp; omega), oa_rd hi, List.getElem_append_right (by simp; omega)]
 simp; congr 1; omega
theorem oa_tks {L M : List (List α)} (h : M.length = L.length) (hi : i < L.length) : (M.take i ++ L.drop i).set i (rd M (i : Int)) = M.take (i + 1) ++ L.drop (i + 1) := by
 rw [List.drop_eq_getElem_cons hi, List.set_append_right _ _ (by simp; omega), oa_rd (by omega)]
 have : i - (M.take i).length = 0 := by simp; omega
 rw [this, List.set_cons_zero, List.take_add_one, List.getElem?_eq_getElem (by omega), Option.toList_some, List.append_assoc]; rfl
theorem oa_fill {f : List (List α) × Int → Option (Ctl (List (List α) × Int) (List (List α)))} {v : Nat → Nat → α} (hk : L0.length < k)
  (step : ∀ (L : List (List α)) (i : Nat), L.length = L0.length → i < L0.length → rd L (i : Int) = rd L0 (i : Int) → f (L, (i : Int)) = some (.next (L.set i ((List.range (rd L0 (i : Int)).length).map (v i)), ((i + 1 : Nat) : Int))))
  (stop : ∀ (L : List (List α)), L.length = L0.length → f (L, (L0.length : Int)) = some (.done L)) : loop f k (L0, 0) = some (oaM v L0) := by
 have e0 : (L0, (0 : Int)) = (fun i : Nat => ((oaM v L0).take i ++ L0.drop i, (i : Int))) 0 := by simp
 have hl := oaM_len (L := L0) v
 rw [e0]
 refine oa_count (s := fun i : Nat => ((oaM v L0).take i ++ L0.drop i, (i : Int))) (N := L0.length) hk (fun i hi => ?_) ?_
 ·rw [step _ i (by simp; omega) hi (oa_tk hl hi), ← oaM_rd v hi, oa_tks hl hi]
 ·rw [stop _ (by simp; omega), List.drop_of_length_le (Nat.le_refl _), List.append_nil, List.take_of_length_le (by omega)]
theorem oa_grow1 {f : List α × Int → Option (Ctl (List α × Int) (List α))} {v : Nat → α} {l0 : List α} (hk : n < k)
  (step : ∀ (l : List α) (k : Nat), l.length = l0.length + k → k < n → f (l, (k : Int)) = some (.next (l ++ [v k], ((k + 1 : Nat) : Int))))
  (stop : ∀ (l : List α), f (l, (n : Int)) = some (.done l)) : loop f k (l0, 0) = some (l0 ++ (List.range n).map v) := by
 have e0 : (l0, (0 : Int)) = (fun k : Nat => (l0 ++ (List.range k).map v, (k : Int))) 0 := by simp
 rw [e0]
 refine oa_count (s := fun k : Nat => (l0 ++ (List.range k).map v, (k : Int))) (N := n) hk (fun k hkk => ?_) ?_
 ·rw [step _ k (by simp) hkk, List.range_succ, List.map_append, List.append_assoc]; rfl
 ·rw [stop]
theorem oa_grow {f : List (List α) × Int → Option (Ctl (List (List α) × Int) (List (List α)))} {v : Nat → Nat → α} (hk : L.length < k)
  (step : ∀ (M : List (List α)) (i : Nat), M.length = i → i < L.length → f (M, (i : Int)) = some (.next (M ++ [rd L (i : Int) ++ (List.range n).map (v i)], ((i + 1 : Nat) : Int))))
  (stop : ∀ (M : List (List α)), M.length = L.length → f (M, (L.length : Int)) = some (.done M)) : loop f k ([], 0) = some (oaG n v L) := by
 have e0 : (([] : List (List α)), (0 : Int)) = (fun i : Nat => ((oaG n v L).take i, (i : Int))) 0 := by simp
 have hl := oaG_len (n := n) (L := L) v
 rw [e0]
 refine oa_count (s := fun i : Nat => ((oaG n v L).take i, (i : Int))) (N := L.length) hk (fun i hi => ?_) ?_
 ·rw [step _ i (by simp; omega) hi, ← oaG_rd v hi, List.take_add_one, List.getElem?_eq_getElem (by omega), oa_rd (by omega)]; rfl
 ·rw [stop _ (by simp; omega), List.take_of_length_le (by omega)]
end
def vR1 (i : Nat) : Option (List Value) := some ([.slice none 0 0, .slice none 0 0, .int .i64 (IntKind.i64.wrap (100 + (i : Int)))] : List Value)
def vR2 (i : Nat) : Option (List Value) := some ([.slice none 0 0, .slice none 0 0, .int .i64 (IntKind.i64.wrap (20000 + (i : Int)))] : List Value)
def vR3 (i : Nat) : Option (List Value) := some ([.slice none 0 0, .slice none 0 0, .int .i64 (IntKind.i64.wrap ((-1) - (i : Int)))] : List Value)
def vR4 (i : Nat) : Option (List Value) := some ([.slice none 0 0, .slice none 0 0, .int .i64 (IntKind.i64.wrap ((-100) - (i : Int)))] : List Value)
theorem rawI_row {β : Type} (n : Int) (F : Int → Option β) : rawI .i64 (some ([.slice none 0 0, .slice none 0 0, .int .i64 n] : List Value)) 2 F = F n := by
 simp [rawI]
theorem parted_true {k : Nat} (hk : Fuel k) (P Q : List (Option (List Value))) (hp : P.length < 1000000000) (hq : Q.length < 1000000000) : haulagelaw13_parted.f k P Q = some true := by
 have h24 : 1099511627776 ≤ k := hk
 obtain ⟨n, hn⟩ : ∃ n, n = P.length := ⟨_, rfl⟩
 obtain ⟨m, hm⟩ : ∃ m, m = Q.length := ⟨_, rfl⟩
 have l1 : loop (fun (s_ : (List (Option (List Value))) × Int) => haulagelaw13_parted.b1 s_.1 s_.2) k (P, 0) = some ((List.range n).map vR1) := by
  have e0 : (P, (0 : Int)) = (fun i : Nat => ((List.range i).map vR1 ++ P.drop i, (i : Int))) 0 := by simp
  rw [e0]
  refine oa_count (s := fun i : Nat => ((List.range i).map vR1 ++ P.drop i, (i : Int))) (N := n) (by omega) (fun i hi => ?_) ?_
  ·simp only
   unfold haulagelaw13_parted.b1
   have a1 : ((List.range i).map vR1 ++ P.drop i).length = n := by simp; omega
   rw [if_pos (by rw [a1]; omega), if_pos (by rw [a1]; omega), wrS i (by omega), Int.toNat_natCast]
   show some (Ctl.next ((((List.range i).map vR1 ++ P.drop i).set i (vR1 i)), ((i + 1 : Nat) : Int))) = _
   rw [oa_set (by omega)]
  ·simp only
   unfold haulagelaw13_parted.b1
   rw [if_neg (by simp; omega), List.drop_of_length_le (by omega), List.append_nil]
 have l2 : loop (fun (s_ : (List (Option (List Value))) × Int) => haulagelaw13_parted.b3 s_.1 s_.2) k (Q, 0) = some ((List.range m).map vR2) := by
  have e0 : (Q, (0 : Int)) = (fun i : Nat => ((List.range i).map vR2 ++ Q.drop i, (i : Int))) 0 := by simp
  rw [e0]
  refine oa_count (s := fun i : Nat => ((List.range i).map vR2 ++ Q.drop i, (i : Int))) (N := m) (by omega) (fun i hi => ?_) ?_
  ·simp only
   unfold haulagelaw13_parted.b3
   have a1 : ((List.range i).map vR2 ++ Q.drop i).length = m := by simp; omega
   rw [if_pos (by rw [a1]; omega), if_pos (by rw [a1]; omega), wrS i (by omega), Int.toNat_natCast]
   show some (Ctl.next ((((List.range i).map vR2 ++ Q.drop i).set i (vR2 i)), ((i + 1 : Nat) : Int))) = _
   rw [oa_set (by omega)]
  ·simp only
   unfold haulagelaw13_parted.b3
   rw [if_neg (by simp; omega), List.drop_of_length_le (by omega), List.append_nil]
 have n1 : ((List.range n).map vR1).length = n := by simp
 have n2 : ((List.range m).map vR2).length = m := by simp
 obtain ⟨A, hA⟩ : ∃ A, A = (List.range n).map vR1 := ⟨_, rfl⟩
 obtain ⟨B, hB⟩ : ∃ B, B = (List.range m).map vR2 := ⟨_, rfl⟩
 rw [← hA] at l1 n1
 rw [← hB] at l2 n2
 have l3 : loop (fun (s_ : (List (Option (List Value))) × Int) => haulagelaw13_parted.b5 s_.1 s_.2) k (A, 0) = some (A ++ (List.range 20).map vR3) := by
  refine oa_grow1 (by omega) (fun l' q e1 e2 => ?_) (fun l' => ?_)
  ·simp only
   unfold haulagelaw13_parted.b5
   rw [if_pos (by omega), if_pos (by simp only [List.length_cons, List.length_nil]; omega), wrS q (by omega)]; rfl
  ·simp only
   unfold haulagelaw13_parted.b5
   rw [if_neg (by omega)]
 have l4 : loop (fun (s_ : (List (Option (List Value))) × Int) => haulagelaw13_parted.b7 s_.1 s_.2) k (B, 0) = some (B ++ (List.range 20).map vR4) := by
  refine oa_grow1 (by omega) (fun l' q e1 e2 => ?_) (fun l' => ?_)
  ·simp only
   unfold haulagelaw13_parted.b7
   rw [if_pos (by omega), if_pos (by simp only [List.length_cons, List.length_nil]; omega), wrS q (by omega)]; rfl
  ·simp only
   unfold haulagelaw13_parted.b7
   rw [if_neg (by omega)]
 unfold haulagelaw13_parted.f
 rw [bind_eq l1]
 unfold haulagelaw13_parted.j2
 rw [bind_eq l2]
 unfold haulagelaw13_parted.j4
 rw [bind_eq l3]
 unfold haulagelaw13_parted.j6
 rw [bind_eq l4]
 unfold haulagelaw13_parted.j8
 have l5 : loop (fun (s_ : Int) => haulagelaw13_parted.b9 A s_) k 0 = some (Sum.inl ()) := by
  refine oa_count (s := fun i : Nat => (i : Int)) (N := n) (by omega) (fun i hi => ?_) ?_
  ·unfold haulagelaw13_parted.b9
   have r1 : rd A (i : Int) = vR1 i := by rw [hA]; exact oa_rdm hi
   rw [if_pos (by omega), if_pos (by omega), r1, vR1, rawI_row, if_pos rfl, wrS i (by omega)]
  ·unfold haulagelaw13_parted.b9
   rw [if_neg (by omega)]
 rw [bind_eq l5]
 show haulagelaw13_parted.j10 k _ _ _ _ = _
 unfold haulagelaw13_parted.j10
 have l6 : loop (fun (s_ : Int) => haulagelaw13_parted.b11 B s_) k 0 = some (Sum.inl ()) := by
  refine oa_count (s := fun i : Nat => (i : Int)) (N := m) (by omega) (fun i hi => ?_) ?_
  ·unfold haulagelaw13_parted.b11
   have r1 : rd B (i : Int) = vR2 i := by rw [hB]; exact oa_rdm hi
   rw [if_pos (by omega), if_pos (by omega), r1, vR2, rawI_row, if_pos rfl, wrS i (by omega)]
  ·unfold haulagelaw13_parted.b11
   rw [if_neg (by omega)]
 rw [bind_eq l6]
 show haulagelaw13_parted.j12 k _ _ _ _ = _
 unfold haulagelaw13_parted.j12
 have n3 : (A ++ (List.range 20).map vR3).length = n + 20 := by simp [n1]
 have n4 : (B ++ (List.range 20).map vR4).length = m + 20 := by simp [n2]
 have l7 : loop (fun (s_ : Int) => haulagelaw13_parted.b14 A B (A ++ (List.range 20).map vR3) (B ++ (List.range 20).map vR4) s_) k 0 = some (Sum.inl ()) := by
  refine oa_count (s := fun i : Nat => (i : Int)) (N := 20) (by omega) (fun i hi => ?_) ?_
  ·unfold haulagelaw13_parted.b14
   have w1 : IntKind.i64.wrap ((A.length : Int) + (i : Int)) = ((n + i : Nat) : Int) := by rw [n1, wr (by omega) (by omega)]; omega
   have w2 : IntKind.i64.wrap ((B.length : Int) + (i : Int)) = ((m + i : Nat) : Int) := by rw [n2, wr (by omega) (by omega)]; omega
   have r3 : rd (A ++ (List.range 20).map vR3) ((n + i : Nat) : Int) = vR3 i := by have := oa_rdr (a := A) (v := vR3) hi; rwa [n1] at this
   have r4 : rd (B ++ (List.range 20).map vR4) ((m + i : Nat) : Int) = vR4 i := by have := oa_rdr (a := B) (v := vR4) hi; rwa [n2] at this
   rw [w1, w2, r3, r4, if_pos (by omega), if_pos (by omega), vR3, rawI_row, if_pos rfl, if_pos (by omega), vR4, rawI_row]
   unfold haulagelaw13_parted.j13
   rw [if_neg (by simp), wrS i (by omega)]
  ·unfold haulagelaw13_parted.b14
   rw [if_neg (by omega)]
 rw [bind_eq l7]; rfl
def vA (i k : Nat) : Int := IntKind.u8.wrap (IntKind.i64.wrap ((IntKind.i64.wrap ((IntKind.i64.wrap (37 * (i : Int))) + (IntKind.i64.wrap (5 * (k : Int))))) + 11))
def vB (i k : Nat) : Int := IntKind.u8.wrap (IntKind.i64.wrap ((IntKind.i64.wrap ((IntKind.i64.wrap (101 * (i : Int))) + (IntKind.i64.wrap (3 * (k : Int))))) + 60))
section
variable {k : Nat} {L : List (List Int)}
theorem own_fill (hk : Fuel k) (ll : L.length < 1000000000) (hb : ∀ i : Nat, i < L.length → (rd L (i : Int)).length ≤ 4000000000) :
  loop (fun (s_ : (List (List Int)) × Int) => haulagelaw13_apart.b5 k s_.1 s_.2) k (L, 0) = some (oaM vA L) := by
 have h24 : 1099511627776 ≤ k := hk
 refine oa_fill (by omega) (fun M i hl hi hM => ?_) (fun M hl => ?_)
 ·simp only
  unfold haulagelaw13_apart.b5
  have hbi := hb i (by omega)
  rw [if_pos (by omega), bind_eq (oa_fill1 (v := vA i) (L := M) (i := i) (len := (rd L (i : Int)).length) (by omega) (by omega) (by rw [hM]) (fun M' q e1 e2 e3 => ?_) (fun M' e1 e2 => ?_))]
  ·unfold haulagelaw13_apart.j4; rw [wrS i (by omega)]
  ·simp only
   unfold haulagelaw13_apart.b3
   rw [if_pos (by omega), if_pos (by omega), if_pos (by omega), if_pos (by omega), wrS q (by omega)]
   rfl
  ·simp only
   unfold haulagelaw13_apart.b3
   rw [if_pos (by omega), if_neg (by omega)]
 ·simp only
  unfold haulagelaw13_apart.b5
  rw [if_neg (by omega)]
theorem own_grow (hk : Fuel k) (ll : L.length < 1000000000) (hb : ∀ i : Nat, i < L.length → (rd L (i : Int)).length ≤ 4000000000) :
  loop (fun (s_ : (List (List Int)) × Int) => haulagelaw13_apart.b11 k L s_.1 s_.2) k ([], 0) = some (oaG 80 vB L) := by
 have h24 : 1099511627776 ≤ k := hk
 refine oa_grow (by omega) (fun M i hl hi => ?_) (fun M hl => ?_)
 ·simp only
  unfold haulagelaw13_apart.b11
  have hbi := hb i (by omega)
  rw [if_pos (by omega), if_pos (by omega), bind_eq (oa_grow1 (v := vB i) (n := 80) (by omega) (fun l q e1 e2 => ?_) (fun l => ?_))]
  ·unfold haulagelaw13_apart.j10; rw [if_pos (by simp only [List.length_cons, List.length_nil]; omega), wrS i (by omega)]
  ·simp only
   unfold haulagelaw13_apart.b9
   rw [if_pos (by omega), if_pos (by simp only [List.length_cons, List.length_nil]; omega), wrS q (by omega)]; rfl
  ·simp only
   unfold haulagelaw13_apart.b9
   rw [if_neg (by omega)]
 ·simp only
  unfold haulagelaw13_apart.b11
  rw [if_neg (by omega), if_pos (by omega)]
theorem own_look (hk : Fuel k) (ll : L.length < 1000000000) (hb : ∀ i : Nat, i < L.length → (rd L (i : Int)).length ≤ 4000000000) :
  loop (fun (s_ : Int) => haulagelaw13_apart.b17 k (oaM vA L) (oaG 80 vB (oaM vA L)) s_) k 0 = some (.inl ()) := by
 have h24 : 1099511627776 ≤ k := hk
 have l1 := oaM_len (L := L) vA
 have l2 := oaG_len (n := 80) (L := oaM vA L) vB
 refine oa_count (s := fun i : Nat => (i : Int)) (N := L.length) (by omega) (fun i hi => ?_) ?_
 ·have hbi := hb i hi
  have e1 := oaM_rd (L := L) (i := i) vA (by omega)
  have e2 := oaG_rd (n := 80) (L := oaM vA L) (i := i) vB (by omega)
  obtain ⟨n, hn⟩ : ∃ n, n = (rd L (i : Int)).length := ⟨_, rfl⟩
  have n1 : (rd (oaM vA L) (i : Int)).length = n := by rw [e1]; simp [hn]
  have n2 : (rd (oaG 80 vB (oaM vA L)) (i : Int)).length = n + 80 := by rw [e2]; simp [n1]
  unfold haulagelaw13_apart.b17
  rw [if_pos (by omega), if_pos (by omega)]
  have A : loop (fun (s_ : Int) => haulagelaw13_apart.b13 (oaM vA L) (i : Int) s_) k 0 = some (.inl ()) := by
   refine oa_count (s := fun q : Nat => (q : Int)) (N := n) (by omega) (fun q hq => ?_) ?_
   ·unfold haulagelaw13_apart.b13
    have v1 : rd (rd (oaM vA L) (i : Int)) (q : Int) = vA i q := by rw [e1]; exact oa_rdm (by omega)
    rw [if_pos (by omega), if_pos (by omega), if_pos (by omega), v1, vA, if_pos rfl, wrS q (by omega)]
   ·unfold haulagelaw13_apart.b13
    rw [if_neg (by omega)]
  have Bq : loop (fun (s_ : Int) => haulagelaw13_apart.b15 (oaM vA L) (oaG 80 vB (oaM vA L)) (i : Int) s_) k 0 = some (.inl ()) := by
   refine oa_count (s := fun q : Nat => (q : Int)) (N := 80) (by omega) (fun q hq => ?_) ?_
   ·unfold haulagelaw13_apart.b15
    have v2 : rd (rd (oaG 80 vB (oaM vA L)) (i : Int)) (((n + q : Nat)) : Int) = vB i q := by rw [e2, ← n1]; exact oa_rdr hq
    have hw : IntKind.i64.wrap (((rd (oaM vA L) (i : Int)).length : Int) + (q : Int)) = ((n + q : Nat) : Int) := by rw [n1, wr (by omega) (by omega)]; omega
    rw [if_pos (by omega), if_pos (by omega), hw, if_pos (by omega), v2, vB, if_pos rfl, wrS q (by omega)]
   ·unfold haulagelaw13_apart.b15
    rw [if_neg (by omega)]
  refine (bind_eq A).trans ?_
  unfold haulagelaw13_apart.j14
  refine (bind_eq Bq).trans ?_
  unfold haulagelaw13_apart.j16
  rw [wrS i (by omega)]
 ·unfold haulagelaw13_apart.b17
  rw [if_neg (by omega)]
theorem apart_true (hk : Fuel k) (ll : L.length < 1000000000) (hb : ∀ x ∈ L, x.length ≤ 4000000000) : haulagelaw13_apart.f k L = some true := by
 have hb1 : ∀ i : Nat, i < L.length → (rd L (i : Int)).length ≤ 4000000000 := fun i hi => by rw [oa_rd hi]; exact hb _ (List.getElem_mem hi)
 have hb2 : ∀ i : Nat, i < (oaM vA L).length → (rd (oaM vA L) (i : Int)).length ≤ 4000000000 := by
  intro i hi
  rw [oaM_len] at hi
  rw [oaM_rd vA hi]
  simp only [List.length_map, List.length_range]
  exact hb1 i hi
 unfold haulagelaw13_apart.f
 rw [bind_eq (own_fill hk ll hb1)]
 unfold haulagelaw13_apart.j6
 rw [bind_eq (own_grow hk (by rw [oaM_len]; exact ll) hb2)]
 unfold haulagelaw13_apart.j12
 rw [bind_eq (own_look hk ll hb1)]
 rfl
end
theorem made_loop {k : Nat} (hk : Fuel k) (ops : List api_Op) (hn : ops.length < 4000000) : ∀ (n i m : Nat) (t : Option Tab), i + n = ops.length → n < m → RepS t (run ([], 0) (ops.take i)) →
  ∃ t', loop (fun (s_ : (Option Tab) × Int) => haulagelaw13_made.b1 k ops s_.1 s_.2) m (t, (i : Int)) = some t' ∧ RepS t' (run ([], 0) ops)
 | _, _, 0, _, _, h, _ => absurd h (by omega)
 | 0, i, m + 1, t, h, _, hT => by
  refine ⟨t, loop_done ?_, ?_⟩
  ·unfold haulagelaw13_made.b1; rw [if_neg (by simp only; omega)]
  ·rw [List.take_of_length_le (by omega)] at hT; exact hT
 | n + 1, i, m + 1, t, h, hm, hT => by
  have hi : i < ops.length := by omega
  have hr := run_r (ops.take i) ([], 0)
  rw [List.length_take] at hr
  obtain ⟨t1, e1, R1⟩ := do_step hk (by simp only at hr; omega) hT ops[i]
  obtain ⟨t', e', R'⟩ := made_loop hk ops hn n (i + 1) m t1 (by omega) (by omega) (by rw [take_one hi, run_snoc]; exact R1)
  refine ⟨t', ?_, R'⟩
  rw [loop_next (s' := (t1, ((i + 1 : Nat) : Int)))]
  ·exact e'
  ·unfold haulagelaw13_made.b1
   rw [if_pos (by simp only; omega), if_pos (by simp only; omega), rd_eq hi, bind_eq e1, wrS i (by omega)]
theorem made_eq {k : Nat} (hk : Fuel k) (ops : List api_Op) (hn : ops.length < 4000000) : ∃ t, haulagelaw13_made.f k ops = some t ∧ RepS t (run ([], 0) ops) := by
 obtain ⟨t, e, R⟩ := new_rep
 obtain ⟨t', e', R'⟩ := made_loop hk ops hn ops.length 0 k t (by omega) (by have : 1099511627776 ≤ k := hk; omega) R
 refine ⟨t', ?_, R'⟩
 unfold haulagelaw13_made.f
 rw [bind_eq e, show ((t, (0 : Int)) : Option Tab × Int) = (t, ((0 : Nat) : Int)) from rfl, bind_eq e']
 rfl
theorem same_loop (a b : List Int) (hl : a.length = b.length) : ∀ (n i m : Nat), i + n = a.length → n < m → a.length < 4000000000 →
  loop (fun (s_ : Int) => haulagelaw13_same.b1 a b s_) m (i : Int) = some (if a.drop i = b.drop i then Sum.inl () else Sum.inr false)
 | _, _, 0, _, h, _ => absurd h (by omega)
 | 0, i, m + 1, h, _, _ => by
  refine loop_done ?_
  unfold haulagelaw13_same.b1
  rw [if_neg (by omega), if_pos]
  rw [List.drop_of_length_le (by omega), List.drop_of_length_le (by omega)]
 | n + 1, i, m + 1, h, hm, hb => by
  have hi : i < a.length := by omega
  have hj : i < b.length := by omega
  rw [List.drop_eq_getElem_cons hi, List.drop_eq_getElem_cons hj]
  by_cases c : a[i] = b[i]
  ·rw [loop_next (s' := ((i + 1 : Nat) : Int)), same_loop a b hl n (i + 1) m (by omega) (by omega) hb]
   ·simp only [c, List.cons.injEq, true_and]
   ·unfold haulagelaw13_same.b1
    rw [if_pos (by omega), if_pos (by omega), if_pos (by omega), rd_eq hi, rd_eq hj, if_pos c, wrS i (by omega)]
  ·rw [if_neg (by simp only [List.cons.injEq, c, false_and, not_false_eq_true])]
   refine loop_done ?_
   unfold haulagelaw13_same.b1
   rw [if_pos (by omega), if_pos (by omega), if_pos (by omega), rd_eq hi, rd_eq hj, if_neg c]
theorem same_eq {k : Nat} (hk : Fuel k) (a b : List Int) (h : a.length < 4000000000 ∨ b.length < 4000000000) : haulagelaw13_same.f k a b = some (decide (a = b)) := by
 have h24 : 1099511627776 ≤ k := hk
 unfold haulagelaw13_same.f
 by_cases c : a.length = b.length
 ·rw [if_pos (by omega), show (0 : Int) = ((0 : Nat) : Int) from rfl, bind_eq (same_loop a b c a.length 0 k (by omega) (by omega) (by omega))]
  simp only [List.drop_zero]
  by_cases e : a = b
  ·simp [e, haulagelaw13_same.j2]
  ·simp [e]
 ·rw [if_neg (by omega), decide_eq_false (fun e => c (by rw [e]))]
theorem sameRow_eq {k : Nat} (hk : Fuel k) (a b : api_Row) (h1 : a.Key.length < 4000000000 ∨ b.Key.length < 4000000000) (h2 : a.Value.length < 4000000000 ∨ b.Value.length < 4000000000) : haulagelaw13_sameRow.f k a b = some (decide (a = b)) := by
 obtain ⟨a1, a2, a3⟩ := a
 obtain ⟨b1, b2, b3⟩ := b
 unfold haulagelaw13_sameRow.f
 rw [bind_eq (same_eq hk _ _ h1)]
 by_cases c1 : a1 = b1
 ·rw [if_pos (by simp [c1]), bind_eq (same_eq hk _ _ h2)]
  by_cases c2 : a2 = b2
  ·rw [if_pos (by simp [c2])]; simp [c1, c2]
  ·rw [if_neg (by simp [c2])]; simp [c2]
 ·rw [if_neg (by simp [c1])]; simp [c1]
theorem sameAnswer_eq {k : Nat} (hk : Fuel k) (a b : api_Answer) (h1 : a.Key.length < 4000000000 ∨ b.Key.length < 4000000000) (h2 : a.Value.length < 4000000000 ∨ b.Value.length < 4000000000) : haulagelaw13_sameAnswer.f k a b = some (decide (a = b)) := by
 obtain ⟨a0, a1, a2, a3, a4⟩ := a
 obtain ⟨b0, b1, b2, b3, b4⟩ := b
 unfold haulagelaw13_sameAnswer.f
 by_cases c0 : a0 = b0
 ·rw [if_pos (by simp [c0]), bind_eq (same_eq hk _ _ h1)]
  by_cases c1 : a1 = b1
  ·rw [if_pos (by simp [c1]), bind_eq (same_eq hk _ _ h2)]
   by_cases c2 : a2 = b2
   ·rw [if_pos (by simp [c2])]
    by_cases c3 : a3 = b3
    ·simp [c0, c1, c2, c3]
    ·simp [c3]
   ·rw [if_neg (by simp [c2])]; simp [c2]
  ·rw [if_neg (by simp [c1])]; simp [c1]
 ·rw [if_neg (by simp [c0])]; simp [c0]
theorem act1 : act [] 0 (api_Op.mk 2 [97] [49] 0) = (⟨true, [], [], 0, 1⟩, 0, [(bs [97], ⟨[49], 1⟩)], 1) := by
 simp [act, right, keyok, look, ins, told]
theorem act2 : act [(bs [97], ⟨[49], 1⟩)] 1 (api_Op.mk 2 [97] [50] 0) = (⟨true, sb (bs [97]), [49], 1, 2⟩, 0, [(bs [97], ⟨[50], 2⟩)], 2) := by
 simp [act, right, keyok, look, ins, told, lt_irr]
theorem act3 : act [(bs [97], ⟨[50], 2⟩)] 2 (api_Op.mk 1 [97] [] 0) = (⟨true, sb (bs [97]), [50], 2, 2⟩, 0, [(bs [97], ⟨[50], 2⟩)], 2) := by
 simp [act, right, keyok, look, ins, told, lt_irr]
theorem act4 : act [(bs [97], ⟨[50], 2⟩)] 2 (api_Op.mk 0 [] [] 0) = (zeroA, 131, [(bs [97], ⟨[50], 2⟩)], 2) := by
 simp [act, right, keyok]
theorem awake_eq {k : Nat} (hk : Fuel k) : haulagelaw13_awake.f k = some true := by
 obtain ⟨t0, e0, R0⟩ := new_rep
 obtain ⟨t1, e1, R1⟩ := do_eq hk (by omega) R0 (api_Op.mk 2 [97] [49] 0)
 rw [act1] at e1 R1
 obtain ⟨t2, e2, R2⟩ := do_eq hk (by simp) R1 (api_Op.mk 2 [97] [50] 0)
 rw [act2] at e2 R2
 obtain ⟨t3, e3, R3⟩ := do_eq hk (by simp) R2 (api_Op.mk 1 [97] [] 0)
 rw [act3] at e3 R3
 obtain ⟨t4, e4, R4⟩ := do_eq hk (by simp) R3 (api_Op.mk 0 [] [] 0)
 rw [act4] at e4 R4
 have R4' : RepS t4 ([(bs [97], ⟨[50], 2⟩)], 2) := R4
 have eb := bytes_eq hk (by simp) R4'
 have ef : form ([(bs [97], ⟨[50], 2⟩)], 2) = [2, 1, 1, 97, 1, 50, 2] := by decide
 unfold haulagelaw13_awake.f haulagelaw13_put.f haulagelaw13_get.f
 rw [bind_eq e0, Option.bind_some, bind_eq e1, Option.bind_some, bind_eq e2, Option.bind_some, bind_eq e3, bind_eq e4]
 simp only [if_true]
 rw [bind_eq (same_eq hk _ _ (by simp)), if_pos (by simp), bind_eq (same_eq hk _ _ (by simp)), if_pos (by simp), bind_eq eb, ef, bind_eq (same_eq hk _ _ (by simp))]
 simp
theorem run_lt {ops : List api_Op} {n : Nat} (h : ops.length < n) : (run ([], 0) ops).2 < n := by
 have := run_r ops ([], 0)
 simp only at this; omega
theorem act_wrong {L : List Ent} {r : Nat} {o : api_Op} (h : right o = false) : act L r o = (zeroA, 131, L, r) := by
 unfold act; rw [if_pos h]
theorem told_short {L : List Ent} {n : Nat} (hI : Inv L n) {r : Int} {K : ByteArray} (hK : K.size ≤ 65) : (told r K (look K L)).Key.length ≤ 65 ∧ (told r K (look K L)).Value.length ≤ 256 := by
 cases h : look K L with
 | none => simp [told]
 | some c => have := hI.look h; exact ⟨by show (sb K).length ≤ 65; rw [sb_len]; omega, this.2.2.1⟩
theorem act_short {L : List Ent} {r : Nat} {o : api_Op} (hI : Inv L r) : (act L r o).1.Key.length ≤ 65 ∧ (act L r o).1.Value.length ≤ 256 := by
 by_cases hR : right o = true
 ·have hk : (bs o.Key).size ≤ 65 := by rw [bs_size]; exact (right_key hR).1
  unfold act
  rw [if_neg (by simp [hR])]
  split
  ·cases hA : above (bs o.Key) L with
   | nil => simp [told]
   | cons e M =>
    have := hI.ent e (above_mem hA)
    exact ⟨by show (sb e.1).length ≤ 65; rw [sb_len]; omega, this.2.2.1⟩
  ·split
   ·exact told_short hI hk
   ·split
    ·exact told_short hI hk
    ·split
     ·exact told_short (r := (r : Int) + 1) hI hk
     ·exact told_short (r := (r : Int) + 1) hI hk
 ·rw [act_wrong (by simpa using hR)]; simp [zeroA]
theorem run_good {k : Nat} (hk : Fuel k) : ∀ (ops : List api_Op), ops.length < 4000000 → (∀ o ∈ ops, bytesR o.Value) → Good (run ([], 0) ops) := by
 have key : ∀ (n : Nat) (ops : List api_Op), ops.length = n → ops.length < 4000000 → (∀ o ∈ ops, bytesR o.Value) → Good (run ([], 0) ops) := by
  intro n
  induction n with
  | zero =>
   intro ops hl _ _
   have : ops = [] := List.length_eq_zero_iff.1 hl
   subst this
   exact ⟨⟨List.Pairwise.nil, Nat.le_refl _, fun e he => by cases he⟩, List.nodup_nil, fun e he => by cases he⟩
  | succ n ih =>
   intro ops hl hb hv
   have hne : ops ≠ [] := fun e => by rw [e] at hl; simp at hl
   obtain ⟨t, e, R⟩ := made_eq hk ops hb
   have hI := R.inv
   rw [← List.dropLast_concat_getLast hne] at hI hv ⊢
   rw [run_snoc] at hI ⊢
   exact (ih ops.dropLast (by simp; omega) (by simp; omega) (fun o ho => hv o (by simp [ho]))).step (hv _ (by simp)) hI
 intro ops hl hv
 exact key ops.length ops rfl hl hv
theorem sameRows_self {k : Nat} (hk : Fuel k) {R : List api_Row} (hR : ∀ r ∈ R, r.Key.length < 1000000000 ∧ r.Value.length < 1000000000) (hl : R.length < 1000000000) : haulagelaw13_sameRows.f k R R = some true := by
 have h24 : 1099511627776 ≤ k := hk
 unfold haulagelaw13_sameRows.f
 rw [if_pos rfl]
 have e : loop (fun (s_ : Int) => haulagelaw13_sameRows.b1 k R R s_) k (((0 : Nat)) : Int) = some (.inl ()) := by
  refine oa_count (s := fun i : Nat => (i : Int)) (N := R.length) (by omega) (fun i hi => ?_) ?_
  ·unfold haulagelaw13_sameRows.b1
   have := hR R[i] (List.getElem_mem hi)
   rw [if_pos (by omega), if_pos (by omega), if_pos (by omega), rd_eq hi, bind_eq (sameRow_eq hk _ _ (.inl (by omega)) (.inl (by omega))), decide_eq_true rfl, if_pos rfl, wrS i (by omega)]
  ·unfold haulagelaw13_sameRows.b1; rw [if_neg (by omega)]
 have e' : loop (fun (s_ : Int) => haulagelaw13_sameRows.b1 k R R s_) k 0 = some (.inl ()) := e
 rw [bind_eq e']; rfl
theorem lent_eq {a : List Int} (h : a.length < 1000000000) : haulagelaw13_lent.f a = some a := by
 unfold haulagelaw13_lent.f
 rw [if_pos (by omega), if_pos (by simp; omega), if_pos (by simp), List.nil_append]
theorem lentOp_eq {o : api_Op} (h1 : o.Key.length < 1000000000) (h2 : o.Value.length < 1000000000) : haulagelaw13_lentOp.f o = some o := by
 unfold haulagelaw13_lentOp.f; rw [bind_eq (lent_eq h1), bind_eq (lent_eq h2)]
theorem copyOf_eq {a : api_Answer} (h1 : a.Key.length < 1000000000) (h2 : a.Value.length < 1000000000) : haulagelaw13_copyOf.f a = some a := by
 unfold haulagelaw13_copyOf.f; rw [if_pos (by omega), if_pos (by omega), List.nil_append, List.nil_append]
theorem xor5 {k : Nat} (hk : Fuel k) (l : List Int) (hl : l.length < 1000000000) : ∃ l', loop (fun (s_ : Int × (List Int)) => haulagelaw13_TableOwn.b5 s_.1 s_.2) k (0, l) = some l' ∧ l'.length = l.length := by
 have h24 : 1099511627776 ≤ k := hk
 refine loop_inv (I := fun i q => q.1 = (i : Int) ∧ q.2.length = l.length) (P := fun x : List Int => x.length = l.length) (N := l.length) ?_ ?_ l.length 0 (0, l) k ⟨rfl, rfl⟩ (by omega) (by omega)
 ·rintro i ⟨j, q⟩ hi ⟨rfl, hq⟩
  simp only at hq
  left
  refine ⟨(((i + 1 : Nat) : Int), q.set i (bxor .u8 (rd q i) 255)), ?_, rfl, by simpa using hq⟩
  simp only; unfold haulagelaw13_TableOwn.b5
  rw [if_pos (by omega), if_pos (by omega), if_pos (by omega), wrS i (by omega), Int.toNat_natCast]
 ·rintro ⟨j, q⟩ ⟨rfl, hq⟩
  simp only at hq
  refine ⟨q, ?_, hq⟩
  simp only; unfold haulagelaw13_TableOwn.b5
  rw [if_neg (by omega)]
theorem xor7 {k : Nat} (hk : Fuel k) (l : List Int) (hl : l.length < 1000000000) : ∃ l', loop (fun (s_ : Int × (List Int)) => haulagelaw13_TableOwn.b7 s_.1 s_.2) k (0, l) = some l' ∧ l'.length = l.length := by
 have h24 : 1099511627776 ≤ k := hk
 refine loop_inv (I := fun i q => q.1 = (i : Int) ∧ q.2.length = l.length) (P := fun x : List Int => x.length = l.length) (N := l.length) ?_ ?_ l.length 0 (0, l) k ⟨rfl, rfl⟩ (by omega) (by omega)
 ·rintro i ⟨j, q⟩ hi ⟨rfl, hq⟩
  simp only at hq
  left
  refine ⟨(((i + 1 : Nat) : Int), q.set i (bxor .u8 (rd q i) 255)), ?_, rfl, by simpa using hq⟩
  simp only; unfold haulagelaw13_TableOwn.b7
  rw [if_pos (by omega), if_pos (by omega), if_pos (by omega), wrS i (by omega), Int.toNat_natCast]
 ·rintro ⟨j, q⟩ ⟨rfl, hq⟩
  simp only at hq
  refine ⟨q, ?_, hq⟩
  simp only; unfold haulagelaw13_TableOwn.b7
  rw [if_neg (by omega)]
theorem zero13 {k : Nat} (hk : Fuel k) (l : List Int) (hl : l.length < 4000000000) : loop (fun (s_ : (List Int) × Int) => haulagelaw13_TableOwn.b13 s_.1 s_.2) k (l, 0) = some ((List.range l.length).map fun _ => (0 : Int)) := by
 have h24 : 1099511627776 ≤ k := hk
 have e0 : (l, (0 : Int)) = (fun i : Nat => ((List.range i).map (fun _ => (0 : Int)) ++ l.drop i, (i : Int))) 0 := by simp
 rw [e0]
 refine oa_count (s := fun i : Nat => ((List.range i).map (fun _ => (0 : Int)) ++ l.drop i, (i : Int))) (N := l.length) (by omega) (fun i hi => ?_) ?_
 ·simp only
  unfold haulagelaw13_TableOwn.b13
  have a1 : ((List.range i).map (fun _ => (0 : Int)) ++ l.drop i).length = l.length := by simp; omega
  rw [if_pos (by rw [a1]; omega), if_pos (by rw [a1]; omega), wrS i (by omega), Int.toNat_natCast, oa_set (v := fun _ => (0 : Int)) (by omega)]
 ·simp only
  unfold haulagelaw13_TableOwn.b13
  rw [if_neg (by simp), List.drop_of_length_le (by omega), List.append_nil]
structure LI (i : Nat) (g w : List api_Answer) (al : List (List Int)) : Prop where
 eq : g = w
 len : g.length = i
 ll : al.length = 2 * i
 gs : ∀ x ∈ g, x.Key.length ≤ 65 ∧ x.Value.length ≤ 256
 av : ∀ x ∈ al, x.length < 1000000000
theorem LI.next {i : Nat} {g w : List api_Answer} {al : List (List Int)} (h : LI i g w al) {a : api_Answer} {p q : List Int} (ha : a.Key.length ≤ 65 ∧ a.Value.length ≤ 256) (hp : p.length < 1000000000) (hq : q.length < 1000000000) : LI (i + 1) (g ++ [a]) (w ++ [a]) ((al ++ [p]) ++ [q]) := by
 refine ⟨by rw [h.eq], by simp [h.len], by simp [h.ll]; omega, fun x hx => ?_, fun x hx => ?_⟩
 ·rcases List.mem_append.1 hx with g | g
  ·exact h.gs x g
  ·rw [List.mem_singleton.1 g]; exact ha
 ·rcases List.mem_append.1 hx with g | g
  ·rcases List.mem_append.1 g with g | g
   ·exact h.av x g
   ·rw [List.mem_singleton.1 g]; exact hp
  ·rw [List.mem_singleton.1 g]; exact hq
theorem first_loop {k : Nat} (hk : Fuel k) (ops : List api_Op) (hn : ops.length < 1200000) (hs : ∀ o ∈ ops, o.Key.length < 1000000000 ∧ o.Value.length < 1000000000) {t : Option Tab} (hT : RepS t ([], 0)) :
  ∃ x, loop (fun (s_ : (Option Tab) × (List api_Answer) × (List api_Answer) × (List (List Int)) × Int) => haulagelaw13_TableOwn.b9 k ops s_.1 s_.2.1 s_.2.2.1 s_.2.2.2.1 s_.2.2.2.2) k (t, [], [], [], 0) = some x ∧ RepS x.1 (run ([], 0) ops) ∧ LI ops.length x.2.1 x.2.2.1 x.2.2.2 := by
 have h24 : 1099511627776 ≤ k := hk
 refine loop_inv (I := fun i q => q.2.2.2.2 = (i : Int) ∧ RepS q.1 (run ([], 0) (ops.take i)) ∧ LI i q.2.1 q.2.2.1 q.2.2.2.1) (P := fun x : (Option Tab) × (List api_Answer) × (List api_Answer) × (List (List Int)) => RepS x.1 (run ([], 0) ops) ∧ LI ops.length x.2.1 x.2.2.1 x.2.2.2) (N := ops.length) ?_ ?_ ops.length 0 (t, [], [], [], 0) k
  ⟨rfl, hT, ⟨rfl, rfl, rfl, (fun x h => by cases h), (fun x h => by cases h)⟩⟩ (by omega) (by omega)
 ·rintro i ⟨o, g, w, al, j⟩ hi ⟨rfl, hR, hL⟩
  simp only at hR hL
  left
  have hr : (run ([], 0) (ops.take i)).2 < 4000000 := run_lt (by rw [List.length_take]; omega)
  obtain ⟨t', e, R'⟩ := do_step hk (by omega) hR ops[i]
  have hsh := act_short (o := ops[i]) hR.inv
  obtain ⟨s1, s2⟩ := hs ops[i] (List.getElem_mem hi)
  obtain ⟨p, ep, hp⟩ := xor5 hk ops[i].Key s1
  obtain ⟨q, eq, hq⟩ := xor7 hk ops[i].Value s2
  refine ⟨(t', g ++ [(act (run ([], 0) (ops.take i)).1 (run ([], 0) (ops.take i)).2 ops[i]).1], w ++ [(act (run ([], 0) (ops.take i)).1 (run ([], 0) (ops.take i)).2 ops[i]).1], (al ++ [p]) ++ [q], ((i + 1 : Nat) : Int)), ?_, rfl, ?_, hL.next hsh (by omega) (by omega)⟩
  ·have l1 := hL.ll
   have l2 := hL.len
   have l3 : w.length = i := by rw [← hL.eq]; exact l2
   simp only; unfold haulagelaw13_TableOwn.b9
   rw [if_pos (by omega), if_pos (by omega), rd_eq hi, bind_eq (lentOp_eq s1 s2), bind_eq e, if_pos (by simp only [List.length_cons, List.length_nil]; omega), if_pos (by simp only [List.length_cons, List.length_nil]; omega), bind_eq (copyOf_eq (by show (act (run ([], 0) (ops.take i)).1 (run ([], 0) (ops.take i)).2 ops[i]).1.Key.length < _; omega) (by show (act (run ([], 0) (ops.take i)).1 (run ([], 0) (ops.take i)).2 ops[i]).1.Value.length < _; omega)), if_pos (by simp only [List.length_cons, List.length_nil]; omega), bind_eq ep]
   unfold haulagelaw13_TableOwn.j6
   rw [bind_eq eq]
   unfold haulagelaw13_TableOwn.j8
   rw [if_pos hp, if_pos hq, wrS i (by omega)]
  ·rw [take_one hi, run_snoc]; exact R'
 ·rintro ⟨o, g, w, al, j⟩ ⟨rfl, hR, hL⟩
  simp only at hR hL
  rw [List.take_of_length_le (Nat.le_refl _)] at hR
  refine ⟨(o, g, w, al), ?_, hR, hL⟩
  simp only; unfold haulagelaw13_TableOwn.b9
  rw [if_neg (by omega)]
theorem get_same (s : St) (key : List Int) : stepS s (api_Op.mk 1 key [] 0) = s := by
 unfold stepS act
 split
 ·rfl
 ·rw [if_neg (by show ¬ ((1 : Int) = 5); decide), if_pos rfl]
theorem act5 : act [] 0 (api_Op.mk 2 [5, 5] [1] 0) = (⟨true, [], [], 0, 1⟩, 0, [(bs [5, 5], ⟨[1], 1⟩)], 1) := by
 simp [act, right, keyok, look, ins, told]
theorem bs56 : ¬ bs [6, 5] = bs [5, 5] := by decide
theorem lt56 : lt (bs [6, 5]) (bs [5, 5]) = false := by decide +kernel
theorem lt65 : lt (bs [5, 5]) (bs [6, 5]) = true := by decide +kernel
theorem act6 : (act [(bs [5, 5], ⟨[1], 1⟩)] 1 (api_Op.mk 2 [6, 5] [2] 0)).1.Rev = 0 ∧ (stepS ([(bs [5, 5], ⟨[1], 1⟩)], 1) (api_Op.mk 2 [6, 5] [2] 0)).1.length = 2 := by
 simp [stepS, act, right, keyok, look, ins, told, bs56, lt56, lt65]
theorem form0 : form ([], 0) = [0, 0] := by decide
theorem form_two (s : St) : 2 ≤ (form s).length := by
 have h1 : 1 ≤ nm s.2 := by unfold nm; omega
 have h2 : 1 ≤ nm s.1.length := by unfold nm; omega
 unfold form
 simp only [List.length_append, fm_len]
 omega
theorem gather18 {k : Nat} (hk : Fuel k) {n : Nat} (hn : n < 1200000) {g w : List api_Answer} {al : List (List Int)} (h : LI n g w al) :
  ∃ al', loop (fun (s_ : (List (List Int)) × Int) => haulagelaw13_TableOwn.b18 k g w s_.1 s_.2) k (al, 0) = some (.inl al') ∧ al'.length = 4 * n ∧ ∀ x ∈ al', x.length < 1000000000 := by
 have h24 : 1099511627776 ≤ k := hk
 have hl := h.len
 have hw := h.eq
 subst hw
 have L := loop_inv (f := fun (s_ : (List (List Int)) × Int) => haulagelaw13_TableOwn.b18 k g g s_.1 s_.2) (I := fun i q => q.2 = (i : Int) ∧ q.1.length = 2 * n + 2 * i ∧ ∀ x ∈ q.1, x.length < 1000000000) (P := fun x : Sum (List (List Int)) Bool => ∃ al', x = .inl al' ∧ al'.length = 4 * n ∧ ∀ x ∈ al', x.length < 1000000000) (N := n) ?_ ?_ n 0 (al, 0) k ⟨rfl, h.ll, h.av⟩ (by omega) (by omega)
 ·obtain ⟨x, e, al', rfl, h1, h2⟩ := L
  exact ⟨al', e, h1, h2⟩
 ·rintro i ⟨q, j⟩ hi ⟨rfl, h1, h2⟩
  simp only at h1 h2
  left
  have hi' : i < g.length := by omega
  have hg := h.gs g[i] (List.getElem_mem hi')
  refine ⟨(q ++ [g[i].Key, g[i].Value], ((i + 1 : Nat) : Int)), ?_, rfl, by simp [h1]; omega, fun x hx => ?_⟩
  ·simp only; unfold haulagelaw13_TableOwn.b18
   rw [if_pos (by omega), if_pos (by omega), if_pos (by omega), rd_eq hi', bind_eq (sameAnswer_eq hk _ _ (Or.inl (by omega)) (Or.inl (by omega))), if_pos (by simp), if_pos (by simp only [List.length_cons, List.length_nil]; omega), wrS i (by omega)]
  ·rcases List.mem_append.1 hx with a | a
   ·exact h2 x a
   ·rcases List.mem_cons.1 a with rfl | a
    ·omega
    ·rw [List.mem_singleton.1 a]; omega
 ·rintro ⟨q, j⟩ ⟨rfl, h1, h2⟩
  simp only at h1 h2
  refine ⟨.inl q, ?_, q, rfl, by omega, h2⟩
  simp only; unfold haulagelaw13_TableOwn.b18
  rw [if_neg (by omega)]
theorem gather20 {k : Nat} (hk : Fuel k) {R : List api_Row} (hR : R.length < 4200000) (hs : ∀ r ∈ R, r.Key.length < 1000000000 ∧ r.Value.length < 1000000000) {al : List (List Int)} (ha : al.length < 10000000) (h : ∀ x ∈ al, x.length < 1000000000) :
  ∃ al', loop (fun (s_ : (List (List Int)) × Int) => haulagelaw13_TableOwn.b20 R R s_.1 s_.2) k (al, 0) = some al' ∧ al'.length < 30000000 ∧ ∀ x ∈ al', x.length < 1000000000 := by
 have h24 : 1099511627776 ≤ k := hk
 refine loop_inv (I := fun i q => q.2 = (i : Int) ∧ q.1.length = al.length + 4 * i ∧ ∀ x ∈ q.1, x.length < 1000000000) (P := fun x : List (List Int) => x.length < 30000000 ∧ ∀ y ∈ x, y.length < 1000000000) (N := R.length) ?_ ?_ R.length 0 (al, 0) k ⟨rfl, rfl, h⟩ (by omega) (by omega)
 ·rintro i ⟨q, j⟩ hi ⟨rfl, h1, h2⟩
  simp only at h1 h2
  left
  have hg := hs R[i] (List.getElem_mem hi)
  refine ⟨(q ++ [R[i].Key, R[i].Value, R[i].Key, R[i].Value], ((i + 1 : Nat) : Int)), ?_, rfl, by simp [h1]; omega, fun x hx => ?_⟩
  ·simp only; unfold haulagelaw13_TableOwn.b20
   rw [if_pos (by omega), if_pos (by omega), if_pos (by omega), rd_eq hi, if_pos (by simp only [List.length_cons, List.length_nil]; omega), wrS i (by omega)]
  ·rcases List.mem_append.1 hx with a | a
   ·exact h2 x a
   ·simp only [List.mem_cons, List.not_mem_nil, or_false] at a
    rcases a with rfl | rfl | rfl | rfl <;> omega
 ·rintro ⟨q, j⟩ ⟨rfl, h1, h2⟩
  simp only at h1 h2
  refine ⟨q, ?_, by omega, h2⟩
  simp only; unfold haulagelaw13_TableOwn.b20
  rw [if_neg (by omega)]
theorem TableOwn_true {k : Nat} (hk : Fuel k) (ops : List api_Op) (key : List Int) (hn : ops.length < 1200000) (hv : ∀ o ∈ ops, bytesR o.Value) (hs : ∀ o ∈ ops, o.Key.length < 1000000000 ∧ o.Value.length < 1000000000) :
  haulagelaw13_TableOwn.f k ops key = some true := by
 have h24 : 1099511627776 ≤ k := hk
 obtain ⟨t0, e0, R0⟩ := new_rep
 obtain ⟨⟨t, g, w, al⟩, eL, RL, hL⟩ := first_loop hk ops hn hs (t := t0) R0
 simp only at RL hL
 have hG := run_good hk ops (by omega) hv
 have hr : (run ([], 0) ops).2 < 1200000 := run_lt (by omega)
 obtain ⟨tm, em, Rm⟩ := made_eq hk ops (by omega)
 generalize hS0 : run ([], 0) ops = s at RL hG hr Rm
 have hS : Sound s := ⟨hG.inv, hG.dis, by omega⟩
 have hfl : (form s).length < 1000000000 := by
  have h := form_size s
  have h2 := sz_le hG.inv.ent
  have h3 := hG.inv.len
  have := nm_le s.2; have := nm_le s.1.length
  omega
 have hf2 := form_two s
 have hse : haulagelaw13_same.f k (form s) (form s) = some true := by rw [same_eq hk _ _ (Or.inl (by omega))]; simp
 obtain ⟨u, eu, Ru⟩ := read_fwd hk hS [] (by rw [List.append_nil]; omega)
 rw [List.append_nil, if_pos rfl] at eu
 have hnu : Option.isNone u = false := by obtain ⟨rows, rfl, _⟩ := Ru; rfl
 have hbt := bytes_eq hk (by omega) RL
 have hrw := Rows_eq (by omega) RL
 have hR1 : ∀ r ∈ s.1.map rowOf, r.Key.length < 1000000000 ∧ r.Value.length < 1000000000 := by
  intro r hr
  obtain ⟨e, he, rfl⟩ := List.mem_map.1 hr
  have := hG.inv.ent e he
  exact ⟨by show (sb e.1).length < _; rw [sb_len]; omega, by show e.2.value.length < _; omega⟩
 have hR2 : (s.1.map rowOf).length < 1200000 := by rw [List.length_map]; have := hG.inv.len; omega
 obtain ⟨R, hRe⟩ : ∃ R, R = s.1.map rowOf := ⟨_, rfl⟩
 rw [← hRe] at hrw hR1 hR2
 obtain ⟨u1, eu1, Ru1⟩ := do_step hk (by omega) Ru (api_Op.mk 1 key [] 0)
 rw [get_same] at Ru1
 obtain ⟨u2, eu2, Ru2⟩ := do_step hk (by omega) Ru1 (api_Op.mk 1 key [] 0)
 rw [get_same] at Ru2
 have hsh := act_short (o := api_Op.mk 1 key [] 0) hG.inv
 obtain ⟨A, hA⟩ : ∃ A, A = (act s.1 s.2 (api_Op.mk 1 key [] 0)).1 := ⟨_, rfl⟩
 obtain ⟨E, hE⟩ : ∃ E, E = (act s.1 s.2 (api_Op.mk 1 key [] 0)).2.1 := ⟨_, rfl⟩
 rw [← hA, ← hE] at eu1 eu2
 rw [← hA] at hsh
 have hsa : haulagelaw13_sameAnswer.f k A A = some true := by rw [sameAnswer_eq hk _ _ (Or.inl (by omega)) (Or.inl (by omega))]; simp
 obtain ⟨v, ev, Rv⟩ := read_fwd hk (s := ([], 0)) ⟨⟨List.Pairwise.nil, Nat.le_refl _, fun e he => by cases he⟩, List.nodup_nil, Nat.zero_le _⟩ [] (by rw [List.append_nil, form0]; simp)
 rw [List.append_nil, if_pos rfl, form0] at ev
 have hnv : Option.isNone v = false := by obtain ⟨rows, rfl, _⟩ := Rv; rfl
 obtain ⟨v1, ev1, Rv1⟩ := do_step hk (by simp) Rv (api_Op.mk 2 [5, 5] [1] 0)
 have hst1 : stepS ([], 0) (api_Op.mk 2 [5, 5] [1] 0) = ([(bs [5, 5], ⟨[1], 1⟩)], 1) := by unfold stepS; rw [act5]
 rw [hst1] at Rv1
 obtain ⟨v2, ev2, Rv2⟩ := do_step hk (by simp) Rv1 (api_Op.mk 2 [6, 5] [2] 0)
 obtain ⟨h60, h62⟩ := act6
 have hv2 := Len_eq Rv2
 rw [h62] at hv2
 obtain ⟨al1, eg, n1, s1⟩ := gather18 hk hn hL
 obtain ⟨al2, er, n2, s2⟩ := gather20 hk (R := R) (by omega) hR1 (al := al1) (by omega) s1
 have hbu := bytes_eq hk (by omega) Ru2
 have hap : haulagelaw13_apart.f k (al2 ++ [form s, form s, A.Key, A.Value, A.Key, A.Value, ([5, 5] : List Int).set (0 : Int).toNat 6, ([1] : List Int).set (0 : Int).toNat 2]) = some true := by
  refine apart_true hk (by simp; omega) (fun x hx => ?_)
  rcases List.mem_append.1 hx with a | a
  ·have := s2 x a; omega
  ·simp only [List.mem_cons, List.not_mem_nil, or_false] at a
   rcases a with rfl | rfl | rfl | rfl | rfl | rfl | rfl | rfl <;> first | omega | simp
 have hpa : haulagelaw13_parted.f k (List.replicate R.length (none : Option (List Value))) (List.replicate R.length (none : Option (List Value))) = some true := parted_true hk _ _ (by simp; omega) (by simp; omega)
 have j22 : haulagelaw13_TableOwn.j22 k t (form s) (A, E, u2) (!true) = some true := by
  unfold haulagelaw13_TableOwn.j22
  rw [if_neg (by simp), bind_eq hbt, bind_eq hse, if_pos rfl, bind_eq hbu, bind_eq hse]
 have j19 : haulagelaw13_TableOwn.j19 k t (form s) (form s) R R (A, E, u1) (A, E, u2) (api_Op.mk 2 [5, 5] [1] 0) al1 = some true := by
  unfold haulagelaw13_TableOwn.j19
  rw [bind_eq er]
  unfold haulagelaw13_TableOwn.j21
  rw [if_pos (by simp only [List.length_cons, List.length_nil]; omega), bind_eq hap, if_pos rfl, bind_eq hpa]
  exact j22
 have j17 : haulagelaw13_TableOwn.j17 k t g w al (form s) (form s) R R (A, E, u1) (A, E, u2) (api_Op.mk 2 [5, 5] [1] 0) (!decide ((2 : Int) = 2)) = some true := by
  unfold haulagelaw13_TableOwn.j17
  rw [if_neg (by simp), bind_eq eg]
  exact j19
 have j16 : haulagelaw13_TableOwn.j16 k t g w al (form s) (form s) R R (A, E, u1) (A, E, u2) (v, 0) (!true) = some true := by
  unfold haulagelaw13_TableOwn.j16
  have ep : haulagelaw13_put.f [5, 5] [1] = some (api_Op.mk 2 [5, 5] [1] 0) := rfl
  rw [if_neg (by simp), bind_eq ep, bind_eq ev1, if_pos (by simp), if_pos (by simp)]
  refine (bind_eq ev2).trans ?_
  refine (if_pos h60).trans ?_
  refine (bind_eq hv2).trans ?_
  exact j17
 have j15 : haulagelaw13_TableOwn.j15 k t g w al (form s) (form s) R R (A, E, u1) (A, E, u2) [0, 0] = some true := by
  unfold haulagelaw13_TableOwn.j15
  have h1 := Len_eq Rv
  have h2 := Rev_eq Rv
  rw [bind_eq ev, if_pos rfl]
  simp only [hnv]
  rw [if_neg (by simp), bind_eq h1, if_pos (by simp), bind_eq h2, if_pos (by simp), bind_eq hbu, bind_eq hse]
  exact j16
 have j12 : haulagelaw13_TableOwn.j12 k t g w al (form s) (form s) R R (A, E, u1) (A, E, u2) (!true) = some true := by
  unfold haulagelaw13_TableOwn.j12
  rw [if_neg (by simp), bind_eq (zero13 hk (form s) (by omega))]
  generalize hn0 : (form s).length = n at hf2
  unfold haulagelaw13_TableOwn.j14
  by_cases c : 2 < n
  ·rw [if_pos (by simp; omega), if_pos (by simp; omega)]
   have e2 : ((List.range n).map fun _ => (0 : Int)).take (2 : Int).toNat = [0, 0] := by
    obtain ⟨q, rfl⟩ : ∃ q, n = q + 2 := ⟨n - 2, by omega⟩
    show ((List.range (q + 2)).map fun _ => (0 : Int)).take 2 = [0, 0]
    rw [← List.map_take, List.take_range, Nat.min_eq_left (by omega)]
    rfl
   rw [e2]; exact j15
  ·obtain rfl : n = 2 := by omega
   rw [if_neg (by simp)]
   exact j15
 have j11 : haulagelaw13_TableOwn.j11 k key t g w al (form s) (form s) R R (u, 0) (!true) = some true := by
  unfold haulagelaw13_TableOwn.j11
  have eg : haulagelaw13_get.f key = some (api_Op.mk 1 key [] 0) := rfl
  rw [if_neg (by simp), bind_eq eg]
  refine (bind_eq eu1).trans ?_
  refine (bind_eq eg).trans ?_
  refine (bind_eq eu2).trans ?_
  refine (if_pos rfl).trans ?_
  refine (bind_eq hsa).trans ?_
  exact j12
 unfold haulagelaw13_TableOwn.f
 rw [bind_eq (awake_eq hk), if_pos rfl, bind_eq e0, bind_eq eL]
 show haulagelaw13_TableOwn.j10 k ops key t g w al = some true
 unfold haulagelaw13_TableOwn.j10
 rw [bind_eq hbt, if_pos (by omega), bind_eq hbt, bind_eq hrw, bind_eq hrw, if_pos (by omega), bind_eq eu, if_pos rfl]
 simp only [hnu]
 rw [if_neg (by simp), bind_eq hse, if_pos rfl, bind_eq (sameRows_self hk hR1 (by omega)), if_pos rfl, bind_eq em, bind_eq (bytes_eq hk (by omega) Rm), bind_eq hse]
 exact j11
end Go.Proofs.Ytoaldfpngihhcaa.G
namespace Go.Proofs.Ytoaldfpngihhcaa.tableOwn
open Go.ChangeShapes Go.WideShapes Go.ChangeAt Go.RowKit
set_option linter.unusedVariables false
set_option maxRecDepth 100000 in
theorem contract (H : Type) (enc : TypeId × Value → H) (W : World) (base : Nat) (args : Array Value) (ds gs : List (DataW H)) (before : List MemPlace)
  (hval : ∀ (j : Nat) t v, Try.f3.params[j]? = some t → args[j]? = some v → Value.okWide Try.prog W .any base t v)
  (hW : DataW.Whole enc Try.prog Try.f3.params.toList Rows.tableOwnSpec.vars false W args.toList ds gs before) (hk : Rows.uptoSmall H (ds ++ gs) = true) :
  Calls Try.prog 3 args W fun e W' => ∃ v, e = .returned v ∧ Rows.tableOwnSpec.post enc Try.prog Try.f3 false true false false W args v W' := by
 have hW' := hW
 obtain ⟨p, q, hA0, hV, rfl, hfz, hnd⟩ := hW
 have hA : DataW.TrodAll enc Try.prog W 0 (fun _ => true) true Try.f3.params.toList args.toList ds p := hA0
 rw [Try.params3] at hA hval
 obtain ⟨v0, vs0, d0, ds0, p0, q0, hargs, rfl, rfl, h0, r0⟩ := trodAll_cons hA
 obtain ⟨v1, vs1, d1, ds1, p1, q1, rfl, rfl, rfl, h1, r1⟩ := trodAll_cons r0
 obtain ⟨rfl, rfl, rfl⟩ := trodAll_nil r1
 obtain rfl : args = #[v0, v1] := by cases args; simp_all
 obtain ⟨rfl, rfl⟩ := trodVars_none hV
 have k0 := h0
 have lt0 : ∀ x ∈ p0, x.block < W.heap.size := by obtain ⟨m, hm⟩ := k0; exact DataW.trod_lt m _ _ _ hm
 obtain ⟨A0, C0, a0, rfl, s0, b0, o0⟩ := G.arg_ops (okWide_slice Try.underlying22 (hval 0 22 v0 rfl rfl)) h0
 have l0 := G.len_sum G.wt_api_Op G.wt_api_Op_pos a0
 have k1 := h1
 have lt1 : ∀ x ∈ p1, x.block < W.heap.size := by obtain ⟨m, hm⟩ := k1; exact DataW.trod_lt m _ _ _ hm
 obtain ⟨A1, C1, a1, rfl, s1, b1, o1⟩ := G.arg_key (okWide_slice Try.underlying23 (hval 1 23 v1 rfl rfl)) h1
 have l1 := G.len_sum (fun _ => 1) (fun _ => Nat.le_refl 1) a1
 have hb : Rows.uptoBulkAll [d0, d1] ≤ 1048576 := of_decide_eq_true hk
 simp only [Rows.uptoBulkAll] at hb
 refine (G.haulagelaw13_TableOwn.calls 1099511627776 (m := 1) (c0 := G.c0) (w0 := W) (Nat.lt_succ_self 0) (fun _ _ => Nat.lt_succ_self 0) s0 s1 true (G.TableOwn_true (k := 1099511627776) (Nat.le_refl _) _ _ (by omega) (fun o ho n hn => G.byteok.range ((o0 o ho).2.2.1 n hn)) (fun o ho => by have h1 := G.mem_sum G.wt_api_Op ho; have h2 : o.Key.length + o.Value.length + 1 ≤ G.wt_api_Op o := Nat.le_refl _; omega))).mono fun e W' ⟨c_, he, ev_, _⟩ => ?_
 subst he
 have bel : Below W.heap.size W W' := G.Ev.below ev_
 exact ⟨_, rfl, _, _, _, [], _, [], hW', trodAll_mk1 (shut_bool Try.underlying4 _), (trodAll_cons_mk (Below.trod G.row_laidOut (by kernel_rfl) (of_decide_eq_true (by kernel_rfl)) k0 bel lt0) (trodAll_cons_mk (Below.trod G.row_laidOut (by kernel_rfl) (of_decide_eq_true (by kernel_rfl)) k1 bel lt1) trodAll_mk0)), rfl, bel.frame _, fun h => by cases h⟩
set_option maxRecDepth 100000 in
theorem lifted (os : Os) (started : os.Started) (H : Type) (enc : TypeId × Value → H) (F : Stop.Interp) :
  ReturnsInHanded {} Try.checked os 3 .any ((Rows.OpenSpec.upto Rows.tableOwnSpec).pre6 enc Try.prog Try.f3 Rows.tableOwnUptoRow.domain false) (((Rows.OpenSpec.upto Rows.tableOwnSpec).at F).post enc Try.prog Try.f3 false true false false) := by
 refine returnsInHanded_of_cond (C := Try.checked) (s := Rows.OpenSpec.upto Rows.tableOwnSpec) (k := Rows.uptoSmall) rfl G.row_own started (by kernel_rfl) Try.func3
  (OpenSpec.witness (enc := enc) (C := Try.checked) (s := Rows.OpenSpec.upto Rows.tableOwnSpec) (k := Rows.uptoSmall) rfl false ⟨#[], #[.slice none 0 0, .slice none 0 0], []⟩ 8 (by kernel_rfl) (by kernel_rfl) (by kernel_rfl)
   (x := ([.nil, .nil], [], [])) (by kernel_rfl) rfl (by kernel_rfl)) ?_
 intro W base args ds gs before hval hW _ hk _
 exact contract H enc W base args ds gs before hval hW hk
theorem over : Rows.tableOwnUptoRow.holds Try.pinned (Rows.OpenSpec.upto Rows.tableOwnSpec) :=
 OpenClaim.holds_of_cond 3 Try.f3 rfl rfl rfl rfl rfl rfl rfl ⟨rfl, rfl, rfl, rfl, rfl⟩ rfl rfl rfl rfl rfl (by kernel_rfl) Try.func3 (by kernel_rfl)
  (of_decide_eq_true (by kernel_rfl)) (by unfold Func.isWrapper; first | (rw [if_pos (by decide +kernel)]; kernel_rfl) | (rw [if_neg (by decide +kernel)]; exact ⟨rfl, rfl⟩))
  (fun os started H enc _ F => lifted os started H enc F)
theorem proved : Rows.TableOwnUptoSaid := over
end Go.Proofs.Ytoaldfpngihhcaa.tableOwn
namespace Go.Proofs.Ytoaldfpngihhcaa
theorem tableOwn_holds : Rows.TableOwnUptoSaid := tableOwn.proved
end Go.Proofs.Ytoaldfpngihhcaa