/- The row of 'MerkleRows', its '..UptoSaid': whatever the input of bulk at most 1048576, the law returns true and the input reads as it did; its condition: that bulk. -/
import Derived.Test.YtdnaoecfnjalgaaHMerkleRowsD
import Derived.Test.YtdnaoecfnjalgaaHMerkleRowsA
import Derived.KernelRfl
import Derived.OpenShut
import Derived.Test.YtdnaoecfnjalgaaRows
import Derived.WalkKit
import Derived.ProofKit
import Derived.JoinedCond
import Derived.Below
import Derived.ChangeOld
namespace Go.Proofs.Ytdnaoecfnjalgaa.G
open Go
set_option linter.unusedVariables false
set_option linter.unusedSimpArgs false
def dk (k : Nat) (x : Int) : List Int := (parcel_downuint64.f k (List.replicate 8 (0 : Int)) x).getD []
theorem dk_eq {k : Nat} (hk : Fuel k) (x : Int) : parcel_downuint64.f k (List.replicate 8 (0 : Int)) x = some (dk k x) ∧ (dk k x).length = 8 := by
 obtain ⟨l, e, h⟩ := down_tot hk x
 unfold dk
 rw [e]
 exact ⟨rfl, h⟩
theorem Fixed_eq {k : Nat} (hk : Fuel k) {room : Int} {b : List Int} (x : Int) (h2 : ((b.length + 8 : Nat) : Int) ≤ room) (h3 : room ≤ 1000000000000) : parcel_Writer_Fixed.f k (W room b) x 8 = some (W room (b ++ dk k x)) := by
 obtain ⟨e, h⟩ := dk_eq hk x
 unfold parcel_Writer_Fixed.f parcel_Writer_Fixed.j1
 rw [if_neg (by omega), decide_eq_false (by omega), if_neg (by simp), if_pos (by omega), if_neg (by omega), if_neg (by omega), if_neg (by omega)]
 have e8 : (8 : Int).toNat = 8 := rfl
 rw [e8, bind_eq e, bind_eq (lay_eq (by rw [h]; exact h2) h3)]
def rowB (r : api_Row) : List Int := [IntKind.u8.wrap 1] ++ (fx r.Key.length ++ r.Key) ++ (fx r.Value.length ++ r.Value) ++ fx (zz r.Rev)
def hRow (bits : Int) (r : api_Row) : Int := mk bits (FN (rowB r))
def hPair (k : Nat) (bits a b : Int) : Int := mk bits (FN ([IntKind.u8.wrap 3] ++ dk k a ++ dk k b))
def bkB (k : Nat) (bits : Int) (R : List api_Row) : List Int := [IntKind.u8.wrap 2] ++ R.flatMap fun r => dk k (hRow bits r)
def hBk (k : Nat) (bits : Int) (R : List api_Row) : Int := mk bits (FN (bkB k bits R))
abbrev okb (bits : Int) : Prop := 1 ≤ bits ∧ bits ≤ 64
def RB (r : api_Row) : Prop := r.Key.length ≤ 2097152 ∧ r.Value.length ≤ 2097152 ∧ brange r.Key
theorem cutW {k : Nat} (hk : Fuel k) {bits room : Int} (hb : okb bits) {l : List Int} (hl : l.length ≤ 1000000000) : merkle_cut.f k (W room l) bits = some (mk bits (FN l)) := by
 obtain ⟨h0, h1⟩ := FN_range l
 unfold merkle_cut.f
 rw [bind_eq (done_eq (by omega)), bind_eq (fnv_eq hk l hl), if_pos (by rw [wr (by omega) (by omega)]; omega), if_pos (by rw [wr (by omega) (by omega)]; omega), cut_eq hb.1 hb.2 h0 h1]
theorem row_writes {k : Nat} (hk : Fuel k) {r : api_Row} (h : RB r) {x : Int} (hx : (r.Key.length : Int) + r.Value.length + 31 ≤ x) (hx2 : x ≤ 1000000000000) :
  ∃ w1 w2 w3, parcel_New.f x = some (W x []) ∧ parcel_Writer_Byte.f (W x []) 1 = some w1 ∧ parcel_Writer_Text.f k w1 r.Key = some w2 ∧ parcel_Writer_Text.f k w2 r.Value = some w3 ∧ parcel_Writer_Int.f k w3 r.Rev = some (W x (rowB r)) ∧ (rowB r).length ≤ 1000000000 := by
 obtain ⟨h1, h2, _⟩ := h
 have l1 := fx_len r.Key.length; have l2 := fx_len r.Value.length; have l3 := fx_len (zz r.Rev)
 have n1 := nmF_small 10 3 r.Key.length (by omega)
 have n2 := nmF_small 10 3 r.Value.length (by omega)
 have n3 := nmF_le 10 (zz r.Rev)
 refine ⟨_, _, _, ?_, Byte_eq (by omega) (by omega) (by simp; omega) hx2, Text_fx hk (by simp; omega) hx2, Text_fx hk (by simp; omega) hx2, ?_, ?_⟩
 ·unfold parcel_New.f
  rw [Int.max_eq_left (by omega)]
 ·rw [Int_eq hk r.Rev (by simp; omega) hx2]
  rfl
 ·unfold rowB
  simp only [List.length_append, List.length_singleton]
  omega
theorem ofRow_eq {k : Nat} (hk : Fuel k) {bits : Int} (hb : okb bits) {r : api_Row} (h : RB r) : merkle_ofRow.f k r bits = some (hRow bits r) := by
 have h1 := h.1; have h2 := h.2.1
 have e : IntKind.i64.wrap ((IntKind.i64.wrap ((r.Key.length : Int) + (r.Value.length : Int))) + 31) = (r.Key.length : Int) + r.Value.length + 31 := by
  rw [wr (n := (r.Key.length : Int) + (r.Value.length : Int)) (by omega) (by omega), wr (by omega) (by omega)]
 obtain ⟨w1, w2, w3, e0, e1, e2, e3, e4, hl⟩ := row_writes hk h (x := (r.Key.length : Int) + r.Value.length + 31) (by omega) (by omega)
 unfold merkle_ofRow.f
 rw [e, bind_eq e0, bind_eq e1, bind_eq e2, bind_eq e3, bind_eq e4, bind_eq (cutW hk hb hl)]
 rfl
theorem ofRow_law {k : Nat} (hk : Fuel k) {bits : Int} (hb : okb bits) {r : api_Row} (h : RB r) : haulagelaw10_ofRow.f k r bits = some (hRow bits r) := by
 have h1 := h.1; have h2 := h.2.1
 have e : IntKind.i64.wrap ((IntKind.i64.wrap ((r.Key.length : Int) + (r.Value.length : Int))) + 40) = (r.Key.length : Int) + r.Value.length + 40 := by
  rw [wr (n := (r.Key.length : Int) + (r.Value.length : Int)) (by omega) (by omega), wr (by omega) (by omega)]
 obtain ⟨w1, w2, w3, e0, e1, e2, e3, e4, hl⟩ := row_writes hk h (x := (r.Key.length : Int) + r.Value.length + 40) (by omega) (by omega)
 obtain ⟨g0, g1⟩ := FN_range (rowB r)
 unfold haulagelaw10_ofRow.f
 rw [e, bind_eq e0, bind_eq e1, bind_eq e2, bind_eq e3, bind_eq e4, bind_eq (done_eq (by omega)), bind_eq (fnv_eq hk _ hl), bind_eq (mask_eq hb.1 hb.2 g0 g1)]
 rfl
theorem pair_writes {k : Nat} (hk : Fuel k) (a b : Int) : ∃ w1 w2, parcel_New.f 17 = some (W 17 []) ∧ parcel_Writer_Byte.f (W 17 []) 3 = some w1 ∧ parcel_Writer_Fixed.f k w1 a 8 = some w2 ∧ parcel_Writer_Fixed.f k w2 b 8 = some (W 17 ([IntKind.u8.wrap 3] ++ dk k a ++ dk k b)) ∧ ([IntKind.u8.wrap 3] ++ dk k a ++ dk k b).length ≤ 1000000000 := by
 have l1 := (dk_eq hk a).2; have l2 := (dk_eq hk b).2
 refine ⟨_, _, ?_, Byte_eq (by omega) (by omega) (by simp) (by omega), Fixed_eq hk a (by simp) (by omega), ?_, ?_⟩
 ·unfold parcel_New.f
  rw [Int.max_eq_left (by omega)]
 ·rw [Fixed_eq hk b (by simp [l1]) (by omega)]
  rfl
 ·simp only [List.length_append, List.length_singleton]; omega
theorem ofPair_eq {k : Nat} (hk : Fuel k) {bits : Int} (hb : okb bits) (a b : Int) : merkle_ofPair.f k a b bits = some (hPair k bits a b) := by
 obtain ⟨w1, w2, e0, e1, e2, e3, hl⟩ := pair_writes hk a b
 unfold merkle_ofPair.f
 rw [bind_eq e0, bind_eq e1, bind_eq e2, bind_eq e3, bind_eq (cutW hk hb hl)]
 rfl
theorem ofPair_law {k : Nat} (hk : Fuel k) {bits : Int} (hb : okb bits) (a b : Int) : haulagelaw10_ofPair.f k a b bits = some (hPair k bits a b) := by
 obtain ⟨w1, w2, e0, e1, e2, e3, hl⟩ := pair_writes hk a b
 obtain ⟨g0, g1⟩ := FN_range ([IntKind.u8.wrap 3] ++ dk k a ++ dk k b)
 unfold haulagelaw10_ofPair.f
 rw [bind_eq e0, bind_eq e1, bind_eq e2, bind_eq e3, bind_eq (done_eq (by omega)), bind_eq (fnv_eq hk _ hl), bind_eq (mask_eq hb.1 hb.2 g0 g1)]
 rfl
theorem flat8 {k : Nat} (hk : Fuel k) (bits : Int) : ∀ R : List api_Row, (R.flatMap fun r => dk k (hRow bits r)).length = 8 * R.length
 | [] => rfl
 | r :: R => by
  rw [List.flatMap_cons, List.length_append, flat8 hk bits R, (dk_eq hk _).2, List.length_cons]; omega
theorem bkB_len {k : Nat} (hk : Fuel k) (bits : Int) (R : List api_Row) : (bkB k bits R).length = 8 * R.length + 1 := by
 unfold bkB
 rw [List.length_append, flat8 hk, List.length_singleton]; omega
abbrev RL (R : List api_Row) : Prop := R.length ≤ 4194304 ∧ ∀ r ∈ R, RB r
theorem ofBucket_eq {k : Nat} (hk : Fuel k) {bits : Int} (hb : okb bits) {R : List api_Row} (hR : RL R) : merkle_ofBucket.f k R bits = some (hBk k bits R) := by
 have h24 : 1099511627776 ≤ k := hk
 obtain ⟨hl, hR⟩ := hR
 have ex : IntKind.i64.wrap (1 + (IntKind.i64.wrap (8 * (R.length : Int)))) = 1 + 8 * (R.length : Int) := by rw [wr (n := 8 * (R.length : Int)) (by omega) (by omega), wr (by omega) (by omega)]
 have e0 : parcel_New.f (1 + 8 * (R.length : Int)) = some (W (1 + 8 * (R.length : Int)) []) := by
  unfold parcel_New.f
  rw [Int.max_eq_left (by omega)]
 unfold merkle_ofBucket.f
 rw [ex, bind_eq e0, bind_eq (Byte_eq (x := 2) (by omega) (by omega) (by simp; omega) (by omega))]
 have L := loop_inv (f := fun (s_ : (Option Wri) × Int) => merkle_ofBucket.b1 k R bits s_.1 s_.2) (I := fun i s => s.1 = W (1 + 8 * (R.length : Int)) (bkB k bits (R.take i)) ∧ s.2 = (i : Int)) (P := fun w => w = W (1 + 8 * (R.length : Int)) (bkB k bits R)) (N := R.length) ?_ ?_ R.length 0 (W (1 + 8 * (R.length : Int)) ([] ++ [IntKind.u8.wrap 2]), 0) k ⟨rfl, rfl⟩ (by omega) (by omega)
 ·obtain ⟨w, e, rfl⟩ := L
  rw [bind_eq e]
  unfold merkle_ofBucket.j2
  rw [bind_eq (cutW (l := bkB k bits R) hk hb (by rw [bkB_len hk]; omega))]
  rfl
 ·rintro i ⟨w, j⟩ hi ⟨hw, hj⟩
  left
  simp only at hj hw; subst hj hw
  have hlen : (R.take i).length = i := by simp; omega
  simp only [merkle_ofBucket.b1]
  rw [if_pos (by omega), if_pos (by omega), rd_eq hi, bind_eq (ofRow_eq hk hb (hR _ (List.getElem_mem hi))), bind_eq (Fixed_eq hk _ (by rw [bkB_len hk, hlen]; omega) (by omega)), wrS i (by omega)]
  refine ⟨_, rfl, ?_, rfl⟩
  simp only [bkB]
  rw [take_one hi, List.flatMap_append, List.append_assoc]
  simp
 ·rintro ⟨w, j⟩ ⟨hw, hj⟩
  simp only at hj hw; subst hj hw
  simp only [merkle_ofBucket.b1]
  rw [if_neg (by omega), List.take_length]
  exact ⟨_, rfl, rfl⟩
theorem ofRows_law {k : Nat} (hk : Fuel k) {bits : Int} (hb : okb bits) {R : List api_Row} (hR : RL R) : haulagelaw10_ofRows.f k R bits = some (hBk k bits R) := by
 have h24 : 1099511627776 ≤ k := hk
 obtain ⟨hl, hR⟩ := hR
 have ex : IntKind.i64.wrap ((IntKind.i64.wrap (8 * (R.length : Int))) + 1) = 1 + 8 * (R.length : Int) := by rw [wr (n := 8 * (R.length : Int)) (by omega) (by omega), wr (by omega) (by omega)]; omega
 have e0 : parcel_New.f (1 + 8 * (R.length : Int)) = some (W (1 + 8 * (R.length : Int)) []) := by
  unfold parcel_New.f
  rw [Int.max_eq_left (by omega)]
 obtain ⟨g0, g1⟩ := FN_range (bkB k bits R)
 have hbl := bkB_len hk bits R
 unfold haulagelaw10_ofRows.f
 rw [ex, bind_eq e0, bind_eq (Byte_eq (x := 2) (by omega) (by omega) (by simp; omega) (by omega))]
 have L := loop_inv (f := fun (s_ : (Option Wri) × Int) => haulagelaw10_ofRows.b1 k R bits s_.1 s_.2) (I := fun i s => s.1 = W (1 + 8 * (R.length : Int)) (bkB k bits (R.take i)) ∧ s.2 = (i : Int)) (P := fun w => w = W (1 + 8 * (R.length : Int)) (bkB k bits R)) (N := R.length) ?_ ?_ R.length 0 (W (1 + 8 * (R.length : Int)) ([] ++ [IntKind.u8.wrap 2]), 0) k ⟨rfl, rfl⟩ (by omega) (by omega)
 ·obtain ⟨w, e, rfl⟩ := L
  rw [bind_eq e]
  unfold haulagelaw10_ofRows.j2
  rw [bind_eq (done_eq (b := bkB k bits R) (by omega)), bind_eq (fnv_eq hk (bkB k bits R) (by omega)), bind_eq (mask_eq hb.1 hb.2 g0 g1)]
  rfl
 ·rintro i ⟨w, j⟩ hi ⟨hw, hj⟩
  left
  simp only at hj hw; subst hj hw
  have hlen : (R.take i).length = i := by simp; omega
  simp only [haulagelaw10_ofRows.b1]
  rw [if_pos (by omega), if_pos (by omega), rd_eq hi, bind_eq (ofRow_law hk hb (hR _ (List.getElem_mem hi))), bind_eq (Fixed_eq hk _ (by rw [bkB_len hk, hlen]; omega) (by omega)), wrS i (by omega)]
  refine ⟨_, rfl, ?_, rfl⟩
  simp only [bkB]
  rw [take_one hi, List.flatMap_append, List.append_assoc]
  simp
 ·rintro ⟨w, j⟩ ⟨hw, hj⟩
  simp only at hj hw; subst hj hw
  simp only [haulagelaw10_ofRows.b1]
  rw [if_neg (by omega), List.take_length]
  exact ⟨_, rfl, rfl⟩
def bkt (p : List Int) : Nat := (FN p % 256).toNat
theorem bkt_lt (p : List Int) : bkt p < 256 := by unfold bkt; omega
theorem bucket_eq {k : Nat} (hk : Fuel k) {p : List Int} (hp : p.length ≤ 1000000000) : merkle_bucket.f k p = some (bkt p : Int) := by
 obtain ⟨h0, h1⟩ := FN_range p
 have e : IntKind.u8.wrap (FN p) = (bkt p : Int) := by
  unfold bkt
  simp only [IntKind.wrap, IntKind.bits, IntKind.signed]
  simp
  omega
 have := bkt_lt p
 unfold merkle_bucket.f
 rw [bind_eq (fnv_eq hk p hp), e, wr (by omega) (by omega)]
theorem bucket_law {k : Nat} (hk : Fuel k) {p : List Int} (hp : p.length ≤ 1000000000) : haulagelaw10_bucket.f k p = some (256 + (bkt p : Int)) := by
 obtain ⟨h0, h1⟩ := FN_range p
 obtain ⟨n, hn⟩ := Int.eq_ofNat_of_zero_le h0
 have e : band .u64 (FN p) 255 = (bkt p : Int) := by
  have h2 := band_mask (n := n) (b := 8) (by omega) (by omega)
  rw [hn]
  have e1 : ((2 ^ 8 - 1 : Nat) : Int) = 255 := by decide
  rw [e1] at h2
  rw [h2]
  unfold bkt
  rw [hn]
  omega
 have := bkt_lt p
 unfold haulagelaw10_bucket.f
 rw [bind_eq (fnv_eq hk p hp), e, wr (n := (bkt p : Int)) (by omega) (by omega), wr (by omega) (by omega)]
def Srt (R : List api_Row) : Prop := R.Pairwise fun a b => cm a.Key b.Key = true
def lo (key : List Int) (R : List api_Row) : List api_Row := R.filter fun r => cm r.Key key
def hi (key : List Int) (R : List api_Row) : List api_Row := R.filter fun r => cm key r.Key
def md (key : List Int) (R : List api_Row) : List api_Row := R.filter fun r => decide (r.Key = key)
def putL (r : api_Row) (R : List api_Row) : List api_Row := lo r.Key R ++ r :: hi r.Key R
def delL (key : List Int) (R : List api_Row) : List api_Row := R.filter fun r => !decide (r.Key = key)
theorem filter_none {α : Type} {p : α → Bool} {l : List α} (h : ∀ x ∈ l, p x = false) : l.filter p = [] := by
 rw [List.filter_eq_nil_iff]; intro x hx; rw [h x hx]; exact Bool.false_ne_true
theorem filter_all {α : Type} {p : α → Bool} {l : List α} (h : ∀ x ∈ l, p x = true) : l.filter p = l := List.filter_eq_self.2 h
theorem Srt.split (key : List Int) : ∀ {R : List api_Row}, Srt R → R = lo key R ++ (md key R ++ hi key R) ∧ (md key R = [] ∨ ∃ x, md key R = [x] ∧ x.Key = key)
 | [], _ => ⟨rfl, .inl rfl⟩
 | r :: R, h => by
  have hr : ∀ x ∈ R, cm r.Key x.Key = true := (List.pairwise_cons.1 h).1
  have hR : Srt R := (List.pairwise_cons.1 h).2
  obtain ⟨h1, h2⟩ := Srt.split key hR
  cases c : cm r.Key key with
  | true =>
   have e1 : lo key (r :: R) = r :: lo key R := by simp [lo, c]
   have e2 : md key (r :: R) = md key R := by simp [md, cm_ne c]
   have e3 : hi key (r :: R) = hi key R := by simp [hi, cm_asym c]
   rw [e1, e2, e3]
   exact ⟨by rw [List.cons_append, ← h1], h2⟩
  | false =>
   have e1 : lo key (r :: R) = [] := by
    apply filter_none
    intro x hx
    rcases List.mem_cons.1 hx with rfl | hx
    ·exact c
    ·cases e : cm x.Key key with
     | false => rfl
     | true => have := cm_tr (hr x hx) e; rw [c] at this; cases this
   rw [e1, List.nil_append]
   by_cases e : r.Key = key
   ·have g : ∀ x ∈ R, cm key x.Key = true := fun x hx => e ▸ hr x hx
    have e2 : md key (r :: R) = [r] := by
     unfold md
     rw [List.filter_cons_of_pos (by simpa using e), filter_none]
     intro x hx
     have := cm_ne (g x hx)
     simpa using fun q => this q.symm
    have e3 : hi key (r :: R) = R := by
     unfold hi
     rw [List.filter_cons_of_neg (by rw [e, cm_irr]; exact Bool.false_ne_true), filter_all g]
    rw [e2, e3]
    exact ⟨rfl, .inr ⟨r, rfl, e⟩⟩
   ·have g0 : cm key r.Key = true := by
     cases q : cm key r.Key with
     | true => rfl
     | false => exact absurd (cm_tri c q) e
    have g : ∀ x ∈ r :: R, cm key x.Key = true := by
     intro x hx
     rcases List.mem_cons.1 hx with rfl | hx
     ·exact g0
     ·exact cm_tr g0 (hr x hx)
    have e2 : md key (r :: R) = [] := by
     apply filter_none
     intro x hx
     have := cm_ne (g x hx)
     simpa using fun q => this q.symm
    have e3 : hi key (r :: R) = r :: R := filter_all g
    rw [e2, e3]
    exact ⟨rfl, .inl rfl⟩
theorem lo_mem {key : List Int} {R : List api_Row} {x : api_Row} : x ∈ lo key R ↔ x ∈ R ∧ cm x.Key key = true := by simp [lo]
theorem hi_mem {key : List Int} {R : List api_Row} {x : api_Row} : x ∈ hi key R ↔ x ∈ R ∧ cm key x.Key = true := by simp [hi]
theorem Srt.filter {R : List api_Row} (h : Srt R) (p : api_Row → Bool) : Srt (R.filter p) := List.Pairwise.filter p h
theorem putL_srt {r : api_Row} {R : List api_Row} (h : Srt R) : Srt (putL r R) := by
 unfold putL
 refine List.pairwise_append.2 ⟨h.filter _, List.pairwise_cons.2 ⟨fun x hx => (hi_mem.1 hx).2, h.filter _⟩, fun a ha b hb => ?_⟩
 have h1 := (lo_mem.1 ha).2
 rcases List.mem_cons.1 hb with rfl | hb
 ·exact h1
 ·exact cm_tr h1 (hi_mem.1 hb).2
theorem putL_mem {r x : api_Row} {R : List api_Row} (h : x ∈ putL r R) : x = r ∨ x ∈ R := by
 rcases List.mem_append.1 h with h | h
 ·exact .inr (lo_mem.1 h).1
 ·rcases List.mem_cons.1 h with h | h
  ·exact .inl h
  ·exact .inr (hi_mem.1 h).1
theorem delL_eq {key : List Int} {R : List api_Row} (h : Srt R) : delL key R = lo key R ++ hi key R := by
 obtain ⟨h1, h2⟩ := h.split key
 have e1 : ∀ l : List api_Row, (∀ x ∈ l, x.Key ≠ key) → delL key l = l := fun l hl => filter_all fun x hx => by simpa using hl x hx
 have e2 : ∀ a b : List api_Row, delL key (a ++ b) = delL key a ++ delL key b := fun a b => List.filter_append ..
 have e3 : delL key R = delL key (lo key R ++ (md key R ++ hi key R)) := congrArg _ h1
 rw [e3, e2, e2, e1 _ (fun x hx => cm_ne (lo_mem.1 hx).2), e1 (hi key R) (fun x hx q => cm_ne (hi_mem.1 hx).2 q.symm)]
 congr 1
 have : delL key (md key R) = [] := filter_none fun x hx => by
  have : x.Key = key := by simpa using (List.mem_filter.1 hx).2
  simp [this]
 rw [this, List.nil_append]
theorem lo_len {key : List Int} {R : List api_Row} (h : Srt R) : (lo key R).length + (md key R).length + (hi key R).length = R.length := by
 have := congrArg List.length (h.split key).1
 simp only [List.length_append] at this
 omega
theorem idx_lt {key : List Int} {R : List api_Row} (h : Srt R) {q : Nat} (hq : q < R.length) : cm R[q].Key key = decide (q < (lo key R).length) := by
 obtain ⟨h1, h2⟩ := h.split key
 have e : R[q]? = (lo key R ++ (md key R ++ hi key R))[q]? := congrArg (fun l => l[q]?) h1
 rw [List.getElem?_eq_getElem hq] at e
 by_cases c : q < (lo key R).length
 ·rw [List.getElem?_append_left c, List.getElem?_eq_getElem c] at e
  rw [Option.some.inj e, (lo_mem.1 (List.getElem_mem c)).2, decide_eq_true c]
 ·rw [List.getElem?_append_right (by omega)] at e
  have hm : R[q] ∈ md key R ++ hi key R := List.mem_of_getElem? e.symm
  rw [decide_eq_false c]
  rcases List.mem_append.1 hm with hm | hm
  ·have : R[q].Key = key := by simpa using (List.mem_filter.1 hm).2
   rw [this, cm_irr]
  ·exact cm_asym (hi_mem.1 hm).2
theorem at_lo {key : List Int} {R : List api_Row} (h : Srt R) :
  (md key R = [] ∧ R = lo key R ++ hi key R ∧ ∀ (q : (lo key R).length < R.length), R[(lo key R).length].Key ≠ key) ∨
  (∃ x, md key R = [x] ∧ x.Key = key ∧ R = lo key R ++ x :: hi key R ∧ ∃ (q : (lo key R).length < R.length), R[(lo key R).length] = x) := by
 obtain ⟨h1, h2⟩ := h.split key
 rcases h2 with h2 | ⟨x, h2, hx⟩
 ·refine .inl ⟨h2, by rw [h2, List.nil_append] at h1; exact h1, fun q e => ?_⟩
  have hm : R[(lo key R).length] ∈ md key R := List.mem_filter.2 ⟨List.getElem_mem q, by simpa using e⟩
  rw [h2] at hm; cases hm
 ·rw [h2] at h1
  have hl := congrArg List.length h1
  simp only [List.length_append, List.length_cons, List.length_nil] at hl
  refine .inr ⟨x, h2, hx, h1, by omega, ?_⟩
  have e : R[(lo key R).length]? = (lo key R ++ ([x] ++ hi key R))[(lo key R).length]? := congrArg (fun l => l[(lo key R).length]?) h1
  rw [List.getElem?_eq_getElem (by omega), List.getElem?_append_right (by omega)] at e
  simpa using e
theorem mid_eq {i j : Nat} (h : i + j < 1000000000000) : IntKind.i64.wrap (shr .u64 (IntKind.u64.wrap (IntKind.i64.wrap ((i : Int) + (j : Int)))) 1) = (((i + j) / 2 : Nat) : Int) := by
 rw [wr (n := (i : Int) + (j : Int)) (by omega) (by omega), wru (by omega) (by omega)]
 unfold shr
 have : (2 : Int) ^ (min (1 : Int).toNat IntKind.u64.bits) = 2 := by decide
 rw [this, Int.fdiv_eq_ediv_of_nonneg _ (by omega), wr (by omega) (by omega)]
 omega
theorem search_loop {R : List api_Row} (hl : R.length ≤ 100000000000) (hs : Srt R) (hb : ∀ r ∈ R, brange r.Key) {t : api_Row} (ht : brange t.Key) : ∀ (n i j m : Nat), j - i ≤ n → n < m → i ≤ (lo t.Key R).length → (lo t.Key R).length ≤ j → j ≤ R.length →
  loop (fun (s_ : Int × Int) => slices_BinarySearchFunc.b1 R t s_.1 s_.2) m ((i : Int), (j : Int)) = some ((lo t.Key R).length : Int)
 | _, _, _, 0, _, h, _, _, _ => absurd h (by omega)
 | n, i, j, m + 1, hn, hm, h1, h2, h3 => by
  by_cases c : i < j
  ·obtain ⟨n, rfl⟩ : ∃ n', n = n' + 1 := ⟨n - 1, by omega⟩
   have hq : (i + j) / 2 < R.length := by omega
   have e0 := mid_eq (i := i) (j := j) (by omega)
   have ek := byKey_eq (hb _ (List.getElem_mem hq)) ht
   rw [idx_lt hs hq] at ek
   by_cases d : (i + j) / 2 < (lo t.Key R).length
   ·rw [loop_next (s' := ((((i + j) / 2 + 1 : Nat) : Int), (j : Int)))]
    ·exact search_loop hl hs hb ht n _ j m (by omega) (by omega) (by omega) h2 h3
    ·unfold slices_BinarySearchFunc.b1
     simp only
     rw [if_pos (by omega), e0, if_pos (by omega), rd_eq hq, bind_eq ek, if_pos (by rw [if_pos (by simpa using d)]; omega), wrS _ (by omega)]
   ·rw [loop_next (s' := ((i : Int), (((i + j) / 2 : Nat) : Int)))]
    ·exact search_loop hl hs hb ht n i _ m (by omega) (by omega) h1 (by omega) (by omega)
    ·unfold slices_BinarySearchFunc.b1
     simp only
     rw [if_pos (by omega), e0, if_pos (by omega), rd_eq hq, bind_eq ek, if_neg (by rw [if_neg (by simpa using d)]; split <;> omega)]
  ·have e : i = (lo t.Key R).length := by omega
   refine loop_done ?_
   unfold slices_BinarySearchFunc.b1
   simp only
   rw [if_neg (by omega), e]
def has (key : List Int) (R : List api_Row) : Bool := !(md key R).isEmpty
theorem search_eq {k : Nat} (hk : Fuel k) {R : List api_Row} (hl : R.length ≤ 100000000000) (hs : Srt R) (hb : ∀ r ∈ R, brange r.Key) {t : api_Row} (ht : brange t.Key) : slices_BinarySearchFunc.f k R t = some (((lo t.Key R).length : Int), has t.Key R) := by
 have h24 : 1099511627776 ≤ k := hk
 have hlen := lo_len (key := t.Key) hs
 unfold slices_BinarySearchFunc.f
 rw [show ((0 : Int), (R.length : Int)) = (((0 : Nat) : Int), (R.length : Int)) from rfl, bind_eq (search_loop hl hs hb ht R.length 0 R.length k (by omega) (by omega) (Nat.zero_le _) (by omega) (Nat.le_refl _))]
 unfold slices_BinarySearchFunc.j2 has
 rcases at_lo (key := t.Key) hs with ⟨h1, h2, h3⟩ | ⟨x, h1, hx, h2, q, h3⟩
 ·rw [h1]
  by_cases c : (lo t.Key R).length < R.length
  ·have ek := byKey_eq (hb _ (List.getElem_mem c)) ht
   rw [if_pos (by omega), if_pos (by omega), rd_eq c, bind_eq ek, if_neg (h3 c)]
   split <;> simp
  ·rw [if_neg (by omega)]; rfl
 ·rw [h1]
  have ek := byKey_eq (hb _ (List.getElem_mem q)) ht
  rw [if_pos (by omega), if_pos (by omega), rd_eq q, bind_eq ek, h3, hx, cm_irr]
  simp
theorem rising_eq {k : Nat} (hk : Fuel k) {R : List api_Row} (hl : R.length ≤ 100000000000) (hb : ∀ r ∈ R, brange r.Key) : ∃ b, merkle_rising.f k R = some b ∧ (b = true ↔ Srt R) := by
 have h24 : 1099511627776 ≤ k := hk
 unfold merkle_rising.f
 have L := loop_inv (f := fun (s_ : Int) => merkle_rising.b1 R s_) (I := fun i s => s = ((i + 1 : Nat) : Int) ∧ ∀ q (h : q + 1 < R.length), q < i → cm R[q].Key R[q + 1].Key = true) (P := fun x => (x = .inl () ∧ Srt R) ∨ (x = .inr false ∧ ¬ Srt R)) (N := R.length) ?_ ?_ R.length 0 1 k ⟨rfl, fun q _ h => absurd h (by omega)⟩ (by omega) (by omega)
 ·obtain ⟨x, e, ⟨rfl, h⟩ | ⟨rfl, h⟩⟩ := L
  ·rw [bind_eq e]; exact ⟨true, rfl, by simp [h]⟩
  ·rw [bind_eq e]; exact ⟨false, rfl, by simp [h]⟩
 ·rintro i _ hi ⟨rfl, hq⟩
  simp only [merkle_rising.b1]
  by_cases c : i + 1 < R.length
  ·have ek := byKey_eq (hb _ (List.getElem_mem (show i < R.length by omega))) (hb _ (List.getElem_mem c))
   have e1 : IntKind.i64.wrap (((i + 1 : Nat) : Int) - 1) = ((i : Nat) : Int) := by rw [wr (by omega) (by omega)]; omega
   rw [if_pos (by omega), e1, if_pos (by omega), if_pos (by omega), rd_eq (by omega : i < R.length), rd_eq c, bind_eq ek]
   cases d : cm R[i].Key R[i + 1].Key with
   | true =>
    rw [if_pos rfl, if_neg (by omega), wrS (i + 1) (by omega)]
    refine .inl ⟨_, rfl, rfl, fun q h hqi => ?_⟩
    rcases Nat.lt_or_ge q i with g | g
    ·exact hq q h g
    ·obtain rfl : q = i := by omega
     exact d
   | false =>
    rw [if_pos (by rw [if_neg (by simp)]; split <;> omega)]
    refine .inr ⟨_, rfl, .inr ⟨rfl, fun h => ?_⟩⟩
    have := List.pairwise_iff_getElem.1 h i (i + 1) (by omega) c (by omega)
    rw [d] at this; cases this
  ·rw [if_neg (by omega)]
   refine .inr ⟨_, rfl, .inl ⟨rfl, ?_⟩⟩
   refine List.pairwise_iff_getElem.2 fun a b ha hb hab => ?_
   have key : ∀ d (h : a + d + 1 < R.length), cm R[a].Key R[a + d + 1].Key = true := by
    intro d
    induction d with
    | zero => intro h; exact hq a h (by omega)
    | succ d ih => intro h; exact cm_tr (ih (by omega)) (hq (a + d + 1) h (by omega))
   obtain ⟨d, rfl⟩ : ∃ d, b = a + d + 1 := ⟨b - a - 1, by omega⟩
   exact key d hb
 ·rintro _ ⟨rfl, hq⟩
  simp only [merkle_rising.b1]
  rw [if_neg (by omega)]
  refine ⟨_, rfl, .inl ⟨rfl, ?_⟩⟩
  refine List.pairwise_iff_getElem.2 fun a b ha hb hab => ?_
  have key : ∀ d (h : a + d + 1 < R.length), cm R[a].Key R[a + d + 1].Key = true := by
   intro d
   induction d with
   | zero => intro h; exact hq a h (by omega)
   | succ d ih => intro h; exact cm_tr (ih (by omega)) (hq (a + d + 1) h (by omega))
  obtain ⟨d, rfl⟩ : ∃ d, b = a + d + 1 := ⟨b - a - 1, by omega⟩
  exact key d hb
def fbk (b : Nat) (R : List api_Row) : List api_Row := R.filter fun r => decide (bkt r.Key = b)
theorem flt_comm {α : Type} (p q : α → Bool) (l : List α) : (l.filter p).filter q = (l.filter q).filter p := by
 rw [List.filter_filter, List.filter_filter]
 congr 1
 funext x
 exact Bool.and_comm ..
theorem lo_fb (key : List Int) (b : Nat) (R : List api_Row) : lo key (fbk b R) = fbk b (lo key R) := flt_comm ..
theorem hi_fb (key : List Int) (b : Nat) (R : List api_Row) : hi key (fbk b R) = fbk b (hi key R) := flt_comm ..
theorem md_fb (key : List Int) (R : List api_Row) : md key (fbk (bkt key) R) = md key R := by
 unfold md fbk
 rw [flt_comm]
 apply filter_all
 intro x hx
 have : x.Key = key := by simpa using (List.mem_filter.1 hx).2
 rw [this]; simp
theorem fb_app (b : Nat) (l m : List api_Row) : fbk b (l ++ m) = fbk b l ++ fbk b m := List.filter_append ..
theorem fb_put (r : api_Row) (R : List api_Row) : fbk (bkt r.Key) (putL r R) = putL r (fbk (bkt r.Key) R) := by
 unfold putL
 rw [fb_app, lo_fb, hi_fb]
 congr 1
 unfold fbk
 rw [List.filter_cons_of_pos (by simp)]
theorem fb_put_ne {r : api_Row} {R : List api_Row} (h : Srt R) {b : Nat} (hb : b ≠ bkt r.Key) : fbk b (putL r R) = fbk b R := by
 obtain ⟨h1, h2⟩ := h.split r.Key
 have e1 : fbk b R = fbk b (lo r.Key R ++ (md r.Key R ++ hi r.Key R)) := congrArg _ h1
 have e2 : fbk b (md r.Key R) = [] := filter_none fun x hx => by
  have : x.Key = r.Key := by simpa using (List.mem_filter.1 hx).2
  rw [this]; simpa using fun q => hb q.symm
 rw [e1, fb_app, fb_app, e2, List.nil_append]
 unfold putL
 rw [fb_app]
 congr 1
 unfold fbk
 rw [List.filter_cons_of_neg (by simpa using fun q => hb q.symm)]
theorem fb_del (key : List Int) (b : Nat) (R : List api_Row) : fbk b (delL key R) = delL key (fbk b R) := flt_comm ..
theorem fb_del_ne {key : List Int} {b : Nat} (hb : b ≠ bkt key) (R : List api_Row) : fbk b (delL key R) = fbk b R := by
 rw [fb_del]
 apply filter_all
 intro x hx
 have h1 : bkt x.Key = b := by simpa [fbk] using (List.mem_filter.1 hx).2
 have : x.Key ≠ key := fun q => hb (by rw [← h1, q])
 simpa using this
theorem fb_len (b : Nat) (R : List api_Row) : (fbk b R).length ≤ R.length := List.length_filter_le ..
theorem fb_mem {b : Nat} {R : List api_Row} {x : api_Row} (h : x ∈ fbk b R) : x ∈ R := (List.mem_filter.1 h).1
theorem RL.fbk {R : List api_Row} (h : RL R) (b : Nat) : RL (fbk b R) := ⟨Nat.le_trans (fb_len b R) h.1, fun r hr => h.2 r (fb_mem hr)⟩
theorem RL.br {R : List api_Row} (h : RL R) : ∀ r ∈ R, brange r.Key := fun r hr => (h.2 r hr).2.2
theorem td {α : Type} {R l m : List α} (h : R = l ++ m) : R.take l.length = l ∧ R.drop l.length = m := by subst h; simp
theorem sx {α : Type} {R l m : List α} {x : α} (h : R = l ++ x :: m) (r : α) : R.set l.length r = l ++ r :: m ∧ R.take l.length = l ∧ R.drop (l.length + 1) = m := by
 subst h
 refine ⟨by simp, by simp, ?_⟩
 rw [← List.drop_drop, List.drop_left]; rfl
theorem own_eq {r : api_Row} (h1 : r.Key.length ≤ 1000000000) (h2 : r.Value.length ≤ 1000000000) : merkle_own.f r = some r := by
 unfold merkle_own.f bytes_Clone.f
 rw [if_pos (by omega), Option.bind_some, if_pos (by omega), Option.bind_some]
theorem own_RB {r : api_Row} (h : RB r) : merkle_own.f r = some r := own_eq (by have := h.1; omega) (by have := h.2.1; omega)
theorem rd_set {α : Type} [Inhabited α] (l : List α) (i n : Nat) (v : α) (hi : i < l.length) : rd (l.set i v) (n : Int) = if n = i then v else rd l (n : Int) := by
 unfold rd
 simp only [Int.toNat_natCast, List.getD_eq_getElem?_getD, List.getElem?_set]
 by_cases e : n = i
 ·subst e; simp [hi]
 ·rw [if_neg (fun q => e q.symm), if_neg e]
theorem tdiv2 (i : Nat) : Int.tdiv (i : Int) 2 = ((i / 2 : Nat) : Int) := (Int.ofNat_tdiv i 2).symm
def nodeOk (k : Nat) (bits : Int) (D : List Int) (n : Nat) : Prop := rd D (n : Int) = hPair k bits (rd D ((2 * n : Nat) : Int)) (rd D ((2 * n + 1 : Nat) : Int))
def offPath (i n : Nat) : Prop := ∀ s, n ≠ i / 2 ^ s
theorem offPath.half {i n : Nat} (h : offPath (i / 2) n) (hn : n ≠ i) : offPath i n := fun s => by
 cases s with
 | zero => simpa using hn
 | succ s =>
  have := h s
  rwa [Nat.div_div_eq_div_mul, Nat.mul_comm, ← Nat.pow_succ] at this
theorem climb {k : Nat} (hk : Fuel k) {bits : Int} (hb : okb bits) {ob : Mer} (ho : ob.bits = bits) : ∀ (s i m : Nat) (D : List Int), i < 2 ^ s → s < m → D.length = 512 → i < 256 → (∀ n : Nat, 1 ≤ n → n < 256 → offPath i n → nodeOk k bits D n) →
  ∃ D', loop (fun (s_ : Int × (List Int)) => merkle_Tree_changed.b2 k ob s_.1 s_.2) m ((i : Int), D) = some D' ∧ D'.length = 512 ∧ (∀ n : Nat, 1 ≤ n → n < 256 → nodeOk k bits D' n) ∧ ∀ n : Nat, 256 ≤ n → rd D' (n : Int) = rd D (n : Int)
 | _, _, 0, _, _, h, _, _, _ => absurd h (by omega)
 | s, 0, m + 1, D, hs, hm, hD, hi, hO => by
  refine ⟨D, loop_done ?_, hD, fun n h1 h2 => hO n h1 h2 (fun s => by rw [Nat.zero_div]; omega), fun _ _ => rfl⟩
  unfold merkle_Tree_changed.b2
  rw [if_neg (by simp)]
 | 0, i + 1, _ + 1, _, hs, _, _, _, _ => absurd hs (by simp)
 | s + 1, i + 1, m + 1, D, hs, hm, hD, hi, hO => by
  obtain ⟨q, hq⟩ : ∃ q, q = i + 1 := ⟨_, rfl⟩
  rw [← hq] at hs hi hO ⊢
  have hlt : q / 2 < 2 ^ s := by rw [Nat.pow_succ] at hs; omega
  have hv := ofPair_eq hk hb (rd D ((2 * q : Nat) : Int)) (rd D ((2 * q + 1 : Nat) : Int))
  obtain ⟨D', e, g1, g2, g3⟩ := climb hk hb ho s (q / 2) m (D.set q (hPair k bits (rd D ((2 * q : Nat) : Int)) (rd D ((2 * q + 1 : Nat) : Int)))) hlt (by omega) (by simpa using hD) (by omega) (fun n h1 h2 h3 => by
   have hql : q < D.length := by omega
   unfold nodeOk
   have n1 : ¬ (2 * n = q) := fun e => h3 0 (by simp; omega)
   have n2 : ¬ (2 * n + 1 = q) := fun e => h3 0 (by simp; omega)
   rw [rd_set D q n _ hql, rd_set D q (2 * n) _ hql, rd_set D q (2 * n + 1) _ hql, if_neg n1, if_neg n2]
   by_cases c : n = q
   ·rw [if_pos c, c]
   ·rw [if_neg c]; exact hO n h1 h2 (h3.half c))
  refine ⟨D', ?_, g1, g2, fun n hn => by rw [g3 n hn, rd_set D q n _ (by omega), if_neg (by omega)]⟩
  rw [loop_next (s' := (((q / 2 : Nat) : Int), D.set q (hPair k bits (rd D ((2 * q : Nat) : Int)) (rd D ((2 * q + 1 : Nat) : Int))))), e]
  have w1 : IntKind.i64.wrap (2 * (q : Int)) = ((2 * q : Nat) : Int) := by rw [wr (by omega) (by omega)]; omega
  have w2 : IntKind.i64.wrap (((2 * q : Nat) : Int) + 1) = ((2 * q + 1 : Nat) : Int) := by rw [wr (by omega) (by omega)]; omega
  have w3 : IntKind.i64.wrap (Int.tdiv (q : Int) 2) = ((q / 2 : Nat) : Int) := by rw [tdiv2, wr (by omega) (by omega)]
  unfold merkle_Tree_changed.b2
  simp only
  rw [if_pos (by omega), w1, w2, ho, if_pos (by omega), if_pos (by omega), bind_eq hv, if_pos (by omega), w3, Int.toNat_natCast]
structure MI (k : Nat) (bits : Int) (t : Mer) (R : List api_Row) : Prop where
 hbits : t.bits = bits
 many : t.many = (R.length : Int)
 rl : t.rows.length = 256
 rows : ∀ b : Nat, b < 256 → rd t.rows (b : Int) = fbk b R
 dl : t.digests.length = 512
 leaf : ∀ b : Nat, b < 256 → rd t.digests ((256 + b : Nat) : Int) = hBk k bits (fbk b R)
 node : ∀ n : Nat, 1 ≤ n → n < 256 → nodeOk k bits t.digests n
theorem changed_eq {k : Nat} (hk : Fuel k) {bits : Int} (hb : okb bits) {t : Mer} {R : List api_Row} {b : Nat} (hbl : b < 256) (h1 : t.bits = bits) (h2 : t.many = (R.length : Int)) (h3 : t.rows.length = 256) (h4 : ∀ b : Nat, b < 256 → rd t.rows (b : Int) = fbk b R) (h5 : t.digests.length = 512)
  (h6 : ∀ b' : Nat, b' < 256 → b' ≠ b → rd t.digests ((256 + b' : Nat) : Int) = hBk k bits (fbk b' R)) (h7 : ∀ n : Nat, 1 ≤ n → n < 256 → nodeOk k bits t.digests n) (hR : RL R) :
  ∃ t', merkle_Tree_changed.f k (some t) (b : Int) = some (some t') ∧ MI k bits t' R := by
 have h24 : 1099511627776 ≤ k := hk
 have ev : merkle_ofBucket.f k (rd t.rows (b : Int)) t.bits = some (hBk k bits (fbk b R)) := by rw [h4 b hbl, h1]; exact ofBucket_eq hk hb (hR.fbk b)
 have w1 : IntKind.i64.wrap (256 + (b : Int)) = ((256 + b : Nat) : Int) := by rw [wr (by omega) (by omega)]; omega
 have w2 : IntKind.i64.wrap (Int.tdiv ((256 + b : Nat) : Int) 2) = (((256 + b) / 2 : Nat) : Int) := by rw [tdiv2, wr (by omega) (by omega)]
 have hql : 256 + b < t.digests.length := by omega
 obtain ⟨D', e, g1, g2, g3⟩ := climb hk hb (ob := t) h1 8 ((256 + b) / 2) k (t.digests.set (256 + b) (hBk k bits (fbk b R))) (show (256 + b) / 2 < 256 by omega) (by omega) (by simpa using h5) (by omega) (fun n n1 n2 n3 => by
  have q0 := n3 0
  simp only [Nat.pow_zero, Nat.div_one] at q0
  unfold nodeOk
  rw [rd_set _ _ n _ hql, rd_set _ _ (2 * n) _ hql, rd_set _ _ (2 * n + 1) _ hql, if_neg (by omega), if_neg (by omega), if_neg (by omega)]
  exact h7 n n1 n2)
 refine ⟨Mer.mk t.bits D' t.rows t.many, ?_, h1, h2, h3, h4, g1, fun b' hb' => ?_, g2⟩
 ·unfold merkle_Tree_changed.f merkle_Tree_changed.j1
  rw [Option.bind_some, if_pos (by omega), bind_eq ev, w1, if_pos (by omega), w2, Int.toNat_natCast, bind_eq e]
  rfl
 ·show rd D' ((256 + b' : Nat) : Int) = _
  rw [g3 _ (by omega), rd_set _ _ _ _ hql]
  by_cases c : b' = b
  ·rw [if_pos (by omega), c]
  ·rw [if_neg (by omega)]; exact h6 b' hb' c
theorem at_eq {k : Nat} (hk : Fuel k) {bits : Int} {t : Mer} {R : List api_Row} (h : MI k bits t R) (hR : RL R) (hs : Srt R) {key : List Int} (hkl : key.length ≤ 1000000000) (hkb : brange key) :
  merkle_Tree_at.f k (some t) key = some ((bkt key : Int), ((lo key (fbk (bkt key) R)).length : Int), has key R) := by
 have hl := bkt_lt key
 have hf := hR.fbk (bkt key)
 have es : slices_BinarySearchFunc.f k (fbk (bkt key) R) (api_Row.mk key [] 0) = some (((lo key (fbk (bkt key) R)).length : Int), has key (fbk (bkt key) R)) := search_eq hk (R := fbk (bkt key) R) (by have := hf.1; omega) (hs.filter _) hf.br (t := api_Row.mk key [] 0) hkb
 unfold merkle_Tree_at.f
 rw [bind_eq (bucket_eq hk hkl), Option.bind_some, if_pos (by omega), h.rows (bkt key) hl, bind_eq es]
 simp only [has, md_fb]
theorem Get_eq {k : Nat} (hk : Fuel k) {bits : Int} {t : Mer} {R : List api_Row} (h : MI k bits t R) (hR : RL R) (hs : Srt R) {key : List Int} (hkl : key.length ≤ 1000000000) (hkb : brange key) :
  merkle_Tree_Get.f k (some t) key = some (match md key R with | [] => (api_Row.mk [] [] 0, false) | x :: _ => (x, true)) := by
 have hl := bkt_lt key
 unfold merkle_Tree_Get.f
 rw [if_neg (by simp), bind_eq (at_eq hk h hR hs hkl hkb)]
 dsimp only
 rcases at_lo (key := key) (hs.filter fun r => decide (bkt r.Key = bkt key)) with ⟨h1, h2, h3⟩ | ⟨x, h1, hx, h2, q, h3⟩
 ·have h1 : md key (fbk (bkt key) R) = [] := h1
  rw [md_fb] at h1
  have hh : ¬ has key R = true := by unfold has; rw [h1]; simp
  rw [if_neg hh, h1]
 ·have h1 : md key (fbk (bkt key) R) = [x] := h1
  have q : (lo key (fbk (bkt key) R)).length < (fbk (bkt key) R).length := q
  have h3 : (fbk (bkt key) R)[(lo key (fbk (bkt key) R)).length] = x := h3
  rw [md_fb] at h1
  have hm : x ∈ R := by
   have : x ∈ md key R := by rw [h1]; exact List.mem_singleton.2 rfl
   exact (List.mem_filter.1 this).1
  have hh : has key R = true := by unfold has; rw [h1]; simp
  rw [if_pos hh, h1, Option.bind_some, if_pos (by omega), h.rows (bkt key) hl, if_pos (by omega), rd_eq q, h3, bind_eq (own_RB (hR.2 x hm))]
theorem Digest_eq {t : Mer} {n : Nat} (h0 : 1 ≤ n) (h1 : n < 512) : merkle_Tree_Digest.f (some t) (n : Int) = some (rd t.digests (n : Int)) := by
 unfold merkle_Tree_Digest.f merkle_Tree_Digest.j1
 rw [if_neg (by simp), if_neg (by omega), decide_eq_false (by omega), if_neg (by simp), Option.bind_some, if_pos (by omega)]
theorem Root_eq {t : Mer} : merkle_Tree_Root.f (some t) = some (rd t.digests 1) := by
 unfold merkle_Tree_Root.f
 have := Digest_eq (t := t) (n := 1) (by omega) (by omega)
 have e1 : ((1 : Nat) : Int) = 1 := rfl
 rw [e1] at this
 rw [bind_eq this]
theorem put_len_has {r x : api_Row} {R : List api_Row} (hs : Srt R) (h : md r.Key R = [x]) : (putL r R).length = R.length := by
 have := lo_len (key := r.Key) hs
 rw [h] at this
 simp only [putL, List.length_append, List.length_cons, List.length_nil] at this ⊢
 omega
theorem put_len_new {r : api_Row} {R : List api_Row} (hs : Srt R) (h : md r.Key R = []) : (putL r R).length = R.length + 1 := by
 have := lo_len (key := r.Key) hs
 rw [h] at this
 simp only [putL, List.length_append, List.length_cons, List.length_nil] at this ⊢
 omega
theorem rd_rows {k : Nat} {bits : Int} {t : Mer} {R : List api_Row} (h : MI k bits t R) (b b' : Nat) (v : List api_Row) (hb : b < 256) : rd (t.rows.set b v) (b' : Int) = if b' = b then v else rd t.rows (b' : Int) := rd_set _ _ _ _ (by rw [h.rl]; exact hb)
theorem Put_eq {k : Nat} (hk : Fuel k) {bits : Int} (hb : okb bits) {t : Mer} {R : List api_Row} (h : MI k bits t R) (hR : RL R) (hR' : R.length + 1 ≤ 4194304) (hs : Srt R) {r : api_Row} (hr : RB r) :
  ∃ t', merkle_Tree_Put.f k (some t) r = some (some t') ∧ MI k bits t' (putL r R) ∧ RL (putL r R) ∧ Srt (putL r R) := by
 have hl := bkt_lt r.Key
 have hf := hR.fbk (bkt r.Key)
 have hkl : r.Key.length ≤ 1000000000 := by have := hr.1; omega
 have hRP : RL (putL r R) := by
  refine ⟨?_, fun x hx => ?_⟩
  ·rcases (hs.split r.Key).2 with q | ⟨x, q, _⟩
   ·rw [put_len_new hs q]; exact hR'
   ·rw [put_len_has hs q]; exact hR.1
  ·rcases putL_mem hx with rfl | hx
   ·exact hr
   ·exact hR.2 x hx
 have hrows : ∀ (v : List api_Row), v = putL r (fbk (bkt r.Key) R) → ∀ b : Nat, b < 256 → rd (t.rows.set (bkt r.Key) v) (b : Int) = fbk b (putL r R) := fun v hv b hb => by
  rw [rd_rows h _ _ _ hl]
  by_cases c : b = bkt r.Key
  ·rw [if_pos c, hv, c, fb_put]
  ·rw [if_neg c, h.rows b hb, fb_put_ne hs c]
 have hleaf : ∀ b' : Nat, b' < 256 → b' ≠ bkt r.Key → rd t.digests ((256 + b' : Nat) : Int) = hBk k bits (fbk b' (putL r R)) := fun b' hb' c => by rw [h.leaf b' hb', fb_put_ne hs c]
 unfold merkle_Tree_Put.f
 rw [if_neg (by simp), bind_eq (at_eq hk h hR hs hkl hr.2.2)]
 dsimp only
 rcases at_lo (key := r.Key) (hs.filter fun x => decide (bkt x.Key = bkt r.Key)) with ⟨h1, h2, h3⟩ | ⟨x, h1, hx, h2, q, h3⟩
 ·have h1 : md r.Key (fbk (bkt r.Key) R) = [] := h1
  have h2 : fbk (bkt r.Key) R = lo r.Key (fbk (bkt r.Key) R) ++ hi r.Key (fbk (bkt r.Key) R) := h2
  rw [md_fb] at h1
  have hlen := congrArg List.length h2
  rw [List.length_append] at hlen
  have hi1 := hf.1
  have ei : slices_Insert.f (fbk (bkt r.Key) R) ((lo r.Key (fbk (bkt r.Key) R)).length : Int) [r] = some (putL r (fbk (bkt r.Key) R)) := by
   unfold slices_Insert.f
   rw [if_pos ⟨by omega, by omega, rfl, by omega⟩]
   congr 1
   rw [Int.toNat_natCast]
   rw [(td h2).1, (td h2).2]
   unfold putL
   simp
  have hmany : IntKind.i64.wrap (t.many + 1) = ((putL r R).length : Int) := by rw [h.many, put_len_new hs h1, wr (by omega) (by omega)]; omega
  obtain ⟨t', e, g⟩ := changed_eq hk hb (t := Mer.mk t.bits t.digests (t.rows.set (bkt r.Key) (putL r (fbk (bkt r.Key) R))) ((putL r R).length : Int)) (R := putL r R) hl h.hbits rfl (by simpa using h.rl) (hrows _ rfl) h.dl hleaf h.node hRP
  refine ⟨t', ?_, g, hRP, putL_srt hs⟩
  have hh : ¬ has r.Key R = true := by unfold has; rw [h1]; simp
  rw [if_neg hh, Option.bind_some, if_pos (by omega), bind_eq (own_RB hr), h.rows (bkt r.Key) hl, bind_eq ei]
  unfold merkle_Tree_Put.j1
  simp only [Int.toNat_natCast]
  rw [hmany, bind_eq e]
 ·have h1 : md r.Key (fbk (bkt r.Key) R) = [x] := h1
  have h2 : fbk (bkt r.Key) R = lo r.Key (fbk (bkt r.Key) R) ++ x :: hi r.Key (fbk (bkt r.Key) R) := h2
  have q : (lo r.Key (fbk (bkt r.Key) R)).length < (fbk (bkt r.Key) R).length := q
  rw [md_fb] at h1
  have ei : (fbk (bkt r.Key) R).set (lo r.Key (fbk (bkt r.Key) R)).length r = putL r (fbk (bkt r.Key) R) := by
   exact (sx h2 r).1
  have hmany : t.many = ((putL r R).length : Int) := by rw [h.many, put_len_has hs h1]
  obtain ⟨t', e, g⟩ := changed_eq hk hb (t := Mer.mk t.bits t.digests (t.rows.set (bkt r.Key) (putL r (fbk (bkt r.Key) R))) t.many) (R := putL r R) hl h.hbits hmany (by simpa using h.rl) (hrows _ rfl) h.dl hleaf h.node hRP
  refine ⟨t', ?_, g, hRP, putL_srt hs⟩
  have hh : has r.Key R = true := by unfold has; rw [h1]; simp
  rw [if_pos hh, Option.bind_some, if_pos (by omega), bind_eq (own_RB hr), h.rows (bkt r.Key) hl, if_pos (by omega)]
  simp only [Int.toNat_natCast]
  rw [ei, bind_eq e]
theorem Delete_eq {k : Nat} (hk : Fuel k) {bits : Int} (hb : okb bits) {t : Mer} {R : List api_Row} (h : MI k bits t R) (hR : RL R) (hs : Srt R) {key : List Int} (hkl : key.length ≤ 1000000000) (hkb : brange key) :
  ∃ t', merkle_Tree_Delete.f k (some t) key = some (has key R, some t') ∧ MI k bits t' (delL key R) ∧ RL (delL key R) ∧ Srt (delL key R) := by
 have hl := bkt_lt key
 have hf := hR.fbk (bkt key)
 have hRD : RL (delL key R) := ⟨Nat.le_trans (List.length_filter_le ..) hR.1, fun x hx => hR.2 x (List.mem_filter.1 hx).1⟩
 have hSD : Srt (delL key R) := hs.filter _
 unfold merkle_Tree_Delete.f
 rw [if_neg (by simp), bind_eq (at_eq hk h hR hs hkl hkb)]
 dsimp only
 rcases at_lo (key := key) (hs.filter fun x => decide (bkt x.Key = bkt key)) with ⟨h1, h2, h3⟩ | ⟨x, h1, hx, h2, q, h3⟩
 ·have h1 : md key (fbk (bkt key) R) = [] := h1
  rw [md_fb] at h1
  have e : delL key R = R := filter_all fun x hx => by
   cases c : decide (x.Key = key) with
   | false => rfl
   | true =>
    have : x ∈ md key R := List.mem_filter.2 ⟨hx, c⟩
    rw [h1] at this; cases this
  have hh : ¬ has key R = true := by unfold has; rw [h1]; simp
  rw [if_neg hh, e]
  exact ⟨t, rfl, h, hR, hs⟩
 ·have h1 : md key (fbk (bkt key) R) = [x] := h1
  have h2 : fbk (bkt key) R = lo key (fbk (bkt key) R) ++ x :: hi key (fbk (bkt key) R) := h2
  have q : (lo key (fbk (bkt key) R)).length < (fbk (bkt key) R).length := q
  rw [md_fb] at h1
  have hf1 := hf.1
  have ed : slices_Delete.f (fbk (bkt key) R) ((lo key (fbk (bkt key) R)).length : Int) (IntKind.i64.wrap (((lo key (fbk (bkt key) R)).length : Int) + 1)) = some (delL key (fbk (bkt key) R)) := by
   rw [wrS _ (by omega)]
   unfold slices_Delete.f
   rw [if_pos ⟨by omega, by omega, by omega⟩, delL_eq (R := fbk (bkt key) R) (hs.filter _)]
   congr 1
   simp only [Int.toNat_natCast]
   rw [(sx h2 x).2.1, (sx h2 x).2.2]
  have hlen : R.length = (delL key R).length + 1 := by
   have := lo_len (key := key) hs
   rw [delL_eq hs, List.length_append]
   rw [h1] at this
   simp only [List.length_cons, List.length_nil] at this
   omega
  have hmany : IntKind.i64.wrap (t.many - 1) = ((delL key R).length : Int) := by
   have := hR.1
   rw [h.many, wr (by omega) (by omega)]; omega
  have hrows : ∀ b : Nat, b < 256 → rd (t.rows.set (bkt key) (delL key (fbk (bkt key) R))) (b : Int) = fbk b (delL key R) := fun b hb => by
   rw [rd_rows h _ _ _ hl]
   by_cases c : b = bkt key
   ·rw [if_pos c, c, fb_del]
   ·rw [if_neg c, h.rows b hb, fb_del_ne c]
  obtain ⟨t', e, g⟩ := changed_eq hk hb (t := Mer.mk t.bits t.digests (t.rows.set (bkt key) (delL key (fbk (bkt key) R))) ((delL key R).length : Int)) (R := delL key R) hl h.hbits rfl (by simpa using h.rl) hrows h.dl (fun b' hb' c => by rw [fb_del_ne c]; exact h.leaf b' hb') h.node hRD
  refine ⟨t', ?_, g, hRD, hSD⟩
  have hh : has key R = true := by unfold has; rw [h1]; simp
  rw [if_pos hh, Option.bind_some, if_pos (by omega), h.rows (bkt key) hl, bind_eq ed]
  unfold merkle_Tree_Delete.j1
  simp only [Int.toNat_natCast]
  rw [hmany, bind_eq e]
theorem fb_snoc (b : Nat) (l : List api_Row) (r : api_Row) : fbk b (l ++ [r]) = if bkt r.Key = b then fbk b l ++ [r] else fbk b l := by
 rw [fb_app]
 by_cases c : bkt r.Key = b
 ·rw [if_pos c]; congr 1; unfold fbk; rw [List.filter_cons_of_pos (by simpa using c)]; rfl
 ·rw [if_neg c]
  have : fbk b [r] = [] := by unfold fbk; rw [List.filter_cons_of_neg (by simpa using c)]; rfl
  rw [this, List.append_nil]
theorem New_eq {k : Nat} (hk : Fuel k) {bits : Int} (hb : okb bits) {R : List api_Row} (hR : RL R) (hs : Srt R) : ∃ t, merkle_New.f k R bits = some (some t, 0) ∧ MI k bits t R := by
 have h24 : 1099511627776 ≤ k := hk
 obtain ⟨b, eb, hbr⟩ := rising_eq hk (by have := hR.1; omega) hR.br
 have ht := hbr.2 hs
 subst ht
 have hRl := hR.1
 unfold merkle_New.f merkle_New.j1
 rw [if_neg (by omega), decide_eq_false (by omega), if_neg (by simp), bind_eq eb, if_pos rfl]
 have L := loop_inv (f := fun (s_ : Int × (List (List api_Row))) => merkle_New.b2 k R s_.1 s_.2) (I := fun i s => s.1 = (i : Int) ∧ s.2.length = 256 ∧ ∀ b : Nat, b < 256 → rd s.2 (b : Int) = fbk b (R.take i)) (P := fun x => x.length = 256 ∧ ∀ b : Nat, b < 256 → rd x (b : Int) = fbk b R) (N := R.length) ?_ ?_ R.length 0 (0, List.replicate 256 []) k ⟨rfl, List.length_replicate .., fun b hb => ?_⟩ (by omega) (by omega)
 ·obtain ⟨S, eS, hS, hB⟩ := L
  rw [bind_eq eS]
  unfold merkle_New.j3
  have M := loop_inv (f := fun (s_ : Int × (List Int)) => merkle_New.b4 k bits S s_.1 s_.2) (I := fun i s => s.1 = (i : Int) ∧ s.2.length = 512 ∧ ∀ b : Nat, b < i → rd s.2 ((256 + b : Nat) : Int) = hBk k bits (fbk b R)) (P := fun x => x.length = 512 ∧ ∀ b : Nat, b < 256 → rd x ((256 + b : Nat) : Int) = hBk k bits (fbk b R)) (N := 256) ?_ ?_ 256 0 (0, List.replicate 512 (0 : Int)) k ⟨rfl, List.length_replicate .., fun b h => absurd h (by omega)⟩ (by omega) (by omega)
  ·obtain ⟨D, eD, hD, hDl⟩ := M
   rw [bind_eq eD]
   unfold merkle_New.j5
   have O := loop_inv (f := fun (s_ : Int × (List Int)) => merkle_New.b6 k bits s_.1 s_.2) (I := fun i s => s.1 = 255 - (i : Int) ∧ s.2.length = 512 ∧ (∀ b : Nat, b < 256 → rd s.2 ((256 + b : Nat) : Int) = hBk k bits (fbk b R)) ∧ ∀ n : Nat, 255 - i < n → n < 256 → nodeOk k bits s.2 n) (P := fun x => x.length = 512 ∧ (∀ b : Nat, b < 256 → rd x ((256 + b : Nat) : Int) = hBk k bits (fbk b R)) ∧ ∀ n : Nat, 1 ≤ n → n < 256 → nodeOk k bits x n) (N := 255) ?_ ?_ 255 0 (255, D) k ⟨rfl, hD, hDl, fun n h h2 => absurd h (by omega)⟩ (by omega) (by omega)
   ·obtain ⟨D', eD', g1, g2, g3⟩ := O
    rw [bind_eq eD']
    exact ⟨_, rfl, rfl, rfl, hS, hB, g1, g2, g3⟩
   ·rintro i ⟨j, l⟩ hi ⟨hj, hl, hlf, hn⟩
    left
    simp only at hj hl hlf hn
    obtain ⟨q, hq⟩ : ∃ q : Nat, q = 255 - i := ⟨_, rfl⟩
    have hjq : j = (q : Int) := by omega
    subst hjq
    have w1 : IntKind.i64.wrap (2 * (q : Int)) = ((2 * q : Nat) : Int) := by rw [wr (by omega) (by omega)]; omega
    have w2 : IntKind.i64.wrap (((2 * q : Nat) : Int) + 1) = ((2 * q + 1 : Nat) : Int) := by rw [wr (by omega) (by omega)]; omega
    have en := ofPair_eq hk hb (rd l ((2 * q : Nat) : Int)) (rd l ((2 * q + 1 : Nat) : Int))
    have hql : q < l.length := by omega
    simp only [merkle_New.b6]
    rw [w1, w2, if_pos (by omega), if_pos (by omega), if_pos (by omega), bind_eq en, if_pos (by omega), wr (by omega) (by omega)]
    refine ⟨_, rfl, by simp only; omega, by simpa using hl, fun b hb => ?_, fun n h1 h2 => ?_⟩
    ·simp only [Int.toNat_natCast]
     rw [rd_set _ _ _ _ hql, if_neg (by omega)]; exact hlf b hb
    ·simp only [Int.toNat_natCast]
     unfold nodeOk
     rw [rd_set _ _ _ _ hql, rd_set _ _ _ _ hql, rd_set _ _ _ _ hql, if_neg (by omega : ¬ 2 * n = q), if_neg (by omega : ¬ 2 * n + 1 = q)]
     by_cases c : n = q
     ·rw [if_pos c, c]
     ·rw [if_neg c]; exact hn n (by omega) h2
   ·rintro ⟨j, l⟩ ⟨hj, hl, hlf, hn⟩
    simp only at hj hl hlf hn; subst hj
    simp only [merkle_New.b6]
    rw [if_neg (by omega)]
    exact ⟨_, rfl, hl, hlf, fun n h1 h2 => hn n (by omega) h2⟩
  ·rintro i ⟨j, l⟩ hi ⟨hj, hl, hlf⟩
   left
   simp only at hj hl hlf; subst hj
   have en : merkle_ofBucket.f k (rd S (i : Int)) bits = some (hBk k bits (fbk i R)) := by rw [hB i hi]; exact ofBucket_eq hk hb (hR.fbk i)
   have w1 : IntKind.i64.wrap (256 + (i : Int)) = ((256 + i : Nat) : Int) := by rw [wr (by omega) (by omega)]; omega
   simp only [merkle_New.b4]
   rw [if_pos (by omega), if_pos (by omega), bind_eq en, w1, if_pos (by omega), wrS i (by omega)]
   refine ⟨_, rfl, rfl, by simpa using hl, fun b hb => ?_⟩
   simp only [Int.toNat_natCast]
   rw [rd_set _ _ _ _ (by omega)]
   by_cases c : b = i
   ·rw [if_pos (by omega), c]
   ·rw [if_neg (by omega)]; exact hlf b (by omega)
  ·rintro ⟨j, l⟩ ⟨hj, hl, hlf⟩
   simp only at hj hl hlf; subst hj
   simp only [merkle_New.b4]
   rw [if_neg (by omega)]
   exact ⟨_, rfl, hl, hlf⟩
 ·rintro i ⟨j, S⟩ hi ⟨hj, hS, hB⟩
  left
  simp only at hj hS hB; subst hj
  have hr := hR.2 _ (List.getElem_mem hi)
  have hkl : R[i].Key.length ≤ 1000000000 := by have := hr.1; omega
  have hl := bkt_lt R[i].Key
  have hlen : (rd S ((bkt R[i].Key : Nat) : Int)).length ≤ 4194304 := by rw [hB _ hl]; have := fb_len (bkt R[i].Key) (R.take i); simp only [List.length_take] at this; omega
  simp only [merkle_New.b2]
  rw [if_pos (by omega), if_pos (by omega), rd_eq hi, bind_eq (bucket_eq hk hkl), if_pos (by omega), bind_eq (own_RB hr), if_pos (by simp only [List.length_singleton]; omega), wrS i (by omega)]
  refine ⟨_, rfl, rfl, by simpa using hS, fun b hb => ?_⟩
  simp only [Int.toNat_natCast]
  rw [rd_set _ _ _ _ (by omega), take_one hi, fb_snoc]
  by_cases c : b = bkt R[i].Key
  ·rw [if_pos c, if_pos c.symm, hB _ hl, c]
  ·rw [if_neg c, if_neg (fun q => c q.symm)]; exact hB b hb
 ·rintro ⟨j, S⟩ ⟨hj, hS, hB⟩
  simp only at hj hS hB; subst hj
  simp only [merkle_New.b2]
  rw [if_neg (by omega)]
  rw [List.take_length] at hB
  exact ⟨_, rfl, hS, hB⟩
 ·unfold rd
  simp only [Int.toNat_natCast, List.take_zero]
  rw [List.getD_eq_getElem?_getD, List.getElem?_replicate, if_pos hb]; rfl
theorem put_snoc {r : api_Row} {R : List api_Row} (h : ∀ x ∈ R, cm x.Key r.Key = true) : putL r R = R ++ [r] := by
 unfold putL
 have e1 : lo r.Key R = R := filter_all h
 have e2 : hi r.Key R = [] := filter_none fun x hx => cm_asym (h x hx)
 rw [e1, e2]
def sortL (X : List api_Row) : List api_Row := X.foldl (fun o r => putL r o) []
theorem sortL_snoc (X : List api_Row) (r : api_Row) : sortL (X ++ [r]) = putL r (sortL X) := by simp [sortL]
theorem sortL_take {R : List api_Row} (h : Srt R) : ∀ n, n ≤ R.length → sortL (R.take n) = R.take n
 | 0, _ => rfl
 | n + 1, hn => by
  rw [take_one (by omega), sortL_snoc, sortL_take h n (by omega)]
  apply put_snoc
  intro x hx
  obtain ⟨q, hq, rfl⟩ := List.getElem_of_mem hx
  have hq' : q < n := by simp at hq; omega
  rw [List.getElem_take]
  exact List.pairwise_iff_getElem.1 h q n (by omega) (by omega) hq'
theorem sortL_self {R : List api_Row} (h : Srt R) : sortL R = R := by
 have := sortL_take h R.length (Nat.le_refl _)
 rwa [List.take_length] at this
theorem sortL_srt : ∀ X : List api_Row, Srt (sortL X) := by
 intro X
 have key : ∀ (X o : List api_Row), Srt o → Srt (X.foldl (fun o r => putL r o) o) := by
  intro X
  induction X with
  | nil => intro o h; exact h
  | cons r X ih => intro o h; exact ih _ (putL_srt h)
 exact key X [] List.Pairwise.nil
theorem put_len_le {r : api_Row} {R : List api_Row} (hs : Srt R) : (putL r R).length ≤ R.length + 1 := by
 rcases (hs.split r.Key).2 with q | ⟨x, q, _⟩
 ·rw [put_len_new hs q]; omega
 ·rw [put_len_has hs q]; omega
theorem sortL_rl {X : List api_Row} (h : RL X) : (sortL X).length ≤ X.length ∧ ∀ r ∈ sortL X, RB r := by
 have key : ∀ (X o : List api_Row), Srt o → (∀ r ∈ X, RB r) → (∀ r ∈ o, RB r) → (X.foldl (fun o r => putL r o) o).length ≤ o.length + X.length ∧ ∀ r ∈ X.foldl (fun o r => putL r o) o, RB r := by
  intro X
  induction X with
  | nil => intro o _ _ h; exact ⟨Nat.le_refl _, h⟩
  | cons r X ih =>
   intro o hs h1 h2
   obtain ⟨g1, g2⟩ := ih (putL r o) (putL_srt hs) (fun x hx => h1 x (List.mem_cons_of_mem _ hx)) (fun x hx => by
    rcases putL_mem hx with rfl | hx
    ·exact h1 x (by simp)
    ·exact h2 x hx)
   have := put_len_le (r := r) hs
   exact ⟨by rw [List.foldl_cons, List.length_cons]; omega, g2⟩
 have := key X [] List.Pairwise.nil h.2 (fun r hr => by cases hr)
 simp only [List.length_nil, Nat.zero_add] at this
 exact this
theorem place_eq {k : Nat} (hk : Fuel k) {X out : List api_Row} (hX : RL X) (ho : Srt out) (hol : out.length ≤ 4194304) (hob : ∀ r ∈ out, RB r) {i : Nat} (hi : i < X.length) :
  loop (fun (s_ : Int) => haulagelaw10_sorted.b4 k X out (i : Int) s_) k 0 = some ((lo X[i].Key out).length : Int) := by
 have h24 : 1099511627776 ≤ k := hk
 have hXl := hX.1
 have hlen := lo_len (key := X[i].Key) ho
 have L := loop_inv (f := fun (s_ : Int) => haulagelaw10_sorted.b4 k X out (i : Int) s_) (I := fun q s => s = (q : Int)) (P := fun x => x = ((lo X[i].Key out).length : Int)) (N := (lo X[i].Key out).length) ?_ ?_ (lo X[i].Key out).length 0 0 k rfl (by omega) (by omega)
 ·obtain ⟨x, e, rfl⟩ := L
  exact e
 ·rintro q _ hq rfl
  left
  have hqo : q < out.length := by omega
  have ec := comes_eq hk out[q].Key X[i].Key (by have := (hob _ (List.getElem_mem hqo)).1; omega)
  rw [idx_lt ho hqo, decide_eq_true hq] at ec
  simp only [haulagelaw10_sorted.b4]
  rw [if_pos (by omega), if_pos (by omega), if_pos (by omega), rd_eq hqo, rd_eq hi, bind_eq ec]
  unfold haulagelaw10_sorted.j3
  rw [if_pos rfl, wrS q (by omega)]
  exact ⟨_, rfl, rfl⟩
 ·rintro _ rfl
  simp only [haulagelaw10_sorted.b4]
  by_cases c : (lo X[i].Key out).length < out.length
  ·have ec := comes_eq hk out[(lo X[i].Key out).length].Key X[i].Key (by have := (hob _ (List.getElem_mem c)).1; omega)
   rw [idx_lt ho c, decide_eq_false (by omega)] at ec
   rw [if_pos (by omega), if_pos (by omega), if_pos (by omega), rd_eq c, rd_eq hi, bind_eq ec]
   unfold haulagelaw10_sorted.j3
   rw [if_neg (by simp)]
   exact ⟨_, rfl, rfl⟩
  ·rw [if_neg (by omega)]
   unfold haulagelaw10_sorted.j3
   rw [if_neg (by simp)]
   exact ⟨_, rfl, rfl⟩
theorem sorted_eq {k : Nat} (hk : Fuel k) {X : List api_Row} (hX : RL X) : haulagelaw10_sorted.f k X = some (sortL X) := by
 have h24 : 1099511627776 ≤ k := hk
 have hXl := hX.1
 unfold haulagelaw10_sorted.f
 have L := loop_inv (f := fun (s_ : (List api_Row) × Int) => haulagelaw10_sorted.b7 k X s_.1 s_.2) (I := fun i s => s.1 = sortL (X.take i) ∧ s.2 = (i : Int)) (P := fun x => x = sortL X) (N := X.length) ?_ ?_ X.length 0 ([], 0) k ⟨rfl, rfl⟩ (by omega) (by omega)
 ·obtain ⟨x, e, rfl⟩ := L
  rw [bind_eq e]; rfl
 ·rintro i ⟨out, j⟩ hi ⟨ho, hj⟩
  left
  simp only at ho hj; subst hj
  have hTk : RL (X.take i) := ⟨by simp; omega, fun r hr => hX.2 r (List.mem_of_mem_take hr)⟩
  have hso : Srt out := by rw [ho]; exact sortL_srt _
  obtain ⟨hol, hob⟩ := sortL_rl hTk
  rw [← ho] at hol hob
  have hol' : out.length ≤ 4194304 := by have := hTk.1; omega
  have hlen := lo_len (key := X[i].Key) hso
  have hn : sortL (X.take (i + 1)) = putL X[i] out := by rw [take_one hi, sortL_snoc, ← ho]
  simp only [haulagelaw10_sorted.b7]
  rw [if_pos (by omega), bind_eq (place_eq hk hX hso hol' hob hi)]
  unfold haulagelaw10_sorted.j5
  have fin : (haulagelaw10_sorted.j6 X out (i : Int) ((lo X[i].Key out).length : Int) (has X[i].Key out)) = some (.next (putL X[i] out, ((i + 1 : Nat) : Int))) := by
   unfold haulagelaw10_sorted.j6
   rcases at_lo (key := X[i].Key) hso with ⟨h1, h2, h3⟩ | ⟨x, h1, hx, h2, q, h3⟩
   ·have hh : ¬ has X[i].Key out = true := by unfold has; rw [h1]; simp
    have ll := congrArg List.length h2
    simp only [List.length_append] at ll
    rw [if_neg hh, if_pos (by omega), if_pos (by simp only [List.length_take]; omega), if_pos (by omega), if_pos (by simp only [List.length_append, List.length_take, List.length_nil, List.length_singleton]; omega), if_pos (by omega), if_pos (by simp only [List.length_append, List.length_take, List.length_drop, List.length_nil, List.length_singleton, Int.toNat_natCast]; omega), wrS i (by omega), rd_eq hi]
    simp only [Int.toNat_natCast]
    rw [(td h2).1, (td h2).2]
    unfold putL
    simp
   ·have hh : has X[i].Key out = true := by unfold has; rw [h1]; simp
    rw [if_pos hh, if_pos (by omega), if_pos (by omega), wrS i (by omega), rd_eq hi]
    simp only [Int.toNat_natCast]
    rw [(sx h2 _).1]
    rfl
  by_cases c : (lo X[i].Key out).length < out.length
  ·have es := same_eq hk out[(lo X[i].Key out).length].Key X[i].Key (.inl (by have := (hob _ (List.getElem_mem c)).1; omega))
   have hsame : decide (out[(lo X[i].Key out).length].Key = X[i].Key) = has X[i].Key out := by
    unfold has
    rcases at_lo (key := X[i].Key) hso with ⟨h1, h2, h3⟩ | ⟨x, h1, hx, h2, q, h3⟩
    ·rw [h1]; simpa using h3 c
    ·rw [h1, h3]; simpa using hx
   rw [hsame] at es
   rw [if_pos (by omega), if_pos (by omega), if_pos (by omega), rd_eq c, rd_eq hi, bind_eq es, fin]
   exact ⟨_, rfl, hn.symm, rfl⟩
  ·have hh : has X[i].Key out = false := by
    unfold has
    rcases at_lo (key := X[i].Key) hso with ⟨h1, h2, h3⟩ | ⟨x, h1, hx, h2, q, h3⟩
    ·rw [h1]; rfl
    ·omega
   rw [hh] at fin
   rw [if_neg (by omega), fin]
   exact ⟨_, rfl, hn.symm, rfl⟩
 ·rintro ⟨out, j⟩ ⟨ho, hj⟩
  simp only at ho hj; subst hj
  simp only [haulagelaw10_sorted.b7]
  rw [if_neg (by omega)]
  rw [List.take_length] at ho
  exact ⟨_, rfl, ho⟩
abbrev CL (C : List haulagelaw10_Change) : Prop := C.length ≤ 2097152 ∧ ∀ c ∈ C, RB c.Row
def stepR (R : List api_Row) (c : haulagelaw10_Change) : List api_Row := if c.Goes = true then delL c.Row.Key R else putL c.Row R
def runR (C : List haulagelaw10_Change) : List api_Row := C.foldl stepR []
theorem has_len {key : List Int} {R : List api_Row} (hs : Srt R) : has key R = decide (((delL key R).length : Int) < (R.length : Int)) := by
 have h := lo_len (key := key) hs
 rw [delL_eq hs, List.length_append]
 unfold has
 rcases (hs.split key).2 with q | ⟨x, q, _⟩
 ·rw [q] at h ⊢
  simp only [List.length_nil] at h
  rw [decide_eq_false (by omega)]; rfl
 ·rw [q] at h ⊢
  simp only [List.length_cons, List.length_nil] at h
  rw [decide_eq_true (by omega)]; rfl
theorem left_eq {k : Nat} (hk : Fuel k) {C : List haulagelaw10_Change} (hC : CL C) {i : Nat} (hi : i < C.length) {R : List api_Row} (hR : RL R) :
  loop (fun (s_ : (List api_Row) × Int) => haulagelaw10_grown.b4 k C R (i : Int) s_.1 s_.2) k ([], 0) = some (delL C[i].Row.Key R) := by
 have h24 : 1099511627776 ≤ k := hk
 have hRl := hR.1
 have L := loop_inv (f := fun (s_ : (List api_Row) × Int) => haulagelaw10_grown.b4 k C R (i : Int) s_.1 s_.2) (I := fun q s => s.1 = delL C[i].Row.Key (R.take q) ∧ s.2 = (q : Int)) (P := fun x => x = delL C[i].Row.Key R) (N := R.length) ?_ ?_ R.length 0 ([], 0) k ⟨rfl, rfl⟩ (by omega) (by omega)
 ·obtain ⟨x, e, rfl⟩ := L
  exact e
 ·rintro q ⟨l, j⟩ hq ⟨hl, hj⟩
  left
  simp only at hl hj; subst hj
  have es := same_eq hk R[q].Key C[i].Row.Key (.inl (by have := (hR.2 _ (List.getElem_mem hq)).1; omega))
  have hll : l.length ≤ q := by
   rw [hl]
   refine Nat.le_trans (List.length_filter_le ..) ?_
   simp; omega
  have e2 : delL C[i].Row.Key (R.take (q + 1)) = if R[q].Key = C[i].Row.Key then l else l ++ [R[q]] := by
   rw [take_one hq, hl]
   unfold delL
   rw [List.filter_append]
   by_cases c : R[q].Key = C[i].Row.Key
   ·rw [if_pos c, List.filter_cons_of_neg (by simpa using c)]; simp
   ·rw [if_neg c, List.filter_cons_of_pos (by simpa using c)]; rfl
  simp only [haulagelaw10_grown.b4]
  rw [if_pos (by omega), if_pos (by omega), rd_eq hq, rd_eq hi, bind_eq es]
  by_cases c : R[q].Key = C[i].Row.Key
  ·rw [if_pos (by simpa using c), wrS q (by omega)]
   exact ⟨_, rfl, by rw [e2, if_pos c], rfl⟩
  ·rw [if_neg (by simpa using c), if_pos (by omega), if_pos (by simp only [List.length_singleton]; omega), wrS q (by omega)]
   exact ⟨_, rfl, by rw [e2, if_neg c], rfl⟩
 ·rintro ⟨l, j⟩ ⟨hl, hj⟩
  simp only at hl hj; subst hj
  simp only [haulagelaw10_grown.b4]
  rw [if_neg (by omega)]
  rw [List.take_length] at hl
  exact ⟨_, rfl, hl⟩
theorem grown_eq {k : Nat} (hk : Fuel k) {bits : Int} (hb : okb bits) {C : List haulagelaw10_Change} (hC : CL C) : ∃ t, haulagelaw10_grown.f k C bits = some (some t, runR C) ∧ MI k bits t (runR C) ∧ RL (runR C) ∧ Srt (runR C) ∧ (runR C).length ≤ C.length := by
 have h24 : 1099511627776 ≤ k := hk
 have hCl := hC.1
 obtain ⟨t0, e0, M0⟩ := New_eq hk hb (R := []) ⟨by simp, fun r hr => by cases hr⟩ List.Pairwise.nil
 unfold haulagelaw10_grown.f haulagelaw10_grown.j1
 rw [bind_eq e0]
 dsimp only
 rw [if_pos rfl, if_neg (by simp)]
 have L := loop_inv (f := fun (s_ : (Option Mer) × (List api_Row) × Int) => haulagelaw10_grown.b6 k C s_.1 s_.2.1 s_.2.2) (I := fun i s => s.2.1 = runR (C.take i) ∧ s.2.2 = (i : Int) ∧ (∃ t, s.1 = some t ∧ MI k bits t s.2.1) ∧ RL s.2.1 ∧ Srt s.2.1 ∧ s.2.1.length ≤ i) (P := fun x => ∃ t, x = .inl (some t, runR C) ∧ MI k bits t (runR C) ∧ RL (runR C) ∧ Srt (runR C) ∧ (runR C).length ≤ C.length) (N := C.length) ?_ ?_ C.length 0 (some t0, [], 0) k ⟨rfl, rfl, ⟨t0, rfl, M0⟩, ⟨by simp, fun r hr => by cases hr⟩, List.Pairwise.nil, Nat.le_refl _⟩ (by omega) (by omega)
 ·obtain ⟨x, e, t, rfl, h⟩ := L
  rw [bind_eq e]
  exact ⟨t, rfl, h⟩
 ·rintro i ⟨ot, R, j⟩ hi ⟨hr, hj, ⟨t, ht, hM⟩, hR, hs, hl⟩
  left
  simp only at hr hj ht hM hR hs hl; subst hj ht
  have hc := hC.2 _ (List.getElem_mem hi)
  have hkl : C[i].Row.Key.length ≤ 1000000000 := by have := hc.1; omega
  have hn : runR (C.take (i + 1)) = stepR R C[i] := by rw [hr]; unfold runR; rw [take_one hi, List.foldl_append]; rfl
  simp only [haulagelaw10_grown.b6]
  rw [if_pos (by omega), if_pos (by omega), rd_eq hi]
  by_cases c : C[i].Goes = true
  ·have hst : stepR R C[i] = delL C[i].Row.Key R := by unfold stepR; rw [if_pos c]
   obtain ⟨t', et, hM', hR', hs'⟩ := Delete_eq hk hb hM hR hs hkl hc.2.2
   rw [if_pos c, bind_eq (left_eq hk hC hi hR)]
   unfold haulagelaw10_grown.j5
   rw [rd_eq hi, bind_eq et]
   dsimp only
   rw [if_pos (by rw [has_len hs]; simp), wrS i (by omega)]
   exact ⟨_, rfl, by rw [hn, hst], rfl, ⟨t', rfl, hM'⟩, hR', hs', Nat.le_trans (List.length_filter_le ..) (by omega)⟩
  ·have hst : stepR R C[i] = putL C[i].Row R := by unfold stepR; rw [if_neg c]
   obtain ⟨t', et, hM', hR', hs'⟩ := Put_eq hk hb hM hR (by omega) hs hc
   have hRX : RL (R ++ [C[i].Row]) := ⟨by simp; omega, fun x hx => by
    rcases List.mem_append.1 hx with hx | hx
    ·exact hR.2 x hx
    ·rw [List.mem_singleton.1 hx]; exact hc⟩
   have eS : haulagelaw10_sorted.f k (R ++ [C[i].Row]) = some (putL C[i].Row R) := by rw [sorted_eq hk hRX, sortL_snoc, sortL_self hs]
   rw [if_neg c, bind_eq et, if_pos (by simp only [List.length_singleton]; omega), bind_eq eS, wrS i (by omega)]
   have := put_len_le (r := C[i].Row) hs
   exact ⟨_, rfl, by rw [hn, hst], rfl, ⟨t', rfl, hM'⟩, hR', hs', by show (putL C[i].Row R).length ≤ _; omega⟩
 ·rintro ⟨ot, R, j⟩ ⟨hr, hj, ⟨t, ht, hM⟩, hR, hs, hl⟩
  simp only at hr hj ht hM hR hs hl; subst hj ht
  rw [List.take_length] at hr
  simp only [haulagelaw10_grown.b6]
  rw [if_neg (by omega), hr]
  rw [hr] at hM hR hs hl
  exact ⟨_, rfl, t, rfl, hM, hR, hs, hl⟩
theorem owned_eq {k : Nat} (hk : Fuel k) {R : List api_Row} (hR : RL R) : merkle_owned.f k R = some R := by
 have h24 : 1099511627776 ≤ k := hk
 have hRl := hR.1
 unfold merkle_owned.f
 have L := loop_inv (f := fun (s_ : (List api_Row) × Int) => merkle_owned.b1 R s_.1 s_.2) (I := fun q s => s.1 = R.take q ∧ s.2 = (q : Int)) (P := fun x => x = R) (N := R.length) ?_ ?_ R.length 0 ([], 0) k ⟨rfl, rfl⟩ (by omega) (by omega)
 ·obtain ⟨x, e, rfl⟩ := L
  rw [bind_eq e]; rfl
 ·rintro q ⟨l, j⟩ hq ⟨hl, hj⟩
  left
  simp only at hl hj; subst hj
  have hll : l.length = q := by rw [hl]; simp; omega
  simp only [merkle_owned.b1]
  rw [if_pos (by omega), if_pos (by omega), rd_eq hq, bind_eq (own_RB (hR.2 _ (List.getElem_mem hq))), if_pos (by simp only [List.length_singleton]; omega), wrS q (by omega)]
  exact ⟨_, rfl, by rw [take_one hq, hl], rfl⟩
 ·rintro ⟨l, j⟩ ⟨hl, hj⟩
  simp only at hl hj; subst hj
  simp only [merkle_owned.b1]
  rw [if_neg (by omega)]
  rw [List.take_length] at hl
  exact ⟨_, rfl, hl⟩
def sib (n : Nat) : Nat := if n % 2 = 0 then n + 1 else n - 1
structure PathOk (D : List Int) (b : Nat) (L : List Int) : Prop where
 len : L.length = 8
 at_ : ∀ j : Nat, j < 8 → rd L (j : Int) = rd D ((sib ((256 + b) / 2 ^ j) : Nat) : Int)
def zeroR : api_Row := api_Row.mk [] [] 0
def told (key : List Int) (R : List api_Row) : api_Row × Bool := match md key R with | [] => (zeroR, false) | x :: _ => (x, true)
theorem Get_told {k : Nat} (hk : Fuel k) {bits : Int} {t : Mer} {R : List api_Row} (h : MI k bits t R) (hR : RL R) (hs : Srt R) {key : List Int} (hkl : key.length ≤ 1000000000) (hkb : brange key) :
  merkle_Tree_Get.f k (some t) key = some (told key R) := by
 rw [Get_eq hk h hR hs hkl hkb]
 unfold told
 cases md key R <;> rfl
end Go.Proofs.Ytdnaoecfnjalgaa.G
namespace Go.Proofs.Ytdnaoecfnjalgaa.G
open Go
set_option maxRecDepth 100000 in
theorem awake_true : haulagelaw10_awake.f 1099511627776 = some true := by kernel_rfl
end Go.Proofs.Ytdnaoecfnjalgaa.G
namespace Go.Proofs.Ytdnaoecfnjalgaa.G
open Go
set_option linter.unusedVariables false
set_option linter.unusedSimpArgs false
theorem round_eq (w : Int) : ∃ n, haulagelaw10_round.f w 64 = some n ∧ 0 ≤ n ∧ n < 64 := by
 have h1 := Int.tmod_lt_of_pos w (show (0 : Int) < 64 by decide)
 have h2 : -64 < Int.tmod w 64 := Int.lt_tmod_of_pos w (by decide)
 unfold haulagelaw10_round.f
 rw [if_pos (by decide)]
 split
 ·exact ⟨_, rfl, by rw [wr (by omega) (by omega)]; omega, by rw [wr (by omega) (by omega)]; omega⟩
 ·exact ⟨_, rfl, by omega, h1⟩
theorem bits_eq (w : Int) : ∃ n, haulagelaw10_round.f w 64 = some n ∧ okb (IntKind.i64.wrap (1 + n)) := by
 obtain ⟨n, e, h0, h1⟩ := round_eq w
 exact ⟨n, e, by rw [wr (by omega) (by omega)]; omega, by rw [wr (by omega) (by omega)]; omega⟩
theorem told_cases (key : List Int) {R : List api_Row} (hR : RL R) (hs : Srt R) : (told key R = (zeroR, false) ∧ has key R = false ∧ ∀ r ∈ R, r.Key ≠ key) ∨ ∃ x, told key R = (x, true) ∧ has key R = true ∧ x ∈ R ∧ x.Key = key ∧ ∀ r ∈ R, r.Key = key → r = x := by
 rcases (hs.split key).2 with q | ⟨x, q, hx⟩
 ·refine .inl ⟨by unfold told; rw [q], by unfold has; rw [q]; rfl, fun r hr e => ?_⟩
  have : r ∈ md key R := List.mem_filter.2 ⟨hr, by simpa using e⟩
  rw [q] at this; cases this
 ·have hm : x ∈ md key R := by rw [q]; exact List.mem_singleton.2 rfl
  refine .inr ⟨x, by unfold told; rw [q], by unfold has; rw [q]; rfl, (List.mem_filter.1 hm).1, hx, fun r hr e => ?_⟩
  have : r ∈ md key R := List.mem_filter.2 ⟨hr, by simpa using e⟩
  rw [q] at this
  exact List.mem_singleton.1 this
end Go.Proofs.Ytdnaoecfnjalgaa.G
namespace Go.Proofs.Ytdnaoecfnjalgaa.G
open Go Go.ChangeShapes Go.WideShapes
set_option linter.unusedVariables false
theorem key_br {xs : List Int} (h : ∀ n ∈ xs, (Lit.int .u8 n).wf = true) : brange xs := fun n hn => byteok.range (h n hn)
theorem row_RB {r : api_Row} {s : Nat} (hs : wt_api_Row r ≤ s) (hb : s ≤ 1048576) (h : ok_api_Row r) : RB r := by
 have h1 : r.Key.length + r.Value.length + 1 ≤ s := hs
 exact ⟨by omega, by omega, key_br h.1⟩
theorem arg_CL {C : List haulagelaw10_Change} (hs : (C.map wt_haulagelaw10_Change).sum ≤ 1048576) (h : ∀ o ∈ C, ok_haulagelaw10_Change o) : CL C := by
 have hl := len_sum wt_haulagelaw10_Change wt_haulagelaw10_Change_pos C
 refine ⟨by omega, fun c hc => ?_⟩
 have h1 := mem_sum wt_haulagelaw10_Change hc
 have h2 : wt_api_Row c.Row + 1 ≤ (C.map wt_haulagelaw10_Change).sum := h1
 exact row_RB (s := (C.map wt_haulagelaw10_Change).sum) (by omega) hs (h c hc)
end Go.Proofs.Ytdnaoecfnjalgaa.G
namespace Go.Proofs.Ytdnaoecfnjalgaa.G
open Go
set_option linter.unusedVariables false
set_option linter.unusedSimpArgs false
theorem flt_or {α : Type} (p q : α → Bool) : ∀ l : List α, (∀ x ∈ l, p x = true → q x = false) → (l.filter p ++ l.filter q).Perm (l.filter fun x => p x || q x)
 | [], _ => .refl _
 | x :: l, h => by
  have ih := flt_or p q l fun y hy => h y (List.mem_cons_of_mem _ hy)
  have hx := h x (List.mem_cons_self ..)
  simp only [List.filter_cons]
  cases hp : p x with
  | true =>
   rw [hx hp]
   simpa using ih.cons x
  | false =>
   cases hq : q x with
   | false => simpa using ih
   | true =>
    simp only [Bool.or_true, if_true]
    exact (List.perm_middle).trans (ih.cons x)
theorem fbk_perm (R : List api_Row) : ∀ n, ((List.range n).flatMap fun b => fbk b R).Perm (R.filter fun r => decide (bkt r.Key < n))
 | 0 => by simp
 | n + 1 => by
  rw [List.range_succ, List.flatMap_append, List.flatMap_singleton]
  refine ((fbk_perm R n).append_right _).trans ?_
  refine (flt_or _ _ R fun x _ h => ?_).trans (List.Perm.of_eq ?_)
  ·simp only [decide_eq_true_eq] at h
   simp only [decide_eq_false_iff_not]; omega
  ·congr 1
   funext x
   rw [← Bool.decide_or]
   exact decide_eq_decide.2 (by omega)
theorem rows_map {S : List (List api_Row)} {R : List api_Row} (h : S.length = 256) (hB : ∀ b : Nat, b < 256 → rd S (b : Int) = fbk b R) : S = (List.range 256).map fun b => fbk b R := by
 apply List.ext_getElem
 ·simp [h]
 ·intro n h1 h2
  have := hB n (by omega)
  rw [rd_eq h1] at this
  simpa using this
theorem rows_perm {S : List (List api_Row)} {R : List api_Row} (h : S.length = 256) (hB : ∀ b : Nat, b < 256 → rd S (b : Int) = fbk b R) : S.flatten.Perm R := by
 rw [rows_map h hB, ← List.flatMap_def]
 refine (fbk_perm R 256).trans (List.Perm.of_eq (filter_all fun x _ => ?_))
 have := bkt_lt x.Key
 simpa using this
theorem flen_le {S : List (List api_Row)} (h : ∀ x ∈ S, x.length ≤ 4194304) : ∀ n, (S.take n).flatten.length ≤ n * 4194304 := by
 intro n
 induction n with
 | zero => simp
 | succ n ih =>
  by_cases c : n < S.length
  ·rw [take_one c, List.flatten_append, List.length_append]
   have := h _ (List.getElem_mem c)
   simp only [List.flatten_cons, List.flatten_nil, List.append_nil]
   omega
  ·rw [List.take_of_length_le (by omega)] at ih ⊢; exact Nat.le_trans ih (Nat.mul_le_mul_right _ (Nat.le_succ n))
theorem Concat_eq {k : Nat} (hk : Fuel k) {S : List (List api_Row)} (h1 : S.length ≤ 1000) (h2 : ∀ x ∈ S, x.length ≤ 4194304) : slices_ConcathaulageapiRowhaulageapiRow.f k S = some S.flatten := by
 have h24 : 1099511627776 ≤ k := hk
 unfold slices_ConcathaulageapiRowhaulageapiRow.f
 have L := loop_inv (f := fun (s_ : Int × Int) => slices_ConcathaulageapiRowhaulageapiRow.b1 S s_.1 s_.2) (I := fun q s => s.1 = ((S.take q).flatten.length : Int) ∧ s.2 = (q : Int)) (P := fun x => x = (S.flatten.length : Int)) (N := S.length) ?_ ?_ S.length 0 (0, 0) k ⟨rfl, rfl⟩ (by omega) (by omega)
 ·obtain ⟨x, e, rfl⟩ := L
  have hF := flen_le h2 S.length
  rw [List.take_length] at hF
  rw [bind_eq e]
  unfold slices_ConcathaulageapiRowhaulageapiRow.j2 slices_GrowRow.f
  rw [if_pos ⟨by omega, by omega, rfl⟩, Option.bind_some]
  have M := loop_inv (f := fun (s_ : (List api_Row) × Int) => slices_ConcathaulageapiRowhaulageapiRow.b3 S s_.1 s_.2) (I := fun q s => s.1 = (S.take q).flatten ∧ s.2 = (q : Int)) (P := fun x => x = S.flatten) (N := S.length) ?_ ?_ S.length 0 ([], 0) k ⟨rfl, rfl⟩ (by omega) (by omega)
  ·obtain ⟨x, e, rfl⟩ := M
   rw [bind_eq e]; rfl
  ·rintro q ⟨l, j⟩ hq ⟨hl, hj⟩
   left
   simp only at hl hj; subst hj
   have hll := flen_le h2 q
   rw [← hl] at hll
   have hx := h2 _ (List.getElem_mem hq)
   simp only [slices_ConcathaulageapiRowhaulageapiRow.b3]
   rw [if_pos (by omega), if_pos (by omega), rd_eq hq, if_pos (by omega), wrS q (by omega)]
   exact ⟨_, rfl, by rw [take_one hq, List.flatten_append, hl]; simp, rfl⟩
  ·rintro ⟨l, j⟩ ⟨hl, hj⟩
   simp only at hl hj; subst hj
   simp only [slices_ConcathaulageapiRowhaulageapiRow.b3]
   rw [if_neg (by omega)]
   rw [List.take_length] at hl
   exact ⟨_, rfl, hl⟩
 ·rintro q ⟨l, j⟩ hq ⟨hl, hj⟩
  left
  simp only at hl hj; subst hj
  have hll := flen_le h2 q
  have hx := h2 _ (List.getElem_mem hq)
  have hw : IntKind.i64.wrap (l + (S[q].length : Int)) = ((S.take (q + 1)).flatten.length : Int) := by
   rw [wr (by omega) (by omega), take_one hq, List.flatten_append, List.length_append, hl]; simp
  simp only [slices_ConcathaulageapiRowhaulageapiRow.b1]
  rw [if_pos (by omega), if_pos (by omega), rd_eq hq, hw, if_neg (by omega), wrS q (by omega)]
  exact ⟨_, rfl, rfl, rfl⟩
 ·rintro ⟨l, j⟩ ⟨hl, hj⟩
  simp only at hl hj; subst hj
  simp only [slices_ConcathaulageapiRowhaulageapiRow.b1]
  rw [if_neg (by omega)]
  rw [List.take_length] at hl
  exact ⟨_, rfl, hl⟩
theorem Srt.nodup {R : List api_Row} (h : Srt R) : (R.map (·.Key)).Nodup := by
 unfold List.Nodup
 rw [List.pairwise_map]
 exact h.imp fun {a b} h => cm_ne h
theorem Rows_eq {k : Nat} (hk : Fuel k) {bits : Int} {t : Mer} {R : List api_Row} (h : MI k bits t R) (hR : RL R) (hs : Srt R) : merkle_Tree_Rows.f k (some t) = some R := by
 have hp := rows_perm h.rl h.rows
 have hF : RL t.rows.flatten := ⟨by rw [hp.length_eq]; exact hR.1, fun r hr => hR.2 r (hp.mem_iff.1 hr)⟩
 have hn : (t.rows.flatten.map (·.Key)).Nodup := (hp.map _).nodup_iff.2 hs.nodup
 have hx : ∀ x ∈ t.rows, x.length ≤ 4194304 := fun x hx => by
  rw [rows_map h.rl h.rows, List.mem_map] at hx
  obtain ⟨b, _, rfl⟩ := hx
  exact Nat.le_trans (fb_len b R) hR.1
 unfold merkle_Tree_Rows.f
 rw [if_neg (by simp), Option.bind_some, bind_eq (Concat_eq hk (by rw [h.rl]; decide) hx), bind_eq (owned_eq hk hF)]
 unfold slices_SortRow.f
 rw [if_pos ⟨fun r hr => hF.br r hr, hn, by have := hF.1; omega⟩, Option.bind_some, ← srtK_eq hn hp.symm hs]
theorem sameRows_eq {k : Nat} (hk : Fuel k) {R : List api_Row} (hR : RL R) : haulagelaw10_sameRows.f k R R = some true := by
 have h24 : 1099511627776 ≤ k := hk
 have hRl := hR.1
 unfold haulagelaw10_sameRows.f
 rw [if_pos rfl]
 have L := loop_inv (f := fun (s_ : Int) => haulagelaw10_sameRows.b1 k R R s_) (I := fun q s => s = (q : Int)) (P := fun x => x = .inl ()) (N := R.length) ?_ ?_ R.length 0 0 k rfl (by omega) (by omega)
 ·obtain ⟨x, e, rfl⟩ := L
  rw [bind_eq e]; rfl
 ·rintro q j hq hj
  left
  subst hj
  have hr := hR.2 _ (List.getElem_mem hq)
  simp only [haulagelaw10_sameRows.b1]
  rw [if_pos (by omega), if_pos (by omega), if_pos (by omega), rd_eq hq, bind_eq (sameRow_eq hk _ _ (by have := hr.1; omega) (by have := hr.2.1; omega)), if_pos (by simp), wrS q (by omega)]
  exact ⟨_, rfl, rfl⟩
 ·rintro j hj
  subst hj
  simp only [haulagelaw10_sameRows.b1]
  rw [if_neg (by omega)]
  exact ⟨_, rfl, rfl⟩
theorem Digest_zero {t : Mer} {n : Int} (h : n < 1 ∨ 512 ≤ n) : merkle_Tree_Digest.f (some t) n = some 0 := by
 unfold merkle_Tree_Digest.f merkle_Tree_Digest.j1
 rw [if_neg (by simp)]
 by_cases c : n < 1
 ·rw [if_pos c]; rfl
 ·rw [if_neg c, decide_eq_true (by omega)]; rfl
theorem told_at {R : List api_Row} (hR : RL R) (hs : Srt R) {i : Nat} (hi : i < R.length) : told R[i].Key R = (R[i], true) := by
 have hm := List.getElem_mem hi
 rcases told_cases R[i].Key hR hs with ⟨_, _, h⟩ | ⟨x, h, _, _, _, h2⟩
 ·exact absurd rfl (h _ hm)
 ·rw [h, h2 _ hm rfl]
def bkn (R : List api_Row) (n : Nat) : List api_Row := if n < 256 then [] else fbk (n - 256) R
theorem bkn_snoc (n : Nat) (l : List api_Row) (r : api_Row) : bkn (l ++ [r]) n = if n = 256 + bkt r.Key then bkn l n ++ [r] else bkn l n := by
 unfold bkn
 by_cases c : n < 256
 ·rw [if_pos c, if_pos c, if_neg (by omega)]
 ·rw [if_neg c, if_neg c, fb_snoc]
  by_cases e : bkt r.Key = n - 256
  ·rw [if_pos e, if_pos (by omega)]
  ·rw [if_neg e, if_neg (by omega)]
theorem in_eq {k : Nat} (hk : Fuel k) {bits : Int} {t : Mer} {R : List api_Row} (h : MI k bits t R) (hR : RL R) (hs : Srt R) : ∃ S, loop (fun (s_ : Int × (List (List api_Row))) => haulagelaw10_MerkleRows.b4 k (some t, R) s_.1 s_.2) k (0, (List.replicate 512 ([] : List api_Row))) = some (.inl S) ∧ S.length = 512 ∧ ∀ n : Nat, n < 512 → rd S (n : Int) = bkn R n := by
 have h24 : 1099511627776 ≤ k := hk
 have hRl := hR.1
 have L := loop_inv (f := fun (s_ : Int × (List (List api_Row))) => haulagelaw10_MerkleRows.b4 k (some t, R) s_.1 s_.2) (I := fun i s => s.1 = (i : Int) ∧ s.2.length = 512 ∧ ∀ b : Nat, b < 512 → rd s.2 (b : Int) = bkn (R.take i) b) (P := fun x => ∃ S, x = .inl S ∧ S.length = 512 ∧ ∀ b : Nat, b < 512 → rd S (b : Int) = bkn R b) (N := R.length) ?_ ?_ R.length 0 (0, List.replicate 512 ([] : List api_Row)) k ⟨rfl, List.length_replicate .., fun b hb => ?_⟩ (by omega) (by omega)
 ·obtain ⟨x, e, S, rfl, h1, h2⟩ := L
  exact ⟨S, e, h1, h2⟩
 ·rintro i ⟨j, S⟩ hi ⟨hj, hS, hB⟩
  left
  simp only at hj hS hB; subst hj
  have hr := hR.2 _ (List.getElem_mem hi)
  have hkl : R[i].Key.length ≤ 1000000000 := by have := hr.1; omega
  have hl := bkt_lt R[i].Key
  have w1 : (256 : Int) + (bkt R[i].Key : Int) = ((256 + bkt R[i].Key : Nat) : Int) := by omega
  have hlen : (rd S ((256 + bkt R[i].Key : Nat) : Int)).length ≤ 4194304 := by
   rw [hB _ (by omega)]; unfold bkn; rw [if_neg (by omega)]
   have := fb_len (256 + bkt R[i].Key - 256) (R.take i); simp only [List.length_take] at this; omega
  have eb := bucket_law hk hkl
  rw [w1] at eb
  have eG := Get_told hk h hR hs hkl hr.2.2
  rw [told_at hR hs hi] at eG
  simp only [haulagelaw10_MerkleRows.b4]
  rw [if_pos (by omega), if_pos (by omega), rd_eq hi, bind_eq eb, if_pos (by omega), if_pos (by omega), if_pos (by simp only [List.length_singleton]; omega), if_pos (by omega), bind_eq eG, if_pos rfl, if_pos (by omega), bind_eq (sameRow_eq hk R[i] R[i] (by have := hr.1; omega) (by have := hr.2.1; omega))]
  unfold haulagelaw10_MerkleRows.j3
  rw [if_neg (by simp), wrS i (by omega)]
  refine ⟨_, rfl, rfl, by simpa using hS, fun b hb => ?_⟩
  dsimp only
  rw [rd_eq hi, Int.toNat_natCast, rd_set _ _ _ _ (by omega), take_one hi, bkn_snoc]
  by_cases c : b = 256 + bkt R[i].Key
  ·rw [if_pos c, if_pos c, hB _ (by omega), c]
  ·rw [if_neg c, if_neg c]; exact hB b hb
 ·rintro ⟨j, S⟩ ⟨hj, hS, hB⟩
  simp only at hj hS hB; subst hj
  simp only [haulagelaw10_MerkleRows.b4]
  rw [if_neg (by omega)]
  rw [List.take_length] at hB
  exact ⟨_, rfl, S, rfl, hS, hB⟩
 ·have e : bkn (R.take 0) b = [] := by unfold bkn fbk; simp
  rw [e]
  unfold rd
  simp only [Int.toNat_natCast]
  rw [List.getD_eq_getElem?_getD, List.getElem?_replicate, if_pos hb]; rfl
theorem nodes_eq {k : Nat} (hk : Fuel k) {n0 : Int} (hb : okb (IntKind.i64.wrap (1 + n0))) {t u : Mer} {R : List api_Row} (h : MI k (IntKind.i64.wrap (1 + n0)) t R) (hu : MI k (IntKind.i64.wrap (1 + n0)) u R) (hR : RL R) {S : List (List api_Row)} (hB : ∀ n : Nat, n < 512 → rd S (n : Int) = bkn R n) (e0 : Int) :
  loop (fun (s_ : Int) => haulagelaw10_MerkleRows.b8 k n0 (some t, R) (some u, e0) S s_) k 1 = some (.inl ()) := by
 have h24 : 1099511627776 ≤ k := hk
 have L := loop_inv (f := fun (s_ : Int) => haulagelaw10_MerkleRows.b8 k n0 (some t, R) (some u, e0) S s_) (I := fun i s => s = ((i + 1 : Nat) : Int)) (P := fun x => x = .inl ()) (N := 511) ?_ ?_ 511 0 1 k rfl (by omega) (by omega)
 ·obtain ⟨x, e, rfl⟩ := L
  exact e
 ·rintro i j hi hj
  left
  subst hj
  have dt := Digest_eq (t := t) (n := i + 1) (by omega) (by omega)
  have du := Digest_eq (t := u) (n := i + 1) (by omega) (by omega)
  have fin : ∀ v, rd t.digests ((i + 1 : Nat) : Int) = v → rd u.digests ((i + 1 : Nat) : Int) = v → haulagelaw10_MerkleRows.j6 (some t, R) (some u, e0) ((i + 1 : Nat) : Int) v = some (.next ((i + 2 : Nat) : Int)) := by
   intro v h1 h2
   unfold haulagelaw10_MerkleRows.j6
   dsimp only
   rw [bind_eq dt, if_pos h1, bind_eq du]
   unfold haulagelaw10_MerkleRows.j7
   rw [if_neg (by rw [decide_eq_true h2]; simp), wrS (i + 1) (by omega)]
  simp only [haulagelaw10_MerkleRows.b8]
  rw [if_pos (by omega)]
  by_cases c : 256 ≤ i + 1
  ·have er : haulagelaw10_ofRows.f k (rd S ((i + 1 : Nat) : Int)) (IntKind.i64.wrap (1 + n0)) = some (hBk k (IntKind.i64.wrap (1 + n0)) (fbk (i + 1 - 256) R)) := by
    rw [hB _ (by omega)]; unfold bkn; rw [if_neg (by omega)]; exact ofRows_law hk hb (hR.fbk _)
   have q1 := h.leaf (i + 1 - 256) (by omega)
   have q2 := hu.leaf (i + 1 - 256) (by omega)
   rw [show 256 + (i + 1 - 256) = i + 1 by omega] at q1 q2
   rw [if_pos (by omega), if_pos (by omega), bind_eq er, fin _ q1 q2]
   exact ⟨_, rfl, rfl⟩
  ·have w1 : IntKind.i64.wrap (2 * ((i + 1 : Nat) : Int)) = ((2 * (i + 1) : Nat) : Int) := by rw [wr (by omega) (by omega)]; omega
   have w2 : IntKind.i64.wrap (((2 * (i + 1) : Nat) : Int) + 1) = ((2 * (i + 1) + 1 : Nat) : Int) := by rw [wr (by omega) (by omega)]; omega
   have q1 := h.node (i + 1) (by omega) (by omega)
   have q2 := hu.node (i + 1) (by omega) (by omega)
   unfold nodeOk at q1 q2
   have ed : ∀ n : Nat, 256 ≤ n → n < 512 → rd t.digests (n : Int) = rd u.digests (n : Int) := fun n g1 g2 => by
    have a := h.leaf (n - 256) (by omega)
    have b := hu.leaf (n - 256) (by omega)
    rw [show 256 + (n - 256) = n by omega] at a b
    rw [a, b]
   have ea : ∀ m n : Nat, 256 - m ≤ n → 1 ≤ n → n < 512 → rd t.digests (n : Int) = rd u.digests (n : Int) := by
    intro m
    induction m with
    | zero => intro n a b c; exact ed n (by omega) c
    | succ m ih =>
     intro n a b c
     by_cases cc : 256 ≤ n
     ·exact ed n cc c
     ·have p1 := h.node n b (by omega)
      have p2 := hu.node n b (by omega)
      unfold nodeOk at p1 p2
      rw [p1, p2, ih (2 * n) (by omega) (by omega) (by omega), ih (2 * n + 1) (by omega) (by omega) (by omega)]
   rw [if_neg (by omega), w1, bind_eq (Digest_eq (by omega) (by omega)), w2, bind_eq (Digest_eq (by omega) (by omega)), bind_eq (ofPair_law hk hb _ _), fin _ q1 (by rw [q2, ea 256 (2 * (i + 1)) (by omega) (by omega) (by omega), ea 256 (2 * (i + 1) + 1) (by omega) (by omega) (by omega)])]
   exact ⟨_, rfl, rfl⟩
 ·rintro j hj
  subst hj
  simp only [haulagelaw10_MerkleRows.b8]
  rw [if_neg (by omega)]
  exact ⟨_, rfl, rfl⟩
theorem MerkleRows_true (C : List haulagelaw10_Change) (w : Int) (hC : CL C) : haulagelaw10_MerkleRows.f 1099511627776 C w = some true := by
 have hk : Fuel 1099511627776 := Nat.le_refl _
 obtain ⟨n, en, hb⟩ := bits_eq w
 obtain ⟨t, et, hM, hR, hs, hl⟩ := grown_eq hk hb hC
 obtain ⟨u, eu, hU⟩ := New_eq hk hb hR hs
 have d1 : merkle_Tree_Digest.f (some t) 1 = some (rd t.digests 1) := Digest_eq (n := 1) (by omega) (by omega)
 have hm : merkle_Tree_Len.f (some t) = some ((runR C).length : Int) := by
  unfold merkle_Tree_Len.f
  rw [if_neg (by simp), Option.bind_some, hM.many]
 unfold haulagelaw10_MerkleRows.f
 rw [bind_eq awake_true, if_pos rfl, bind_eq en, bind_eq et]
 dsimp only
 rw [if_neg (by simp), bind_eq eu]
 dsimp only
 rw [if_pos rfl, if_neg (by simp), bind_eq (Rows_eq hk hM hR hs), bind_eq (sameRows_eq hk hR), if_pos rfl, bind_eq (Rows_eq hk hU hR hs), bind_eq (sameRows_eq hk hR), if_pos rfl, bind_eq hm]
 unfold haulagelaw10_MerkleRows.j1
 rw [if_neg (by simp)]
 obtain ⟨S, eS, hS, hB⟩ := in_eq hk hM hR hs
 rw [bind_eq eS]
 dsimp only
 unfold haulagelaw10_MerkleRows.j5
 rw [bind_eq (nodes_eq hk hb hM hU hR hB 0)]
 dsimp only
 unfold haulagelaw10_MerkleRows.j9
 dsimp only
 rw [bind_eq Root_eq, bind_eq d1, if_pos rfl, bind_eq (Digest_zero (.inl (by omega))), if_pos rfl, bind_eq (Digest_zero (.inr (by omega)))]
 rfl
end Go.Proofs.Ytdnaoecfnjalgaa.G
namespace Go.Proofs.Ytdnaoecfnjalgaa.merkleRows
open Go.ChangeShapes Go.WideShapes Go.ChangeAt Go.RowKit
set_option linter.unusedVariables false
set_option maxRecDepth 100000 in
theorem contract (H : Type) (enc : TypeId × Value → H) (W : World) (base : Nat) (args : Array Value) (ds gs : List (DataW H)) (before : List MemPlace)
  (hval : ∀ (j : Nat) t v, Try.f5.params[j]? = some t → args[j]? = some v → Value.okWide Try.prog W .any base t v)
  (hW : DataW.Whole enc Try.prog Try.f5.params.toList Rows.merkleRowsSpec.vars false W args.toList ds gs before) (hk : Rows.uptoSmall H (ds ++ gs) = true) :
  Calls Try.prog 5 args W fun e W' => ∃ v, e = .returned v ∧ Rows.merkleRowsSpec.post enc Try.prog Try.f5 false true false false W args v W' := by
 have hW' := hW
 obtain ⟨p, q, hA0, hV, rfl, hfz, hnd⟩ := hW
 have hA : DataW.TrodAll enc Try.prog W 0 (fun _ => true) true Try.f5.params.toList args.toList ds p := hA0
 rw [Try.params5] at hA hval
 obtain ⟨v0, vs0, d0, ds0, p0, q0, hargs, rfl, rfl, h0, r0⟩ := trodAll_cons hA
 obtain ⟨v1, vs1, d1, ds1, p1, q1, rfl, rfl, rfl, h1, r1⟩ := trodAll_cons r0
 obtain ⟨rfl, rfl, rfl⟩ := trodAll_nil r1
 obtain rfl : args = #[v0, v1] := by cases args; simp_all
 obtain ⟨rfl, rfl⟩ := trodVars_none hV
 have k0 := h0
 have lt0 : ∀ x ∈ p0, x.block < W.heap.size := by obtain ⟨m, hm⟩ := k0; exact DataW.trod_lt m _ _ _ hm
 obtain ⟨A0, C0, a0, rfl, s0, b0, o0⟩ := G.arg_changes (okWide_slice Try.underlying22 (hval 0 22 v0 rfl rfl)) h0
 have l0 := G.len_sum G.wt_haulagelaw10_Change G.wt_haulagelaw10_Change_pos a0
 obtain ⟨a1, rfl, rfl, rfl, w1⟩ := open_int Try.underlying3 (hval 1 3 v1 rfl rfl) h1
 have hb : Rows.uptoBulkAll [d0, (DataW.lit (H := H) (.int .i64 a1))] ≤ 1048576 := of_decide_eq_true hk
 simp only [Rows.uptoBulkAll] at hb
 refine (G.haulagelaw10_MerkleRows.calls 1099511627776 (m := 1) (c0 := G.c0) (w0 := W) (Nat.lt_succ_self 0) (fun _ _ => Nat.lt_succ_self 0) s0 true (G.MerkleRows_true _ _ (G.arg_CL (by omega) o0))).mono fun e W' ⟨c_, he, ev_, _⟩ => ?_
 subst he
 have bel : Below W.heap.size W W' := G.Ev.below ev_
 exact ⟨_, rfl, _, _, _, [], _, [], hW', trodAll_mk1 (shut_bool Try.underlying4 _), (trodAll_cons_mk (Below.trod G.row_laidOut (by kernel_rfl) (of_decide_eq_true (by kernel_rfl)) k0 bel lt0) (trodAll_cons_mk (shut_int Try.underlying3 w1) trodAll_mk0)), rfl, bel.frame _, fun h => by cases h⟩
set_option maxRecDepth 100000 in
theorem lifted (os : Os) (started : os.Started) (H : Type) (enc : TypeId × Value → H) (F : Stop.Interp) :
  ReturnsInHanded {} Try.checked os 5 .any ((Rows.OpenSpec.upto Rows.merkleRowsSpec).pre6 enc Try.prog Try.f5 Rows.merkleRowsUptoRow.domain false) (((Rows.OpenSpec.upto Rows.merkleRowsSpec).at F).post enc Try.prog Try.f5 false true false false) := by
 refine returnsInHanded_of_cond (C := Try.checked) (s := Rows.OpenSpec.upto Rows.merkleRowsSpec) (k := Rows.uptoSmall) rfl G.row_own started (by kernel_rfl) Try.func5
  (OpenSpec.witness (enc := enc) (C := Try.checked) (s := Rows.OpenSpec.upto Rows.merkleRowsSpec) (k := Rows.uptoSmall) rfl false ⟨#[], #[.slice none 0 0, .int .i64 0], []⟩ 8 (by kernel_rfl) (by kernel_rfl) (by kernel_rfl)
   (x := ([.nil, .lit (.int .i64 0)], [], [])) (by kernel_rfl) rfl (by kernel_rfl)) ?_
 intro W base args ds gs before hval hW _ hk _
 exact contract H enc W base args ds gs before hval hW hk
theorem over : Rows.merkleRowsUptoRow.holds Try.pinned (Rows.OpenSpec.upto Rows.merkleRowsSpec) :=
 OpenClaim.holds_of_cond 5 Try.f5 rfl rfl rfl rfl rfl rfl rfl ⟨rfl, rfl, rfl, rfl, rfl⟩ rfl rfl rfl rfl rfl (by kernel_rfl) Try.func5 (by kernel_rfl)
  (of_decide_eq_true (by kernel_rfl)) (by unfold Func.isWrapper; first | (rw [if_pos (by decide +kernel)]; kernel_rfl) | (rw [if_neg (by decide +kernel)]; exact ⟨rfl, rfl⟩))
  (fun os started H enc _ F => lifted os started H enc F)
theorem proved : Rows.MerkleRowsUptoSaid := over
end Go.Proofs.Ytdnaoecfnjalgaa.merkleRows
namespace Go.Proofs.Ytdnaoecfnjalgaa
theorem merkleRows_holds : Rows.MerkleRowsUptoSaid := merkleRows.proved
end Go.Proofs.Ytdnaoecfnjalgaa