/- The row of 'TableReads', its '..UptoSaid': whatever the input of bulk at most 1048576, the law returns true and the input reads as it did; its condition: that bulk. -/
import Derived.Test.YtcolmmjcdlmcoaaGreatHTableReadsE
import Derived.Test.YtcolmmjcdlmcoaaGreatHTableReadsA
import Derived.Test.YtcolmmjcdlmcoaaGreatRows
import Derived.WalkKit
import Derived.ProofKit
import Derived.OpenShut
import Derived.JoinedCond
import Derived.Below
import Derived.ChangeOld
namespace Go.Proofs.YtcolmmjcdlmcoaaGreat.G
open Go
set_option linter.unusedVariables false
set_option linter.unusedSimpArgs false
theorem bytesR_app {a b : List Int} : bytesR (a ++ b) ↔ bytesR a ∧ bytesR b := by
 unfold bytesR
 constructor
 ·intro h; exact ⟨fun c hc => h c (by simp [hc]), fun c hc => h c (by simp [hc])⟩
 ·rintro ⟨h1, h2⟩ c hc
  rcases List.mem_append.1 hc with h | h
  ·exact h1 c h
  ·exact h2 c h
theorem Num_fault {r : Rdr} (h : r.fault ≠ 0) : parcel_Reader_Num.f (some r) = some (0, some r) := by
 unfold parcel_Reader_Num.f; simp only [if_neg h]
theorem Text_fault {r : Rdr} (h : r.fault ≠ 0) (most : Int) : parcel_Reader_Text.f (some r) most = some ([], some r) := by
 unfold parcel_Reader_Text.f; simp only [if_neg h]
theorem Num_fwd {m : Nat} (hm : m < 2 ^ 64) (rest : List Int) (ou : List (List Int)) : parcel_Reader_Num.f (some ⟨fm m ++ rest, ou, 0⟩) = some ((m : Int), some ⟨rest, ou, 0⟩) := by
 unfold parcel_Reader_Num.f
 simp only [if_true, rnum_form hm, rtake]
theorem Num_inv (l : List Int) (ou : List (List Int)) (hb : bytesR l) : ∃ v r', parcel_Reader_Num.f (some ⟨l, ou, 0⟩) = some (v, some r') ∧
  ((r'.fault = 0 ∧ ∃ m rest, v = ((m : Nat) : Int) ∧ m < 2 ^ 64 ∧ l = fm m ++ rest ∧ r' = ⟨rest, ou, 0⟩) ∨ (r'.fault ≠ 0 ∧ v = 0)) := by
 unfold parcel_Reader_Num.f
 simp only [if_true]
 rcases rnum_inv l 0 0 hb (by omega) (by decide) with ⟨l', e⟩ | ⟨rest, e⟩ | ⟨m, rest, e, -, ht, hl⟩
 ·rw [show ((0 : Nat) : Int) = 0 from rfl] at e
  rw [e]
  exact ⟨0, ⟨l', ou, 10⟩, rfl, Or.inr ⟨(by show ¬ _; simp), rfl⟩⟩
 ·rw [show ((0 : Nat) : Int) = 0 from rfl] at e
  rw [e]
  exact ⟨0, ⟨rest, ou, 11⟩, rfl, Or.inr ⟨(by show ¬ _; simp), rfl⟩⟩
 ·rw [show ((0 : Nat) : Int) = 0 from rfl] at e
  rw [e]
  have e0 : 0 + m * 2 ^ (7 * 0) = m := by omega
  rw [e0] at ht ⊢
  refine ⟨(m : Int), ⟨rest, ou, 0⟩, rfl, Or.inl ⟨rfl, m, rest, rfl, ht, ?_, rfl⟩⟩
  unfold fm
  rw [List.append_assoc]
  exact hl
theorem rnum_short : ∀ (l : List Int) (k : Nat) (n : Int) (rest : List Int) (x f' : Int), rnum 0 l k n = .inr (x, rest, f') → rest.length ≤ l.length
 | [], k, n, rest, x, f', h => by rw [rnum_nil] at h; cases h
 | c :: xs, k, n, rest, x, f', h => by
  rw [rnum_cons] at h
  split at h
  ·cases h; simp
  ·split at h
   ·cases h; simp
   ·have := rnum_short xs (k + 1) _ rest x f' h; simp; omega
theorem fm_pos (n : Nat) : 1 ≤ (fm n).length := by rw [fm_len]; exact (nm_le n).1
theorem wrapmax {most : Int} (h0 : 0 ≤ most) (h1 : most ≤ 1000000) : IntKind.u64.wrap (max most 0) = most := by
 rw [Int.max_eq_left h0, wru h0 (by omega)]
theorem Text_fwd {v : List Int} {most : Int} (h0 : 0 ≤ most) (h1 : most ≤ 1000000) (hv : (v.length : Int) ≤ most) (rest : List Int) (hr : (v ++ rest).length ≤ 140737488355328) (ou : List (List Int)) :
  parcel_Reader_Text.f (some ⟨fm v.length ++ (v ++ rest), ou, 0⟩) most = some (v, some ⟨rest, ou, 0⟩) := by
 have hlen : (v ++ rest).length = v.length + rest.length := List.length_append
 have e : rtext (fm v.length ++ (v ++ rest)) 0 most = some (.inr (v, rest, 0)) := by
  unfold rtext rsize
  rw [wrapmax h0 h1, rnum_form (by omega)]
  simp only [if_true]
  rw [if_neg (by omega), if_neg (by omega)]
  simp only
  rw [wr (by omega) (by omega), if_pos (by omega)]
  simp
 unfold parcel_Reader_Text.f
 simp only [if_true, e, Option.bind_some, rtake]
theorem Text_inv (l : List Int) (ou : List (List Int)) (hb : bytesR l) (hl : l.length ≤ 140737488355328) {most : Int} (h0 : 0 ≤ most) (h1 : most ≤ 1000000) :
  ∃ v r', parcel_Reader_Text.f (some ⟨l, ou, 0⟩) most = some (v, some r') ∧
   ((r'.fault = 0 ∧ ∃ rest, l = fm v.length ++ (v ++ rest) ∧ (v.length : Int) ≤ most ∧ r' = ⟨rest, ou, 0⟩) ∨ (r'.fault ≠ 0 ∧ v = [])) := by
 unfold parcel_Reader_Text.f rtext rsize
 simp only [if_true, wrapmax h0 h1]
 rcases rnum_inv l 0 0 hb (by omega) (by decide) with ⟨l', e⟩ | ⟨rest, e⟩ | ⟨m, rest, e, -, ht, he⟩
 ·rw [show ((0 : Nat) : Int) = 0 from rfl] at e
  rw [e]
  exact ⟨[], ⟨l', ou, 10⟩, rfl, Or.inr ⟨(by show ¬ _; simp), rfl⟩⟩
 ·have hrl : rest.length ≤ l.length := by
   rw [show ((0 : Nat) : Int) = 0 from rfl] at e
   exact rnum_short l 0 0 rest 0 11 e
  rw [show ((0 : Nat) : Int) = 0 from rfl] at e
  rw [e]
  simp only [show ¬ ((11 : Int) = 0) by decide, if_false]
  rw [if_pos (by omega)]
  exact ⟨[], ⟨rest, ou, 11⟩, rfl, Or.inr ⟨(by show ¬ _; simp), rfl⟩⟩
 ·have e0 : 0 + m * 2 ^ (7 * 0) = m := by omega
  rw [show ((0 : Nat) : Int) = 0 from rfl, e0] at e
  rw [e]
  have hfm : l = fm m ++ rest := by unfold fm; rw [List.append_assoc]; exact he
  have hrl : rest.length ≤ l.length := by rw [hfm, List.length_append]; omega
  simp only [if_true]
  by_cases g1 : most < (m : Int)
  ·rw [if_pos g1]
   simp only
   rw [if_pos (by omega)]
   exact ⟨[], ⟨rest, ou, 11⟩, rfl, Or.inr ⟨(by show ¬ _; simp), rfl⟩⟩
  ·rw [if_neg g1]
   by_cases g2 : (rest.length : Int) < (m : Int)
   ·rw [if_pos g2]
    simp only
    rw [if_pos (by omega)]
    exact ⟨[], ⟨rest, ou, 10⟩, rfl, Or.inr ⟨(by show ¬ _; simp), rfl⟩⟩
   ·rw [if_neg g2]
    simp only
    rw [wr (by omega) (by omega), if_pos (by omega), Int.toNat_natCast]
    refine ⟨rest.take m, ⟨rest.drop m, ou, 0⟩, rfl, Or.inl ⟨rfl, rest.drop m, ?_, ?_, rfl⟩⟩
    ·rw [List.take_append_drop, List.length_take, Nat.min_eq_left (by omega)]; exact hfm
    ·rw [List.length_take]; omega
theorem len_sub {α : Type} [DecidableEq α] : ∀ F G : List α, F.Nodup → (∀ x ∈ F, x ∈ G) → F.length ≤ G.length
 | [], G, _, _ => Nat.zero_le _
 | x :: F, G, hn, hs => by
  rw [List.nodup_cons] at hn
  have hx := hs x (by simp)
  have := len_sub F (G.erase x) hn.2 (fun y hy => (List.mem_erase_of_ne (fun e => hn.1 (by rw [← e]; exact hy))).2 (hs y (by simp [hy])))
  rw [List.length_erase_of_mem hx] at this
  have := List.length_pos_of_mem hx
  simp only [List.length_cons]; omega
def brange (xs : List Int) : Prop := ∀ n ∈ xs, 0 ≤ n ∧ n ≤ 255
theorem sb_bs {xs : List Int} (h : brange xs) : sb (bs xs) = xs := by
 unfold sb bs
 simp only [List.map_map]
 have : ∀ l : List Int, brange l → l.map ((fun b : UInt8 => (b.toNat : Int)) ∘ fun n => UInt8.ofNat n.toNat) = l := by
  intro l
  induction l with
  | nil => intro _; rfl
  | cons a l ih =>
   intro hl
   have ha := hl a (by simp)
   rw [List.map_cons, ih (fun n hn => hl n (by simp [hn]))]
   congr 1
   show ((UInt8.ofNat a.toNat).toNat : Int) = a
   rw [UInt8.toNat_ofNat']
   omega
 exact this xs h
theorem bs_inj {a b : List Int} (ha : brange a) (hb : brange b) (h : bs a = bs b) : a = b := by rw [← sb_bs ha, ← sb_bs hb, h]
theorem bs_toList (l : List Int) : (bs l).toList = l.map fun n => UInt8.ofNat n.toNat := by
 rw [ByteArray.toList_eq]; simp [bs]
theorem num_any {k : Nat} (hk : Fuel k) {n : Int} (hn : n < 9223372036854775808) : ∃ y, table_num.f k n = some y ∧ 1 ≤ y ∧ y ≤ 10 := by
 by_cases h : 0 ≤ n
 ·obtain ⟨q, rfl⟩ := Int.eq_ofNat_of_zero_le h
  have := nm_le q
  exact ⟨_, num_eq hk (by omega), by omega, by omega⟩
 ·have h24 : 1099511627776 ≤ k := hk
  obtain ⟨q, rfl⟩ : ∃ q, k = q + 1 := ⟨k - 1, by omega⟩
  refine ⟨1, ?_, by omega, by omega⟩
  unfold table_num.f
  rw [bind_eq (loop_done (x := (1 : Int)) ?_)]
  ·rfl
  ·unfold table_num.b1; rw [if_neg (by omega)]
theorem long_any {k : Nat} (hk : Fuel k) {key : ByteArray} {c : table_cell} (h1 : key.size ≤ 64) (h2 : c.value.length ≤ 256) (h4 : c.rev < 9223372036854775808) : ∃ y, table_long.f k key c = some y := by
 obtain ⟨y, e, _⟩ := num_any hk h4
 unfold table_long.f
 rw [bind_eq (num_eq hk (n := key.size) (by omega)), bind_eq (num_eq hk (n := c.value.length) (by omega)), bind_eq e]
 exact ⟨_, rfl⟩
theorem set_any {k : Nat} (hk : Fuel k) {rows : Tr} {L : List Ent} {R z : Int} (hlen : L.length < 10000000000) (hw : rows.WF) (hl : rows.list = L) (ho : Ord L) (hE : ∀ e ∈ L, okE e) {key : ByteArray} {c : table_cell} (h1 : key.size ≤ 64) (h2 : c.value.length ≤ 256) (h4 : c.rev < 9223372036854775808) :
  ∃ t, table_Table_set.f k (some ⟨rows, R, z⟩) key c true = some t := by
 subst hl
 have hh := rows.hgt_le
 have h24 : 1099511627776 ≤ k := hk
 obtain ⟨u, eu, wu, lu⟩ := put_eq k rows key c (by omega) hw ho (by unfold big; omega)
 obtain ⟨y, ey⟩ := long_any hk h1 h2 h4
 have j1 : ∀ x, ∃ t, table_Table_set.j1 k key c true ⟨rows, R, z⟩ x = some t := by
  intro x
  unfold table_Table_set.j1
  rw [if_pos rfl, bind_eq eu, bind_eq ey]
  exact ⟨_, rfl⟩
 unfold table_Table_set.f
 simp only [Option.bind_some]
 rw [bind_eq (get_eq k rows key (by omega) ho)]
 cases h : look key rows.list with
 | none => rw [if_neg (by simp [gotQ])]; exact j1 _
 | some x =>
  have hx := hE _ (look_mem _ h)
  obtain ⟨y2, ey2⟩ := long_any hk (key := key) (c := x) hx.1 hx.2.1 (by have h3 : x.rev ≤ 1099511627776 := hx.2.2.2; omega)
  rw [if_pos (show (gotQ (some x)).2 = true from rfl), bind_eq (show table_long.f k key (gotQ (some x)).1 = some y2 from ey2)]
  exact j1 _
theorem ins_end {key : ByteArray} {c : table_cell} : ∀ L : List Ent, (∀ e ∈ L, lt e.1 key = true) → ins key c L = L ++ [(key, c)]
 | [], _ => rfl
 | (a, x) :: L, h => by
  have h1 : lt a key = true := h (a, x) (by simp)
  simp only [ins, h1, lt_asym h1]
  rw [ins_end L (fun e he => h e (by simp [he]))]
  simp
theorem lt_empty {k : ByteArray} (h : 1 ≤ k.size) : lt .empty k = true := by
 unfold lt
 rw [ByteArray.toList_eq, ByteArray.toList_eq]
 have : k.data.toList ≠ [] := by
  intro e
  have : k.data.toList.length = 0 := by rw [e]; rfl
  rw [Array.length_toList] at this
  exact absurd h (by show ¬ 1 ≤ k.data.size; omega)
 cases hq : k.data.toList with
 | nil => exact absurd hq this
 | cons a l => rfl
theorem lt_size {a k : ByteArray} (h : lt a k = true) : 1 ≤ k.size := by
 unfold lt at h
 rw [ByteArray.toList_eq k] at h
 rcases Nat.eq_zero_or_pos k.size with q | q
 ·have : k.data.toList = [] := by
   apply List.length_eq_zero_iff.1
   rw [Array.length_toList]; exact q
  rw [this] at h
  cases a.toList <;> simp [Op.bytesLess] at h
 ·exact q
theorem notless {a b : ByteArray} : (Op.bytesLess a.toList b.toList || (a.toList == b.toList)) = !lt b a := by
 rw [keq]
 cases h : lt b a with
 | true =>
  have h1 : Op.bytesLess a.toList b.toList = false := lt_asym h
  have h2 : ¬ a = b := fun e => by subst e; rw [lt_irr] at h; cases h
  simp [h1, h2]
 | false =>
  by_cases e : a = b
  ·simp [e]
  ·cases h2 : Op.bytesLess a.toList b.toList with
   | true => simp
   | false => exact absurd (lt_tri h2 h) e
abbrev revs (L : List Ent) : List Int := L.map fun e => e.2.rev
structure Part (R : Nat) (L : List Ent) (last : ByteArray) (m : MpV Bool) : Prop where
 ord : Ord L
 ent : ∀ e ∈ L, 1 ≤ e.1.size ∧ e.1.size ≤ 64 ∧ e.2.value.length ≤ 256 ∧ 1 ≤ e.2.rev ∧ e.2.rev ≤ (R : Int)
 low : ∀ e ∈ L, e.1 = last ∨ lt e.1 last = true
 top : (L = [] ∧ last = .empty) ∨ ∃ e ∈ L, e.1 = last
 map : ∀ a, m.f a = if a ∈ revs L then some true else none
 dis : (revs L).Nodup
 cnt : m.n = L.length
def TabR (t : Option Tab) (R : Int) (L : List Ent) : Prop := ∃ rows, t = some ⟨rows, R, sz L⟩ ∧ rows.WF ∧ rows.list = L
theorem Part.next {R : Nat} {L : List Ent} {last : ByteArray} {m : MpV Bool} (h : Part R L last m) {key : ByteArray} {v : List Int} {at_ : Int} (h1 : lt last key = true) (h2 : key.size ≤ 64) (h3 : v.length ≤ 256) (h4 : 1 ≤ at_) (h5 : at_ ≤ (R : Int)) (h6 : at_ ∉ revs L) :
  Part R (L ++ [(key, ⟨v, at_⟩)]) key ⟨fun i => if i = at_ then some true else m.f i, m.n + 1⟩ := by
 have below : ∀ e ∈ L, lt e.1 key = true := fun e he => by
  rcases h.low e he with q | q
  ·rw [q]; exact h1
  ·exact lt_tr q h1
 refine ⟨?_, ?_, ?_, Or.inr ⟨_, List.mem_append.2 (Or.inr (List.mem_singleton.2 rfl)), rfl⟩, ?_, ?_, ?_⟩
 ·unfold Ord
  rw [List.pairwise_append]
  refine ⟨h.ord, by simp, fun x hx y hy => ?_⟩
  rw [List.mem_singleton] at hy
  subst hy
  exact below x hx
 ·intro e he
  rcases List.mem_append.1 he with q | q
  ·exact h.ent e q
  ·rw [List.mem_singleton] at q; subst q; exact ⟨lt_size h1, h2, h3, h4, h5⟩
 ·intro e he
  rcases List.mem_append.1 he with q | q
  ·exact Or.inr (below e q)
  ·rw [List.mem_singleton] at q; subst q; exact Or.inl rfl
 ·intro a
  show (if a = at_ then some true else m.f a) = _
  rw [h.map a]
  unfold revs
  rw [List.map_append]
  by_cases q : a = at_
  ·subst q; simp
  ·rw [if_neg q]
   by_cases q2 : a ∈ revs L
   ·rw [if_pos q2, if_pos (List.mem_append.2 (Or.inl q2))]
   ·rw [if_neg q2, if_neg]
    intro h'
    rcases List.mem_append.1 h' with g | g
    ·exact q2 g
    ·simp at g; exact q g
 ·unfold revs
  rw [List.map_append]
  refine List.nodup_append.2 ⟨h.dis, by simp, fun x hx y hy => ?_⟩
  simp at hy
  subst hy
  intro e
  subst e
  exact h6 hx
 ·rw [List.length_append, ← h.cnt]; rfl
theorem row_eq {k : Nat} (hk : Fuel k) {R : Nat} (hR : R ≤ 1099511627776) {L : List Ent} {last : ByteArray} {m : MpV Bool} (hP : Part R L last m) (hlen : L.length < 8000000000) {tab : Option Tab} (hT : TabR tab R L) {t17 : Int × Option Rdr} (h17 : t17.1 = (R : Int))
  {kb vb : List Int} (hkb : kb.length ≤ 64) (hvb : vb.length ≤ 256) {r1 r2 r3 : Option Rdr} {a : Int} (ha0 : 0 ≤ a) (ha1 : a < 18446744073709551616) {many : Int} (hm0 : 0 < many) (hm1 : many < 18446744073709551616) (hN : parcel_Reader_Num.f r2 = some (a, r3)) :
  ∃ tab' g m', table_Read.j5 k t17 (kb, r1) (vb, r2) many tab m last = some (.next (r3, many - 1, tab', g, m', bs kb)) ∧
   (g = true ↔ (lt last (bs kb) = true ∧ 0 < a ∧ a ≤ (R : Int) ∧ a ∉ revs L)) ∧ (g = true → TabR tab' R (L ++ [(bs kb, ⟨vb, a⟩)]) ∧ Part R (L ++ [(bs kb, ⟨vb, a⟩)]) (bs kb) m') := by
 obtain ⟨rows, rfl, hw, hl⟩ := hT
 have hE : ∀ e ∈ L, okE e := fun e he => by have := hP.ent e he; exact ⟨this.2.1, this.2.2.1, by omega, by omega⟩
 have hwf : (Lit.int .u64 a).wf = true := by
  simp [Lit.wf, IntKind.min, IntKind.max, IntKind.signed, IntKind.bits]; omega
 have hwm : IntKind.u64.wrap (many - 1) = many - 1 := by
  simp only [IntKind.wrap, IntKind.bits, IntKind.signed]; simp; omega
 have hks : (bs kb).size ≤ 64 := by rw [bs_size]; omega
 have hwr : IntKind.i64.wrap a < 9223372036854775808 := by rw [IntKind.wrap_i64]; omega
 have hn : m.n < 140737488355328 := by rw [hP.cnt]; omega
 have j6 : ∀ g, ∃ tab' m', table_Read.j6 k (kb, r1) (vb, r2) (a, r3) many (some ⟨rows, R, sz L⟩) m g = some (.next (r3, many - 1, tab', g, m', bs kb)) ∧
   (lt last (bs kb) = true → 0 < a → a ≤ (R : Int) → a ∉ revs L → TabR tab' R (L ++ [(bs kb, ⟨vb, a⟩)]) ∧ Part R (L ++ [(bs kb, ⟨vb, a⟩)]) (bs kb) m') := by
  intro g
  unfold table_Read.j6
  rw [if_pos ⟨hwf, hn⟩]
  by_cases c : lt last (bs kb) = true ∧ 0 < a ∧ a ≤ (R : Int) ∧ a ∉ revs L
  ·obtain ⟨c1, c2, c3, c4⟩ := c
   have hwa : IntKind.i64.wrap a = a := wr (by omega) (by omega)
   obtain ⟨u, eu, wu, lu⟩ := set_put0 hk (R := (R : Int)) (Nat.lt_trans hlen (by omega)) hw hl hP.ord hE (key := bs kb) (c := ⟨vb, a⟩) ⟨hks, hvb, ha0, by show a ≤ _; omega⟩
   simp only [hwa]
   rw [bind_eq eu, hwm]
   have hne : ins (bs kb) ⟨vb, a⟩ L = L ++ [(bs kb, ⟨vb, a⟩)] := ins_end L (fun e he => by
    rcases hP.low e he with q | q
    ·rw [q]; exact c1
    ·exact lt_tr q c1)
   refine ⟨_, _, rfl, fun _ _ _ _ => ⟨⟨u, by rw [hne], wu, by rw [lu, hne]⟩, hP.next c1 hks hvb (by omega) c3 c4⟩⟩
  ·obtain ⟨t, et⟩ := set_any hk (R := (R : Int)) (z := sz L) (Nat.lt_trans hlen (by omega)) hw hl hP.ord hE (key := bs kb) (c := ⟨vb, IntKind.i64.wrap a⟩) hks hvb hwr
   simp only
   rw [bind_eq et, hwm]
   exact ⟨_, _, rfl, fun c1 c2 c3 c4 => absurd ⟨c1, c2, c3, c4⟩ c⟩
 unfold table_Read.j5
 simp only
 rw [bind_eq hN]
 simp only
 rw [notless]
 cases c1 : lt last (bs kb) with
 | false =>
  rw [if_pos (by simp)]
  obtain ⟨tab', m', e, _⟩ := j6 false
  exact ⟨tab', false, m', e, by simp, fun h => by cases h⟩
 | true =>
  rw [if_neg (by simp)]
  by_cases c2 : 0 < a
  ·rw [if_pos c2, h17]
   by_cases c3 : a ≤ (R : Int)
   ·rw [if_pos c3, if_pos hwf]
    by_cases c4 : a ∈ revs L
    ·rw [hP.map a, if_pos c4]
     obtain ⟨tab', m', e, _⟩ := j6 false
     exact ⟨tab', false, m', e, by simp [c4], fun h => by cases h⟩
    ·rw [hP.map a, if_neg c4]
     obtain ⟨tab', m', e, h⟩ := j6 true
     exact ⟨tab', true, m', e, by simp [c2, c3, c4], fun _ => h c1 c2 c3 c4⟩
   ·rw [if_neg c3]
    obtain ⟨tab', m', e, _⟩ := j6 false
    exact ⟨tab', false, m', e, by simp [c3], fun h => by cases h⟩
  ·rw [if_neg c2]
   obtain ⟨tab', m', e, _⟩ := j6 false
   exact ⟨tab', false, m', e, by simp [c2], fun h => by cases h⟩
abbrev RS := (Option Rdr) × Int × (Option Tab) × Bool × (MpV Bool) × ByteArray
abbrev rloop (k : Nat) (t17 : Int × Option Rdr) (n : Nat) (s : RS) : Option ((Option Rdr) × (Option Tab) × Bool) := loop (fun (s_ : RS) => table_Read.b7 k t17 s_.1 s_.2.1 s_.2.2.1 s_.2.2.2.1 s_.2.2.2.2.1 s_.2.2.2.2.2) n s
theorem rloop_end {k : Nat} {t17 : Int × Option Rdr} {n : Nat} {r : Option Rdr} {many : Int} {tab : Option Tab} {g : Bool} {m : MpV Bool} {last : ByteArray} (h : ¬ 0 < many ∨ g = false) (hn : 0 < n) : rloop k t17 n (r, many, tab, g, m, last) = some (r, tab, g) := by
 obtain ⟨q, rfl⟩ : ∃ q, n = q + 1 := ⟨n - 1, by omega⟩
 refine loop_done ?_
 show table_Read.b7 k t17 r many tab g m last = _
 unfold table_Read.b7 table_Read.j4
 by_cases c : 0 < many
 ·rcases h with h | h
  ·exact absurd c h
  ·rw [if_pos c, h, if_neg (by simp)]
 ·rw [if_neg c, if_neg (by simp)]
theorem ef_split {kb vb : List Int} {a : Nat} (hk : bytesR kb) (rest : List Int) : fm kb.length ++ (kb ++ (fm vb.length ++ (vb ++ (fm a ++ rest)))) = ef (bs kb, ⟨vb, (a : Int)⟩) ++ rest := by
 unfold ef
 simp only [bs_size, sb_bs (show brange kb from hk), Int.toNat_natCast, List.append_assoc]
theorem bytesR_ef {l : List Int} {e : Ent} {rest : List Int} (h : bytesR l) (e1 : l = ef e ++ rest) : bytesR rest := by rw [e1] at h; exact (bytesR_app.1 h).2
theorem rloop_any {k : Nat} (hk : Fuel k) {R : Nat} (hR : R ≤ 1099511627776) {t17 : Int × Option Rdr} (h17 : t17.1 = (R : Int)) (ou : List (List Int)) : ∀ (q : Nat) (l : List Int) (many : Int) (tab : Option Tab) (L : List Ent) (m : MpV Bool) (last : ByteArray) (n : Nat),
  l.length ≤ q → bytesR l → l.length + L.length < 8000000000 → 0 ≤ many → many < 18446744073709551616 → TabR tab R L → Part R L last m → q + 2 < n →
  ∃ r' tab' g, rloop k t17 n (some ⟨l, ou, 0⟩, many, tab, true, m, last) = some (some r', tab', g) ∧
   (g = true → ∃ M l', l = M.flatMap ef ++ l' ∧ (M.length : Int) = many ∧ r' = ⟨l', ou, 0⟩ ∧ TabR tab' R (L ++ M) ∧ ∃ last' m', Part R (L ++ M) last' m') := by
 intro q
 induction q with
 | zero =>
  intro l many tab L m last n hl hb hs hm0 hm1 hT hP hn
  have : l = [] := List.length_eq_zero_iff.1 (by omega)
  subst this
  by_cases c : 0 < many
  ·-- nothing can be read
   have e1 : parcel_Reader_Text.f (some ⟨[], ou, 0⟩) 64 = some ([], some ⟨[], ou, 10⟩) := rfl
   have e2 : parcel_Reader_Text.f (some ⟨[], ou, 10⟩) 256 = some ([], some ⟨[], ou, 10⟩) := rfl
   have e3 : parcel_Reader_Num.f (some ⟨[], ou, 10⟩) = some (0, some ⟨[], ou, 10⟩) := rfl
   obtain ⟨tab', g, m', e, hg, _⟩ := row_eq hk hR hP (by omega) hT h17 (kb := []) (vb := []) (by simp) (by simp) (r1 := some ⟨[], ou, 10⟩) (r2 := some ⟨[], ou, 10⟩) (r3 := some ⟨[], ou, 10⟩) (a := 0) (by omega) (by omega) c hm1 e3
   have hgf : g = false := by
    cases g with
    | false => rfl
    | true => have := (hg.1 rfl).2.1; omega
   obtain ⟨n, rfl⟩ : ∃ p, n = p + 1 := ⟨n - 1, by omega⟩
   refine ⟨⟨[], ou, 10⟩, tab', false, ?_, fun h => by cases h⟩
   show loop _ (n + 1) _ = _
   rw [loop_next (s' := (some ⟨[], ou, 10⟩, many - 1, tab', g, m', bs []))]
   ·rw [hgf]; exact rloop_end (Or.inr rfl) (by omega)
   ·show table_Read.b7 k t17 _ many tab true m last = _
    unfold table_Read.b7 table_Read.j4
    rw [if_pos c, if_pos rfl, bind_eq e1, bind_eq e2]
    exact e
  ·exact ⟨⟨[], ou, 0⟩, tab, true, rloop_end (Or.inl c) (by omega), fun _ => ⟨[], [], rfl, by simp; omega, rfl, by simpa using hT, last, m, by simpa using hP⟩⟩
 | succ q ih =>
  intro l many tab L m last n hl hb hs hm0 hm1 hT hP hn
  by_cases c : 0 < many
  ·obtain ⟨n, rfl⟩ : ∃ p, n = p + 1 := ⟨n - 1, by omega⟩
   obtain ⟨kb, r1, e1, h1⟩ := Text_inv l ou hb (by omega) (most := 64) (by omega) (by omega)
   obtain ⟨vb, r2, e2, h2⟩ : ∃ vb r2, parcel_Reader_Text.f (some r1) 256 = some (vb, some r2) ∧
     ((r2.fault = 0 ∧ ∃ l1 rest, r1 = ⟨l1, ou, 0⟩ ∧ l1 = fm vb.length ++ (vb ++ rest) ∧ (vb.length : Int) ≤ 256 ∧ r2 = ⟨rest, ou, 0⟩) ∨ (r2.fault ≠ 0 ∧ vb = [])) := by
    rcases h1 with ⟨f1, rest, hl1, hk1, rfl⟩ | ⟨f1, rfl⟩
    ·have hb1 : bytesR rest := by rw [hl1] at hb; exact (bytesR_app.1 (bytesR_app.1 hb).2).2
     have hlen1 : rest.length ≤ l.length := by rw [hl1]; simp only [List.length_append]; omega
     obtain ⟨vb, r2, e2, h2⟩ := Text_inv rest ou hb1 (by omega) (most := 256) (by omega) (by omega)
     refine ⟨vb, r2, e2, ?_⟩
     rcases h2 with ⟨f2, rest2, hl2, hv2, rfl⟩ | ⟨f2, hv⟩
     ·exact Or.inl ⟨f2, rest, rest2, rfl, hl2, hv2, rfl⟩
     ·exact Or.inr ⟨f2, hv⟩
    ·exact ⟨[], r1, Text_fault f1 256, Or.inr ⟨f1, rfl⟩⟩
   obtain ⟨a, r3, e3, h3⟩ : ∃ a r3, parcel_Reader_Num.f (some r2) = some (a, some r3) ∧
     ((r3.fault = 0 ∧ ∃ l2 p rest, r2 = ⟨l2, ou, 0⟩ ∧ a = ((p : Nat) : Int) ∧ p < 2 ^ 64 ∧ l2 = fm p ++ rest ∧ r3 = ⟨rest, ou, 0⟩) ∨ (r3.fault ≠ 0 ∧ a = 0)) := by
    rcases h2 with ⟨f2, l1, rest, hr1, hl2, hv2, rfl⟩ | ⟨f2, rfl⟩
    ·have hb1 : bytesR rest := by
      rcases h1 with ⟨f1, rest0, hl1, hk1, hr0⟩ | ⟨f1, -⟩
      ·rw [hr1] at hr0; cases hr0
       rw [hl1] at hb
       have := (bytesR_app.1 (bytesR_app.1 hb).2).2
       rw [hl2] at this
       exact (bytesR_app.1 (bytesR_app.1 this).2).2
      ·rw [hr1] at f1; exact absurd rfl f1
     obtain ⟨v, r3, e3, h3⟩ := Num_inv rest ou hb1
     refine ⟨v, r3, e3, ?_⟩
     rcases h3 with ⟨f3, p, rest3, hv, hp, hl3, rfl⟩ | ⟨f3, hv⟩
     ·exact Or.inl ⟨f3, rest, p, rest3, rfl, hv, hp, hl3, rfl⟩
     ·exact Or.inr ⟨f3, hv⟩
    ·exact ⟨0, r2, Num_fault f2, Or.inr ⟨f2, rfl⟩⟩
   have hkb : kb.length ≤ 64 := by
    rcases h1 with ⟨_, _, _, hk1, _⟩ | ⟨_, rfl⟩
    ·omega
    ·simp
   have hvb : vb.length ≤ 256 := by
    rcases h2 with ⟨_, _, _, _, _, hk1, _⟩ | ⟨_, rfl⟩
    ·omega
    ·simp
   have ha : 0 ≤ a ∧ a < 18446744073709551616 := by
    rcases h3 with ⟨_, _, p, _, _, rfl, hp, _⟩ | ⟨_, rfl⟩
    ·omega
    ·omega
   obtain ⟨tab', g, m', e, hg, hgo⟩ := row_eq hk hR hP (by omega) hT h17 hkb hvb (r1 := some r1) (r2 := some r2) (r3 := some r3) ha.1 ha.2 c hm1 e3
   have hstep : table_Read.b7 k t17 (some ⟨l, ou, 0⟩) many tab true m last = some (.next (some r3, many - 1, tab', g, m', bs kb)) := by
    unfold table_Read.b7 table_Read.j4
    rw [if_pos c, if_pos rfl, bind_eq e1, bind_eq e2]
    exact e
   have hloop : rloop k t17 (n + 1) (some ⟨l, ou, 0⟩, many, tab, true, m, last) = rloop k t17 n (some r3, many - 1, tab', g, m', bs kb) := loop_next (by exact hstep)
   cases g with
   | false => exact ⟨r3, tab', false, by rw [hloop]; exact rloop_end (Or.inr rfl) (by omega), fun h => by cases h⟩
   | true =>
    have hgt := hg.1 rfl
    obtain ⟨hT', hP'⟩ := hgo rfl
    rcases h3 with ⟨f3, l2, p, rest3, hr2, rfl, hp, hl3, rfl⟩ | ⟨f3, rfl⟩
    ·rcases h2 with ⟨f2, l1, rest2, hr1, hl2, hv2, hr2'⟩ | ⟨f2, -⟩
     ·rw [hr2] at hr2'; cases hr2'
      rcases h1 with ⟨f1, rest1, hl1, hk1, hr1'⟩ | ⟨f1, -⟩
      ·rw [hr1] at hr1'; cases hr1'
       have hkr : bytesR kb := by rw [hl1] at hb; exact (bytesR_app.1 (bytesR_app.1 hb).2).1
       have hle : l = ef (bs kb, ⟨vb, (p : Int)⟩) ++ rest3 := by rw [hl1, hl2, hl3, ef_split hkr]
       have hlen3 : rest3.length + 1 ≤ l.length := by
        rw [hle, List.length_append]
        have : 1 ≤ (ef (bs kb, ⟨vb, (p : Int)⟩)).length := by
         unfold ef; simp only [List.length_append]; have := fm_pos (bs kb).size; omega
        omega
       obtain ⟨r', tab2, g2, e2', h2'⟩ := ih rest3 (many - 1) tab' (L ++ [(bs kb, ⟨vb, (p : Int)⟩)]) m' (bs kb) n (by omega) (bytesR_ef hb hle) (by simp; omega) (by omega) (by omega) hT' hP' (by omega)
       refine ⟨r', tab2, g2, by rw [hloop]; exact e2', fun hg2 => ?_⟩
       obtain ⟨M, l', hl', hM, hr', hT2, last2, m2, hP2⟩ := h2' hg2
       refine ⟨(bs kb, ⟨vb, (p : Int)⟩) :: M, l', ?_, by simp; omega, hr', by simpa using hT2, last2, m2, by simpa using hP2⟩
       rw [hle, hl', List.flatMap_cons, List.append_assoc]
      ·rw [hr1] at f1; exact absurd rfl f1
     ·rw [hr2] at f2; exact absurd rfl f2
    ·exact absurd hgt.2.1 (by omega)
  ·exact ⟨⟨l, ou, 0⟩, tab, true, rloop_end (Or.inl c) (by omega), fun _ => ⟨[], l, rfl, by simp; omega, rfl, by simpa using hT, last, m, by simpa using hP⟩⟩
theorem Num_outer {l : List Int} {ou : List (List Int)} {f v : Int} {r' : Rdr} (h : parcel_Reader_Num.f (some ⟨l, ou, f⟩) = some (v, some r')) : r'.outer = ou := by
 unfold parcel_Reader_Num.f at h
 simp only at h
 split at h
 ·unfold rtake at h
  split at h
  ·simp only [Option.some.injEq, Prod.mk.injEq] at h; rw [← h.2]
  ·split at h
   ·simp only [Option.some.injEq, Prod.mk.injEq] at h; rw [← h.2]
   ·simp only [Option.some.injEq, Prod.mk.injEq] at h; rw [← h.2]
 ·simp only [Option.some.injEq, Prod.mk.injEq] at h; rw [← h.2]
theorem Done_eq (l : List Int) (f : Int) : parcel_Reader_Done.f (some ⟨l, [], f⟩) = some (if f = 0 then (if 0 < l.length then 12 else 0) else f) := by
 unfold parcel_Reader_Done.f parcel_Reader_Done.j1
 by_cases c : f = 0
 ·by_cases c2 : 0 < l.length
  ·simp [c, c2]
  ·simp [c, c2]
 ·simp [c]
theorem Part.empty (R : Nat) : Part R [] { data := #[] } ⟨fun _ => none, 0⟩ :=
 ⟨List.Pairwise.nil, fun e he => (by cases he), fun e he => (by cases he), Or.inl ⟨rfl, rfl⟩, fun a => by simp, List.nodup_nil, rfl⟩
theorem revs_len {R : Nat} {L : List Ent} (hd : (revs L).Nodup) (h : ∀ e ∈ L, 1 ≤ e.2.rev ∧ e.2.rev ≤ (R : Int)) : L.length ≤ R := by
 have := len_sub ((revs L)) ((List.range R).map fun i => ((i + 1 : Nat) : Int)) hd (fun x hx => by
  obtain ⟨e, he, rfl⟩ := List.mem_map.1 hx
  have := h e he
  exact List.mem_map.2 ⟨(e.2.rev - 1).toNat, List.mem_range.2 (by omega), by omega⟩)
 simpa using this
structure Sound (s : St) : Prop where
 inv : Inv s.1 s.2
 dis : (revs s.1).Nodup
 top : s.2 ≤ 1099511627776
theorem Sound.of {R : Nat} (hR : R ≤ 1099511627776) {L : List Ent} {last : ByteArray} {m : MpV Bool} (h : Part R L last m) : Sound (L, R) :=
 ⟨⟨h.ord, revs_len h.dis (fun e he => (h.ent e he).2.2.2), h.ent⟩, h.dis, hR⟩
theorem TabR.rep {t : Option Tab} {s : St} (h : TabR t s.2 s.1) (hS : Sound s) : RepS t s := by
 obtain ⟨rows, e, hw, hl⟩ := h
 exact ⟨rows, e, hw, hl, hS.inv⟩
theorem new_eq : table_New.f = some (some (Tab.mk .nil 0 0)) := rfl
theorem read_any {k : Nat} (hk : Fuel k) (p : List Int) (hb : bytesR p) (hl : p.length < 2000000000) :
  ∃ t e, table_Read.f k p = some (t, e) ∧ ((e = 130 ∧ t = none) ∨ (e = 0 ∧ ∃ s, RepS t s ∧ Sound s ∧ p = form s)) := by
 have h24 : 1099511627776 ≤ k := hk
 have e0 : parcel_Read.f p = some (some ⟨p, [], 0⟩) := by unfold parcel_Read.f; rw [if_pos (by omega)]
 obtain ⟨rv, r1, e1, h1⟩ := Num_inv p [] hb
 have fail : ∀ (o : Option Rdr) (tb : Option Tab), table_Read.j8 o tb false = some (none, 130) := fun o tb => by
  unfold table_Read.j8 table_Read.j9; rw [if_neg (by simp), if_pos rfl]
 have failD : ∀ (r : Rdr) (tb : Option Tab), r.fault ≠ 0 → r.outer = [] → table_Read.j8 (some r) tb true = some (none, 130) := fun r tb hf ho => by
  obtain ⟨l, ou, f⟩ := r
  simp only at hf ho
  subst ho
  unfold table_Read.j8
  rw [if_pos rfl, bind_eq (Done_eq l f), if_neg hf]
  unfold table_Read.j9
  rw [if_pos (by simp [hf])]
 unfold table_Read.f
 rw [bind_eq e0, bind_eq e1]
 rcases h1 with ⟨f1, m, rest, rfl, hm, hp, rfl⟩ | ⟨f1, rfl⟩
 ·have hb1 : bytesR rest := by rw [hp] at hb; exact (bytesR_app.1 hb).2
  have hlr : rest.length ≤ p.length := by rw [hp, List.length_append]; omega
  obtain ⟨mv, r2, e2, h2⟩ := Num_inv rest [] hb1
  simp only
  rw [bind_eq e2, bind_eq new_eq, Option.bind_some]
  by_cases hg : (m : Int) ≤ 1099511627776
  ·have hwm : IntKind.i64.wrap (min (m : Int) 1099511627776) = (m : Int) := by rw [Int.min_eq_left hg, wr (by omega) (by omega)]
   simp only [hwm, decide_eq_true hg]
   rcases h2 with ⟨f2, q, rest2, rfl, hq, hp2, rfl⟩ | ⟨f2, rfl⟩
   ·have hb2 : bytesR rest2 := by rw [hp2] at hb1; exact (bytesR_app.1 hb1).2
    have hlr2 : rest2.length ≤ rest.length := by rw [hp2, List.length_append]; omega
    obtain ⟨r', tab', g, e3, h3⟩ := rloop_any hk (R := m) (by omega) (t17 := ((m : Int), some ⟨rest, [], 0⟩)) rfl [] rest2.length rest2 (q : Int) (some ⟨.nil, (m : Int), 0⟩) [] ⟨fun _ => none, 0⟩ { data := #[] } k
     (Nat.le_refl _) hb2 (by simp; omega) (by omega) (by omega) ⟨.nil, rfl, trivial, rfl⟩ (Part.empty m) (by omega)
    rw [bind_eq e3]
    cases g with
    | false => exact ⟨none, 130, fail _ _, Or.inl ⟨rfl, rfl⟩⟩
    | true =>
     obtain ⟨M, l', hl', hM, rfl, hT, last', m', hP⟩ := h3 rfl
     rw [List.nil_append] at hT hP
     unfold table_Read.j8
     simp only [if_true]
     rw [bind_eq (Done_eq l' 0)]
     by_cases hle : 0 < l'.length
     ·rw [if_pos rfl, if_pos hle]
      exact ⟨none, 130, rfl, Or.inl ⟨rfl, rfl⟩⟩
     ·rw [if_pos rfl, if_neg hle]
      have hl0 : l' = [] := List.length_eq_zero_iff.1 (by omega)
      subst hl0
      have hS : Sound (M, m) := Sound.of (by omega) hP
      refine ⟨tab', 0, rfl, Or.inr ⟨rfl, (M, m), TabR.rep hT hS, hS, ?_⟩⟩
      have hMq : M.length = q := by omega
      rw [hp, hp2, hl', List.append_nil]
      unfold form
      simp only [hMq, List.append_assoc]
   ·-- the count isn't read
    obtain ⟨l2, ou2, f2'⟩ := r2
    have hou : ou2 = [] := Num_outer e2
    rw [bind_eq (rloop_end (k := k) (Or.inl (by omega)) (by omega))]
    exact ⟨none, 130, failD _ _ f2 hou, Or.inl ⟨rfl, rfl⟩⟩
  ·simp only [decide_eq_false hg]
   rw [bind_eq (rloop_end (k := k) (Or.inr rfl) (by omega))]
   exact ⟨none, 130, fail _ _, Or.inl ⟨rfl, rfl⟩⟩
 ·-- the revision isn't read
  have e2 := Num_fault f1
  have hou : r1.outer = [] := Num_outer e1
  simp only
  rw [bind_eq e2, bind_eq new_eq, Option.bind_some]
  simp only
  rw [bind_eq (rloop_end (k := k) (Or.inl (by omega)) (by omega))]
  rw [decide_eq_true (by omega)]
  exact ⟨none, 130, failD _ _ f1 hou, Or.inl ⟨rfl, rfl⟩⟩
theorem bs_sb (k : ByteArray) : bs (sb k) = k := by
 apply toList_inj
 rw [bs_toList, ByteArray.toList_eq]
 unfold sb
 rw [List.map_map]
 have : ∀ l : List UInt8, l.map ((fun n : Int => UInt8.ofNat n.toNat) ∘ fun b : UInt8 => (b.toNat : Int)) = l := by
  intro l
  induction l with
  | nil => rfl
  | cons a l ih =>
   rw [List.map_cons, ih]
   congr 1
   show UInt8.ofNat ((a.toNat : Int).toNat) = a
   rw [Int.toNat_natCast]
   exact UInt8.ofNat_toNat
 exact this _
theorem ef_flat (e : Ent) (rest : List Int) : ef e ++ rest = fm (sb e.1).length ++ (sb e.1 ++ (fm e.2.value.length ++ (e.2.value ++ (fm e.2.rev.toNat ++ rest)))) := by
 unfold ef
 rw [sb_len]
 simp only [List.append_assoc]
theorem ef_pos (e : Ent) : 1 ≤ (ef e).length := by
 unfold ef; simp only [List.length_append]; have := fm_pos e.1.size; omega
theorem flat_pos : ∀ L : List Ent, L.length ≤ (L.flatMap ef).length
 | [] => Nat.le_refl _
 | e :: L => by rw [List.flatMap_cons, List.length_append, List.length_cons]; have := flat_pos L; have := ef_pos e; omega
theorem form_len (s : St) : s.1.length ≤ (form s).length := by
 unfold form; simp only [List.length_append]; have := flat_pos s.1; omega
theorem rloop_fwd {k : Nat} (hk : Fuel k) {R : Nat} (hR : R ≤ 1099511627776) {t17 : Int × Option Rdr} (h17 : t17.1 = (R : Int)) (ou : List (List Int)) (y : List Int) : ∀ (M : List Ent) (tab : Option Tab) (L : List Ent) (m : MpV Bool) (last : ByteArray) (n : Nat),
  (M.flatMap ef ++ y).length + L.length < 8000000000 → TabR tab R L → Part R L last m → Ord (L ++ M) → (revs (L ++ M)).Nodup →
  (∀ e ∈ M, 1 ≤ e.1.size ∧ e.1.size ≤ 64 ∧ e.2.value.length ≤ 256 ∧ 1 ≤ e.2.rev ∧ e.2.rev ≤ (R : Int)) → M.length < n →
  ∃ tab', rloop k t17 n (some ⟨M.flatMap ef ++ y, ou, 0⟩, (M.length : Int), tab, true, m, last) = some (some ⟨y, ou, 0⟩, tab', true) ∧ TabR tab' R (L ++ M)
 | [], tab, L, m, last, n, _, hT, _, _, _, _, hn => ⟨tab, rloop_end (Or.inl (by simp)) hn, by simpa using hT⟩
 | e :: M, tab, L, m, last, n, hs, hT, hP, ho, hd, hE, hn => by
  obtain ⟨n, rfl⟩ : ∃ p, n = p + 1 := ⟨n - 1, by omega⟩
  obtain ⟨key, v, a⟩ := e
  obtain ⟨e1, e2, e3, e4, e5⟩ := hE (key, ⟨v, a⟩) (by simp)
  simp only at e1 e2 e3 e4 e5
  have hML : M.length ≤ (M.flatMap ef).length := flat_pos M
  have hlen : (((key, (⟨v, a⟩ : table_cell)) :: M).flatMap ef ++ y).length = (ef (key, ⟨v, a⟩)).length + ((M.flatMap ef).length + y.length) := by
   rw [List.flatMap_cons]; simp only [List.length_append]; omega
  rw [hlen] at hs
  have hflat : ((key, (⟨v, a⟩ : table_cell)) :: M).flatMap ef ++ y = fm (sb key).length ++ (sb key ++ (fm v.length ++ (v ++ (fm a.toNat ++ (M.flatMap ef ++ y))))) := by
   rw [List.flatMap_cons, List.append_assoc, ef_flat]
  have hall : (fm (sb key).length ++ (sb key ++ (fm v.length ++ (v ++ (fm a.toNat ++ (M.flatMap ef ++ y)))))).length < 8000000000 := by
   rw [← hflat, hlen]; omega
  simp only [List.length_append] at hall
  have hks : (sb key).length = key.size := sb_len key
  have t1 := Text_fwd (v := sb key) (most := 64) (by omega) (by omega) (by omega) (fm v.length ++ (v ++ (fm a.toNat ++ (M.flatMap ef ++ y)))) (by simp only [List.length_append]; omega) ou
  have t2 := Text_fwd (v := v) (most := 256) (by omega) (by omega) (by omega) (fm a.toNat ++ (M.flatMap ef ++ y)) (by simp only [List.length_append]; omega) ou
  have t3 := Num_fwd (m := a.toNat) (by omega) (M.flatMap ef ++ y) ou
  have ha : ((a.toNat : Nat) : Int) = a := by omega
  rw [ha] at t3
  have hmany : ((((key, (⟨v, a⟩ : table_cell)) :: M).length : Nat) : Int) = (M.length : Int) + 1 := by simp
  obtain ⟨tab', g, m', e, hg, hgo⟩ := row_eq hk hR hP (by omega) hT h17 (kb := sb key) (vb := v) (by omega) e3 (r1 := some ⟨fm v.length ++ (v ++ (fm a.toNat ++ (M.flatMap ef ++ y))), ou, 0⟩) (r2 := some ⟨fm a.toNat ++ (M.flatMap ef ++ y), ou, 0⟩) (r3 := some ⟨M.flatMap ef ++ y, ou, 0⟩) (a := a) (by omega) (by omega) (many := (M.length : Int) + 1) (by omega) (by omega) t3
  rw [bs_sb] at e hg hgo
  have hord : ∀ x ∈ L, lt x.1 key = true := fun x hx => by
   unfold Ord at ho
   rw [List.pairwise_append] at ho
   exact ho.2.2 x hx (key, ⟨v, a⟩) (by simp)
  have hlt : lt last key = true := by
   rcases hP.top with ⟨_, q⟩ | ⟨x, hx, q⟩
   ·rw [q]; exact lt_empty e1
   ·rw [← q]; exact hord x hx
  have hnot : a ∉ revs L := by
   unfold revs at hd ⊢
   rw [List.map_append, List.nodup_append] at hd
   intro q
   exact hd.2.2 a q a (by simp) rfl
  have hgt : g = true := hg.2 ⟨hlt, by omega, e5, hnot⟩
  subst hgt
  obtain ⟨hT', hP'⟩ := hgo rfl
  obtain ⟨tab2, e', hT2⟩ := rloop_fwd hk hR h17 ou y M tab' (L ++ [(key, ⟨v, a⟩)]) m' key n (by simp only [List.length_append, List.length_singleton]; have := ef_pos (key, (⟨v, a⟩ : table_cell)); omega) hT' hP' (by simpa using ho) (by simpa using hd) (fun x hx => hE x (by simp [hx])) (by simp at hn; omega)
  refine ⟨tab2, ?_, by simpa using hT2⟩
  have hstep : table_Read.b7 k t17 (some ⟨((key, (⟨v, a⟩ : table_cell)) :: M).flatMap ef ++ y, ou, 0⟩) ((((key, (⟨v, a⟩ : table_cell)) :: M).length : Nat) : Int) tab true m last = some (.next (some ⟨M.flatMap ef ++ y, ou, 0⟩, (M.length : Int), tab', true, m', key)) := by
   rw [hflat, hmany]
   unfold table_Read.b7 table_Read.j4
   rw [if_pos (by omega), if_pos rfl, bind_eq t1, bind_eq t2]
   rw [show (M.length : Int) + 1 - 1 = (M.length : Int) by omega] at e
   exact e
  exact (loop_next (by exact hstep)).trans e'
theorem read_fwd {k : Nat} (hk : Fuel k) {s : St} (hS : Sound s) (y : List Int) (hl : (form s ++ y).length < 4000000000) :
  ∃ t, table_Read.f k (form s ++ y) = some (if y = [] then (t, 0) else (none, 130)) ∧ RepS t s := by
 have h24 : 1099511627776 ≤ k := hk
 have hR := hS.top
 have hflen := form_len s
 rw [List.length_append] at hl
 have hp : form s ++ y = fm s.2 ++ (fm s.1.length ++ (s.1.flatMap ef ++ y)) := by unfold form; simp only [List.append_assoc]
 have hlen2 : (s.1.flatMap ef ++ y).length ≤ (form s ++ y).length := by rw [hp]; simp only [List.length_append]; omega
 rw [show (form s ++ y).length = (form s).length + y.length from List.length_append] at hlen2
 have e0 : parcel_Read.f (form s ++ y) = some (some ⟨fm s.2 ++ (fm s.1.length ++ (s.1.flatMap ef ++ y)), [], 0⟩) := by
  unfold parcel_Read.f; rw [if_pos (by rw [List.length_append]; omega), hp]
 have e1 := Num_fwd (m := s.2) (by omega) (fm s.1.length ++ (s.1.flatMap ef ++ y)) []
 have e2 := Num_fwd (m := s.1.length) (by omega) (s.1.flatMap ef ++ y) []
 obtain ⟨tab', e3, hT⟩ := rloop_fwd hk hR (t17 := ((s.2 : Int), some ⟨fm s.1.length ++ (s.1.flatMap ef ++ y), [], 0⟩)) rfl [] y s.1 (some ⟨.nil, (s.2 : Int), 0⟩) [] ⟨fun _ => none, 0⟩ { data := #[] } k
  (by simp only [List.length_nil]; omega) ⟨.nil, rfl, trivial, rfl⟩ (Part.empty s.2) (by simpa using hS.inv.ord) (by simpa using hS.dis) hS.inv.ent (by omega)
 rw [List.nil_append] at hT
 refine ⟨tab', ?_, TabR.rep hT hS⟩
 unfold table_Read.f
 rw [bind_eq e0, bind_eq e1]
 simp only
 rw [bind_eq e2, bind_eq new_eq, Option.bind_some]
 have hwm : IntKind.i64.wrap (min (s.2 : Int) 1099511627776) = (s.2 : Int) := by rw [Int.min_eq_left (by omega), wr (by omega) (by omega)]
 simp only [hwm, decide_eq_true (show (s.2 : Int) ≤ 1099511627776 by omega)]
 rw [bind_eq e3]
 unfold table_Read.j8
 simp only [if_true]
 rw [bind_eq (Done_eq y 0)]
 by_cases hy : y = []
 ·subst hy
  rfl
 ·have hp : 0 < y.length := by
   rcases Nat.eq_zero_or_pos y.length with q | q
   ·exact absurd (List.length_eq_zero_iff.1 q) hy
   ·exact q
  rw [if_neg hy, if_pos rfl, if_pos hp]
  rfl
theorem form_size (s : St) : ((form s).length : Int) = nm s.2 + nm s.1.length + sz s.1 := by
 have h := flat_len s.1
 unfold form
 simp only [List.length_append, fm_len]
 omega
theorem revs_ins {a : Int} {k : ByteArray} {c : table_cell} : ∀ L : List Ent, a ∈ revs (ins k c L) → a = c.rev ∨ a ∈ revs L := by
 intro L h
 obtain ⟨e, he, rfl⟩ := List.mem_map.1 h
 rcases mem_ins L he with rfl | q
 ·exact Or.inl rfl
 ·exact Or.inr (List.mem_map.2 ⟨e, q, rfl⟩)
theorem ins_nodup {k : ByteArray} {c : table_cell} : ∀ L : List Ent, c.rev ∉ revs L → (revs L).Nodup → (revs (ins k c L)).Nodup
 | [], _, _ => by simp [ins, revs]
 | (a, x) :: L, h, hd => by
  have h1 : ¬ c.rev = x.rev := fun e => h (by simp [revs, e])
  have h2 : c.rev ∉ revs L := fun e => h (by unfold revs at e ⊢; simp [e])
  have hd' : x.rev ∉ revs L ∧ (revs L).Nodup := List.nodup_cons.1 hd
  simp only [ins]
  split
  ·exact List.nodup_cons.2 ⟨h, hd⟩
  ·split
   ·refine List.nodup_cons.2 ⟨fun q => ?_, ins_nodup L h2 hd'.2⟩
    rcases revs_ins L q with e | e
    ·exact h1 e.symm
    ·exact hd'.1 e
   ·exact List.nodup_cons.2 ⟨h2, hd'.2⟩
theorem del_sub (k : ByteArray) : ∀ L : List Ent, (del k L).Sublist L
 | [] => List.Sublist.refl _
 | (a, x) :: L => by
  simp only [del]
  split
  ·exact List.Sublist.refl _
  ·split
   ·exact (del_sub k L).cons_cons _
   ·exact List.sublist_cons_self _ _
theorem del_nodup {k : ByteArray} {L : List Ent} (hd : (revs L).Nodup) : (revs (del k L)).Nodup := ((del_sub k L).map _).nodup hd
structure Good (s : St) : Prop where
 inv : Inv s.1 s.2
 dis : (revs s.1).Nodup
 val : ∀ e ∈ s.1, bytesR e.2.value
theorem fresh {s : St} (h : Good s) : ((s.2 : Int) + 1) ∉ revs s.1 := by
 intro q
 obtain ⟨e, he, e2⟩ := List.mem_map.1 q
 have := h.inv.ent e he
 omega
theorem Good.step {s : St} (h : Good s) {o : api_Op} (ho : bytesR o.Value) (hI : Inv (stepS s o).1 (stepS s o).2) : Good (stepS s o) := by
  refine ⟨hI, ?_, ?_⟩
  · unfold stepS act
    repeat' split
    all_goals first
      | exact h.dis
      | exact del_nodup h.dis
      | exact ins_nodup _ (fresh h) h.dis
  · unfold stepS act
    repeat' split
    all_goals first
      | exact h.val
      | exact fun e he => h.val e (mem_del _ he)
      | (intro e he
         rcases mem_ins _ he with rfl | q
         · exact ho
         · exact h.val e q)
theorem fmP_bytes : ∀ f n, bytesR (fmP f n)
 | 0, _ => fun c hc => by simp [fmP] at hc
 | f + 1, n => by
  unfold fmP
  split
  ·intro c hc; simp at hc
  ·intro c hc
   rcases List.mem_cons.1 hc with rfl | h
   ·rw [bor8]; omega
   ·exact fmP_bytes f _ c h
theorem fm_bytes (n : Nat) : bytesR (fm n) := by
 unfold fm
 refine bytesR_app.2 ⟨fmP_bytes 9 n, fun c hc => ?_⟩
 rw [List.mem_singleton] at hc
 subst hc
 rw [wr8]; omega
theorem sb_bytes (k : ByteArray) : bytesR (sb k) := by
 intro c hc
 obtain ⟨b, _, rfl⟩ := List.mem_map.1 hc
 have := b.toNat_lt
 omega
theorem form_bytes {s : St} (h : ∀ e ∈ s.1, bytesR e.2.value) : bytesR (form s) := by
 unfold form
 refine bytesR_app.2 ⟨bytesR_app.2 ⟨fm_bytes _, fm_bytes _⟩, fun c hc => ?_⟩
 obtain ⟨e, he, hce⟩ := List.mem_flatMap.1 hc
 have : bytesR (ef e) := by
  unfold ef
  exact bytesR_app.2 ⟨bytesR_app.2 ⟨fm_bytes _, sb_bytes _⟩, bytesR_app.2 ⟨bytesR_app.2 ⟨fm_bytes _, h e he⟩, fm_bytes _⟩⟩
 exact this c hce
theorem oa_next {S X : Type} {f : S → Option (Ctl S X)} {n : Nat} {s s' : S} (h : f s = some (.next s')) : loop f (n + 1) s = loop f n s' := by
 show (f s).bind _ = _; rw [h]; rfl
theorem oa_done {S X : Type} {f : S → Option (Ctl S X)} {n : Nat} {s : S} {x : X} (h : f s = some (.done x)) : loop f (n + 1) s = some x := by
 show (f s).bind _ = _; rw [h]; rfl
theorem oa_count' {S X : Type} {f : S → Option (Ctl S X)} {s : Nat → S} {x : X} {N : Nat} (step : ∀ i, i < N → f (s i) = some (.next (s (i + 1)))) (last : f (s N) = some (.done x)) : ∀ (n i m : Nat), i + n = N → n < m → loop f m (s i) = some x
 | _, _, 0, _, h => absurd h (by omega)
 | 0, i, m + 1, hN, _ => by
  obtain rfl : i = N := by omega
  exact oa_done last
 | n + 1, i, m + 1, hN, hm => by rw [oa_next (step i (by omega))]; exact oa_count' step last n (i + 1) m (by omega) (by omega)
theorem oa_count {S X : Type} {f : S → Option (Ctl S X)} {s : Nat → S} {x : X} {N k : Nat} (hk : N < k) (step : ∀ i, i < N → f (s i) = some (.next (s (i + 1)))) (last : f (s N) = some (.done x)) : loop f k (s 0) = some x := oa_count' step last N 0 k (by omega) hk
theorem oa_rd {α : Type} [Inhabited α] {xs : List α} {i : Nat} (h : i < xs.length) : rd xs (i : Int) = xs[i] := by
 unfold rd
 rw [Int.toNat_natCast, List.getD_eq_getElem?_getD, List.getElem?_eq_getElem h]
 rfl
section
set_option linter.unusedSectionVars false
variable {α : Type} [Inhabited α] {L L0 : List (List α)} {i k len n : Nat}
end
theorem same_loop (a b : List Int) (hl : a.length = b.length) : ∀ (n i m : Nat), i + n = a.length → n < m → a.length < 4000000000 →
  loop (fun (s_ : Int) => haulagelaw13_same.b1 a b s_) m (i : Int) = some (if a.drop i = b.drop i then Sum.inl () else Sum.inr false)
 | _, _, 0, _, h, _ => absurd h (by omega)
 | 0, i, m + 1, h, _, _ => by
  refine loop_done ?_
  unfold haulagelaw13_same.b1
  rw [if_neg (by omega), if_pos]
  rw [List.drop_of_length_le (by omega), List.drop_of_length_le (by omega)]
 | n + 1, i, m + 1, h, hm, hb => by
  have hi : i < a.length := by omega
  have hj : i < b.length := by omega
  rw [List.drop_eq_getElem_cons hi, List.drop_eq_getElem_cons hj]
  by_cases c : a[i] = b[i]
  ·rw [loop_next (s' := ((i + 1 : Nat) : Int)), same_loop a b hl n (i + 1) m (by omega) (by omega) hb]
   ·simp only [c, List.cons.injEq, true_and]
   ·unfold haulagelaw13_same.b1
    rw [if_pos (by omega), if_pos (by omega), if_pos (by omega), rd_eq hi, rd_eq hj, if_pos c, wrS i (by omega)]
  ·rw [if_neg (by simp only [List.cons.injEq, c, false_and, not_false_eq_true])]
   refine loop_done ?_
   unfold haulagelaw13_same.b1
   rw [if_pos (by omega), if_pos (by omega), if_pos (by omega), rd_eq hi, rd_eq hj, if_neg c]
theorem same_eq {k : Nat} (hk : Fuel k) (a b : List Int) (h : a.length < 4000000000 ∨ b.length < 4000000000) : haulagelaw13_same.f k a b = some (decide (a = b)) := by
 have h24 : 1099511627776 ≤ k := hk
 unfold haulagelaw13_same.f
 by_cases c : a.length = b.length
 ·rw [if_pos (by omega), show (0 : Int) = ((0 : Nat) : Int) from rfl, bind_eq (same_loop a b c a.length 0 k (by omega) (by omega) (by omega))]
  simp only [List.drop_zero]
  by_cases e : a = b
  ·simp [e, haulagelaw13_same.j2]
  ·simp [e]
 ·rw [if_neg (by omega), decide_eq_false (fun e => c (by rw [e]))]
theorem sameRow_eq {k : Nat} (hk : Fuel k) (a b : api_Row) (h1 : a.Key.length < 4000000000 ∨ b.Key.length < 4000000000) (h2 : a.Value.length < 4000000000 ∨ b.Value.length < 4000000000) : haulagelaw13_sameRow.f k a b = some (decide (a = b)) := by
 obtain ⟨a1, a2, a3⟩ := a
 obtain ⟨b1, b2, b3⟩ := b
 unfold haulagelaw13_sameRow.f
 rw [bind_eq (same_eq hk _ _ h1)]
 by_cases c1 : a1 = b1
 ·rw [if_pos (by simp [c1]), bind_eq (same_eq hk _ _ h2)]
  by_cases c2 : a2 = b2
  ·rw [if_pos (by simp [c2])]; simp [c1, c2]
  ·rw [if_neg (by simp [c2])]; simp [c2]
 ·rw [if_neg (by simp [c1])]; simp [c1]
theorem yd_wr (n : Nat) : IntKind.u8.wrap (IntKind.u8.wrap (Int.tmod (n : Int) 128) + 128) = bor .u8 (IntKind.u8.wrap n) 128 := by
 rw [bor8]
 have e : Int.tmod (n : Int) 128 = ((n % 128 : Nat) : Int) := by rw [Int.tmod_eq_emod_of_nonneg (by omega)]; omega
 rw [e, wr8]
 have : ((n % 128 % 256 : Nat) : Int) + 128 = ((n % 128 + 128 : Nat) : Int) := by omega
 rw [this, wr8]
 congr 1; omega
theorem yd_div (n : Nat) (h : n < 9223372036854775808) : IntKind.u64.wrap (Int.tdiv (n : Int) 128) = ((n / 128 : Nat) : Int) := by
 have e : Int.tdiv (n : Int) 128 = ((n / 128 : Nat) : Int) := by rw [Int.tdiv_eq_ediv_of_nonneg (by omega)]; omega
 rw [e, wru (by omega) (by omega)]
theorem rform_loop : ∀ (f n k : Nat) (l : List Int), n < 128 ^ f → n < 9223372036854775808 → f < k → l.length + f < 1000 → loop (fun (s_ : Int × List Int) => haulageref01_Form.b1 s_.1 s_.2) k ((n : Int), l) = some ((fmL f n : Int), l ++ fmP f n)
 | _, _, 0, _, _, _, h, _ => absurd h (by omega)
 | 0, n, k + 1, l, h, _, _, _ => by
  have : n = 0 := by simpa using h
  subst this
  rw [loop_done (x := ((0 : Int), l))]
  ·simp [fmP, fmL]
  ·simp [haulageref01_Form.b1]
 | f + 1, n, k + 1, l, h, h63, hk, hs => by
  by_cases c : n ≤ 127
  ·rw [loop_done (x := ((n : Int), l))]
   ·simp [fmP, fmL, c]
   ·simp only; unfold haulageref01_Form.b1; rw [if_neg (by omega)]
  ·have hd : n / 128 < 128 ^ f := by rw [Nat.pow_succ] at h; omega
   rw [loop_next (s' := (((n / 128 : Nat) : Int), l ++ [bor .u8 (IntKind.u8.wrap n) 128]))]
   ·rw [rform_loop f (n / 128) k _ hd (by omega) (by omega) (by simp; omega)]
    simp [fmP, fmL, c]
   ·simp only
    unfold haulageref01_Form.b1
    rw [if_pos (by omega), if_pos (by simp; omega), yd_div n h63, yd_wr]
theorem rform_eq {k n : Nat} (hk : Fuel k) (hn : n < 9223372036854775808) : haulageref01_Form.f k (n : Int) = some (fm n) := by
 have h24 : 1099511627776 ≤ k := hk
 have := nmF_le 9 n
 unfold haulageref01_Form.f
 rw [bind_eq (rform_loop 9 n k [] (by omega) hn (by omega) (by simp))]
 unfold haulageref01_Form.j2
 simp only [List.nil_append]
 rw [if_pos (by rw [fmP_len]; simp; omega)]
 rfl
abbrev W1 (room : Int) (b : List Int) : Option Wr1 := some ⟨room, b, [], 0⟩
theorem take_succ' {α : Type} {xs : List α} {i : Nat} (h : i < xs.length) : xs.take (i + 1) = xs.take i ++ [xs[i]] := by rw [List.take_add_one, List.getElem?_eq_getElem h]; rfl
theorem rlay_eq {k : Nat} (hk : Fuel k) {room : Int} {b a : List Int} (h1 : (b.length + a.length : Nat) ≤ room) (h2 : room ≤ 1000000000000) : haulageref01_Writer_lay.f k (W1 room b) false a = some (W1 room (b ++ a)) := by
 have h24 : 1099511627776 ≤ k := hk
 unfold haulageref01_Writer_lay.f haulageref01_Writer_dead.f
 simp only [Option.isNone_some, Bool.false_eq_true, if_false, Option.bind_some, decide_true, Bool.not_true]
 rw [wr (by omega) (by omega), if_neg (by omega)]
 have e : loop (fun (s_ : Int × (List Int)) => haulageref01_Writer_lay.b1 a s_.1 s_.2) k (0, b) = some (b ++ a) := by
  have e0 : ((0 : Int), b) = (((0 : Nat) : Int), b ++ a.take 0) := by simp
  rw [e0]
  refine oa_count (s := fun i : Nat => ((i : Int), b ++ a.take i)) (N := a.length) (by omega) (fun i hi => ?_) ?_
  ·simp only
   unfold haulageref01_Writer_lay.b1
   rw [if_pos (by omega), if_pos (by omega), if_pos (by simp; omega), wrS i (by omega), rd_eq hi, take_succ' hi, List.append_assoc]
  ·simp only
   unfold haulageref01_Writer_lay.b1
   rw [if_neg (by omega), List.take_length]
 rw [bind_eq e]; rfl
theorem rNum_eq {k : Nat} (hk : Fuel k) {room : Int} {b : List Int} {n : Nat} (hn : n < 9223372036854775808) (h1 : (b.length + (fm n).length : Nat) ≤ room) (h2 : room ≤ 1000000000000) :
  haulageref01_Writer_Num.f k (W1 room b) (n : Int) = some (W1 room (b ++ fm n)) := by
 unfold haulageref01_Writer_Num.f
 rw [bind_eq (rform_eq hk hn), bind_eq (rlay_eq hk h1 h2)]
theorem rText_eq {k : Nat} (hk : Fuel k) {room : Int} {b a : List Int} (h1 : (b.length + (fm a.length).length + a.length : Nat) ≤ room) (h2 : room ≤ 1000000000000) :
  haulageref01_Writer_Text.f k (W1 room b) a = some (W1 room (b ++ (fm a.length ++ a))) := by
 have h24 : 1099511627776 ≤ k := hk
 unfold haulageref01_Writer_Text.f
 rw [wru (by omega) (by omega), bind_eq (rform_eq hk (by omega))]
 have e : loop (fun (s_ : (List Int) × Int) => haulageref01_Writer_Text.b1 a s_.1 s_.2) k (fm a.length, 0) = some (fm a.length ++ a) := by
  have e0 : (fm a.length, (0 : Int)) = (fm a.length ++ a.take 0, ((0 : Nat) : Int)) := by simp
  rw [e0]
  refine oa_count (s := fun i : Nat => (fm a.length ++ a.take i, (i : Int))) (N := a.length) (by omega) (fun i hi => ?_) ?_
  ·simp only
   unfold haulageref01_Writer_Text.b1
   rw [if_pos (by omega), if_pos (by omega), if_pos (by simp; omega), wrS i (by omega), rd_eq hi, take_succ' hi, List.append_assoc]
  ·simp only
   unfold haulageref01_Writer_Text.b1
   rw [if_neg (by omega), List.take_length]
 rw [bind_eq e]
 unfold haulageref01_Writer_Text.j2
 rw [bind_eq (rlay_eq hk (by simp; omega) h2)]
theorem rDone_eq {k : Nat} (hk : Fuel k) {room : Int} {b : List Int} (h : b.length ≤ 1000000000000) : haulageref01_Writer_Done.f k (W1 room b) = some (b, 0) := by
 have h24 : 1099511627776 ≤ k := hk
 unfold haulageref01_Writer_Done.f
 simp only [Option.isNone_some, Bool.false_eq_true, if_false, Option.bind_some, if_true, List.length_nil]
 rw [if_neg (by simp)]
 have e : loop (fun (s_ : (List Int) × Int) => haulageref01_Writer_Done.b1 ⟨room, b, [], 0⟩ s_.1 s_.2) k ([], 0) = some b := by
  have e0 : (([] : List Int), (0 : Int)) = (b.take 0, ((0 : Nat) : Int)) := by simp
  rw [e0]
  refine oa_count (s := fun i : Nat => (b.take i, (i : Int))) (N := b.length) (by omega) (fun i hi => ?_) ?_
  ·simp only
   unfold haulageref01_Writer_Done.b1
   simp only
   rw [if_pos (by omega), if_pos (by omega), if_pos (by simp; omega), wrS i (by omega), rd_eq hi, take_succ' hi]
  ·simp only
   unfold haulageref01_Writer_Done.b1
   simp only
   rw [if_neg (by omega), List.take_length]
 rw [bind_eq e]; rfl
theorem ef_le {e : Ent} (h1 : e.1.size ≤ 64) (h2 : e.2.value.length ≤ 256) : (ef e).length ≤ 400 := by
 have := ef_len e; have := lg_le (k := e.1) (c := e.2) h1 h2; omega
theorem flat_le : ∀ {M : List Ent}, (∀ e ∈ M, e.1.size ≤ 64 ∧ e.2.value.length ≤ 256) → (M.flatMap ef).length ≤ 400 * M.length
 | [], _ => by simp
 | e :: M, h => by
  have h1 := ef_le (h e (by simp)).1 (h e (by simp)).2
  have h2 := flat_le (M := M) fun x hx => h x (by simp [hx])
  rw [List.flatMap_cons, List.length_append, List.length_cons]; omega
def entOk (r : Nat) (L : List Ent) : Prop := ∀ e ∈ L, 1 ≤ e.1.size ∧ e.1.size ≤ 64 ∧ e.2.value.length ≤ 256 ∧ 1 ≤ e.2.rev ∧ e.2.rev ≤ r
theorem rd_map {L : List Ent} {i : Nat} (h : i < L.length) : rd (L.map rowOf) (i : Int) = rowOf L[i] := by rw [rd_eq (by simpa using h)]; simp
theorem rbytes_eq {k : Nat} (hk : Fuel k) {L : List Ent} {r : Nat} (hr : r ≤ 1099511627776) (hl : L.length < 2000000000) (hI : entOk r L) : haulageref13_Table_Bytes.f k (some ⟨L.map rowOf, (r : Int)⟩) = some (form (L, r)) := by
 have h24 : 1099511627776 ≤ k := hk
 unfold haulageref13_Table_Bytes.f
 simp only [Option.isNone_some, Bool.false_eq_true, if_false, Option.bind_some, List.length_map]
 rw [wr (n := 400 * (L.length : Int)) (by omega) (by omega), wr (by omega) (by omega)]
 have hf : ∀ n, (fm n).length ≤ 10 := fun n => by rw [fm_len]; exact (nm_le n).2
 have f1 := hf r
 have f2 := hf L.length
 have e1 : haulageref01_New.f (30 + 400 * (L.length : Int)) = some (W1 (30 + 400 * (L.length : Int)) []) := by
  unfold haulageref01_New.f haulageref01_New.j1; rw [if_neg (by omega)]
 rw [bind_eq e1, wru (n := (r : Int)) (by omega) (by omega), bind_eq (rNum_eq hk (by omega) (by simp; omega) (by omega)), wru (n := (L.length : Int)) (by omega) (by omega), bind_eq (rNum_eq hk (by omega) (by simp; omega) (by omega))]
 have hI' : ∀ e ∈ L, e.1.size ≤ 64 ∧ e.2.value.length ≤ 256 := fun e he => ⟨(hI e he).2.1, (hI e he).2.2.1⟩
 obtain ⟨room, hroom⟩ : ∃ room, room = 30 + 400 * (L.length : Int) := ⟨_, rfl⟩
 obtain ⟨hd, hhd⟩ : ∃ hd, hd = [] ++ fm r ++ fm L.length := ⟨_, rfl⟩
 have lhd : hd.length ≤ 20 := by rw [hhd]; simp; omega
 rw [← hroom, ← hhd]
 have e : loop (fun (s_ : (Option Wr1) × Int) => haulageref13_Table_Bytes.b1 k ⟨L.map rowOf, (r : Int)⟩ s_.1 s_.2) k (W1 room hd, 0) = some (W1 room (hd ++ L.flatMap ef)) := by
  have e0 : (W1 room hd, (0 : Int)) = (W1 room (hd ++ (L.take 0).flatMap ef), ((0 : Nat) : Int)) := by simp
  rw [e0]
  refine oa_count (s := fun i : Nat => (W1 room (hd ++ (L.take i).flatMap ef), (i : Int))) (N := L.length) (by omega) (fun i hi => ?_) ?_
  ·simp only
   unfold haulageref13_Table_Bytes.b1
   have hm := hI L[i] (List.getElem_mem hi)
   have hfl := flat_le (M := L.take i) fun e he => hI' e (List.mem_of_mem_take he)
   have hfi : (L.take i).length = i := by simp; omega
   have g1 := hf (sb L[i].1).length
   have g2 := hf L[i].2.value.length
   have g3 := hf L[i].2.rev.toNat
   have gs := sb_len L[i].1
   rw [if_pos (by simp; omega), if_pos (by simp; omega), rd_map hi]
   rw [bind_eq (rText_eq hk (a := (rowOf L[i]).Key) (by simp only [rowOf, List.length_append]; omega) (by omega)), if_pos (by simp; omega)]
   rw [bind_eq (rText_eq hk (a := (rowOf L[i]).Value) (by simp only [rowOf, List.length_append]; omega) (by omega)), if_pos (by simp; omega)]
   have er : IntKind.u64.wrap (rowOf L[i]).Rev = ((L[i].2.rev.toNat : Nat) : Int) := by
    show IntKind.u64.wrap L[i].2.rev = _
    rw [wru (by omega) (by omega)]; omega
   rw [er, bind_eq (rNum_eq hk (by omega) (by simp only [rowOf, List.length_append]; omega) (by omega)), wrS i (by omega), take_succ' hi, List.flatMap_append]
   simp only [List.flatMap_cons, List.flatMap_nil, List.append_nil]
   congr 4
   show _ = hd ++ ((L.take i).flatMap ef ++ ef L[i])
   unfold ef rowOf
   simp only [List.append_assoc, sb_len]
  ·simp only
   unfold haulageref13_Table_Bytes.b1
   rw [if_neg (by simp), List.take_length]
 rw [bind_eq e]
 unfold haulageref13_Table_Bytes.j2
 have hfl := flat_le (M := L) hI'
 rw [bind_eq (rDone_eq hk (by rw [List.length_append]; omega))]
 rw [hhd]; rfl
def rs1 (p : List Int) (a : Nat) (f : Int) : Rd1 := ⟨p, (a : Int), [(p.length : Int)], f⟩
theorem rleft_eq {p : List Int} {a : Nat} {f : Int} (ha : a ≤ p.length) (hl : p.length < 1000000000000) : haulageref01_Reader_left.f (some (rs1 p a f)) = some ((p.length : Int) - (a : Int)) := by
 unfold haulageref01_Reader_left.f rs1
 simp only [Option.bind_some, List.length_cons, List.length_nil]
 rw [if_pos (by decide)]
 show some (IntKind.i64.wrap ((p.length : Int) - (a : Int))) = _
 rw [wr (by omega) (by omega)]
theorem rbytes_no {k : Nat} {p : List Int} {a n : Nat} (ha : a ≤ p.length) (hl : p.length < 1000000000000) (h : p.length - a < n) : haulageref01_Reader_bytes.f k (some (rs1 p a 0)) (n : Int) = some ([], some (rs1 p a 10)) := by
 unfold haulageref01_Reader_bytes.f
 rw [bind_eq (rleft_eq ha hl), if_pos (by omega)]; rfl
theorem rbytes_yes {k : Nat} (hk : Fuel k) {p : List Int} {a n : Nat} (ha : a + n ≤ p.length) (hl : p.length < 1000000000000) : haulageref01_Reader_bytes.f k (some (rs1 p a 0)) (n : Int) = some ((p.drop a).take n, some (rs1 p (a + n) 0)) := by
 have h24 : 1099511627776 ≤ k := hk
 unfold haulageref01_Reader_bytes.f
 rw [bind_eq (rleft_eq (by omega) hl), if_neg (by omega)]
 have e : loop (fun (s_ : (List Int) × Int) => haulageref01_Reader_bytes.b1 (some (rs1 p a 0)) (n : Int) s_.1 s_.2) k ([], 0) = some ((p.drop a).take n) := by
  have e0 : (([] : List Int), (0 : Int)) = ((p.drop a).take 0, ((0 : Nat) : Int)) := by simp
  rw [e0]
  refine oa_count (s := fun i : Nat => ((p.drop a).take i, (i : Int))) (N := n) (by omega) (fun i hi => ?_) ?_
  ·simp only
   unfold haulageref01_Reader_bytes.b1 rs1
   simp only [Option.bind_some]
   have hd : i < (p.drop a).length := by simp; omega
   rw [if_pos (by omega), wr (by omega) (by omega), if_pos (by omega), if_pos (by simp; omega), wrS i (by omega), show (a : Int) + (i : Int) = ((a + i : Nat) : Int) from by omega, rd_eq (by omega), take_succ' hd, List.getElem_drop]
  ·simp only
   unfold haulageref01_Reader_bytes.b1
   rw [if_neg (by omega)]
 rw [bind_eq e]
 unfold haulageref01_Reader_bytes.j2 rs1
 simp only [Option.bind_some]
 rw [wr (by omega) (by omega), show (a : Int) + (n : Int) = ((a + n : Nat) : Int) from by omega]
def NumR (p : List Int) (a k n : Nat) (v : Int) (r : Rd1) : Prop := ∃ (a' : Nat) (f : Int), r = rs1 p a' f ∧ a ≤ a' ∧ a' ≤ p.length ∧
 ((f ≠ 0 ∧ v = 0 ∧ ∀ m rest, rnum 0 (p.drop a) k (n : Int) ≠ .inr (m, rest, 0)) ∨ (f = 0 ∧ a < a' ∧ rnum 0 (p.drop a) k (n : Int) = .inr (v, p.drop a', 0)))
theorem pow64 {k : Nat} (h : k ≤ 9) : 2 ^ (7 * k) ≤ 9223372036854775808 := by
 have : 2 ^ (7 * k) ≤ 2 ^ 63 := Nat.pow_le_pow_right (by decide) (by omega)
 simpa using this
theorem acc_ref {k n c : Nat} (hk : k ≤ 9) (hc : c ≤ 255) (hn : n < 2 ^ (7 * k)) (ht : n + c % 128 * 2 ^ (7 * k) < 2 ^ 64) :
  IntKind.u64.wrap ((n : Int) + IntKind.u64.wrap (((2 ^ (7 * k) : Nat) : Int) * IntKind.u64.wrap (Int.tmod (c : Int) 128))) = acc k (n : Int) (c : Int) := by
 have e : Int.tmod (c : Int) 128 = ((c % 128 : Nat) : Int) := by rw [Int.tmod_eq_emod_of_nonneg (by omega)]; omega
 rw [acc_eq hk hc hn ht, e, wr64 (by omega : c % 128 < 2 ^ 64), ← Int.natCast_mul, Nat.mul_comm (2 ^ (7 * k)), wr64 (by omega), ← Int.natCast_add, wr64 ht]
theorem rnumber_loop {k0 : Nat} (hk0 : Fuel k0) {p : List Int} (hb : bytesR p) (hl : p.length < 1000000000000) : ∀ (j k n a m : Nat), k + j = 9 → n < 2 ^ (7 * k) → a ≤ p.length → j < m →
  ∃ v r, loop (fun (s_ : (Option Rd1) × Int × Int × Int) => haulageref01_Reader_number.b3 k0 s_.1 s_.2.1 s_.2.2.1 s_.2.2.2) m (some (rs1 p a 0), (n : Int), ((2 ^ (7 * k) : Nat) : Int), (k : Int)) = some (.inr (v, some r)) ∧ NumR p a k n v r := by
 intro j
 induction j with
 | zero =>
  intro k n a m hkj hn ha hm
  obtain rfl : k = 9 := by omega
  obtain ⟨m, rfl⟩ : ∃ q, m = q + 1 := ⟨m - 1, by omega⟩
  by_cases hs : a < p.length
  ·have hd : p.drop a = p[a] :: p.drop (a + 1) := List.drop_eq_getElem_cons hs
   obtain ⟨c0, c1⟩ := hb p[a] (List.getElem_mem hs)
   obtain ⟨c, hc⟩ := Int.eq_ofNat_of_zero_le c0
   rw [hc] at hd c1
   have eb : haulageref01_Reader_bytes.f k0 (some (rs1 p a 0)) 1 = some ([(c : Int)], some (rs1 p (a + 1) 0)) := by
    have := rbytes_yes hk0 (p := p) (a := a) (n := 1) (by omega) hl
    rw [hd] at this; simpa using this
   by_cases bad : 1 < (c : Int) ∨ (c : Int) = 0
   ·refine ⟨0, rs1 p (a + 1) 11, loop_done ?_, a + 1, 11, rfl, by omega, by omega, .inl ⟨by decide, rfl, fun m rest h => ?_⟩⟩
    ·simp only
     unfold haulageref01_Reader_number.b3
     rw [if_pos (by decide), bind_eq eb]
     simp only [Option.bind_some, rs1, if_true]
     rw [if_pos (by simp), if_pos (by decide)]
     show (if 1 < (c : Int) then _ else _) = _
     by_cases b1 : 1 < (c : Int)
     ·rw [if_pos b1]; rfl
     ·rw [if_neg b1]
      have b0 : (c : Int) = 0 := bad.resolve_left b1
      show (if (c : Int) = 0 then _ else _) = _
      rw [if_pos b0]; rfl
    ·rw [hd, rnum_cons, if_pos (by omega)] at h; cases h
   ·have c1' : c = 1 := by omega
    subst c1'
    have ht : n + 1 % 128 * 2 ^ (7 * 9) < 2 ^ 64 := by
     have : n < 2 ^ 63 := hn
     have e2 : (2 : Nat) ^ (7 * 9) = 9223372036854775808 := by decide
     have e3 : (2 : Nat) ^ 63 = 9223372036854775808 := by decide
     have e4 : (2 : Nat) ^ 64 = 18446744073709551616 := by decide
     omega
    refine ⟨acc 9 n 1, rs1 p (a + 1) 0, loop_done ?_, a + 1, 0, rfl, by omega, by omega, .inr ⟨rfl, by omega, ?_⟩⟩
    ·simp only
     unfold haulageref01_Reader_number.b3
     rw [if_pos (by decide), bind_eq eb]
     simp only [Option.bind_some, rs1, if_true]
     rw [if_pos (by simp), if_pos (by decide)]
     show haulageref01_Reader_number.j2 ([1], _) n _ 9 false = _
     unfold haulageref01_Reader_number.j2
     rw [if_neg (by simp)]
     show (if (1 : Int) < 128 then some (Ctl.done (Sum.inr (IntKind.u64.wrap ((n : Int) + IntKind.u64.wrap (((2 ^ (7 * 9) : Nat) : Int) * IntKind.u64.wrap (Int.tmod ((1 : Nat) : Int) 128))), _))) else _) = _
     rw [if_pos (by decide), acc_ref (by omega) (by omega) hn ht]; rfl
    ·rw [hd, rnum_cons, if_neg (by omega), if_pos (by decide)]; rfl
  ·refine ⟨0, rs1 p a 10, loop_done ?_, a, 10, rfl, Nat.le_refl _, ha, .inl ⟨by decide, rfl, fun m rest h => ?_⟩⟩
   ·simp only
    unfold haulageref01_Reader_number.b3
    have eb : haulageref01_Reader_bytes.f k0 (some (rs1 p a 0)) 1 = some ([], some (rs1 p a 10)) := rbytes_no (k := k0) (p := p) (a := a) (n := 1) ha hl (by omega)
    rw [if_pos (by decide), bind_eq eb]
    simp only [Option.bind_some, rs1]
    rw [if_neg (by decide)]
   ·rw [List.drop_of_length_le (by omega), rnum_nil] at h; cases h
 | succ j ih =>
  intro k n a m hkj hn ha hm
  obtain ⟨m, rfl⟩ : ∃ q, m = q + 1 := ⟨m - 1, by omega⟩
  have k8 : k ≤ 8 := by omega
  by_cases hs : a < p.length
  ·have hd : p.drop a = p[a] :: p.drop (a + 1) := List.drop_eq_getElem_cons hs
   obtain ⟨c0, c1⟩ := hb p[a] (List.getElem_mem hs)
   obtain ⟨c, hc⟩ := Int.eq_ofNat_of_zero_le c0
   rw [hc] at hd c1
   have c255 : c ≤ 255 := by omega
   have eb : haulageref01_Reader_bytes.f k0 (some (rs1 p a 0)) 1 = some ([(c : Int)], some (rs1 p (a + 1) 0)) := by
    have := rbytes_yes hk0 (p := p) (a := a) (n := 1) (by omega) hl
    rw [hd] at this; simpa using this
   have ht : n + c % 128 * 2 ^ (7 * k) < 2 ^ 64 := k9 (by omega) hn (by omega) (by omega)
   have hstep : haulageref01_Reader_number.b3 k0 (some (rs1 p a 0)) (n : Int) ((2 ^ (7 * k) : Nat) : Int) (k : Int) = haulageref01_Reader_number.j2 ([(c : Int)], some (rs1 p (a + 1) 0)) (n : Int) ((2 ^ (7 * k) : Nat) : Int) (k : Int) (decide ((c : Int) = 0) && decide (0 < (k : Int))) := by
    unfold haulageref01_Reader_number.b3
    rw [if_pos (by omega), bind_eq eb]
    simp only [Option.bind_some, rs1, if_true]
    rw [if_pos (by simp), if_neg (by omega)]
    show (if (c : Int) = 0 then _ else _) = _
    by_cases z : (c : Int) = 0
    ·rw [if_pos z, decide_eq_true z, Bool.true_and]
    ·rw [if_neg z, decide_eq_false z, Bool.false_and]
   by_cases bad : 0 < k ∧ (c : Int) = 0
   ·refine ⟨0, rs1 p (a + 1) 11, loop_done ?_, a + 1, 11, rfl, by omega, by omega, .inl ⟨by decide, rfl, fun m rest h => ?_⟩⟩
    ·simp only
     rw [hstep, decide_eq_true bad.2, decide_eq_true (show 0 < (k : Int) by omega)]; rfl
    ·rw [hd, rnum_cons, if_pos (.inr bad)] at h; cases h
   ·have hf : (decide ((c : Int) = 0) && decide (0 < (k : Int))) = false := by
     rw [Bool.and_eq_false_iff, decide_eq_false_iff_not, decide_eq_false_iff_not]; omega
    have hb9 : ¬ ((k = 9 ∧ 1 < (c : Int)) ∨ (0 < k ∧ (c : Int) = 0)) := by omega
    have hval : IntKind.u64.wrap ((n : Int) + IntKind.u64.wrap (((2 ^ (7 * k) : Nat) : Int) * IntKind.u64.wrap (Int.tmod (c : Int) 128))) = acc k (n : Int) (c : Int) := acc_ref (by omega) c255 hn ht
    by_cases c128 : (c : Int) < 128
    ·refine ⟨acc k n c, rs1 p (a + 1) 0, loop_done ?_, a + 1, 0, rfl, by omega, by omega, .inr ⟨rfl, by omega, ?_⟩⟩
     ·simp only
      rw [hstep, hf]
      unfold haulageref01_Reader_number.j2
      rw [if_neg (by simp)]
      show (if (c : Int) < 128 then some (Ctl.done (Sum.inr (IntKind.u64.wrap ((n : Int) + IntKind.u64.wrap (((2 ^ (7 * k) : Nat) : Int) * IntKind.u64.wrap (Int.tmod (c : Int) 128))), _))) else _) = _
      rw [if_pos c128, hval]
     ·rw [hd, rnum_cons, if_neg hb9, if_pos c128]
    ·have hn' : n + c % 128 * 2 ^ (7 * k) < 2 ^ (7 * (k + 1)) := by rw [pow_step]; exact small hn (by omega)
     obtain ⟨v, r, e, a', f, hr, h1, h2, h3⟩ := ih (k + 1) (n + c % 128 * 2 ^ (7 * k)) (a + 1) m (by omega) hn' (by omega) (by omega)
     have hw : IntKind.u64.wrap (128 * ((2 ^ (7 * k) : Nat) : Int)) = ((2 ^ (7 * (k + 1)) : Nat) : Int) := by
      have := pow64 (k := k + 1) (by omega)
      rw [show (128 : Int) * ((2 ^ (7 * k) : Nat) : Int) = ((128 * 2 ^ (7 * k) : Nat) : Int) by rw [Int.natCast_mul]; rfl, ← pow_step, wr64 (by omega)]
     have hacc : acc k (n : Int) (c : Int) = ((n + c % 128 * 2 ^ (7 * k) : Nat) : Int) := acc_eq (by omega) c255 hn ht
     refine ⟨v, r, ?_, a', f, hr, by omega, h2, ?_⟩
     ·rw [loop_next (s' := (some (rs1 p (a + 1) 0), ((n + c % 128 * 2 ^ (7 * k) : Nat) : Int), ((2 ^ (7 * (k + 1)) : Nat) : Int), ((k + 1 : Nat) : Int)))]
      ·exact e
      ·simp only
       rw [hstep, hf]
       unfold haulageref01_Reader_number.j2
       rw [if_neg (by simp)]
       show (if (c : Int) < 128 then _ else some (Ctl.next (some (rs1 p (a + 1) 0), IntKind.u64.wrap ((n : Int) + IntKind.u64.wrap (((2 ^ (7 * k) : Nat) : Int) * IntKind.u64.wrap (Int.tmod (c : Int) 128))), IntKind.u64.wrap (128 * ((2 ^ (7 * k) : Nat) : Int)), IntKind.i64.wrap ((k : Int) + 1)))) = _
       rw [if_neg c128, hval, hw, hacc, wrS k (by omega)]
     ·rw [hd, rnum_cons, if_neg hb9, if_neg c128, hacc]
      rcases h3 with ⟨g1, g2, g3⟩ | ⟨g1, g2, g3⟩
      ·exact .inl ⟨g1, g2, g3⟩
      ·exact .inr ⟨g1, by omega, g3⟩
  ·refine ⟨0, rs1 p a 10, loop_done ?_, a, 10, rfl, Nat.le_refl _, ha, .inl ⟨by decide, rfl, fun m rest h => ?_⟩⟩
   ·simp only
    unfold haulageref01_Reader_number.b3
    have eb : haulageref01_Reader_bytes.f k0 (some (rs1 p a 0)) 1 = some ([], some (rs1 p a 10)) := rbytes_no (k := k0) (p := p) (a := a) (n := 1) ha hl (by omega)
    rw [if_pos (by omega), bind_eq eb]
    simp only [Option.bind_some, rs1]
    rw [if_neg (by decide)]
   ·rw [List.drop_of_length_le (by omega), rnum_nil] at h; cases h
theorem rnumber_eq {k : Nat} (hk : Fuel k) {p : List Int} (hb : bytesR p) (hl : p.length < 1000000000000) {a : Nat} (ha : a ≤ p.length) :
  ∃ v a' f, haulageref01_Reader_number.f k (some (rs1 p a 0)) = some (v, some (rs1 p a' f)) ∧ a ≤ a' ∧ a' ≤ p.length ∧
   ((f ≠ 0 ∧ v = 0 ∧ ∀ m rest, m < 2 ^ 64 → p.drop a ≠ fm m ++ rest) ∨ (f = 0 ∧ a < a' ∧ ∃ m : Nat, v = (m : Int) ∧ m < 2 ^ 64 ∧ p.drop a = fm m ++ p.drop a')) := by
 have h24 : 1099511627776 ≤ k := hk
 obtain ⟨v, r, e, a', f, rfl, h1, h2, h3⟩ := rnumber_loop hk hb hl 9 0 0 a k (by omega) (by decide) ha (by omega)
 have hbd : bytesR (p.drop a) := fun c hc => hb c (List.mem_of_mem_drop hc)
 refine ⟨v, a', f, ?_, h1, h2, ?_⟩
 ·unfold haulageref01_Reader_number.f
  have e' : loop (fun (s_ : (Option Rd1) × Int × Int × Int) => haulageref01_Reader_number.b3 k s_.1 s_.2.1 s_.2.2.1 s_.2.2.2) k (some (rs1 p a 0), 0, 1, 0) = some (.inr (v, some (rs1 p a' f))) := e
  rw [bind_eq e']
 ·rcases h3 with ⟨g1, g2, g3⟩ | ⟨g1, g2, g3⟩
  ·refine .inl ⟨g1, g2, fun m rest hm he => ?_⟩
   have := rnum_form hm rest
   rw [← he] at this
   exact g3 _ _ this
  ·refine .inr ⟨g1, g2, ?_⟩
   rcases rnum_inv (p.drop a) 0 0 hbd (by omega) (by decide) with ⟨l', e1⟩ | ⟨rest, e1⟩ | ⟨m, rest, e1, -, ht, hl'⟩
   ·rw [e1] at g3; cases g3
   ·rw [e1] at g3; cases g3
   ·rw [e1] at g3
    injection g3 with g4
    have g5 : ((0 + m * 2 ^ (7 * 0) : Nat) : Int) = v := congrArg (·.1) g4
    have g6 : rest = p.drop a' := congrArg (·.2.1) g4
    refine ⟨m, by rw [← g5]; simp, by simpa using ht, ?_⟩
    rw [hl', ← g6]; unfold fm; rw [List.append_assoc]; rfl
theorem rNum_any {k : Nat} (hk : Fuel k) {p : List Int} (hb : bytesR p) (hl : p.length < 1000000000000) {a : Nat} (ha : a ≤ p.length) {f0 : Int} :
  ∃ v a' f, haulageref01_Reader_Num.f k (some (rs1 p a f0)) = some (v, some (rs1 p a' f)) ∧ a ≤ a' ∧ a' ≤ p.length ∧ 0 ≤ v ∧ (f0 ≠ 0 → f = f0) ∧
   (f0 = 0 → ((f ≠ 0 ∧ ∀ m rest, m < 2 ^ 64 → p.drop a ≠ fm m ++ rest) ∨ (f = 0 ∧ a < a' ∧ ∃ m : Nat, v = (m : Int) ∧ m < 2 ^ 64 ∧ p.drop a = fm m ++ p.drop a'))) := by
 unfold haulageref01_Reader_Num.f haulageref01_Reader_dead.f
 by_cases c : f0 = 0
 ·subst c
  obtain ⟨v, a', f, e, h1, h2, h3⟩ := rnumber_eq hk hb hl ha
  refine ⟨v, a', f, ?_, h1, h2, ?_, fun h => absurd rfl h, fun _ => h3.imp (fun h => ⟨h.1, h.2.2⟩) id⟩
  ·simp only [Option.isNone_some, Bool.false_eq_true, if_false, Option.bind_some, rs1, decide_true, Bool.not_true]
   exact bind_eq e
  ·rcases h3 with ⟨-, g, -⟩ | ⟨-, -, m, g, -⟩ <;> omega
 ·refine ⟨0, a, f0, ?_, Nat.le_refl _, ha, Int.le_refl 0, fun _ => rfl, fun h => absurd h c⟩
  simp [rs1, c]
theorem rText_any {k : Nat} (hk : Fuel k) {p : List Int} (hb : bytesR p) (hl : p.length < 1000000000000) {a : Nat} (ha : a ≤ p.length) {f0 : Int} {most : Nat} (hm : most ≤ 1000000) :
  ∃ v a' f, haulageref01_Reader_Text.f k (some (rs1 p a f0)) (most : Int) = some (v, some (rs1 p a' f)) ∧ a ≤ a' ∧ a' ≤ p.length ∧ bytesR v ∧ v.length ≤ p.length ∧ (f0 ≠ 0 → f = f0) ∧
   (f0 = 0 → ((f ≠ 0 ∧ ∀ (u rest : List Int), u.length ≤ most → p.drop a ≠ fm u.length ++ (u ++ rest)) ∨ (f = 0 ∧ a < a' ∧ v.length ≤ most ∧ p.drop a = fm v.length ++ (v ++ p.drop a')))) := by
 have bnil : bytesR [] := fun c hc => by cases hc
 unfold haulageref01_Reader_Text.f haulageref01_Reader_dead.f
 by_cases c : f0 = 0
 ·subst c
  simp only [Option.isNone_some, Bool.false_eq_true, if_false, Option.bind_some, rs1, decide_true, Bool.not_true]
  rw [if_neg (by omega)]
  unfold haulageref01_Reader_Text.j1
  obtain ⟨v, a1, f1, e, h1, h2, h3⟩ := rnumber_eq hk hb hl ha
  have e' := e
  unfold rs1 at e'
  rw [bind_eq e']
  simp only [Option.bind_some]
  rcases h3 with ⟨g1, g2, g3⟩ | ⟨g1, g2, m, g3, g4, g5⟩
  ·refine ⟨[], a1, f1, by rw [if_neg g1], h1, h2, bnil, by simp, fun h => absurd rfl h, fun _ => .inl ⟨g1, fun u rest hu he => ?_⟩⟩
   exact g3 u.length (u ++ rest) (by omega) he
  ·subst g1
   rw [if_pos rfl, wru (n := (most : Int)) (by omega) (by omega)]
   by_cases big : (most : Int) < v
   ·refine ⟨[], a1, 11, by rw [if_pos big], h1, h2, bnil, by simp, fun h => absurd rfl h, fun _ => .inl ⟨by decide, fun u rest hu he => ?_⟩⟩
    have hE := rnum_form (m := m) g4 (p.drop a1)
    have hE2 := rnum_form (m := u.length) (by omega) (u ++ rest)
    rw [← g5] at hE
    rw [← he] at hE2
    rw [hE] at hE2
    injection hE2 with q
    have : (m : Int) = (u.length : Int) := congrArg (·.1) q
    omega
   ·rw [if_neg big, g3, wr (n := (m : Int)) (by omega) (by omega)]
    have hE := rnum_form (m := m) g4 (p.drop a1)
    rw [← g5] at hE
    by_cases short : p.length - a1 < m
    ·have eb := rbytes_no (k := k) (p := p) (a := a1) (n := m) h2 hl short
     unfold rs1 at eb
     refine ⟨[], a1, 10, by rw [bind_eq eb], h1, h2, bnil, by simp, fun h => absurd rfl h, fun _ => .inl ⟨by decide, fun u rest hu he => ?_⟩⟩
     have hE2 := rnum_form (m := u.length) (by omega) (u ++ rest)
     rw [← he, hE] at hE2
     injection hE2 with q
     have q1 : (m : Int) = (u.length : Int) := congrArg (·.1) q
     have q2 : p.drop a1 = u ++ rest := congrArg (·.2.1) q
     have := congrArg List.length q2
     simp at this; omega
    ·have eb := rbytes_yes hk (p := p) (a := a1) (n := m) (by omega) hl
     unfold rs1 at eb
     have hvl : ((p.drop a1).take m).length = m := by simp; omega
     refine ⟨(p.drop a1).take m, a1 + m, 0, by rw [bind_eq eb], by omega, by omega, fun c hc => hb c (List.mem_of_mem_drop (List.mem_of_mem_take hc)), by omega, fun h => absurd rfl h, fun _ => .inr ⟨rfl, by omega, by omega, ?_⟩⟩
     rw [hvl, g5, ← List.drop_drop, List.take_append_drop]
 ·refine ⟨[], a, f0, ?_, Nat.le_refl _, ha, bnil, by simp, fun _ => rfl, fun h => absurd h c⟩
  simp [rs1, c]
def cmpL : List Int → List Int → Int
 | [], [] => 0
 | [], _ :: _ => -1
 | _ :: _, [] => 1
 | x :: a, y :: b => if x < y then -1 else if y < x then 1 else cmpL a b
theorem order_loop (a b : List Int) (hl : a.length < 1000000000000) : ∀ (n i m : Nat), i + n = a.length → n < m → i ≤ b.length →
  (∃ v, loop (fun (s_ : Int) => haulageref13_order.b2 a b s_) m (i : Int) = some (.inr v) ∧ cmpL (a.drop i) (b.drop i) = v) ∨
  (loop (fun (s_ : Int) => haulageref13_order.b2 a b s_) m (i : Int) = some (.inl ()) ∧ haulageref13_order.j3 a b = some (cmpL (a.drop i) (b.drop i)))
 | _, _, 0, _, h, _ => absurd h (by omega)
 | 0, i, m + 1, h, _, hb => by
  right
  refine ⟨loop_done ?_, ?_⟩
  ·unfold haulageref13_order.b2 haulageref13_order.j1; rw [if_neg (by omega), if_neg (by simp)]
  ·rw [List.drop_of_length_le (by omega : a.length ≤ i)]
   unfold haulageref13_order.j3
   by_cases c : i < b.length
   ·rw [List.drop_eq_getElem_cons c, if_pos (by omega)]; rfl
   ·rw [List.drop_of_length_le (by omega), if_neg (by omega), if_neg (by omega)]; rfl
 | n + 1, i, m + 1, h, hm, hb => by
  have hi : i < a.length := by omega
  rw [List.drop_eq_getElem_cons hi]
  by_cases c : i < b.length
  ·rw [List.drop_eq_getElem_cons c]
   have hstep : haulageref13_order.b2 a b (i : Int) = if a[i] < b[i] then some (.done (.inr (-1))) else if b[i] < a[i] then some (.done (.inr 1)) else some (.next ((i + 1 : Nat) : Int)) := by
    unfold haulageref13_order.b2 haulageref13_order.j1
    rw [if_pos (by omega), decide_eq_true (by omega), if_pos rfl, if_pos (by omega), if_pos (by omega), rd_eq hi, rd_eq c]
    by_cases c1 : a[i] < b[i]
    ·rw [if_pos c1, if_pos c1]
    ·rw [if_neg c1, if_neg c1, if_pos (by omega), if_pos (by omega), wrS i (by omega)]
   unfold cmpL
   by_cases c1 : a[i] < b[i]
   ·left; exact ⟨-1, loop_done (by rw [hstep, if_pos c1]), by rw [if_pos c1]⟩
   ·by_cases c2 : b[i] < a[i]
    ·left; exact ⟨1, loop_done (by rw [hstep, if_neg c1, if_pos c2]), by rw [if_neg c1, if_pos c2]⟩
    ·rw [if_neg c1, if_neg c2, loop_next (s' := ((i + 1 : Nat) : Int)) (by rw [hstep, if_neg c1, if_neg c2])]
     exact order_loop a b hl n (i + 1) m (by omega) (by omega) (by omega)
  ·right
   rw [List.drop_of_length_le (by omega : b.length ≤ i)]
   refine ⟨loop_done ?_, ?_⟩
   ·unfold haulageref13_order.b2 haulageref13_order.j1
    rw [if_pos (by omega), decide_eq_false (by omega), if_neg (by simp)]
   ·unfold haulageref13_order.j3
    rw [if_neg (by omega), if_pos (by omega)]; rfl
theorem order_eq {k : Nat} (hk : Fuel k) (a b : List Int) (hl : a.length < 1000000000) : haulageref13_order.f k a b = some (cmpL a b) := by
 have h24 : 1099511627776 ≤ k := hk
 unfold haulageref13_order.f
 rcases order_loop a b (by omega) a.length 0 k (by omega) (by omega) (by omega) with ⟨v, e, hv⟩ | ⟨e, hv⟩
 ·have e' : loop (fun (s_ : Int) => haulageref13_order.b2 a b s_) k 0 = some (.inr v) := e
  rw [bind_eq e']; simp only; rw [← hv]; rfl
 ·have e' : loop (fun (s_ : Int) => haulageref13_order.b2 a b s_) k 0 = some (.inl ()) := e
  rw [bind_eq e']; exact hv
theorem cmpL_lt : ∀ a b : List Int, brange a → brange b → (0 ≤ cmpL a b ↔ Op.bytesLess (a.map fun n => UInt8.ofNat n.toNat) (b.map fun n => UInt8.ofNat n.toNat) = false)
 | [], [], _, _ => by simp [cmpL, Op.bytesLess]
 | [], _ :: _, _, _ => by simp [cmpL, Op.bytesLess]
 | _ :: _, [], _, _ => by simp [cmpL, Op.bytesLess]
 | x :: a, y :: b, ha, hb => by
  have ih := cmpL_lt a b (fun n hn => ha n (by simp [hn])) (fun n hn => hb n (by simp [hn]))
  obtain ⟨x0, x1⟩ := ha x (by simp)
  obtain ⟨y0, y1⟩ := hb y (by simp)
  obtain ⟨m, rfl⟩ := Int.eq_ofNat_of_zero_le x0
  obtain ⟨n, rfl⟩ := Int.eq_ofNat_of_zero_le y0
  have em : (UInt8.ofNat m).toNat = m := by rw [UInt8.toNat_ofNat']; omega
  have en : (UInt8.ofNat n).toNat = n := by rw [UInt8.toNat_ofNat']; omega
  unfold cmpL
  simp only [List.map_cons, Int.toNat_natCast, Op.bytesLess, Bool.or_eq_false_iff, Bool.and_eq_false_iff, decide_eq_false_iff_not, beq_eq_false_iff_ne, UInt8.lt_iff_toNat_lt, em, en, ne_eq]
  have eq : (UInt8.ofNat m = UInt8.ofNat n) ↔ m = n := ⟨fun h => by rw [← em, ← en, h], fun h => by rw [h]⟩
  rw [eq]
  by_cases c1 : (m : Int) < n
  ·rw [if_pos c1]; constructor
   ·intro h; omega
   ·intro h; omega
  ·rw [if_neg c1]
   by_cases c2 : (n : Int) < m
   ·rw [if_pos c2]; constructor
    ·intro _; exact ⟨by omega, .inl (by omega)⟩
    ·intro _; omega
   ·rw [if_neg c2, ih]; constructor
    ·intro h; exact ⟨by omega, .inr h⟩
    ·intro h; exact h.2.resolve_left (fun q => q (by omega))
theorem cmpL_ge {a b : List Int} (ha : brange a) (hb : brange b) : decide (0 ≤ cmpL a b) = !lt (bs a) (bs b) := by
 unfold lt
 rw [bs_toList, bs_toList]
 have := cmpL_lt a b ha hb
 by_cases c : 0 ≤ cmpL a b
 ·rw [decide_eq_true c, this.1 c]; rfl
 ·rw [decide_eq_false c]
  cases h : Op.bytesLess (a.map fun n => UInt8.ofNat n.toNat) (b.map fun n => UInt8.ofNat n.toNat) with
  | true => rfl
  | false => exact absurd (this.2 h) c
def rowIn (row : api_Row) : Prop := bytesR row.Key ∧ bytesR row.Value ∧ -9223372036854775808 ≤ row.Rev ∧ row.Rev ≤ 9223372036854775807 ∧ row.Key.length < 1000000000
def rowGood (rev : Int) (row : api_Row) : Prop := 1 ≤ row.Key.length ∧ row.Key.length ≤ 64 ∧ row.Value.length ≤ 256 ∧ 1 ≤ row.Rev ∧ row.Rev ≤ rev
structure UpTo (rev : Int) (R : List api_Row) (i : Nat) : Prop where
 good : ∀ q (h : q < R.length), q < i → rowGood rev R[q]
 dis : ∀ q q' (h : q < R.length) (h' : q' < R.length), q' < q → q < i → R[q'].Rev ≠ R[q].Rev
 ord : ∀ q (h : q < R.length) (h' : q - 1 < R.length), 0 < q → q < i → lt (bs R[q - 1].Key) (bs R[q].Key) = true
structure Seen (R : List api_Row) (i : Nat) (o : MpV Bool) : Prop where
 n : o.n = i
 f : ∀ x, (o.f x).getD false = true ↔ ∃ q, ∃ h : q < R.length, q < i ∧ R[q].Rev = x
theorem sound_step {k : Nat} (hk : Fuel k) {R : List api_Row} {rev : Int} (hin : ∀ r ∈ R, rowIn r) (hl : R.length < 1000000000) {i : Nat} (hi : i < R.length) {o : MpV Bool} (hS : Seen R i o) (hU : UpTo rev R i) :
  (∃ o', haulageref13_Sound.b6 k ⟨R, rev⟩ o (i : Int) = some (.next (o', ((i + 1 : Nat) : Int))) ∧ Seen R (i + 1) o' ∧ UpTo rev R (i + 1)) ∨
  (haulageref13_Sound.b6 k ⟨R, rev⟩ o (i : Int) = some (.done (.inr false)) ∧ ¬ UpTo rev R R.length) := by
 have hI := hin R[i] (List.getElem_mem hi)
 have hno : ∀ b, haulageref13_Sound.j4 k ⟨R, rev⟩ o (i : Int) b = if b = true then some (.done (.inr false)) else haulageref13_Sound.j4 k ⟨R, rev⟩ o (i : Int) false := by
  intro b; cases b
  ·simp
  ·rfl
 have bad : ∀ (h : ¬ rowGood rev R[i]), ¬ UpTo rev R R.length := fun h hu => h (hu.good i hi hi)
 unfold haulageref13_Sound.b6
 simp only
 rw [if_pos (by omega), if_pos (by omega), rd_eq hi]
 by_cases c1 : (R[i].Key.length : Int) < 1
 ·rw [if_pos c1]; exact .inr ⟨rfl, bad fun h => by have := h.1; omega⟩
 rw [if_neg c1]
 by_cases c2 : 64 < (R[i].Key.length : Int)
 ·rw [if_pos c2]; exact .inr ⟨rfl, bad fun h => by have := h.2.1; omega⟩
 rw [if_neg c2]
 by_cases c3 : 256 < (R[i].Value.length : Int)
 ·rw [if_pos c3]; exact .inr ⟨rfl, bad fun h => by have := h.2.2.1; omega⟩
 rw [if_neg c3]
 by_cases c4 : R[i].Rev < 1
 ·rw [if_pos c4]; exact .inr ⟨rfl, bad fun h => by have := h.2.2.2.1; omega⟩
 rw [if_neg c4]
 by_cases c5 : rev < R[i].Rev
 ·rw [if_pos c5]; exact .inr ⟨rfl, bad fun h => by have := h.2.2.2.2; omega⟩
 rw [if_neg c5]
 have wf : (Lit.int .i64 R[i].Rev).wf = true := by
  have := hI.2.2; simp [Lit.wf, IntKind.min, IntKind.max, IntKind.signed, IntKind.bits]; omega
 rw [if_pos wf]
 cases hs : (o.f R[i].Rev).getD false with
 | true =>
  right
  refine ⟨rfl, fun hu => ?_⟩
  obtain ⟨q, hq, hqi, e⟩ := (hS.f _).1 hs
  exact hu.dis i q hi hq hqi hi e
 | false =>
  have hnew : ∀ q (h : q < R.length), q < i → R[q].Rev ≠ R[i].Rev := fun q h hqi e => by
   have := (hS.f R[i].Rev).2 ⟨q, h, hqi, e⟩
   rw [hs] at this; cases this
  unfold haulageref13_Sound.j4
  simp only
  rw [if_neg (by simp), if_pos ⟨by rw [rd_eq hi]; exact wf, by rw [hS.n]; omega⟩]
  have hgood : rowGood rev R[i] := ⟨by omega, by omega, by omega, by omega, by omega⟩
  have hS' : Seen R (i + 1) ⟨fun i_ => if i_ = (rd R (i : Int)).Rev then some true else o.f i_, o.n + 1⟩ := by
   refine ⟨by show o.n + 1 = i + 1; rw [hS.n], fun x => ?_⟩
   simp only
   rw [rd_eq hi]
   by_cases cx : x = R[i].Rev
   ·rw [if_pos cx]; simp only [Option.getD_some, true_iff]
    exact ⟨i, hi, by omega, cx.symm⟩
   ·rw [if_neg cx, hS.f]
    constructor
    ·rintro ⟨q, h, h1, h2⟩; exact ⟨q, h, by omega, h2⟩
    ·rintro ⟨q, h, h1, h2⟩
     refine ⟨q, h, ?_, h2⟩
     rcases Nat.lt_succ_iff_lt_or_eq.1 h1 with g | g
     ·exact g
     ·subst g; exact absurd h2.symm cx
  have hdis : ∀ q q' (h : q < R.length) (h' : q' < R.length), q' < q → q < i + 1 → R[q'].Rev ≠ R[q].Rev := fun q q' h h' h1 h2 => by
   rcases Nat.lt_succ_iff_lt_or_eq.1 h2 with g | g
   ·exact hU.dis q q' h h' h1 g
   ·subst g; exact hnew q' h' h1
  have hg : ∀ q (h : q < R.length), q < i + 1 → rowGood rev R[q] := fun q h h2 => by
   rcases Nat.lt_succ_iff_lt_or_eq.1 h2 with g | g
   ·exact hU.good q h g
   ·subst g; exact hgood
  by_cases i0 : 0 < (i : Int)
  ·rw [if_pos i0, wr (by omega) (by omega), if_pos (by omega), show (i : Int) - 1 = ((i - 1 : Nat) : Int) from by omega, rd_eq (by omega : i - 1 < R.length), rd_eq hi]
   have hJ := hin R[i - 1] (List.getElem_mem (by omega))
   rw [bind_eq (order_eq hk _ _ hJ.2.2.2.2), cmpL_ge hJ.1 hI.1]
   unfold haulageref13_Sound.j5
   cases hlt : lt (bs R[i - 1].Key) (bs R[i].Key) with
   | true =>
    left
    rw [if_neg (by simp), wrS i (by omega)]
    refine ⟨_, rfl, hS', hg, hdis, fun q h h' h1 h2 => ?_⟩
    rcases Nat.lt_succ_iff_lt_or_eq.1 h2 with g | g
    ·exact hU.ord q h h' h1 g
    ·subst g; exact hlt
   | false =>
    right
    refine ⟨rfl, fun hu => ?_⟩
    have := hu.ord i hi (by omega) (by omega) hi
    rw [hlt] at this; cases this
  ·left
   have : i = 0 := by omega
   subst this
   rw [if_neg i0]
   unfold haulageref13_Sound.j5
   rw [if_neg (by simp), wrS 0 (by omega)]
   exact ⟨_, rfl, hS', hg, hdis, fun q h h' h1 h2 => absurd h1 (by omega)⟩
theorem rsound_eq {k : Nat} (hk : Fuel k) {R : List api_Row} {rev : Int} (hin : ∀ r ∈ R, rowIn r) (hl : R.length < 1000000000) :
  ∃ b, haulageref13_Sound.f k (some ⟨R, rev⟩) = some b ∧ (b = true ↔ 0 ≤ rev ∧ rev ≤ 1099511627776 ∧ UpTo rev R R.length) := by
 have h24 : 1099511627776 ≤ k := hk
 unfold haulageref13_Sound.f
 simp only [Option.bind_some]
 by_cases c1 : rev < 0
 ·rw [if_pos c1]; exact ⟨false, rfl, by simp; omega⟩
 rw [if_neg c1]
 by_cases c2 : 1099511627776 < rev
 ·rw [decide_eq_true c2]; exact ⟨false, rfl, by simp; omega⟩
 rw [decide_eq_false c2]
 unfold haulageref13_Sound.j1
 rw [if_neg (by simp)]
 obtain ⟨x, hx, hP⟩ := loop_inv (f := fun (s_ : (MpV Bool) × Int) => haulageref13_Sound.b6 k ⟨R, rev⟩ s_.1 s_.2) (I := fun i s => s.2 = (i : Int) ∧ Seen R i s.1 ∧ UpTo rev R i)
  (P := fun x => (x = Sum.inl () ∧ UpTo rev R R.length) ∨ (x = Sum.inr false ∧ ¬ UpTo rev R R.length)) (N := R.length)
  (by
   rintro i ⟨o, z⟩ hi ⟨rfl, hS, hU⟩
   rcases sound_step hk hin hl hi hS hU with ⟨o', e, h1, h2⟩ | ⟨e, h1⟩
   ·exact .inl ⟨_, e, rfl, h1, h2⟩
   ·exact .inr ⟨_, e, .inr ⟨rfl, h1⟩⟩)
  (by
   rintro ⟨o, z⟩ ⟨rfl, hS, hU⟩
   refine ⟨_, ?_, .inl ⟨rfl, hU⟩⟩
   simp only
   unfold haulageref13_Sound.b6
   rw [if_neg (by simp)]) R.length 0 (⟨fun _ => none, 0⟩, ((0 : Nat) : Int)) k
  ⟨rfl, ⟨rfl, fun x => ⟨fun h => by simp at h, fun ⟨q, h, h1, _⟩ => absurd h1 (by omega)⟩⟩, ⟨fun q h h1 => absurd h1 (by omega), fun q q' h h' h1 h2 => absurd h2 (by omega), fun q h h' h1 h2 => absurd h2 (by omega)⟩⟩ (by omega) (by omega)
 have hx' : loop (fun (s_ : (MpV Bool) × Int) => haulageref13_Sound.b6 k ⟨R, rev⟩ s_.1 s_.2) k (⟨fun _ => none, 0⟩, 0) = some x := hx
 rw [bind_eq hx']
 rcases hP with ⟨rfl, hu⟩ | ⟨rfl, hu⟩
 ·exact ⟨true, rfl, by simp only [true_iff]; exact ⟨by omega, by omega, hu⟩⟩
 ·exact ⟨false, rfl, by simp; intros; exact hu⟩
def entOf (r : api_Row) : Ent := (bs r.Key, ⟨r.Value, r.Rev⟩)
theorem rowOf_entOf {r : api_Row} (h : bytesR r.Key) : rowOf (entOf r) = r := by
 unfold rowOf entOf; simp only; rw [sb_bs h]
theorem map_entOf {R : List api_Row} (h : ∀ r ∈ R, rowIn r) : (R.map entOf).map rowOf = R := by
 rw [List.map_map]
 conv => rhs; rw [← List.map_id R]
 exact List.map_congr_left fun r hr => rowOf_entOf (h r hr).1
theorem upto_sound {R : List api_Row} {rev : Nat} (hu : UpTo rev R R.length) (hr : rev ≤ 1099511627776) : Sound (R.map entOf, rev) := by
 have hent : ∀ e ∈ R.map entOf, 1 ≤ e.1.size ∧ e.1.size ≤ 64 ∧ e.2.value.length ≤ 256 ∧ 1 ≤ e.2.rev ∧ e.2.rev ≤ (rev : Int) := by
  intro e he
  obtain ⟨r, hr', rfl⟩ := List.mem_map.1 he
  obtain ⟨q, hq, rfl⟩ := List.getElem_of_mem hr'
  obtain ⟨g1, g2, g3, g4, g5⟩ := hu.good q hq hq
  unfold entOf; simp only [bs_size]
  exact ⟨g1, g2, g3, g4, g5⟩
 have hdis : (revs (R.map entOf)).Nodup := by
  have : revs (R.map entOf) = R.map (·.Rev) := by simp [revs, entOf]
  rw [this, List.Nodup, List.pairwise_map, List.pairwise_iff_getElem]
  intro i j hi hj hij
  exact hu.dis j i hj hi hij hj
 refine ⟨⟨?_, revs_len hdis fun e he => (hent e he).2.2.2, hent⟩, hdis, hr⟩
 unfold Ord
 rw [List.pairwise_map, List.pairwise_iff_getElem]
 have key : ∀ (d i : Nat) (hi : i < R.length) (hj : i + d + 1 < R.length), lt (bs R[i].Key) (bs R[i + d + 1].Key) = true := by
  intro d
  induction d with
  | zero => intro i hi hj; exact hu.ord (i + 1) hj (by omega) (by omega) hj
  | succ d ih =>
   intro i hi hj
   exact lt_tr (ih i hi (by omega)) (hu.ord (i + (d + 1) + 1) hj (by omega) (by omega) hj)
 intro i j hi hj hij
 have := key (j - i - 1) i hi (by omega)
 have e : i + (j - i - 1) + 1 = j := by omega
 simp only [e] at this
 exact this
theorem sound_upto {s : St} (hS : Sound s) : UpTo (s.2 : Int) (s.1.map rowOf) (s.1.map rowOf).length := by
 have ko : ∀ (q : Nat) (h : q < (s.1.map rowOf).length), ∃ h' : q < s.1.length, (s.1.map rowOf)[q] = rowOf s.1[q] := fun q h => ⟨by simpa using h, by simp⟩
 refine ⟨fun q h _ => ?_, fun q q' h h' h1 _ => ?_, fun q h h' h1 _ => ?_⟩
 ·obtain ⟨g, e⟩ := ko q h
  rw [e]
  have := hS.inv.ent _ (List.getElem_mem g)
  unfold rowGood rowOf; simp only [sb_len]; exact this
 ·obtain ⟨g, e⟩ := ko q h
  obtain ⟨g', e'⟩ := ko q' h'
  rw [e, e']
  have hd := hS.dis
  unfold revs at hd
  rw [List.Nodup, List.pairwise_map, List.pairwise_iff_getElem] at hd
  exact hd q' q g' g h1
 ·obtain ⟨g, e⟩ := ko q h
  obtain ⟨g', e'⟩ := ko (q - 1) h'
  rw [e, e']
  have ho := hS.inv.ord
  unfold Ord at ho
  rw [List.pairwise_iff_getElem] at ho
  have := ho (q - 1) q g' g (by omega)
  unfold rowOf; simp only [bs_sb]; exact this
theorem rread_eq {k : Nat} (hk : Fuel k) (p : List Int) (hl : p.length < 2000000000) : haulageref01_Read.f k p = some (some (rs1 p 0 0)) := by
 have h24 : 1099511627776 ≤ k := hk
 unfold haulageref01_Read.f
 have e : loop (fun (s_ : Int × (List Int)) => haulageref01_Read.b1 p s_.1 s_.2) k (0, []) = some p := by
  have e0 : ((0 : Int), ([] : List Int)) = (((0 : Nat) : Int), p.take 0) := by simp
  rw [e0]
  refine oa_count (s := fun i : Nat => ((i : Int), p.take i)) (N := p.length) (by omega) (fun i hi => ?_) ?_
  ·simp only
   unfold haulageref01_Read.b1
   rw [if_pos (by omega), if_pos (by omega), if_pos (by simp; omega), wrS i (by omega), rd_eq hi, take_succ' hi]
  ·simp only
   unfold haulageref01_Read.b1
   rw [if_neg (by omega), List.take_length]
 rw [bind_eq e]; rfl
theorem fm_inj {m n : Nat} (hm : m < 2 ^ 64) (hn : n < 2 ^ 64) {x y : List Int} (h : fm m ++ x = fm n ++ y) : m = n ∧ x = y := by
 have h1 := rnum_form hm x
 have h2 := rnum_form hn y
 rw [h, h2] at h1
 injection h1 with q
 have q1 : (n : Int) = (m : Int) := congrArg (·.1) q
 have q2 : y = x := congrArg (·.2.1) q
 exact ⟨by omega, q2.symm⟩
theorem tx_inj {u v x y : List Int} (hu : u.length < 2 ^ 64) (hv : v.length < 2 ^ 64) (h : fm u.length ++ (u ++ x) = fm v.length ++ (v ++ y)) : u = v ∧ x = y := by
 obtain ⟨h1, h2⟩ := fm_inj hu hv h
 exact List.append_inj h2 h1
def RowsIn (p : List Int) (R : List api_Row) : Prop := ∀ r ∈ R, rowIn r
theorem wrapin (v : Int) : -9223372036854775808 ≤ IntKind.i64.wrap v ∧ IntKind.i64.wrap v ≤ 9223372036854775807 := by rw [IntKind.wrap_i64]; omega
theorem rread_j2 {k : Nat} {o : Option Rd1} {i : Int} {R : List api_Row} : haulageref13_Read.j2 k o i R false = some (.done (o, R)) := by
 unfold haulageref13_Read.j2; rw [if_neg (by simp)]
theorem rread_b3 {k : Nat} {t34 : Int × Option Rd1} {p : List Int} {a : Nat} {f i : Int} {R : List api_Row} : haulageref13_Read.b3 k t34 (some (rs1 p a f)) i R = haulageref13_Read.j2 k (some (rs1 p a f)) i R (decide (i < t34.1) && decide (f = 0)) := by
 unfold haulageref13_Read.b3
 by_cases c : i < t34.1
 ·rw [if_pos c, decide_eq_true c, Bool.true_and]; rfl
 ·rw [if_neg c, decide_eq_false c, Bool.false_and]
theorem rread_any {k : Nat} (hk : Fuel k) {p : List Int} (hb : bytesR p) (hl : p.length < 1000000000) (t34 : Int × Option Rd1) : ∀ (q m a : Nat) (f i : Int) (R : List api_Row), a ≤ p.length → p.length - a ≤ q → q + 1 < m → R.length + q < 2000000000 → RowsIn p R →
  ∃ a' f' R', loop (fun (s_ : (Option Rd1) × Int × (List api_Row)) => haulageref13_Read.b3 k t34 s_.1 s_.2.1 s_.2.2) m (some (rs1 p a f), i, R) = some (some (rs1 p a' f'), R') ∧ a' ≤ p.length ∧ R'.length ≤ R.length + q + 1 ∧ RowsIn p R' := by
 intro q
 induction q with
 | zero =>
  intro m a f i R ha hq hm hR hin
  obtain ⟨m, rfl⟩ : ∃ z, m = z + 1 := ⟨m - 1, by omega⟩
  cases hc : (decide (i < t34.1) && decide (f = 0)) with
  | false => exact ⟨a, f, R, loop_done (by simp only; rw [rread_b3, hc, rread_j2]), ha, by omega, hin⟩
  | true =>
   simp only [Bool.and_eq_true, decide_eq_true_eq] at hc
   obtain ⟨c1, rfl⟩ := hc
   obtain ⟨v1, a1, f1, e1, h1, h1', b1, l1, -, r1⟩ := rText_any hk hb (by omega) ha (f0 := 0) (most := 64) (by omega)
   obtain ⟨v2, a2, f2, e2, h2, h2', b2, l2, n2, r2⟩ := rText_any hk hb (by omega) h1' (f0 := f1) (most := 256) (by omega)
   obtain ⟨v3, a3, f3, e3, h3, h3', b3, n3, r3⟩ := rNum_any hk hb (by omega) h2' (f0 := f2)
   have hf1 : f1 ≠ 0 := by rcases r1 rfl with ⟨g, _⟩ | ⟨g, g2, _⟩; exact g; omega
   have hf2 : f2 ≠ 0 := by rw [n2 hf1]; exact hf1
   have hf3 : f3 ≠ 0 := by rw [n3 hf2]; exact hf2
   obtain ⟨m, rfl⟩ : ∃ z, m = z + 1 := ⟨m - 1, by omega⟩
   refine ⟨a3, f3, R ++ [api_Row.mk v1 v2 (IntKind.i64.wrap v3)], ?_, h3', by simp, ?_⟩
   ·rw [loop_next (s' := (some (rs1 p a3 f3), IntKind.u64.wrap (i + 1), R ++ [api_Row.mk v1 v2 (IntKind.i64.wrap v3)]))]
    ·exact loop_done (by simp only; rw [rread_b3, decide_eq_false hf3, Bool.and_false, rread_j2])
    ·simp only
     rw [rread_b3, decide_eq_true c1, decide_eq_true rfl]
     unfold haulageref13_Read.j2
     have e1' : haulageref01_Reader_Text.f k (some (rs1 p a 0)) 64 = some (v1, some (rs1 p a1 f1)) := e1
     have e2' : haulageref01_Reader_Text.f k (some (rs1 p a1 f1)) 256 = some (v2, some (rs1 p a2 f2)) := e2
     rw [if_pos (by simp), bind_eq e1', bind_eq e2', bind_eq e3, if_pos (by simp; omega)]
   ·intro r hr
    rcases List.mem_append.1 hr with g | g
    ·exact hin r g
    ·rw [List.mem_singleton.1 g]; exact ⟨b1, b2, (wrapin _).1, (wrapin _).2, by show v1.length < 1000000000; omega⟩
 | succ q ih =>
  intro m a f i R ha hq hm hR hin
  obtain ⟨m, rfl⟩ : ∃ z, m = z + 1 := ⟨m - 1, by omega⟩
  cases hc : (decide (i < t34.1) && decide (f = 0)) with
  | false => exact ⟨a, f, R, loop_done (by simp only; rw [rread_b3, hc, rread_j2]), ha, by omega, hin⟩
  | true =>
   simp only [Bool.and_eq_true, decide_eq_true_eq] at hc
   obtain ⟨c1, rfl⟩ := hc
   obtain ⟨v1, a1, f1, e1, h1, h1', b1, l1, -, r1⟩ := rText_any hk hb (by omega) ha (f0 := 0) (most := 64) (by omega)
   obtain ⟨v2, a2, f2, e2, h2, h2', b2, l2, n2, r2⟩ := rText_any hk hb (by omega) h1' (f0 := f1) (most := 256) (by omega)
   obtain ⟨v3, a3, f3, e3, h3, h3', b3, n3, r3⟩ := rNum_any hk hb (by omega) h2' (f0 := f2)
   have hstep : haulageref13_Read.b3 k t34 (some (rs1 p a 0)) i R = some (.next (some (rs1 p a3 f3), IntKind.u64.wrap (i + 1), R ++ [api_Row.mk v1 v2 (IntKind.i64.wrap v3)])) := by
    rw [rread_b3, decide_eq_true c1, decide_eq_true rfl]
    unfold haulageref13_Read.j2
    have e1' : haulageref01_Reader_Text.f k (some (rs1 p a 0)) 64 = some (v1, some (rs1 p a1 f1)) := e1
    have e2' : haulageref01_Reader_Text.f k (some (rs1 p a1 f1)) 256 = some (v2, some (rs1 p a2 f2)) := e2
    rw [if_pos (by simp), bind_eq e1', bind_eq e2', bind_eq e3, if_pos (by simp; omega)]
   have hin' : RowsIn p (R ++ [api_Row.mk v1 v2 (IntKind.i64.wrap v3)]) := by
    intro r hr
    rcases List.mem_append.1 hr with g | g
    ·exact hin r g
    ·rw [List.mem_singleton.1 g]; exact ⟨b1, b2, (wrapin _).1, (wrapin _).2, by show v1.length < 1000000000; omega⟩
   by_cases hf3 : f3 = 0
   ·have hf2 : f2 = 0 := Classical.byContradiction fun h => by have := n3 h; rw [hf3] at this; exact h this.symm
    have hf1 : f1 = 0 := Classical.byContradiction fun h => by have := n2 h; rw [hf2] at this; exact h this.symm
    have g1 : a < a1 := by rcases r1 rfl with ⟨g, _⟩ | ⟨_, g, _⟩; exact absurd hf1 g; exact g
    obtain ⟨a', f', R', e, x1, x2, x3⟩ := ih m a3 f3 (IntKind.u64.wrap (i + 1)) (R ++ [api_Row.mk v1 v2 (IntKind.i64.wrap v3)]) h3' (by omega) (by omega) (by simp; omega) hin'
    exact ⟨a', f', R', by rw [loop_next hstep]; exact e, x1, by simp at x2; omega, x3⟩
   ·obtain ⟨m, rfl⟩ : ∃ z, m = z + 1 := ⟨m - 1, by omega⟩
    exact ⟨a3, f3, _, by rw [loop_next hstep]; exact loop_done (by simp only; rw [rread_b3, decide_eq_false hf3, Bool.and_false, rread_j2]), h3', by (rw [List.length_append]; simp), hin'⟩
theorem ef_row (e : Ent) (rest : List Int) : ef e ++ rest = fm (rowOf e).Key.length ++ ((rowOf e).Key ++ (fm (rowOf e).Value.length ++ ((rowOf e).Value ++ (fm e.2.rev.toNat ++ rest)))) := by
 unfold ef rowOf; simp only [List.append_assoc, sb_len]
theorem rread_fwd {k : Nat} (hk : Fuel k) {p : List Int} (hb : bytesR p) (hl : p.length < 1000000000) {N : Nat} (hN : N < 1000000000) (t34 : Int × Option Rd1) (h34 : t34.1 = (N : Int)) : ∀ (L : List Ent) (m a i : Nat) (R : List api_Row), (∀ e ∈ L, 1 ≤ e.1.size ∧ e.1.size ≤ 64 ∧ e.2.value.length ≤ 256 ∧ 1 ≤ e.2.rev ∧ e.2.rev ≤ 1099511627776) → a ≤ p.length → p.drop a = L.flatMap ef → i + L.length = N → L.length < m → R.length + L.length < 1000000000 →
  loop (fun (s_ : (Option Rd1) × Int × (List api_Row)) => haulageref13_Read.b3 k t34 s_.1 s_.2.1 s_.2.2) m (some (rs1 p a 0), (i : Int), R) = some (some (rs1 p p.length 0), R ++ L.map rowOf)
 | [], m, a, i, R, _, ha, hd, hi, hm, _ => by
  obtain ⟨m, rfl⟩ : ∃ z, m = z + 1 := ⟨m - 1, by omega⟩
  have : a = p.length := by
   have := congrArg List.length hd
   simp at this; omega
  subst this
  rw [List.map_nil, List.append_nil]
  refine loop_done ?_
  simp only
  have : ¬ ((i : Int) < t34.1) := by rw [h34]; simp at hi; omega
  rw [rread_b3, decide_eq_false this, Bool.false_and, rread_j2]
 | x :: L, m, a, i, R, hE, ha, hd, hi, hm, hR => by
  obtain ⟨m, rfl⟩ : ∃ z, m = z + 1 := ⟨m - 1, by simp at hm; omega⟩
  obtain ⟨q1, q2, q3, q4, q5⟩ := hE x (by simp)
  rw [List.flatMap_cons, ef_row] at hd
  have lk : (rowOf x).Key.length = x.1.size := sb_len _
  have lv : (rowOf x).Value.length = x.2.value.length := rfl
  obtain ⟨v1, a1, f1, e1, h1, h1', b1, l1, -, r1⟩ := rText_any hk hb (by omega) ha (f0 := 0) (most := 64) (by omega)
  have p64 : (2 : Nat) ^ 64 = 18446744073709551616 := by decide
  rcases r1 rfl with ⟨_, g⟩ | ⟨rfl, w1, w2, w3⟩
  ·exact absurd hd (g _ _ (by omega))
  obtain ⟨rfl, t1⟩ := tx_inj (by omega) (by omega) (w3.symm.trans hd)
  obtain ⟨v2, a2, f2, e2, h2, h2', b2, l2, -, r2⟩ := rText_any hk hb (by omega) h1' (f0 := 0) (most := 256) (by omega)
  rcases r2 rfl with ⟨_, g⟩ | ⟨rfl, w4, w5, w6⟩
  ·exact absurd t1 (g _ _ (by omega))
  obtain ⟨rfl, t2⟩ := tx_inj (by omega) (by omega) (w6.symm.trans t1)
  obtain ⟨v3, a3, f3, e3, h3, h3', b3, -, r3⟩ := rNum_any hk hb (by omega) h2' (f0 := 0)
  rcases r3 rfl with ⟨_, g⟩ | ⟨rfl, w7, n, w8, w9, w10⟩
  ·exact absurd t2 (g _ _ (by omega))
  obtain ⟨hn, t3⟩ := fm_inj w9 (by omega) (w10.symm.trans t2)
  have hrow : api_Row.mk (rowOf x).Key (rowOf x).Value (IntKind.i64.wrap v3) = rowOf x := by
   rw [w8, hn, wr (by omega) (by omega)]
   show api_Row.mk _ _ _ = api_Row.mk _ _ x.2.rev
   congr 1; omega
  have c1 : (i : Int) < t34.1 := by rw [h34]; simp at hi; omega
  rw [loop_next (s' := (some (rs1 p a3 0), ((i + 1 : Nat) : Int), R ++ [rowOf x]))]
  ·rw [rread_fwd hk hb hl hN t34 h34 L m a3 (i + 1) (R ++ [rowOf x]) (fun e he => hE e (by simp [he])) h3' t3 (by simp at hi; omega) (by simp at hm; omega) (by simp at hR ⊢; omega)]
   simp
  ·simp only
   rw [rread_b3, decide_eq_true c1, decide_eq_true rfl]
   unfold haulageref13_Read.j2
   have e1' : haulageref01_Reader_Text.f k (some (rs1 p a 0)) 64 = some ((rowOf x).Key, some (rs1 p a1 0)) := e1
   have e2' : haulageref01_Reader_Text.f k (some (rs1 p a1 0)) 256 = some ((rowOf x).Value, some (rs1 p a2 0)) := e2
   rw [if_pos (by simp), bind_eq e1', bind_eq e2', bind_eq e3, if_pos (by simp at hR ⊢; omega)]
   simp only
   rw [hrow, show (i : Int) + 1 = ((i + 1 : Nat) : Int) from by omega, wru (by omega) (by simp at hi; omega)]
theorem rDone_no {p : List Int} {a : Nat} {f : Int} (ha : a ≤ p.length) (hl : p.length < 1000000000) : haulageref01_Reader_Done.f (some (rs1 p a f)) = some (if f = 0 then (if a < p.length then 12 else 0) else f) := by
 unfold haulageref01_Reader_Done.f
 simp only [Option.isNone_some, Bool.false_eq_true, if_false, Option.bind_some]
 by_cases c : f = 0
 ·rw [if_pos (show (rs1 p a f).Fault = 0 from c), if_pos c, bind_eq (rleft_eq ha (by omega))]
  by_cases c2 : a < p.length
  ·rw [if_pos (by omega), if_pos c2]; rfl
  ·rw [if_neg (by omega), if_neg c2]; rfl
 ·rw [if_neg (show ¬ (rs1 p a f).Fault = 0 from c), if_neg c]; rfl
theorem rRead_any {k : Nat} (hk : Fuel k) (p : List Int) (hb : bytesR p) (hl : p.length < 900000000) :
  ∃ m e, haulageref13_Read.f k p = some (m, e) ∧ ((e = 130 ∧ m = none ∧ ∀ s : St, Sound s → (∀ e ∈ s.1, bytesR e.2.value) → p ≠ form s) ∨ (e = 0 ∧ ∃ s : St, m = some ⟨s.1.map rowOf, (s.2 : Int)⟩ ∧ Sound s ∧ (∀ e ∈ s.1, bytesR e.2.value) ∧ p = form s)) := by
 have h24 : 1099511627776 ≤ k := hk
 have p64 : (2 : Nat) ^ 64 = 18446744073709551616 := by decide
 obtain ⟨v1, a1, f1, e1, h1, h1', b1, -, r1⟩ := rNum_any hk hb (by omega) (Nat.zero_le p.length) (f0 := 0)
 obtain ⟨v2, a2, f2, e2, h2, h2', b2, n2, r2⟩ := rNum_any hk hb (by omega) h1' (f0 := f1)
 obtain ⟨a3, f3, R, e3, h3, h3', hin⟩ := rread_any hk hb (by omega) (v2, some (rs1 p a2 f2)) p.length k a2 f2 0 [] h2' (by omega) (by omega) (by simp; omega) (fun r hr => by cases hr)
 have hRl : R.length < 1000000000 := by simp at h3'; omega
 have hread : haulageref13_Read.f k p = haulageref13_Read.j4 k p (v1, some (rs1 p a1 f1)) (some (rs1 p a3 f3)) R := by
  unfold haulageref13_Read.f
  rw [bind_eq (rread_eq hk p (by omega)), bind_eq e1, bind_eq e2]
  exact bind_eq e3
 have j5f : ∀ t l, haulageref13_Read.j5 t l true = some (none, 130) := fun t l => rfl
 have fwd : ∀ s : St, Sound s → p = form s → f3 = 0 ∧ a3 = p.length ∧ R = s.1.map rowOf ∧ IntKind.i64.wrap v1 = (s.2 : Int) := by
  intro s hS hp
  have ht := hS.top
  have hlen : s.1.length ≤ s.2 := hS.inv.len
  have d0 : p.drop 0 = fm s.2 ++ (fm s.1.length ++ s.1.flatMap ef) := by rw [List.drop_zero, hp]; unfold form; rw [List.append_assoc]
  have hsl : s.1.length < 1000000000 := by have := form_len s; rw [← hp] at this; omega
  rcases r1 rfl with ⟨_, g⟩ | ⟨rfl, w1, n, w2, w3, w4⟩
  ·exact absurd d0 (g _ _ (by omega))
  obtain ⟨hn1, t1⟩ := fm_inj w3 (by omega) (w4.symm.trans d0)
  rcases r2 rfl with ⟨_, g⟩ | ⟨rfl, w5, n', w6, w7, w8⟩
  ·exact absurd t1 (g _ _ (by omega))
  obtain ⟨hn2, t2⟩ := fm_inj w7 (by omega) (w8.symm.trans t1)
  have hE : ∀ e ∈ s.1, 1 ≤ e.1.size ∧ e.1.size ≤ 64 ∧ e.2.value.length ≤ 256 ∧ 1 ≤ e.2.rev ∧ e.2.rev ≤ 1099511627776 := fun e he => by have := hS.inv.ent e he; omega
  have := rread_fwd hk hb (by omega) (N := s.1.length) hsl (v2, some (rs1 p a2 0)) (by show v2 = _; rw [w6, hn2]) s.1 k a2 0 [] hE h2' t2 (by omega) (by omega) (by simp; omega)
  have e3' := e3
  rw [show ((0 : Nat) : Int) = 0 from rfl] at this
  rw [this] at e3'
  injection e3' with q
  have q1 : some (rs1 p p.length 0) = some (rs1 p a3 f3) := congrArg (·.1) q
  have q2 : [] ++ s.1.map rowOf = R := congrArg (·.2) q
  injection q1 with q3
  have q4 : (p.length : Int) = (a3 : Int) := congrArg Rd1.At q3
  have q5 : (0 : Int) = f3 := congrArg Rd1.Fault q3
  exact ⟨q5.symm, by omega, by rw [← q2]; rfl, by rw [w2, hn1, wr (by omega) (by omega)]⟩
 have hrv := wrapin v1
 obtain ⟨rev, hrev⟩ : ∃ rev, rev = IntKind.i64.wrap v1 := ⟨_, rfl⟩
 obtain ⟨b, eb, hb2⟩ := rsound_eq (rev := rev) hk hin (by omega)
 rw [hread]
 unfold haulageref13_Read.j4
 rw [bind_eq (rDone_no h3 (by omega))]
 by_cases cd : f3 = 0 ∧ a3 = p.length
 ·obtain ⟨rfl, rfl⟩ := cd
  have hd : (if (0 : Int) = 0 then (if p.length < p.length then (12 : Int) else 0) else 0) = 0 := by simp
  rw [if_pos hd, ← hrev, bind_eq eb]
  cases hbb : b with
  | false =>
   rw [if_neg (by simp), j5f]
   refine ⟨_, _, rfl, .inl ⟨rfl, rfl, fun s hS hv hp => ?_⟩⟩
   obtain ⟨_, _, hR, hw⟩ := fwd s hS hp
   have : b = true := hb2.2 ⟨by rw [hrev, hw]; omega, by have := hS.top; rw [hrev, hw]; omega, by rw [hR, hrev, hw]; exact sound_upto hS⟩
   rw [hbb] at this; cases this
  | true =>
   rw [if_pos rfl]
   obtain ⟨r0, r1', hu⟩ := hb2.1 hbb
   obtain ⟨rn, rfl⟩ : ∃ rn : Nat, rev = (rn : Int) := ⟨rev.toNat, by omega⟩
   have hSd : Sound (R.map entOf, rn) := upto_sound hu (by omega)
   have hmap := map_entOf hin
   have hbytes := rbytes_eq (L := R.map entOf) (r := rn) hk (by omega) (by simp; omega) hSd.inv.ent
   rw [hmap] at hbytes
   rw [bind_eq hbytes]
   have hvb : ∀ e ∈ R.map entOf, bytesR e.2.value := fun e he => by obtain ⟨r, hr, rfl⟩ := List.mem_map.1 he; exact (hin r hr).2.1
   have hfb : bytesR (form (R.map entOf, rn)) := form_bytes hvb
   rw [keq]
   by_cases ce : bs (form (R.map entOf, rn)) = bs p
   ·have hp : p = form (R.map entOf, rn) := (bs_inj hfb hb ce).symm
    rw [decide_eq_true ce]
    refine ⟨_, _, rfl, .inr ⟨rfl, (R.map entOf, rn), ?_, hSd, hvb, hp⟩⟩
    show some _ = some _
    rw [hmap, ← hrev]
   ·rw [decide_eq_false ce]
    refine ⟨_, _, rfl, .inl ⟨rfl, rfl, fun s hS hv hp => ?_⟩⟩
    obtain ⟨_, _, hR, hw⟩ := fwd s hS hp
    apply ce
    have es : (R.map entOf, rn) = s := by
     have h2 : rn = s.2 := by rw [← hrev] at hw; omega
     have h1 : R.map entOf = s.1 := by
      rw [hR, List.map_map]
      conv => rhs; rw [← List.map_id s.1]
      exact List.map_congr_left fun e he => by
       show entOf (rowOf e) = e
       unfold entOf rowOf; simp only [bs_sb]
     rw [h1, h2]
    rw [es, ← hp]
 ·rw [if_neg, j5f]
  ·refine ⟨_, _, rfl, .inl ⟨rfl, rfl, fun s hS hv hp => ?_⟩⟩
   obtain ⟨g1, g2, _⟩ := fwd s hS hp
   exact cd ⟨g1, g2⟩
  ·intro h
   by_cases c0 : f3 = 0
   ·rw [if_pos c0] at h
    by_cases c1 : a3 < p.length
    ·rw [if_pos c1] at h; cases h
    ·exact cd ⟨c0, by omega⟩
   ·rw [if_neg c0] at h; exact c0 h
theorem rd_set {α : Type} [Inhabited α] {L : List α} {i : Nat} (h : i < L.length) (x : α) : rd (L.set i x) (i : Int) = x := by rw [oa_rd (by simpa using h)]; simp
theorem lent_eq {a : List Int} (h : a.length < 1000000000) : haulagelaw13_lent.f a = some a := by
 unfold haulagelaw13_lent.f
 rw [if_pos (by omega), if_pos (by simp; omega), if_pos (by simp), List.nil_append]
theorem kept_eq {k : Nat} (hk : Fuel k) {a : List Int} (h : a.length < 1000000000) : haulagelaw13_kept.f k a a = some true := by
 unfold haulagelaw13_kept.f
 have e2 : IntKind.i64.wrap ((a.length : Int) + 2) = ((a.length + 2 : Nat) : Int) := by rw [wr (by omega) (by omega)]; omega
 have e1 : IntKind.i64.wrap ((a.length : Int) + 1) = ((a.length + 1 : Nat) : Int) := by rw [wr (by omega) (by omega)]; omega
 have hT : List.take (a.length + 2) (a ++ [201, 77]) = a ++ [201, 77] := List.take_of_length_le (by simp)
 rw [e2, e1, Int.toNat_natCast, hT]
 have hL : (a ++ [201, 77]).length = a.length + 2 := by simp
 rw [hL, if_pos (by omega), bind_eq (same_eq hk a a (.inl (by omega))), decide_eq_true rfl, if_pos rfl, if_pos (by omega)]
 rw [rd_eq (by rw [hL]; omega : a.length < (a ++ [201, 77]).length), rd_eq (by rw [hL]; omega : a.length + 1 < (a ++ [201, 77]).length)]
 have g1 : (a ++ [201, 77])[a.length]'(by rw [hL]; omega) = 201 := by rw [List.getElem_append_right (by omega)]; simp
 have g2 : (a ++ [201, 77])[a.length + 1]'(by rw [hL]; omega) = 77 := by rw [List.getElem_append_right (by omega)]; simp
 rw [g1, g2, if_pos rfl, if_pos (by omega), decide_eq_true rfl]
theorem spoil_loop : ∀ (n m i : Nat) (l : List Int), i + n = l.length → n < m → l.length < 1000000000 → ∃ l', loop (fun (s_ : (List Int) × Int) => haulagelaw13_spoil.b1 s_.1 s_.2) m (l, (i : Int)) = some l' ∧ l'.length = l.length
 | _, 0, _, _, _, h, _ => absurd h (by omega)
 | 0, m + 1, i, l, h, _, _ => by
  refine ⟨l, loop_done ?_, rfl⟩
  simp only; unfold haulagelaw13_spoil.b1; rw [if_neg (by omega)]
 | n + 1, m + 1, i, l, h, hm, hl => by
  obtain ⟨l', e, hl'⟩ := spoil_loop n m (i + 1) (l.set i (bxor .u8 (rd l (i : Int)) 255)) (by simp; omega) (by omega) (by simpa using hl)
  refine ⟨l', ?_, by simpa using hl'⟩
  rw [loop_next (s' := (l.set i (bxor .u8 (rd l (i : Int)) 255), ((i + 1 : Nat) : Int)))]
  ·exact e
  ·simp only; unfold haulagelaw13_spoil.b1
   rw [if_pos (by omega), if_pos (by omega), if_pos (by omega), wrS i (by omega), Int.toNat_natCast]
theorem spoil_eq {k : Nat} (hk : Fuel k) (l : List Int) (hl : l.length < 1000000000) : ∃ l', haulagelaw13_spoil.f k l = some l' ∧ l'.length = l.length := by
 have h24 : 1099511627776 ≤ k := hk
 obtain ⟨l', e, h⟩ := spoil_loop l.length k 0 l (by omega) (by omega) hl
 refine ⟨l', ?_, h⟩
 unfold haulagelaw13_spoil.f
 have e' : loop (fun (s_ : (List Int) × Int) => haulagelaw13_spoil.b1 s_.1 s_.2) k (l, 0) = some l' := e
 rw [bind_eq e']; unfold haulagelaw13_spoil.j2; rw [if_pos h]
theorem lentOp_eq {o : api_Op} (h1 : o.Key.length < 1000000000) (h2 : o.Value.length < 1000000000) : haulagelaw13_lentOp.f o = some o := by
 unfold haulagelaw13_lentOp.f; rw [bind_eq (lent_eq h1), bind_eq (lent_eq h2)]
theorem keptOp_eq {k : Nat} (hk : Fuel k) {o : api_Op} (h1 : o.Key.length < 1000000000) (h2 : o.Value.length < 1000000000) : haulagelaw13_keptOp.f k o o = some true := by
 unfold haulagelaw13_keptOp.f
 obtain ⟨_, e1, _⟩ := spoil_eq hk o.Key h1
 obtain ⟨_, e2, _⟩ := spoil_eq hk o.Value h2
 rw [bind_eq (kept_eq hk h1), if_pos rfl, bind_eq (kept_eq hk h2), bind_eq e1, bind_eq e2]
theorem sameRows_self {k : Nat} (hk : Fuel k) {R : List api_Row} (hR : ∀ r ∈ R, r.Key.length < 1000000000 ∧ r.Value.length < 1000000000) (hl : R.length < 1000000000) : haulagelaw13_sameRows.f k R R = some true := by
 have h24 : 1099511627776 ≤ k := hk
 unfold haulagelaw13_sameRows.f
 rw [if_pos rfl]
 have e : loop (fun (s_ : Int) => haulagelaw13_sameRows.b1 k R R s_) k (((0 : Nat)) : Int) = some (.inl ()) := by
  refine oa_count (s := fun i : Nat => (i : Int)) (N := R.length) (by omega) (fun i hi => ?_) ?_
  ·unfold haulagelaw13_sameRows.b1
   have := hR R[i] (List.getElem_mem hi)
   rw [if_pos (by omega), if_pos (by omega), if_pos (by omega), rd_eq hi, bind_eq (sameRow_eq hk _ _ (.inl (by omega)) (.inl (by omega))), decide_eq_true rfl, if_pos rfl, wrS i (by omega)]
  ·unfold haulagelaw13_sameRows.b1; rw [if_neg (by omega)]
 have e' : loop (fun (s_ : Int) => haulagelaw13_sameRows.b1 k R R s_) k 0 = some (.inl ()) := e
 rw [bind_eq e']; rfl
theorem rows_spoil {k : Nat} (hk : Fuel k) : ∀ (n m i : Nat) (R : List api_Row), i + n = R.length → n < m → R.length < 1000000000 → (∀ r ∈ R, r.Key.length < 1000000000 ∧ r.Value.length < 1000000000) → loop (fun (s_ : (List api_Row) × Int) => haulagelaw13_does.b1 k s_.1 s_.2) m (R, (i : Int)) = some ()
 | _, 0, _, _, _, h, _, _ => absurd h (by omega)
 | 0, m + 1, i, l, h, _, _, _ => by
  refine loop_done ?_
  simp only; unfold haulagelaw13_does.b1; rw [if_neg (by omega)]
 | n + 1, m + 1, i, R, h, hm, hl, hR => by
  have hi : i < R.length := by omega
  have hi' : ((i : Int) < (R.length : Int)) := by omega
  obtain ⟨q1, q2⟩ := hR R[i] (List.getElem_mem hi)
  obtain ⟨l1, e1, n1⟩ := spoil_eq hk (R[i].Key) q1
  obtain ⟨l2, e2, n2⟩ := spoil_eq hk (R[i].Value) q2
  have ih := rows_spoil hk n m (i + 1) (R.set i (api_Row.mk l1 l2 (-9))) (by simp; omega) (by omega) (by simpa using hl) (fun r hr => by
   rcases List.mem_or_eq_of_mem_set hr with g | rfl
   ·exact hR r g
   ·exact ⟨by show l1.length < _; omega, by show l2.length < _; omega⟩)
  rw [loop_next (s' := (R.set i (api_Row.mk l1 l2 (-9)), ((i + 1 : Nat) : Int)))]
  ·exact ih
  ·simp only; unfold haulagelaw13_does.b1
   simp only [Int.toNat_natCast, List.length_set, rd_set hi, List.set_set]
   rw [if_pos hi', if_pos ⟨by omega, hi'⟩, rd_eq hi, bind_eq e1, if_pos ⟨by omega, hi'⟩]
   rw [bind_eq e2, if_pos ⟨by omega, hi'⟩, wrS i (by omega)]
theorem rcopied_eq {r : api_Row} (h1 : r.Key.length < 1000000000) (h2 : r.Value.length < 1000000000) : haulageref13_copied.f r = some r := by
 unfold haulageref13_copied.f
 rw [if_pos (by omega), if_pos (by omega), List.nil_append, List.nil_append]
def rsmall (R : List api_Row) : Prop := R.length < 1000000000 ∧ ∀ r ∈ R, r.Key.length < 1000000000 ∧ r.Value.length < 1000000000
theorem rCopy_eq {k : Nat} (hk : Fuel k) {R : List api_Row} {v : Int} (hR : rsmall R) : haulageref13_Table_Copy.f k (some ⟨R, v⟩) = some (some ⟨R, v⟩) := by
 have h24 : 1099511627776 ≤ k := hk
 obtain ⟨hl, hR⟩ := hR
 unfold haulageref13_Table_Copy.f
 simp only [Option.isNone_some, Bool.false_eq_true, if_false, Option.bind_some]
 have e : loop (fun (s_ : Int × (List api_Row)) => haulageref13_Table_Copy.b1 ⟨R, v⟩ s_.1 s_.2) k (0, []) = some R := by
  have e0 : ((0 : Int), ([] : List api_Row)) = (((0 : Nat) : Int), R.take 0) := by simp
  rw [e0]
  refine oa_count (s := fun i : Nat => ((i : Int), R.take i)) (N := R.length) (by omega) (fun i hi => ?_) ?_
  ·simp only
   unfold haulageref13_Table_Copy.b1
   obtain ⟨q1, q2⟩ := hR R[i] (List.getElem_mem hi)
   simp only
   rw [if_pos (by omega), if_pos (by omega), rd_eq hi, bind_eq (rcopied_eq q1 q2), if_pos (by simp; omega), wrS i (by omega), take_succ' hi]
  ·simp only
   unfold haulageref13_Table_Copy.b1
   simp only
   rw [if_neg (by omega), List.take_length]
 rw [bind_eq e]; rfl
theorem rRows_eq {k : Nat} (hk : Fuel k) {R : List api_Row} {v : Int} (hR : rsmall R) : haulageref13_Table_Rows.f k (some ⟨R, v⟩) = some R := by
 unfold haulageref13_Table_Rows.f
 simp only [Option.isNone_some, Bool.false_eq_true, if_false, Option.bind_some]
 rw [bind_eq (rCopy_eq hk hR)]; rfl
theorem rows_small {s : St} (hI : Inv s.1 s.2) (hl : s.1.length < 1000000000) : rsmall (s.1.map rowOf) := by
 refine ⟨by simpa using hl, fun r hr => ?_⟩
 obtain ⟨e, he, rfl⟩ := List.mem_map.1 hr
 have := hI.ent e he
 unfold rowOf; simp only [sb_len]; omega
def refT (s : St) : Option Tb3 := some ⟨s.1.map rowOf, (s.2 : Int)⟩
theorem j3_true {k : Nat} (hk : Fuel k) {st : haulagelaw13_Step} {t : Option Tab} {o : Option Tb3} (h1 : st.Op.Key.length < 1000000000) (h2 : st.Op.Value.length < 1000000000) : haulagelaw13_does.j3 k st st.Op true t o = some (true, t, o) := by
 unfold haulagelaw13_does.j3
 rw [if_pos rfl, bind_eq (keptOp_eq hk h1 h2)]
theorem does3 {k : Nat} (hk : Fuel k) {t : Option Tab} {s : St} (hl : s.1.length < 1000000000) (hT : RepS t s) {st : haulagelaw13_Step} (h3 : st.Kind = 3) (h1 : st.Op.Key.length < 1000000000) (h2 : st.Op.Value.length < 1000000000) :
  haulagelaw13_does.f k t (refT s) st = some (true, t, refT s) := by
 have h24 : 1099511627776 ≤ k := hk
 have hR := rows_small hT.inv hl
 have e' : loop (fun (s_ : (List api_Row) × Int) => haulagelaw13_does.b1 k s_.1 s_.2) k (s.1.map rowOf, 0) = some () := rows_spoil hk (s.1.map rowOf).length k 0 _ (by omega) (by have := hR.1; omega) hR.1 hR.2
 unfold haulagelaw13_does.f
 rw [bind_eq (lentOp_eq h1 h2), h3, if_neg (by decide), if_neg (by decide), if_pos rfl]
 unfold refT
 rw [bind_eq (rRows_eq hk hR), bind_eq (Rows_eq0 (by omega) hT), bind_eq (sameRows_self hk hR.2 hR.1), bind_eq e']
 exact j3_true hk h1 h2
theorem does4 {k : Nat} (hk : Fuel k) {t : Option Tab} {s : St} (hr : s.2 ≤ 1099511627776) (hl : s.1.length < 1000000000) (hf : (form s).length < 1000000000) (hT : RepS t s) {st : haulagelaw13_Step} (h3 : st.Kind = 4) (h1 : st.Op.Key.length < 1000000000) (h2 : st.Op.Value.length < 1000000000) :
  haulagelaw13_does.f k t (refT s) st = some (true, t, refT s) := by
 have hb := rbytes_eq (L := s.1) (r := s.2) hk hr (by omega) hT.inv.ent
 have hz : haulageref13_Table_Size.f k (refT s) = some ((form s).length : Int) := by
  unfold haulageref13_Table_Size.f refT; rw [bind_eq hb]
 have hn : haulageref13_Table_Len.f (refT s) = some (s.1.length : Int) := by
  unfold haulageref13_Table_Len.f refT; simp
 have hv : haulageref13_Table_Rev.f (refT s) = some (s.2 : Int) := by
  unfold haulageref13_Table_Rev.f refT; simp
 have hs := size_eq0 hk (by omega) hr hT
 rw [← form_size s] at hs
 obtain ⟨_, e5, _⟩ := spoil_eq hk (form s) hf
 unfold haulagelaw13_does.f
 rw [bind_eq (lentOp_eq h1 h2), h3, if_neg (by decide), if_neg (by decide), if_neg (by decide), if_pos rfl]
 have hb' : haulageref13_Table_Bytes.f k (refT s) = some (form s) := hb
 rw [bind_eq hb', bind_eq (bytes_eq0 hk (by omega) hr hT), bind_eq hz, bind_eq hn, bind_eq hv, bind_eq (same_eq hk _ _ (.inl (by omega))), decide_eq_true rfl, if_pos rfl, bind_eq hs, if_pos rfl, bind_eq (Len_eq hT), if_pos rfl, bind_eq (Rev_eq hT), bind_eq e5, decide_eq_true rfl]
 exact j3_true hk h1 h2
theorem vals_of {s : St} (h : bytesR (form s)) : ∀ e ∈ s.1, bytesR e.2.value := by
 intro e he c hc
 refine h c ?_
 unfold form
 refine List.mem_append.2 (.inr (List.mem_flatMap.2 ⟨e, he, ?_⟩))
 unfold ef; simp only [List.mem_append]; exact .inr (.inl (.inr hc))
theorem read_both {k : Nat} (hk : Fuel k) {p : List Int} (hb : bytesR p) (hl : p.length < 900000000) :
  haulagelaw13_read.f k p = some (none, none, true) ∨ ∃ t s, haulagelaw13_read.f k p = some (t, refT s, true) ∧ RepS t s ∧ Sound s ∧ s.1.length ≤ p.length ∧ p = form s := by
 obtain ⟨m, e, er, hm⟩ := rRead_any hk p hb hl
 obtain ⟨_, es, _⟩ := spoil_eq hk p (by omega)
 rcases hm with ⟨rfl, rfl, hno⟩ | ⟨rfl, s, rfl, hS, hv, hp⟩
 ·obtain ⟨t, e, et, h⟩ := read_any hk p hb (by omega)
  rcases h with ⟨rfl, rfl⟩ | ⟨rfl, s, hT, hS, hp⟩
  ·left
   unfold haulagelaw13_read.f
   rw [bind_eq er, bind_eq (lent_eq (by omega)), bind_eq et, if_pos rfl, if_pos (by simp), bind_eq (kept_eq hk (by omega))]
   unfold haulagelaw13_read.j1
   rw [bind_eq es]
  ·exact absurd hp (hno s hS (vals_of (by rw [← hp]; exact hb)))
 ·right
  obtain ⟨t, et, hT⟩ := read_fwd hk hS [] (by rw [List.append_nil, ← hp]; omega)
  rw [List.append_nil, if_pos rfl, ← hp] at et
  have hn : Option.isNone t = false := by obtain ⟨rows, rfl, _⟩ := hT; rfl
  refine ⟨t, s, ?_, hT, hS, by rw [hp]; exact form_len s, hp⟩
  unfold haulagelaw13_read.f
  rw [bind_eq er, bind_eq (lent_eq (by omega)), bind_eq et, if_pos rfl, if_pos (by simp [hn]), bind_eq (kept_eq hk (by omega))]
  unfold haulagelaw13_read.j1
  rw [bind_eq es]; rfl
theorem TableReads_true {k : Nat} (hk : Fuel k) (p : List Int) (hb : bytesR p) (hl : p.length < 900000000) : haulagelaw13_TableReads.f k p = some true := by
 unfold haulagelaw13_TableReads.f
 rcases read_both hk hb hl with e | ⟨t, s, e, hT, hS, hsl, hp⟩
 ·rw [bind_eq e]; rfl
 ·have hn : Option.isNone t = false := by obtain ⟨rows, rfl, _⟩ := hT; rfl
  rw [bind_eq e, if_pos rfl]
  simp only [refT, Option.isNone_some, hn]
  unfold haulagelaw13_TableReads.j1
  rw [if_neg (by simp)]
  have d3 := does3 (st := haulagelaw13_Step.mk 3 0 (api_Op.mk 0 [] [] 0) []) hk (by omega) hT rfl (by simp) (by simp)
  have d4 := does4 (st := haulagelaw13_Step.mk 4 0 (api_Op.mk 0 [] [] 0) []) hk hS.top (by omega) (by rw [← hp]; omega) hT rfl (by simp) (by simp)
  unfold refT at d3 d4
  rw [bind_eq d3, bind_eq d4, if_pos rfl]
end Go.Proofs.YtcolmmjcdlmcoaaGreat.G
namespace Go.Proofs.YtcolmmjcdlmcoaaGreat.tableReads
open Go.ChangeShapes Go.WideShapes Go.ChangeAt Go.RowKit
set_option linter.unusedVariables false
set_option maxRecDepth 100000 in
theorem contract (H : Type) (enc : TypeId × Value → H) (W : World) (base : Nat) (args : Array Value) (ds gs : List (DataW H)) (before : List MemPlace)
  (hval : ∀ (j : Nat) t v, Tryz.f4.params[j]? = some t → args[j]? = some v → Value.okWide Tryz.prog W .any base t v)
  (hW : DataW.Whole enc Tryz.prog Tryz.f4.params.toList Rows.tableReadsSpec.vars false W args.toList ds gs before) (hk : Rows.uptoSmall H (ds ++ gs) = true) :
  Calls Tryz.prog 4 args W fun e W' => ∃ v, e = .returned v ∧ Rows.tableReadsSpec.post enc Tryz.prog Tryz.f4 false true false false W args v W' := by
 have hW' := hW
 obtain ⟨p, q, hA0, hV, rfl, hfz, hnd⟩ := hW
 have hA : DataW.TrodAll enc Tryz.prog W 0 (fun _ => true) true Tryz.f4.params.toList args.toList ds p := hA0
 rw [Tryz.params4] at hA hval
 obtain ⟨v0, vs0, d0, ds0, p0, q0, hargs, rfl, rfl, h0, r0⟩ := trodAll_cons hA
 obtain ⟨rfl, rfl, rfl⟩ := trodAll_nil r0
 obtain rfl : args = #[v0] := by cases args; simp_all
 obtain ⟨rfl, rfl⟩ := trodVars_none hV
 have k0 := h0
 have lt0 : ∀ x ∈ p0, x.block < W.heap.size := by obtain ⟨m, hm⟩ := k0; exact DataW.trod_lt m _ _ _ hm
 obtain ⟨A0, C0, a0, rfl, s0, b0, o0⟩ := G.arg_key (okWide_slice Tryz.underlying29 (hval 0 29 v0 rfl rfl)) h0
 have l0 := G.len_sum (fun _ => 1) (fun _ => Nat.le_refl 1) a0
 have hb : Rows.uptoBulkAll [d0] ≤ 1048576 := of_decide_eq_true hk
 simp only [Rows.uptoBulkAll] at hb
 refine (G.haulagelaw13_TableReads.calls 1099511627776 (m := 1) (c0 := G.c0) (w0 := W) (Nat.lt_succ_self 0) (fun _ _ => Nat.lt_succ_self 0) s0 true (G.TableReads_true (k := 1099511627776) (Nat.le_refl _) _ (fun n hn => G.byteok.range (o0 n hn)) (by omega))).mono fun e W' ⟨c_, he, ev_, _⟩ => ?_
 subst he
 have bel : Below W.heap.size W W' := G.Ev.below ev_
 exact ⟨_, rfl, _, _, _, [], _, [], hW', trodAll_mk1 (shut_bool Tryz.underlying4 _), (trodAll_cons_mk (Below.trod G.row_laidOut (by kernel_rfl) (of_decide_eq_true (by kernel_rfl)) k0 bel lt0) trodAll_mk0), rfl, bel.frame _, fun h => by cases h⟩
set_option maxRecDepth 100000 in
theorem lifted (os : Os) (started : os.Started) (H : Type) (enc : TypeId × Value → H) (F : Stop.Interp) :
  ReturnsInHanded {} Tryz.checked os 4 .any ((Rows.OpenSpec.upto Rows.tableReadsSpec).pre6 enc Tryz.prog Tryz.f4 Rows.tableReadsUptoRow.domain false) (((Rows.OpenSpec.upto Rows.tableReadsSpec).at F).post enc Tryz.prog Tryz.f4 false true false false) := by
 refine returnsInHanded_of_cond (C := Tryz.checked) (s := Rows.OpenSpec.upto Rows.tableReadsSpec) (k := Rows.uptoSmall) rfl G.row_own started (by kernel_rfl) Tryz.func4
  (OpenSpec.witness (enc := enc) (C := Tryz.checked) (s := Rows.OpenSpec.upto Rows.tableReadsSpec) (k := Rows.uptoSmall) rfl false ⟨#[], #[.slice none 0 0], []⟩ 8 (by kernel_rfl) (by kernel_rfl) (by kernel_rfl)
   (x := ([.nil], [], [])) (by kernel_rfl) rfl (by kernel_rfl)) ?_
 intro W base args ds gs before hval hW _ hk _
 exact contract H enc W base args ds gs before hval hW hk
theorem over : Rows.tableReadsUptoRow.holds Tryz.pinned (Rows.OpenSpec.upto Rows.tableReadsSpec) :=
 OpenClaim.holds_of_cond 4 Tryz.f4 rfl rfl rfl rfl rfl rfl rfl ⟨rfl, rfl, rfl, rfl, rfl⟩ rfl rfl rfl rfl rfl (by kernel_rfl) Tryz.func4 (by kernel_rfl)
  (of_decide_eq_true (by kernel_rfl)) (by unfold Func.isWrapper; first | (rw [if_pos (by decide +kernel)]; kernel_rfl) | (rw [if_neg (by decide +kernel)]; exact ⟨rfl, rfl⟩))
  (fun os started H enc _ F => lifted os started H enc F)
theorem proved : Rows.TableReadsUptoSaid := over
end Go.Proofs.YtcolmmjcdlmcoaaGreat.tableReads
namespace Go.Proofs.YtcolmmjcdlmcoaaGreat
theorem tableReads_holds : Rows.TableReadsUptoSaid := tableReads.proved
end Go.Proofs.YtcolmmjcdlmcoaaGreat