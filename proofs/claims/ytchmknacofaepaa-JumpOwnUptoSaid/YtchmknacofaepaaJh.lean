import Derived.Test.YtchmknacofaepaaJq
import Derived.Test.YtchmknacofaepaaPJx3
namespace Go.Proofs.Ytchmknacofaepaa.JQ
open Go.RowKit Go.Proofs.YtchmknacofaepaaW.PrintWords Go.Proofs.YtchmknacofaepaaW.PrintLast Go.Proofs.YtchmknacofaepaaW.PrintMore Go.Proofs.Ytchmknacofaepaa.JF Go.Proofs.Ytchmknacofaepaa.PJ
set_option linter.unusedVariables false
set_option linter.unusedSimpArgs false

/-! ### the marks of bytes -/
def mixV (x b : Int) : Int := IntKind.u64.wrap (Go.bits .xor .u64 x (IntKind.u64.wrap b) * 1099511628211)
def fnvV (ls : List (List Int)) : Int := ls.flatten.foldl mixV 14695981039346656037

theorem mixV_bd (x b : Int) : 0 ≤ mixV x b ∧ mixV x b ≤ 18446744073709551615 := by
  unfold mixV; generalize Go.bits .xor .u64 x (IntKind.u64.wrap b) * 1099511628211 = y; rw [IntKind.wrap_u64]; omega
theorem fold_bd : ∀ (l : List Int) (x : Int), 0 ≤ x → x ≤ 18446744073709551615 → 0 ≤ l.foldl mixV x ∧ l.foldl mixV x ≤ 18446744073709551615
  | [], x, h0, h1 => ⟨h0, h1⟩
  | b :: l, x, _, _ => fold_bd l (mixV x b) (mixV_bd x b).1 (mixV_bd x b).2
theorem fnvV_bd (ls : List (List Int)) : 0 ≤ fnvV ls ∧ fnvV ls ≤ 18446744073709551615 := fold_bd _ _ (by decide) (by decide)

theorem rd_drop {xs : List Int} {i : Int} (i0 : 0 ≤ i) (h : i < (xs.length : Int)) : xs.drop i.toNat = rd xs i :: xs.drop (i + 1).toNat := by
  have hl : i.toNat < xs.length := by omega
  rw [List.drop_eq_getElem_cons hl, show (i + 1).toNat = i.toNat + 1 by omega]
  congr 1
  unfold rd; rw [List.getD_eq_getElem?_getD, List.getElem?_eq_getElem hl]; rfl
theorem drop_done {α : Type} {xs : List α} {i : Int} (h : ¬ i < (xs.length : Int)) : xs.drop i.toNat = [] := List.drop_of_length_le (by omega)

theorem Ev.at_ {α : Type} {g : Nat → Option α} {r : α} (K : Nat) (h : ∀ k, K ≤ k → g k = some r) : Ev g r := ⟨K, h⟩

theorem seal_l1 (ls : List (List Int)) (n i : Int) (row : List Int) (hrow : row.length ≤ 4611686018427387904) : ∀ (d : Nat) (x j : Int) (k : Nat), 0 ≤ j → (row.length : Int) - j = d →
    seal_FNV.l1 (k + d + 1) x ls n i row (row.length : Int) j = seal_FNV.l0 k ((row.drop j.toNat).foldl mixV x) ls n (wrap64 (i + 1))
  | 0, x, j, k, j0, hd => by
    simp only [Nat.add_zero, seal_FNV.l1]
    rw [if_neg (by omega), drop_done (by omega)]; rfl
  | d + 1, x, j, k, j0, hd => by
    have hlt : j < (row.length : Int) := by omega
    rw [show k + (d + 1) + 1 = (k + d + 1) + 1 by omega]
    simp only [seal_FNV.l1]
    rw [if_pos hlt, if_pos j0, if_pos hlt, w64_id (by omega) (by omega)]
    have := seal_l1 ls n i row hrow d (mixV x (rd row j)) (j + 1) k (by omega) (by omega)
    rw [rd_drop j0 hlt]
    exact this

theorem rdL_drop {xs : List (List Int)} {i : Int} (i0 : 0 ≤ i) (h : i < (xs.length : Int)) : xs.drop i.toNat = xs.getD i.toNat [] :: xs.drop (i + 1).toNat := by
  have hl : i.toNat < xs.length := by omega
  rw [List.drop_eq_getElem_cons hl, show (i + 1).toNat = i.toNat + 1 by omega]
  congr 1
  rw [List.getD_eq_getElem?_getD, List.getElem?_eq_getElem hl]; rfl

theorem getD_mem {xs : List (List Int)} {i : Nat} (h : i < xs.length) : xs.getD i [] ∈ xs := by
  rw [List.getD_eq_getElem?_getD, List.getElem?_eq_getElem h]; exact List.getElem_mem h

theorem seal_l0 (ls : List (List Int)) (hn : ls.length ≤ 4611686018427387904) (hrow : ∀ r ∈ ls, r.length ≤ 4611686018427387904) : ∀ (d : Nat) (x i : Int), 0 ≤ i → (ls.length : Int) - i = d →
    Ev (fun k => seal_FNV.l0 k x ls (ls.length : Int) i) ((ls.drop i.toNat).flatten.foldl mixV x)
  | 0, x, i, i0, hd => ⟨1, fun k hk => by
    obtain ⟨k, rfl⟩ := succ_of (show 0 < k by omega)
    simp only [seal_FNV.l0]
    rw [if_neg (by omega), drop_done (by omega)]; rfl⟩
  | d + 1, x, i, i0, hd => by
    have hlt : i < (ls.length : Int) := by omega
    obtain ⟨row, hr⟩ : ∃ row, ls.getD i.toNat [] = row := ⟨_, rfl⟩
    have hrl : row.length ≤ 4611686018427387904 := hrow row (by rw [← hr]; exact getD_mem (by omega))
    obtain ⟨K, hK⟩ := seal_l0 ls hn hrow d (row.foldl mixV x) (i + 1) (by omega) (by omega)
    refine ⟨K + row.length + 2, fun k hk => ?_⟩
    obtain ⟨k, rfl⟩ : ∃ m, k = (m + row.length + 1) + 1 := ⟨k - row.length - 2, by omega⟩
    have e := seal_l1 ls (ls.length : Int) i row hrl row.length x 0 k (by omega) (by omega)
    simp only [seal_FNV.l0]
    rw [if_pos hlt, if_pos i0, if_pos hlt]
    have hrd : rd_L3 ls i = row := by unfold rd_L3; exact hr
    rw [hrd, e, w64_id (by omega) (by omega), rdL_drop i0 hlt, hr]
    simp only [Int.toNat_zero, List.drop_zero, List.flatten_cons, List.foldl_append]
    exact hK k (by omega)

theorem seal_ev (ls : List (List Int)) (hn : ls.length ≤ 4611686018427387904) (hrow : ∀ r ∈ ls, r.length ≤ 4611686018427387904) : Ev (fun k => seal_FNV.f k ls) (fnvV ls) :=
  seal_l0 ls hn hrow ls.length 14695981039346656037 0 (by omega) (by omega)

theorem taken_l0 (row : List Int) (hrow : row.length ≤ 4611686018427387904) : ∀ (d : Nat) (x j : Int) (k : Nat), 0 ≤ j → (row.length : Int) - j = d → d < k →
    haulageref02_taken.l0 k x row j = some ((row.drop j.toNat).foldl mixV x)
  | 0, x, j, k, j0, hd, hk => by
    obtain ⟨k, rfl⟩ := succ_of hk
    simp only [haulageref02_taken.l0]
    rw [if_neg (by omega), drop_done (by omega)]; rfl
  | d + 1, x, j, k, j0, hd, hk => by
    obtain ⟨k, rfl⟩ := succ_of hk
    have hlt : j < (row.length : Int) := by omega
    simp only [haulageref02_taken.l0]
    rw [if_pos hlt, if_pos j0, w64_id (by omega) (by omega), rd_drop j0 hlt]
    exact taken_l0 row hrow d (mixV x (rd row j)) (j + 1) k (by omega) (by omega) (by omega)

theorem ref02_l0 (ls : List (List Int)) (hn : ls.length ≤ 4611686018427387904) (hrow : ∀ r ∈ ls, r.length ≤ 4611686018427387904) : ∀ (d : Nat) (x i : Int), 0 ≤ i → (ls.length : Int) - i = d →
    Ev (fun k => haulageref02_FNV.l0 k ls x i) ((ls.drop i.toNat).flatten.foldl mixV x)
  | 0, x, i, i0, hd => ⟨1, fun k hk => by
    obtain ⟨k, rfl⟩ := succ_of (show 0 < k by omega)
    simp only [haulageref02_FNV.l0]
    rw [if_neg (by omega), drop_done (by omega)]; rfl⟩
  | d + 1, x, i, i0, hd => by
    have hlt : i < (ls.length : Int) := by omega
    obtain ⟨row, hr⟩ : ∃ row, ls.getD i.toNat [] = row := ⟨_, rfl⟩
    have hrl : row.length ≤ 4611686018427387904 := hrow row (by rw [← hr]; exact getD_mem (by omega))
    obtain ⟨K, hK⟩ := ref02_l0 ls hn hrow d (row.foldl mixV x) (i + 1) (by omega) (by omega)
    refine ⟨K + row.length + 2, fun k hk => ?_⟩
    obtain ⟨k, rfl⟩ := succ_of (show 0 < k by omega)
    have e : haulageref02_taken.f k x row = some (row.foldl mixV x) := taken_l0 row hrl row.length x 0 k (by omega) (by omega) (by omega)
    have hrd : rd_L3 ls i = row := by unfold rd_L3; exact hr
    simp only [haulageref02_FNV.l0]
    rw [if_pos hlt, if_pos i0, hrd, e, Option.bind_some, w64_id (by omega) (by omega), rdL_drop i0 hlt, hr]
    simp only [List.flatten_cons, List.foldl_append]
    exact hK k (by omega)

theorem ref02_ev (ls : List (List Int)) (hn : ls.length ≤ 4611686018427387904) (hrow : ∀ r ∈ ls, r.length ≤ 4611686018427387904) : Ev (fun k => haulageref02_FNV.f k ls) (fnvV ls) :=
  ref02_l0 ls hn hrow ls.length 14695981039346656037 0 (by omega) (by omega)

theorem one_row {l : List Int} (hl : l.length ≤ 4611686018427387904) : ∀ r ∈ [l], r.length ≤ 4611686018427387904 := fun r hr => by rw [List.mem_singleton.1 hr]; exact hl
theorem Hash_ev (l : List Int) (hl : l.length ≤ 4611686018427387904) : Ev (fun k => jump_Hash.f k l) (fnvV [l]) := Ev.bind (seal_ev [l] (by simp) (one_row hl)) (Ev.now _)
theorem refHash_ev (l : List Int) (hl : l.length ≤ 4611686018427387904) : Ev (fun k => haulageref03_Hash.f k l) (fnvV [l]) := Ev.bind (ref02_ev [l] (by simp) (one_row hl)) (Ev.now _)

theorem jumpE {h b : Int} (h0 : 0 ≤ h) (h1 : h ≤ 18446744073709551615) (b0 : -9223372036854775808 ≤ b) (b1 : b ≤ 9223372036854775807) : JP.jump_Jump.f h b = some (jumpV h b) := by
  unfold JP.jump_Jump.f; rw [if_pos (JP.fits_mk h0 h1 b0 b1)]
theorem Shard_ev (l : List Int) (b : Int) (hl : l.length ≤ 4611686018427387904) (b0 : -9223372036854775808 ≤ b) (b1 : b ≤ 9223372036854775807) : Ev (fun k => jump_Shard.f k l b) (jumpV (fnvV [l]) b) := by
  refine Ev.bind (Hash_ev l hl) (Ev.bind (g := fun _ => JP.jump_Jump.f _ b) (a := jumpV (fnvV [l]) b) ?_ (Ev.now _))
  rw [jumpE (fnvV_bd _).1 (fnvV_bd _).2 b0 b1]; exact Ev.now _
theorem refJump_Ev (h b : Int) : Ev (fun k => haulageref03_Jump.f k h b) (jumpV h b) := ⟨1048801, fun k hk => refJump_ev h b (by omega)⟩
theorem refShard_ev (l : List Int) (b : Int) (hl : l.length ≤ 4611686018427387904) : Ev (fun k => haulageref03_Shard.f k l b) (jumpV (fnvV [l]) b) :=
  Ev.bind (refHash_ev l hl) (Ev.bind (refJump_Ev _ b) (Ev.now _))

/-! ### a number's bytes -/
/-- The i-th byte of n, the highest first. -/
def byteV (v : Int) (n i : Nat) : Int := v / 256 ^ (n - 1 - i) % 256
def wideV (v : Int) (n : Nat) : List Int := (List.range n).map (byteV v n)
/-- .. the first i of them, noughts behind. -/
def wideTo (v : Int) (n i : Nat) : List Int := (List.range n).map fun j => if j < i then byteV v n j else 0
/-- .. the last of them, from i on, noughts ahead. -/
def wideFrom (v : Int) (n i : Nat) : List Int := (List.range n).map fun j => if i ≤ j then byteV v n j else 0

theorem wideV_length (v : Int) (n : Nat) : (wideV v n).length = n := by simp [wideV]
theorem wideTo_length (v : Int) (n i : Nat) : (wideTo v n i).length = n := by simp [wideTo]
theorem wideFrom_length (v : Int) (n i : Nat) : (wideFrom v n i).length = n := by simp [wideFrom]
theorem wideTo_zero (v : Int) (n : Nat) : wideTo v n 0 = List.replicate n 0 := by
  apply List.ext_getElem <;> simp [wideTo]
theorem wideFrom_all (v : Int) (n : Nat) : wideFrom v n n = List.replicate n 0 := by
  apply List.ext_getElem
  · simp [wideFrom]
  · intro i h1 h2; simp [wideFrom] at h1 ⊢; omega
theorem wideTo_full (v : Int) (n : Nat) : wideTo v n n = wideV v n := by
  apply List.ext_getElem
  · simp [wideTo, wideV]
  · intro i h1 h2; simp [wideTo, wideV] at h1 ⊢; omega
theorem wideFrom_full (v : Int) (n : Nat) : wideFrom v n 0 = wideV v n := by
  apply List.ext_getElem <;> simp [wideFrom, wideV]
theorem wideTo_set (v : Int) (n i : Nat) (h : i < n) : (wideTo v n i).set i (byteV v n i) = wideTo v n (i + 1) := by
  apply List.ext_getElem
  · simp [wideTo]
  · intro j h1 h2
    simp only [wideTo, List.getElem_set, List.getElem_map, List.getElem_range]
    by_cases e : i = j
    · subst e; rw [if_pos rfl, if_pos (by omega)]
    · rw [if_neg e]
      by_cases c : j < i
      · rw [if_pos c, if_pos (by omega)]
      · rw [if_neg c, if_neg (by omega)]
theorem wideFrom_set (v : Int) (n i : Nat) (h : i < n) : (wideFrom v n (i + 1)).set i (byteV v n i) = wideFrom v n i := by
  apply List.ext_getElem
  · simp [wideFrom]
  · intro j h1 h2
    simp only [wideFrom, List.getElem_set, List.getElem_map, List.getElem_range]
    by_cases e : i = j
    · subst e; rw [if_pos rfl, if_pos (by omega)]
    · rw [if_neg e]
      by_cases c : i + 1 ≤ j
      · rw [if_pos c, if_pos (by omega)]
      · rw [if_neg c, if_neg (by omega)]

theorem shr_byte (v : Int) (n i : Nat) (hn : n ≤ 8) (h : i < n) : shr .u64 v (8 * ((n : Int) - 1 - i)) % 256 = byteV v n i := by
  unfold shr byteV
  have e : (8 * ((n : Int) - 1 - i)).toNat = 8 * (n - 1 - i) := by omega
  have h2 : ((2 ^ (8 * (n - 1 - i)) : Nat) : Int) = ((256 ^ (n - 1 - i) : Nat) : Int) := by rw [Nat.pow_mul]
  rw [e, Nat.min_eq_left (by show _ ≤ 64; omega)]
  rw [Int.natCast_pow, Int.natCast_pow] at h2
  have h3 : (2 : Int) ^ (8 * (n - 1 - i)) = 256 ^ (n - 1 - i) := h2
  rw [h3]

theorem wide_l0 (v : Int) (n : Nat) (hn : n ≤ 8) : ∀ (d i k : Nat), n = i + d → d < k → jump_wide.l0 k v n (wideTo v n i) n i = some (wideV v n)
  | 0, i, k, hd, hk => by
    obtain ⟨k, rfl⟩ := succ_of hk
    obtain rfl : n = i := by omega
    simp only [jump_wide.l0]
    rw [if_neg (by omega), wideTo_full]
  | d + 1, i, k, hd, hk => by
    obtain ⟨k, rfl⟩ := succ_of hk
    have e1 : wrap64 ((n : Int) - 1) = (n : Int) - 1 := w64_id (by omega) (by omega)
    have e2 : wrap64 ((n : Int) - 1 - i) = (n : Int) - 1 - i := w64_id (by omega) (by omega)
    have e3 : wrap64 (8 * ((n : Int) - 1 - i)) = 8 * ((n : Int) - 1 - i) := w64_id (by omega) (by omega)
    have e4 : wrap64 ((i : Int) + 1) = ((i + 1 : Nat) : Int) := by rw [w64_id (by omega) (by omega)]; omega
    simp only [jump_wide.l0, e1, e2, e3, e4, wideTo_length, Int.toNat_natCast]
    rw [if_pos (by omega), if_pos (by omega), if_pos (by omega), if_pos (by omega), shr_byte v n i hn (by omega), wideTo_set v n i (by omega)]
    exact wide_l0 v n hn d (i + 1) k (by omega) (by omega)

theorem wide_ev (v : Int) (n : Nat) (hn : n ≤ 8) {k : Nat} (hk : 8 < k) : jump_wide.f k v n = some (wideV v n) := by
  unfold jump_wide.f
  rw [if_pos (by omega), if_pos (by omega), Option.bind_some, Int.toNat_natCast, List.length_replicate, ← wideTo_zero v n]
  exact wide_l0 v n hn n 0 k (by omega) (by omega)

theorem div_pow_succ (v : Int) (m : Nat) : v / 256 ^ m / 256 = v / 256 ^ (m + 1) := by
  rw [Int.ediv_ediv_of_nonneg (Int.pow_nonneg (by omega)), Int.pow_succ]

theorem bytes_l0 (v : Int) (n : Nat) (hn : n ≤ 8) (v0 : 0 ≤ v) (v1 : v ≤ 18446744073709551615) : ∀ (i k : Nat), i ≤ n → i < k → haulageref03_bytes.l0 k (v / 256 ^ (n - i)) (wideFrom v n i) ((i : Int) - 1) = some (wideV v n)
  | 0, k, hi, hk => by
    obtain ⟨k, rfl⟩ := succ_of hk
    simp only [haulageref03_bytes.l0]
    rw [if_neg (by omega), wideFrom_full]
  | i + 1, k, hi, hk => by
    obtain ⟨k, rfl⟩ := succ_of hk
    have hp : 0 < (256 : Int) ^ (n - (i + 1)) := Int.pow_pos (by omega)
    have q0 : 0 ≤ v / 256 ^ (n - (i + 1)) := Int.ediv_nonneg v0 (by omega)
    have q1 : v / 256 ^ (n - (i + 1)) ≤ v := Int.ediv_le_self _ v0
    have e0 : ((i + 1 : Nat) : Int) - 1 = (i : Int) := by omega
    have e1 : Int.tmod (v / 256 ^ (n - (i + 1))) 256 % 256 = byteV v n i := by
      rw [Int.tmod_eq_emod_of_nonneg q0, Int.emod_emod_of_dvd _ (Int.dvd_refl _)]; unfold byteV; rw [show n - 1 - i = n - (i + 1) by omega]
    have e2 : IntKind.u64.wrap (Int.tdiv (v / 256 ^ (n - (i + 1))) 256) = v / 256 ^ (n - i) := by
      rw [Int.tdiv_eq_ediv_of_nonneg q0, u64_id (by omega) (by omega), div_pow_succ, show n - (i + 1) + 1 = n - i by omega]
    have e3 : wrap64 ((i : Int) - 1) = (i : Int) - 1 := w64_id (by omega) (by omega)
    rw [e0]
    simp only [haulageref03_bytes.l0, wideFrom_length, Int.toNat_natCast, e1, e2, e3]
    rw [if_pos (by omega), if_pos (by omega), if_pos (by omega), wideFrom_set v n i (by omega)]
    exact bytes_l0 v n hn v0 v1 i k (by omega) (by omega)

theorem bytes_ev (v : Int) (n : Nat) (hn : n ≤ 8) (v0 : 0 ≤ v) (v1 : v ≤ 18446744073709551615) {k : Nat} (hk : 8 < k) : haulageref03_bytes.f k v n = some (wideV v n) := by
  unfold haulageref03_bytes.f
  rw [if_pos (by omega), if_pos (by omega), Int.toNat_natCast, ← wideFrom_all v n, w64_id (by omega) (by omega)]
  have := bytes_l0 v n hn v0 v1 n k (by omega) (by omega)
  rw [Nat.sub_self, Int.pow_zero, Int.ediv_one] at this
  exact this

theorem u64_bd (x : Int) : 0 ≤ IntKind.u64.wrap x ∧ IntKind.u64.wrap x ≤ 18446744073709551615 := by rw [IntKind.wrap_u64]; omega

/-- A shard's home. -/
def homeV (s n : Int) : Int := jumpV (fnvV [wideV (IntKind.u64.wrap s) 8]) n
theorem wide8_ev (v : Int) : Ev (fun k => jump_wide.f k v 8) (wideV v 8) := ⟨9, fun k hk => wide_ev v 8 (by omega) (by omega)⟩
theorem wide4_ev (v : Int) : Ev (fun k => jump_wide.f k v 4) (wideV v 4) := ⟨9, fun k hk => wide_ev v 4 (by omega) (by omega)⟩
theorem bytes8_ev (v : Int) (v0 : 0 ≤ v) (v1 : v ≤ 18446744073709551615) : Ev (fun k => haulageref03_bytes.f k v 8) (wideV v 8) := ⟨9, fun k hk => bytes_ev v 8 (by omega) v0 v1 (by omega)⟩
theorem bytes4_ev (v : Int) (v0 : 0 ≤ v) (v1 : v ≤ 18446744073709551615) : Ev (fun k => haulageref03_bytes.f k v 4) (wideV v 4) := ⟨9, fun k hk => bytes_ev v 4 (by omega) v0 v1 (by omega)⟩
theorem Home_ev (s n : Int) (b0 : -9223372036854775808 ≤ n) (b1 : n ≤ 9223372036854775807) : Ev (fun k => jump_Home.f k s n) (homeV s n) := by
  refine Ev.bind (wide8_ev _) (Ev.bind (seal_ev [_] (by simp) (one_row (by rw [wideV_length]; omega))) (Ev.bind (g := fun _ => JP.jump_Jump.f _ n) (a := homeV s n) ?_ (Ev.now _)))
  unfold homeV
  rw [jumpE (fnvV_bd _).1 (fnvV_bd _).2 b0 b1]; exact Ev.now _
theorem refHome_ev (s n : Int) : Ev (fun k => haulageref03_Home.f k s n) (homeV s n) :=
  Ev.bind (bytes8_ev _ (u64_bd s).1 (u64_bd s).2) (Ev.bind (refHash_ev _ (by rw [wideV_length]; omega)) (Ev.bind (refJump_Ev _ n) (Ev.now _)))

end Go.Proofs.Ytchmknacofaepaa.JQ
