import Derived.Test.YtohljkjaggcapaaMv
import Derived.Test.YtohljkjaggcapaaJk1
import Derived.Outline
import Derived.Lib.Hide
import Derived.ArgAppend
import Derived.StillTailTactics
namespace Go.Proofs.Ytohljkjaggcapaa.RT
open Go.RowKit Go.Proofs.YtohljkjaggcapaaW.PrintWords Go.Proofs.YtohljkjaggcapaaW.PrintLast Go.Proofs.Ytohljkjaggcapaa.PJ Go.Proofs.Ytohljkjaggcapaa.JF Go.Proofs.Ytohljkjaggcapaa.JQ Go.Proofs.Ytohljkjaggcapaa.MV
set_option linter.unusedVariables false
set_option linter.unusedSimpArgs false

/-! ### what may have turned -/
/-- Of the blocks of w at most those of the footprint have turned. -/
structure Turn (F : Nat → Prop) (w w' : World) : Prop where
  os : w'.os = w.os
  tape : w'.tape = w.tape
  output : w'.output = w.output
  size : w.heap.size ≤ w'.heap.size
  block : ∀ k, k < w.heap.size → ¬ F k → w'.heap[k]? = w.heap[k]?

theorem Turn.refl (F : Nat → Prop) (w : World) : Turn F w w := ⟨rfl, rfl, rfl, Nat.le_refl _, fun _ _ _ => rfl⟩
theorem Turn.of_below {F : Nat → Prop} {w w' : World} (h : Below w.heap.size w w') : Turn F w w' := ⟨h.os, h.tape, h.output, h.size, fun k hk _ => h.block k hk⟩
theorem Turn.of_grown {F : Nat → Prop} {w w' : World} {b : Nat} (h : w.grownBy w' (some b)) (hb : F b) : Turn F w w' := ⟨h.os, h.tape, h.output, h.size, fun k hk hf => h.block k hk (fun e => hf (by injection e with e; rw [e]; exact hb))⟩
theorem Turn.of_none {F : Nat → Prop} {w w' : World} (h : w.grownBy w' none) : Turn F w w' := ⟨h.os, h.tape, h.output, h.size, fun k hk hf => h.block k hk (by simp)⟩
/-- The footprint, and all that is new since a world. -/
def Fw (F : Nat → Prop) (w : World) (k : Nat) : Prop := F k ∨ w.heap.size ≤ k
theorem Turn.trans {F G : Nat → Prop} {w w1 w2 : World} (h : Turn F w w1) (h2 : Turn G w1 w2) (hg : ∀ k, k < w.heap.size → G k → F k) : Turn F w w2 :=
  ⟨h2.os.trans h.os, h2.tape.trans h.tape, h2.output.trans h.output, Nat.le_trans h.size h2.size, fun k hk hf => (h2.block k (Nat.lt_of_lt_of_le hk h.size) (fun g => hf (hg k hk g))).trans (h.block k hk hf)⟩
theorem Turn.below {F : Nat → Prop} {w w' : World} {B : Nat} (h : Turn F w w') (hF : ∀ k, F k → B ≤ k) (hB : B ≤ w.heap.size) : Below B w w' :=
  ⟨h.os, h.tape, h.output, h.size, fun k hk => h.block k (by omega) (fun f => by have := hF k f; omega)⟩

/-! ### a slice of numbers wherever it begins -/
def nilS : Value := .slice none 0 0
def SlRow (w : World) (F : Nat → Prop) (v : Value) (xs : List Int) : Prop :=
  (v = nilS ∧ xs = []) ∨ ∃ g o c cur, v = .slice (some ⟨g, o, none⟩) xs.length c ∧ F g ∧ w.heap[g]? = some (.cells cur 3 (0, 0)) ∧ xs.length ≤ c ∧ c ≤ maxLen ∧ o + c ≤ cur.size ∧ ∀ i, i < xs.length → cur[o + i]? = some (.int .i64 (xs.getD i 0))
theorem SlRow.kept {w w' : World} {F F' : Nat → Prop} {v : Value} {xs : List Int} (h : SlRow w F v xs) (hF : ∀ k, F k → F' k) (hb : ∀ g, v.ownBlock = some g → w'.heap[g]? = w.heap[g]?) : SlRow w' F' v xs := by
  rcases h with h | ⟨g, o, c, cur, rfl, h1, h2, h3⟩
  · exact .inl h
  · exact .inr ⟨g, o, c, cur, rfl, hF _ h1, (hb g rfl).trans h2, h3⟩

/-! ### a route -/
structure RS where
  servers : Int
  shards : Int
  good : Int
  hints : Int
  moved : Int
  wh : Int → Option Int
  tr : Int → List Int

def RS.cells (S : RS) (m1 m2 : Nat) : Array Value := #[.int .i64 S.servers, .int .i64 S.shards, .map (some m1), .map (some m2), .int .i64 S.good, .int .i64 S.hints, .int .i64 S.moved]

structure Rep (w : World) (F : Nat → Prop) (b n : Nat) (S : RS) (m1 m2 : Nat) (T : Int → Option Value) : Prop where
  blk : w.heap[b]? = some (.cells (S.cells m1 m2) 59 (0, 0))
  fb : F b
  f1 : F m1
  f2 : F m2
  ne : m1 ≠ m2
  vm1 : VMap w Try.prog 3 m1 n (fun k => (S.wh k).map (Value.int .i64))
  vm2 : VMap w Try.prog 3 m2 n T
  row : ∀ k, SlRow w F ((T k).getD nilS) (S.tr k)
  apart : ∀ k j, k ≠ j → ∀ g, ((T k).getD nilS).ownBlock = some g → ((T j).getD nilS).ownBlock ≠ some g
  s0 : 1 ≤ S.servers
  s1 : S.servers ≤ 8
  h0 : 1 ≤ S.shards
  h1 : S.shards ≤ 64
  short : ∀ k, ((S.tr k).length : Int) ≤ S.servers
  whwf : ∀ k v, S.wh k = some v → 0 ≤ v ∧ v < S.servers

theorem cells_at {w : World} {b : Nat} {cur : Array Value} {t : TypeId} (h : w.heap[b]? = some (.cells cur t (0, 0))) (i : Nat) : w.cell? ⟨b, i, none⟩ = cur[i]? := by
  simp [World.cell?, h]
theorem cells_frozen {w : World} {b : Nat} {cur : Array Value} {t : TypeId} (h : w.heap[b]? = some (.cells cur t (0, 0))) (i : Nat) : w.frozen? ⟨b, i, none⟩ = false := by
  simp [World.frozen?, h]

/-- Is there such a shard, and such a server? -/
def RS.is (S : RS) (s v : Int) : Bool := decide (0 ≤ s) && (decide (s < S.shards) && (decide (0 ≤ v) && decide (v < S.servers)))
def RS.where_ (S : RS) (s : Int) : Int := if S.is s 0 = true then (match S.wh s with | some v => v | none => homeV s S.servers) else -1

variable {w : World} {F : Nat → Prop} {b n : Nat} {S : RS} {m1 m2 : Nat} {T : Int → Option Value}

set_option maxHeartbeats 1000000 in
theorem is_calls (h : Rep w F b n S m1 m2 T) (s v : Int) :
    Calls Try.prog 23 #[.pointer (some ⟨b, 0, none⟩), .int .i64 s, .int .i64 v] w fun e w' => e = .returned (.bool (S.is s v)) ∧ Drawn0 w w' := by
  have c0 : w.cell? ⟨b, 0, none⟩ = some (.int .i64 S.servers) := (cells_at h.blk 0).trans rfl
  have c1 : w.cell? ⟨b, 1, none⟩ = some (.int .i64 S.shards) := (cells_at h.blk 1).trans rfl
  unfold RS.is
  clear h
  have fin : ∀ (r : Bool), True := fun _ => trivial
  by_cases a0 : 0 ≤ s
  · have b0 : decide (0 ≤ s) = true := decide_eq_true a0
    by_cases a1 : s < S.shards
    · have b1 : decide (s < S.shards) = true := decide_eq_true a1
      by_cases a2 : 0 ≤ v
      · have b2 : decide (0 ≤ v) = true := decide_eq_true a2
        obtain ⟨r, hr⟩ : ∃ r, decide (v < S.servers) = r := ⟨_, rfl⟩
        rw [b0, b1, b2, hr]
        clear a0 a1 a2 fin
        go_enter Try.func23, Try.ntmps23
        go_wp2
        repeat (go_quiet (fail); try go_wp2)
        go_ret
        exact ⟨by simp, by repeat (first | exact Drawn0.refl _ | apply Drawn0.step)⟩
      · have b2 : decide (0 ≤ v) = false := decide_eq_false a2
        rw [b0, b1, b2]
        clear a0 a1 a2 fin
        go_enter Try.func23, Try.ntmps23
        go_wp2
        repeat (go_quiet (fail); try go_wp2)
        go_ret
        exact ⟨by simp, by repeat (first | exact Drawn0.refl _ | apply Drawn0.step)⟩
    · have b1 : decide (s < S.shards) = false := decide_eq_false a1
      rw [b0, b1]
      clear a0 a1 fin
      go_enter Try.func23, Try.ntmps23
      go_wp2
      repeat (go_quiet (fail); try go_wp2)
      go_ret
      exact ⟨by simp, by repeat (first | exact Drawn0.refl _ | apply Drawn0.step)⟩
  · have b0 : decide (0 ≤ s) = false := decide_eq_false a0
    rw [b0]
    clear a0 fin
    go_enter Try.func23, Try.ntmps23
    go_wp2
    repeat (go_quiet (fail); try go_wp2)
    go_ret
    exact ⟨by simp, by repeat (first | exact Drawn0.refl _ | apply Drawn0.step)⟩

/-! ### Where -/
theorem Rep.drawn {w' : World} (h : Rep w F b n S m1 m2 T) (hd : ∀ k, k < w.heap.size → w'.heap[k]? = w.heap[k]?) : Rep w' F b n S m1 m2 T := by
  have lt : ∀ {g : Nat} {o : Obj}, w.heap[g]? = some o → g < w.heap.size := fun e => (Array.getElem?_eq_some_iff.1 e).1
  refine ⟨(hd _ (lt h.blk)).trans h.blk, h.fb, h.f1, h.f2, h.ne, h.vm1.kept (hd _ h.vm1.lt), h.vm2.kept (hd _ h.vm2.lt), fun k => (h.row k).kept (fun _ q => q) (fun g hg => ?_), h.apart, h.s0, h.s1, h.h0, h.h1, h.short, h.whwf⟩
  rcases h.row k with ⟨e, _⟩ | ⟨g', o, c, cur, e, _, h2, _⟩
  · rw [e] at hg; simp [nilS, Value.ownBlock] at hg
  · rw [e] at hg
    simp [Value.ownBlock] at hg
    subst hg
    exact hd _ (lt h2)

theorem home_calls (s v : Int) (b0 : -9223372036854775808 ≤ v) (b1 : v ≤ 9223372036854775807) (w : World) :
    Calls Try.prog 24 #[.int .i64 s, .int .i64 v] w fun e w' => e = .returned (.int .i64 (homeV s v)) ∧ Below w.heap.size w w' := by
  obtain ⟨K, hK⟩ := Home_ev s v b0 b1
  exact jump_Home.calls K s v _ w (hK K (Nat.le_refl _))

theorem zeroInt (w : World) : (zeroValue 3).run Try.prog w = .ok (.int .i64 0) w := by kernel_rfl
theorem zeroSl (w : World) : (zeroValue 22).run Try.prog w = .ok nilS w := by kernel_rfl

set_option maxHeartbeats 1000000 in
theorem where_calls (h : Rep w F b n S m1 m2 T) (s : Int) (hs : (Lit.int .i64 s).wf = true) :
    Calls Try.prog 14 #[.pointer (some ⟨b, 0, none⟩), .int .i64 s] w fun e w' => e = .returned (.int .i64 (S.where_ s)) ∧ Below w.heap.size w w' := by
  have H := Lib.hid h
  have c0 : w.cell? ⟨b, 0, none⟩ = some (.int .i64 S.servers) := (cells_at h.blk 0).trans rfl
  have c2 : w.cell? ⟨b, 2, none⟩ = some (.map (some m1)) := (cells_at h.blk 2).trans rfl
  have v0 : -9223372036854775808 ≤ S.servers := by have := h.s0; omega
  have v1 : S.servers ≤ 9223372036854775807 := by have := h.s1; omega
  unfold RS.where_
  clear h
  by_cases c : S.is s 0 = true
  · rw [if_pos c]
    cases hS : S.wh s with
    | none =>
      go_enter Try.func14, Try.ntmps14
      go_wp2_with (first | (go_at_call 23; refine (is_calls H.out s 0).mono ?_; rintro e w1 ⟨rfl, k1, rfl⟩; rw [c]) | (at_lookup; refine MV.look_ok rfl _ _ 56 rfl 3 Try.underlying3 Try.underlying56 (zeroInt _) m1 n _ rfl (H.out.vm1.kept rfl) s rfl hs (.int .i64 0) false (by simp [hS]) (by simp [hS]) ?_) | (go_at_call 24; refine (home_calls s S.servers v0 v1 _).mono ?_; rintro e w2 ⟨rfl, B2⟩))
      go_ret
      exact ⟨rfl, by first | exact B2 | exact below_step (Drawn0.below ⟨_, rfl⟩) B2⟩
    | some v =>
      go_enter Try.func14, Try.ntmps14
      go_wp2_with (first | (go_at_call 23; refine (is_calls H.out s 0).mono ?_; rintro e w1 ⟨rfl, k1, rfl⟩; rw [c]) | (at_lookup; refine MV.look_ok rfl _ _ 56 rfl 3 Try.underlying3 Try.underlying56 (zeroInt _) m1 n _ rfl (H.out.vm1.kept rfl) s rfl hs (.int .i64 v) true (by simp [hS]) (by simp [hS]) ?_))
      go_ret
      exact ⟨rfl, by repeat (first | exact Below.refl _ _ | apply below_drew1 | exact Drawn0.below ⟨_, rfl⟩)⟩
  · rw [if_neg c]
    have c' : S.is s 0 = false := by simpa using c
    go_enter Try.func14, Try.ntmps14
    go_wp2_with (go_at_call 23; refine (is_calls H.out s 0).mono ?_; rintro e w1 ⟨rfl, k1, rfl⟩; rw [c'])
    go_ret
    exact ⟨rfl, by repeat (first | exact Below.refl _ _ | apply below_drew1 | exact Drawn0.below ⟨_, rfl⟩)⟩

/-! ### New -/
def RS.new (a c : Int) : RS := ⟨a, c, 0, 0, 0, fun _ => none, fun _ => []⟩

set_option maxHeartbeats 1000000 in
theorem new_bad (a c : Int) (hbad : a < 1 ∨ 8 < a ∨ c < 1 ∨ 64 < c) (w : World) :
    Calls Try.prog 10 #[.int .i64 a, .int .i64 c] w fun e w' => e = .returned (.tuple #[.pointer none, .int .i64 2]) ∧ Drawn0 w w' := by
  by_cases a0 : a < 1
  · have b0 : decide (a < 1) = true := decide_eq_true a0
    clear hbad
    go_enter Try.func10, Try.ntmps10
    go_wp2
    go_ret2
    exact ⟨rfl, by repeat (first | exact Drawn0.refl _ | apply Drawn0.step)⟩
  · have b0 : decide (a < 1) = false := decide_eq_false a0
    by_cases a1 : 8 < a
    · have b1 : decide (8 < a) = true := decide_eq_true a1
      clear hbad
      go_enter Try.func10, Try.ntmps10
      go_wp2
      go_ret2
      exact ⟨rfl, by repeat (first | exact Drawn0.refl _ | apply Drawn0.step)⟩
    · have b1 : decide (8 < a) = false := decide_eq_false a1
      by_cases a2 : c < 1
      · have b2 : decide (c < 1) = true := decide_eq_true a2
        clear hbad
        go_enter Try.func10, Try.ntmps10
        go_wp2
        go_ret2
        exact ⟨rfl, by repeat (first | exact Drawn0.refl _ | apply Drawn0.step)⟩
      · have b2 : decide (c < 1) = false := decide_eq_false a2
        have b3 : decide (64 < c) = true := decide_eq_true (by omega)
        clear hbad
        go_enter Try.func10, Try.ntmps10
        go_wp2
        go_ret2
        exact ⟨rfl, by repeat (first | exact Drawn0.refl _ | apply Drawn0.step)⟩

set_option maxHeartbeats 1000000 in
theorem new_good (a c : Int) (a0 : 1 ≤ a) (a1 : a ≤ 8) (c0 : 1 ≤ c) (c1 : c ≤ 64) (w : World) :
    Calls Try.prog 10 #[.int .i64 a, .int .i64 c] w fun e w' => ∃ b m1 m2, e = .returned (.tuple #[.pointer (some ⟨b, 0, none⟩), .int .i64 0]) ∧ Rep w' (fun k => w.heap.size ≤ k) b 0 (RS.new a c) m1 m2 (fun _ => none) ∧ Below w.heap.size w w' := by
  have b0 : decide (a < 1) = false := decide_eq_false (by omega)
  have b1 : decide (8 < a) = false := decide_eq_false (by omega)
  have b2 : decide (c < 1) = false := decide_eq_false (by omega)
  have b3 : decide (64 < c) = false := decide_eq_false (by omega)
  have hmm := @run_makeMap Try.prog
  go_enter Try.func10, Try.ntmps10
  go_wp2
  go_ret2
  have n1 : (w.alloc (.map #[] 0)).heap.size = w.heap.size + 1 := by show (w.heap.push _).size = _; simp
  have n2 : ((w.alloc (.map #[] 0)).alloc (.map #[] 0)).heap.size = w.heap.size + 1 + 1 := by show ((w.heap.push _).push _).size = _; simp
  refine ⟨w.heap.size + 1 + 1, w.heap.size, w.heap.size + 1, rfl, ?_, ?_⟩
  · have hb := MapKept.heap_alloc ((w.alloc (.map #[] 0)).alloc (.map #[] 0)) (.cells #[.int .i64 a, .int .i64 c, .map (some w.heap.size), .map (some (w.heap.size + 1)), .int .i64 0, .int .i64 0, .int .i64 0] 59 (0, 0))
    rw [n2] at hb
    have h2 := MapKept.heap_alloc (w.alloc (.map #[] 0)) (.map #[] 0)
    have v1 := VMap.made w Try.prog 3
    have v2 := VMap.made (w.alloc (.map #[] 0)) Try.prog 3
    rw [n1] at h2 v2
    refine ⟨hb.1, by omega, by omega, by omega, by omega, ?_, ?_, fun k => .inl ⟨rfl, rfl⟩, fun k j _ g hg => by simp [nilS, Value.ownBlock] at hg, a0, a1, c0, c1, fun k => by show ((([] : List Int).length : Nat) : Int) ≤ a; simp; omega, fun k v hv => by cases hv⟩
    · exact (v1.kept (h2.2 _ (by omega))).kept (hb.2 _ (by omega))
    · exact v2.kept (hb.2 _ (by omega))
  · refine ((((Below.refl w.heap.size w).alloc (Nat.le_refl _) _).alloc (by omega) _).alloc (by omega) _)

/-! ### Fine -/
theorem Rep.ne1 (h : Rep w F b n S m1 m2 T) : m1 ≠ b := by
  obtain ⟨es, c, e⟩ := h.vm1.is_map
  intro q; subst q; rw [h.blk] at e; simp at e
theorem Rep.ne2 (h : Rep w F b n S m1 m2 T) : m2 ≠ b := by
  obtain ⟨es, c, e⟩ := h.vm2.is_map
  intro q; subst q; rw [h.blk] at e; simp at e
/-- A row's block is none of the route's three. -/
theorem Rep.rowne (h : Rep w F b n S m1 m2 T) (k : Int) (g : Nat) (hg : ((T k).getD nilS).ownBlock = some g) : g ≠ b ∧ g ≠ m1 ∧ g ≠ m2 ∧ F g ∧ g < w.heap.size := by
  rcases h.row k with ⟨e, _⟩ | ⟨g', o, c, cur, e, h1, h2, _⟩
  · rw [e] at hg; simp [nilS, Value.ownBlock] at hg
  · rw [e] at hg
    simp [Value.ownBlock] at hg
    subst hg
    refine ⟨fun q => ?_, fun q => ?_, fun q => ?_, h1, (Array.getElem?_eq_some_iff.1 h2).1⟩
    · subst q; rw [h.blk] at h2; simp at h2
    · obtain ⟨es, c, e⟩ := h.vm1.is_map
      subst q; rw [e] at h2; simp at h2
    · obtain ⟨es, c, e⟩ := h.vm2.is_map
      subst q; rw [e] at h2; simp at h2

def RS.fine (S : RS) (s v : Int) : RS := { S with good := wrap64 (S.good + 1), wh := fun j => if j = s then some v else S.wh j, tr := fun j => if j = s then [] else S.tr j }

theorem is_of {s v : Int} (h : S.is s v = true) : 0 ≤ s ∧ s < S.shards ∧ 0 ≤ v ∧ v < S.servers := by unfold RS.is at h; simpa using h

/-- What a route is when its block, its two maps and one row have turned. -/
theorem Rep.turned {w' : World} {S' : RS} {T' : Int → Option Value} {n' : Nat} {F' : Nat → Prop} (h : Rep w F b n S m1 m2 T) (s : Int) (hF : ∀ k, F k → F' k)
    (blk : w'.heap[b]? = some (.cells (S'.cells m1 m2) 59 (0, 0))) (v1 : VMap w' Try.prog 3 m1 n' (fun k => (S'.wh k).map (Value.int .i64))) (v2 : VMap w' Try.prog 3 m2 n' T')
    (es : S'.servers = S.servers) (eh : S'.shards = S.shards) (hT : ∀ k, k ≠ s → T' k = T k) (htr : ∀ k, k ≠ s → S'.tr k = S.tr k) (hw : ∀ k v, S'.wh k = some v → 0 ≤ v ∧ v < S.servers)
    (old : ∀ k g, k ≠ s → ((T k).getD nilS).ownBlock = some g → w'.heap[g]? = w.heap[g]?) (row : SlRow w' F' ((T' s).getD nilS) (S'.tr s)) (len : ((S'.tr s).length : Int) ≤ S.servers)
    (own : ∀ g, ((T' s).getD nilS).ownBlock = some g → ((T s).getD nilS).ownBlock = some g ∨ w.heap.size ≤ g) : Rep w' F' b n' S' m1 m2 T' := by
  refine ⟨blk, hF _ h.fb, hF _ h.f1, hF _ h.f2, h.ne, v1, v2, fun k => ?_, fun k j hne g hk hj => ?_, by rw [es]; exact h.s0, by rw [es]; exact h.s1, by rw [eh]; exact h.h0, by rw [eh]; exact h.h1, fun k => ?_, fun k v hv => by rw [es]; exact hw k v hv⟩
  · by_cases c : k = s
    · subst c; exact row
    · rw [hT k c, htr k c]; exact (h.row k).kept hF (fun g hg => old k g c hg)
  · by_cases c : k = s
    · subst c
      have cj : j ≠ k := fun e => hne e.symm
      rw [hT j cj] at hj
      rcases own g hk with o | o
      · exact h.apart k j hne g o hj
      · have := (h.rowne j g hj).2.2.2.2; omega
    · rw [hT k c] at hk
      by_cases d : j = s
      · subst d
        rcases own g hj with o | o
        · exact h.apart k j hne g hk o
        · have := (h.rowne k g hk).2.2.2.2; omega
      · rw [hT j d] at hj; exact h.apart k j hne g hk hj
  · by_cases c : k = s
    · subst c; rw [es]; exact len
    · rw [htr k c, es]; exact h.short k

set_option maxHeartbeats 1000000 in
theorem fine_no (h : Rep w F b n S m1 m2 T) (s v : Int) (c : S.is s v = false) :
    Calls Try.prog 12 #[.pointer (some ⟨b, 0, none⟩), .int .i64 s, .int .i64 v] w fun e w' => e = .returned (.bool false) ∧ Drawn0 w w' := by
  have H := Lib.hid h
  clear h
  go_enter Try.func12, Try.ntmps12
  go_wp2_with (go_at_call 23; refine (is_calls H.out s v).mono ?_; rintro e w1 ⟨rfl, k1, rfl⟩; rw [c])
  go_ret
  exact ⟨rfl, by repeat (first | exact Drawn0.refl _ | apply Drawn0.step)⟩

set_option maxHeartbeats 1000000 in
theorem fine_yes (h : Rep w F b n S m1 m2 T) (s v : Int) (hs : (Lit.int .i64 s).wf = true) (c : S.is s v = true) (hn : n < 4611686018427387904) :
    Calls Try.prog 12 #[.pointer (some ⟨b, 0, none⟩), .int .i64 s, .int .i64 v] w fun e w' => e = .returned (.bool true) ∧ Rep w' F b (n + 1) (S.fine s v) m1 m2 (upd T s none) ∧ Turn F w w' := by
  have H := Lib.hid h
  have c4 : w.cell? ⟨b, 4, none⟩ = some (.int .i64 S.good) := (cells_at h.blk 4).trans rfl
  have f4 : w.frozen? ⟨b, 4, none⟩ = false := cells_frozen h.blk 4
  have c2 : w.cell? ⟨b, 2, none⟩ = some (.map (some m1)) := (cells_at h.blk 2).trans rfl
  have c3 : w.cell? ⟨b, 3, none⟩ = some (.map (some m2)) := (cells_at h.blk 3).trans rfl
  clear h
  go_enter Try.func12, Try.ntmps12
  have lb : b < w.heap.size := (Array.getElem?_eq_some_iff.1 H.out.blk).1
  go_wp2_with (first | (go_at_call 23; refine (is_calls H.out s v).mono ?_; rintro e w1 ⟨rfl, k1, rfl⟩; rw [c]) | (at_mapUpdate; refine MV.store rfl _ _ _ 56 rfl 3 Try.underlying3 Try.underlying56 m1 n _ rfl (H.out.vm1.kept (heap_setCell_other _ _ _ _ H.out.ne1)) (by unfold maxLen; omega) s (.int .i64 v) rfl rfl hs ?_; intro w2 hv2 hg2 hz2; have hb2 : w2.heap[b]? = some (.cells ((S.fine s v).cells m1 m2) 59 (0, 0)) := (hg2.block b (by rw [World.size_setCell]; exact lb) (fun e => H.out.ne1 (by injection e with e; exact e.symm))).trans (heap_setCell_same _ b 4 _ _ _ H.out.blk); have c3' : w2.cell? ⟨b, 3, none⟩ = some (.map (some m2)) := (cells_at hb2 3).trans rfl) | (at_delete; refine MV.drop rfl _ _ 57 rfl 22 Try.underlying3 Try.underlying57 m2 n _ rfl (H.out.vm2.kept ((hg2.block m2 (by rw [World.size_setCell]; exact H.out.vm2.lt) (fun e => H.out.ne (by injection e with e; exact e.symm))).trans (heap_setCell_other _ _ _ _ H.out.ne2))) s rfl hs ?_; intro w3 hv3 hg3 hz3))
  go_ret
  have hz2' : w2.heap.size = w.heap.size := by rw [hz2, World.size_setCell]; rfl
  have old2 : ∀ g, g ≠ b → g ≠ m1 → g < w.heap.size → w2.heap[g]? = w.heap[g]? := fun g q1 q2 q3 => (hg2.block g (by rw [World.size_setCell]; exact q3) (fun e => q2 (by injection e))).trans (heap_setCell_other _ _ _ _ q1)
  have old3 : ∀ g, g ≠ m2 → g < w.heap.size → w3.heap[g]? = w2.heap[g]? := fun g q1 q2 => hg3.block g (by omega) (fun e => q1 (by injection e))
  obtain ⟨i0, i1, i2, i3⟩ := is_of c
  refine ⟨rfl, ?_, ?_⟩
  · refine H.out.turned s (fun _ q => q) ((old3 b (fun e => H.out.ne2 e.symm) lb).trans hb2) ?_ (hv3.mono (by omega)) rfl rfl (fun k q => by unfold upd; rw [if_neg q]) (fun k q => by unfold RS.fine; simp [q]) (fun k x hx => ?_) (fun k g q hg => ?_) (.inl ⟨by unfold upd; simp, by unfold RS.fine; simp⟩) (by unfold RS.fine; simp; have := H.out.s0; omega) (fun g hg => by unfold upd at hg; simp [nilS, Value.ownBlock] at hg)
    · have e : (fun k => ((S.fine s v).wh k).map (Value.int .i64)) = upd (fun k => (S.wh k).map (Value.int .i64)) s (some (.int .i64 v)) := by
        funext k; unfold upd RS.fine; simp only; split <;> simp
      rw [e]
      exact hv2.kept (old3 m1 H.out.ne H.out.vm1.lt)
    · unfold RS.fine at hx
      simp only at hx
      split at hx
      · injection hx with hx; omega
      · exact H.out.whwf k x hx
    · obtain ⟨q1, q2, q3, _, q5⟩ := H.out.rowne k g hg
      exact (old3 g q3 q5).trans (old2 g q1 q2 q5)
  · refine ⟨hg3.os.trans (hg2.os.trans rfl), hg3.tape.trans (hg2.tape.trans rfl), hg3.output.trans (hg2.output.trans rfl), by omega, fun k hk hf => ?_⟩
    exact (old3 k (fun e => hf (by rw [e]; exact H.out.f2)) hk).trans (old2 k (fun e => hf (by rw [e]; exact H.out.fb)) (fun e => hf (by rw [e]; exact H.out.f1)) hk)

/-! ### a number appended to a slice wherever it begins -/
theorem infoI : (Try.prog.info? 3).map (fun i => (i.zero, i.size, i.bytes)) = some (some (.int .i64 0), 1, 8) := by kernel_rfl

theorem SlRow.of_own {F : Nat → Prop} {v : Value} {xs : List Int} {n : Nat} {base : Nat} {ys : List Value} (h : w.ownsRow base 3 1 v n ys) (hn : n = xs.length) (hy : ys = xs.map (Value.int .i64)) (hF : ∀ k, base ≤ k → F k) : SlRow w F v xs := by
  subst hn
  subst hy
  obtain ⟨hl, h⟩ := h
  rcases h with ⟨e, e2⟩ | ⟨g, cap, cur, e, hb, hg, h1, h2, h3, h4⟩
  · exact .inl ⟨e, List.eq_nil_of_length_eq_zero e2⟩
  · refine .inr ⟨g, 0, cap, cur, e, hF g hb, hg, h1, h2, by omega, fun i hi => ?_⟩
    rw [Nat.zero_add]
    have h5 : (cur.toList.take (xs.length * 1))[i]? = (xs.map (Value.int .i64))[i]? := by rw [h4]
    rw [List.getElem?_take_of_lt (by omega)] at h5
    rw [← Array.getElem?_toList, h5]
    simp [hi]

theorem sl_append {P : Program} {ops : Array Oper} {rest : List Oper} {o : Oper} {a : Act} {Q : Exit → Act → World → Prop} (hP : P = Try.prog)
    (hg : o.guard = none) (s x : Operand) (hop : o.op = Op.call { callee := Callee.builtin Builtin.append, args := #[s, x], argTypes := #[22, 22] })
    (v : Value) (xs : List Int) (hs : a.eval s = v) (h : SlRow w F v xs) (hl : xs.length ≤ 1000000) (ad : Addr) (y : Int) (hx : a.eval x = .slice (some ad) 1 1) (hc : w.cell? ad = some (.int .i64 y))
    (hK : ∀ g c off w', SlRow w' (Fw F w) (.slice (some ⟨g, off, none⟩) (xs.length + 1) c) (xs ++ [y]) → xs.length + 1 ≤ c → (v.ownBlock = some g ∨ w.heap.size ≤ g) → Turn (fun k => v.ownBlock = some k) w w' → wpList P ops Q rest (a.put o.dst (.slice (some ⟨g, off, none⟩) (xs.length + 1) c)) w') :
    wpList P ops Q (o :: rest) a w := by
  subst hP
  obtain ⟨i0, hi, hz0, hz1, hz2⟩ := info_parts infoI
  have hnews : ∀ j u, ([Value.int .i64 y] : List Value)[j]? = some u → w.cell? (ad.add j) = some u := fun j u hj => by
    match j, hj with
    | 0, hj => simp at hj; subst hj; simpa [Addr.add] using hc
  have grown : ∀ v' w', w'.ownsRow w.heap.size 3 1 v' (xs.length + 1) (xs.map (Value.int .i64) ++ [.int .i64 y]) → w.grownBy w' none → wpList Try.prog ops Q rest (a.put o.dst v') w' := by
    intro v' w' ho hgr
    have hr : SlRow w' (Fw F w) v' (xs ++ [y]) := SlRow.of_own ho (by simp) (by simp) (fun k hk => .inr hk)
    obtain ⟨_, ho2⟩ := ho
    rcases ho2 with ⟨_, e⟩ | ⟨g, cap, cur, rfl, hb, hg', h1, _⟩
    · omega
    · exact hK g cap 0 w' hr h1 (.inr hb) (Turn.of_none hgr)
  rcases h with ⟨rfl, rfl⟩ | ⟨g, off, c, cur, rfl, hF, hb, h1, h2, h3, h4⟩
  · exact wpList_append_grows w hg s x 22 hop 3 i0 (.int .i64 0) 1 8 Try.underlying22 hi hz0 hz1 hz2 rfl (by decide) none 0 0 [] hs (fun _ => ⟨rfl, rfl⟩) rfl (fun b e => by cases e) ad 1 1 [.int .i64 y] hx rfl hnews (by simp [Value.oneCell']) (by omega) (by unfold maxLen; omega) (by omega) grown
  · refine wpList_append_arg w hg s x 22 hop 3 i0 (.int .i64 0) 1 8 Try.underlying22 hi hz0 hz1 hz2 rfl (by decide) g off xs.length c (xs.map (Value.int .i64)) hs (by simp) (fun j u hj => ?_) ad 1 1 [.int .i64 y] hx rfl hnews (by simp [Value.oneCell']) (fun hr j hj => ?_) (by unfold maxLen; omega) (by omega) (fun hr => ?_) (fun hr v' w' => grown v' w')
    · have hjl : j < xs.length := by have := (List.getElem?_eq_some_iff.1 hj).1; simpa using this
      rw [cells_at hb, h4 j hjl]
      rw [List.getElem?_map, List.getElem?_eq_getElem hjl] at hj
      rw [← hj]; simp [hjl]
    · have j0 : j = 0 := by simpa using hj
      subst j0
      exact ⟨by rw [cells_at hb]; rw [Array.getElem?_eq_getElem (by omega)]; rfl, cells_frozen hb _⟩
    · have hset := heap_setCell_same w g (off + xs.length * 1 + 0) cur 3 (.int .i64 y) hb
      refine hK g c off _ (.inr ⟨g, off, c, _, by simp, .inl hF, hset, by simp; omega, h2, by simpa using h3, fun i hi => ?_⟩) hr (.inl rfl) ⟨rfl, rfl, rfl, by show _ ≤ (w.setCell _ _).heap.size; rw [World.size_setCell]; omega, fun k hk hf => heap_setCell_other _ _ _ _ (fun e => hf (by rw [e]; rfl))⟩
      rw [Array.getElem?_setIfInBounds]
      by_cases q : i = xs.length
      · subst q
        rw [if_pos (by omega), if_pos (by omega)]; simp
      · have hi' : i < xs.length := by simp at hi; omega
        rw [if_neg (by omega), h4 i hi']; simp [List.getElem?_append_left hi', hi']

/-! ### Hint -/
theorem SlRow.cut {g off c : Nat} {xs : List Int} (h : SlRow w F (.slice (some ⟨g, off, none⟩) xs.length c) xs) (l : Nat) (hl : l ≤ xs.length) : SlRow w F (.slice (some ⟨g, off + l, none⟩) (xs.length - l) (c - l)) (xs.drop l) := by
  rcases h with ⟨e, _⟩ | ⟨g', off', c', cur, e, hF, hb, h1, h2, h3, h4⟩
  · simp [nilS] at e
  · injection e with e1 e2 e3
    injection e1 with e1
    injection e1 with e1 e4
    subst e1
    subst e3
    subst e4
    refine .inr ⟨g, off + l, c - l, cur, by simp, hF, hb, by simp; omega, by omega, by omega, fun i hi => ?_⟩
    have hi' : l + i < xs.length := by simp at hi; omega
    rw [Nat.add_assoc, h4 (l + i) hi']
    simp [hi', List.getElem?_drop]

theorem cut_from (g off n c : Nat) (l : Int) (l0 : 0 ≤ l) (l1 : l ≤ n) (l2 : l < c) : ∀ W : World, (Instr.slice 22 (.slice (some ⟨g, off, none⟩) n c) (some (.int .i64 l)) none none).run Try.prog W = .ok (.slice (some ⟨g, off + l.toNat, none⟩) (n - l.toNat) (c - l.toNat)) W := by
  intro W
  obtain ⟨i0, hi, hz0, hz1, hz2⟩ := info_parts infoI
  have hel : Try.prog.elem 22 = 3 := by kernel_rfl
  have hu : Try.prog.underlying 22 = some (.slice (Try.prog.elem 22)) := by rw [hel]; exact Try.underlying22
  rw [run_slice_l W 22 (some ⟨g, off, none⟩) n c hu .i64 l l0 (by omega), hel]
  have hne : ¬ c = l.toNat := by omega
  simp [sizeOf, typeInfo, hi, sliced, Result.andThen, hz1, Addr.add, hne]

theorem Rep.setc (h : Rep w F b n S m1 m2 T) (i : Nat) (u : Value) (S' : RS) (e : (S.cells m1 m2).setIfInBounds i u = S'.cells m1 m2) (es : S'.servers = S.servers) (eh : S'.shards = S.shards) (ew : S'.wh = S.wh) (et : S'.tr = S.tr) :
    Rep (w.setCell ⟨b, i, none⟩ u) F b n S' m1 m2 T := by
  have hset := heap_setCell_same w b i _ _ u h.blk
  rw [e] at hset
  refine ⟨hset, h.fb, h.f1, h.f2, h.ne, ?_, h.vm2.kept (heap_setCell_other _ _ _ _ h.ne2), fun k => ?_, h.apart, by rw [es]; exact h.s0, by rw [es]; exact h.s1, by rw [eh]; exact h.h0, by rw [eh]; exact h.h1, fun k => by rw [et, es]; exact h.short k, fun k v hv => by rw [es]; rw [ew] at hv; exact h.whwf k v hv⟩
  · rw [ew]; exact h.vm1.kept (heap_setCell_other _ _ _ _ h.ne1)
  · rw [et]; exact (h.row k).kept (fun _ q => q) (fun g hg => heap_setCell_other _ _ _ _ (h.rowne k g hg).1)

def RS.hints1 (S : RS) : RS := { S with hints := wrap64 (S.hints + 1) }
def RS.hint (S : RS) (s v : Int) : RS := { S with hints := wrap64 (S.hints + 1), moved := wrap64 (S.moved + 1), wh := fun j => if j = s then some v else S.wh j, tr := fun j => if j = s then (S.tr s ++ [S.where_ s]).drop ((S.tr s).length + 1 - S.servers.toNat) else S.tr j }

set_option maxHeartbeats 1000000 in
theorem hint_no (h : Rep w F b n S m1 m2 T) (s v : Int) (c : S.is s v = false) :
    Calls Try.prog 13 #[.pointer (some ⟨b, 0, none⟩), .int .i64 s, .int .i64 v] w fun e w' => e = .returned (.bool false) ∧ Drawn0 w w' := by
  have H := Lib.hid h
  clear h
  go_enter Try.func13, Try.ntmps13
  go_wp2_with (go_at_call 23; refine (is_calls H.out s v).mono ?_; rintro e w1 ⟨rfl, k1, rfl⟩; rw [c])
  go_ret
  exact ⟨rfl, by repeat (first | exact Drawn0.refl _ | apply Drawn0.step)⟩

set_option maxHeartbeats 1000000 in
theorem hint_same (h : Rep w F b n S m1 m2 T) (s v : Int) (hs : (Lit.int .i64 s).wf = true) (c : S.is s v = true) (cv : S.where_ s = v) :
    Calls Try.prog 13 #[.pointer (some ⟨b, 0, none⟩), .int .i64 s, .int .i64 v] w fun e w' => e = .returned (.bool false) ∧ Rep w' F b n S.hints1 m1 m2 T ∧ Turn F w w' := by
  have H := Lib.hid h
  have c5 : w.cell? ⟨b, 5, none⟩ = some (.int .i64 S.hints) := (cells_at h.blk 5).trans rfl
  have f5 : w.frozen? ⟨b, 5, none⟩ = false := cells_frozen h.blk 5
  have cw : S.hints1.where_ s = v := cv
  have cvv : (v == v) = true := by simp
  clear h
  go_enter Try.func13, Try.ntmps13
  go_wp2_with (first | (go_at_call 23; refine (is_calls H.out s v).mono ?_; rintro e w1 ⟨rfl, k1, rfl⟩; rw [c]) | (go_at_call 14; have R1 := Lib.hid ((H.out.drawn (w' := w.drewN k1) (fun _ _ => rfl)).setc 5 (.int .i64 (wrap64 (S.hints + 1))) S.hints1 rfl rfl rfl rfl rfl); refine (where_calls R1.out s hs).mono ?_; rintro e w2 ⟨rfl, B2⟩; rw [cw]))
  go_ret
  refine ⟨rfl, R1.out.drawn B2.block, ?_⟩
  have t1 : Turn F w ((w.drewN k1).setCell ⟨b, 5, none⟩ (.int .i64 (wrap64 (S.hints + 1)))) := ⟨rfl, rfl, rfl, by rw [World.size_setCell]; exact Nat.le_refl _, fun k hk hf => heap_setCell_other _ _ _ _ (fun e => hf (by rw [e]; exact H.out.fb))⟩
  exact t1.trans (Turn.of_below (F := F) B2) (fun _ _ q => q)

theorem max_is (n : Nat) (k : Int) (hk : 1 ≤ k) (hk8 : k ≤ 8) (hn : (n : Int) ≤ k) : (if 0 < IntKind.i64.wrap ((n : Int) + 1 - k) then IntKind.i64.wrap ((n : Int) + 1 - k) else 0) = ((n + 1 - k.toNat : Nat) : Int) := by
  rw [show IntKind.i64.wrap ((n : Int) + 1 - k) = (n : Int) + 1 - k by rw [IntKind.wrap_i64]; omega]
  split <;> omega

def RS.moved1 (S : RS) : RS := { S with moved := wrap64 (S.moved + 1) }

set_option pp.deepTerms true in
set_option maxRecDepth 100000 in
set_option maxHeartbeats 2000000 in
theorem hint_yes (h : Rep w F b n S m1 m2 T) (s v : Int) (hs : (Lit.int .i64 s).wf = true) (c : S.is s v = true) (cv : S.where_ s ≠ v) (hn : n < 4611686018427387904) :
    Calls Try.prog 13 #[.pointer (some ⟨b, 0, none⟩), .int .i64 s, .int .i64 v] w fun e w' => e = .returned (.bool true) ∧ (∃ T', Rep w' (Fw F w) b (n + 1) (S.hint s v) m1 m2 T') ∧ Turn F w w' := by
  have H := Lib.hid h
  have c5 : w.cell? ⟨b, 5, none⟩ = some (.int .i64 S.hints) := (cells_at h.blk 5).trans rfl
  have f5 : w.frozen? ⟨b, 5, none⟩ = false := cells_frozen h.blk 5
  have cvv : (S.hints1.where_ s == v) = false := by show (S.where_ s == v) = false; simpa using cv
  obtain ⟨was, hwas⟩ : ∃ was, S.hints1.where_ s = was := ⟨_, rfl⟩
  rw [hwas] at cvv
  obtain ⟨tv, htv⟩ : ∃ tv, (T s).getD nilS = tv := ⟨_, rfl⟩
  have HT := Lib.hid htv
  clear htv
  have HW := Lib.hid hwas
  clear h hwas
  go_enter Try.func13, Try.ntmps13
  go_wp2_with (first | (go_at_call 23; refine (is_calls H.out s v).mono ?_; rintro e w1 ⟨rfl, k1, rfl⟩; rw [c]) | (go_at_call 14; have R1 := Lib.hid ((H.out.drawn (w' := w.drewN k1) (fun _ _ => rfl)).setc 5 (.int .i64 (wrap64 (S.hints + 1))) S.hints1 rfl rfl rfl rfl rfl); refine (where_calls R1.out s hs).mono ?_; rintro e w2 ⟨rfl, B2⟩; rw [HW.out]; have R2 := Lib.hid (R1.out.drawn B2.block); have c6 : w2.cell? ⟨b, 6, none⟩ = some (.int .i64 S.moved) := (cells_at R2.out.blk 6).trans rfl; have f6 : w2.frozen? ⟨b, 6, none⟩ = false := cells_frozen R2.out.blk 6; have c3 : w2.cell? ⟨b, 3, none⟩ = some (.map (some m2)) := (cells_at R2.out.blk 3).trans rfl) | (at_lookup; refine MV.look rfl _ _ 57 rfl 22 Try.underlying3 Try.underlying57 (zeroSl _) m2 n _ rfl (R2.out.vm2.kept (heap_setCell_other _ _ _ _ R2.out.ne2)) s rfl hs tv HT.out ?_) | (at_builtin; go_loud (have R4 := Lib.hid ((R2.out.setc 6 (.int .i64 (wrap64 (S.moved + 1))) S.hints1.moved1 rfl rfl rfl rfl rfl).drawn (w' := (w2.setCell ⟨b, 6, none⟩ (.int .i64 (wrap64 (S.moved + 1)))).alloc (.cells #[.int .i64 was] 3 (0, 0))) (MapKept.heap_alloc _ _).2); refine sl_append rfl rfl _ _ rfl tv (S.tr s) rfl (by have q := R4.out.row s; rw [HT.out] at q; exact q) (by have := H.out.short s; have := H.out.s1; omega) _ was rfl (by have q := cells_at (MapKept.heap_alloc (w2.setCell ⟨b, 6, none⟩ (.int .i64 (wrap64 (S.moved + 1)))) (.cells #[.int .i64 was] 3 (0, 0))).1 0; rw [World.size_setCell] at q; exact q) ?_; intro g5 c5' o5 w5 hr5 hc5 hown5 ht5)))
  have R4' := R4.out
  have lt4 : w.heap.size ≤ ((w2.setCell ⟨b, 6, none⟩ (.int .i64 (wrap64 (S.moved + 1)))).alloc (.cells #[.int .i64 was] 3 (0, 0))).heap.size := by
    have := B2.size
    rw [World.size_setCell] at this
    show _ ≤ ((w2.setCell _ _).heap.push _).size
    rw [Array.size_push, World.size_setCell]
    exact Nat.le_succ_of_le this
  generalize hw4 : (w2.setCell ⟨b, 6, none⟩ (.int .i64 (wrap64 (S.moved + 1)))).alloc (.cells #[.int .i64 was] 3 (0, 0)) = w4 at hr5 hown5 ht5 R4' lt4
  have W4 := Lib.hid hw4
  clear R4 hw4
  have R4 := Lib.hid R4'
  have own4 : ∀ g, tv.ownBlock = some g → g ≠ b ∧ g ≠ m1 ∧ g ≠ m2 ∧ F g ∧ g < w4.heap.size := fun g hg => R4'.rowne s g (by rw [HT.out]; exact hg)
  have hb5 : w5.heap[b]? = some (.cells (S.hints1.moved1.cells m1 m2) 59 (0, 0)) := (ht5.block b (Array.getElem?_eq_some_iff.1 R4'.blk).1 (fun e => (own4 b e).1 rfl)).trans R4'.blk
  have c30 : w5.cell? ⟨b, 3, none⟩ = some (.map (some m2)) := (cells_at hb5 3).trans rfl
  have c00 : w5.cell? ⟨b, 0, none⟩ = some (.int .i64 S.servers) := (cells_at hb5 0).trans rfl
  have c20 : w5.cell? ⟨b, 2, none⟩ = some (.map (some m1)) := (cells_at hb5 2).trans rfl
  have v25 := Lib.hid (R4'.vm2.kept (ht5.block m2 R4'.vm2.lt (fun e => (own4 m2 e).2.2.1 rfl)))
  have v15 := Lib.hid (R4'.vm1.kept (ht5.block m1 R4'.vm1.lt (fun e => (own4 m1 e).2.1 rfl)))
  have HB5 := Lib.hid hb5
  have OWN4 := Lib.hid own4
  have LT4 := Lib.hid lt4
  have HR5 := Lib.hid hr5
  have HC5 := Lib.hid hc5
  have HO5 := Lib.hid hown5
  have HT5 := Lib.hid ht5
  have q1 := H.out.short s
  have q2 := H.out.s0
  have q3 := H.out.s1
  have hmax := max_is (S.tr s).length S.servers q2 q3 q1
  have hcut := cut_from g5 o5 ((S.tr s).length + 1) c5' (((S.tr s).length + 1 - S.servers.toNat : Nat) : Int) (by omega) (by omega) (by omega)
  rw [Int.toNat_natCast] at hcut
  clear R4' lt4 own4 hb5 hr5 hc5 hown5 ht5 q1 q2 q3 c3 c6 f6 c5 f5
  refine wp_region_still_tail 15 (by kernel_rfl) (by kernel_rfl) ?_
  simp only [List.take_succ_cons, List.take_zero, List.drop_succ_cons, List.drop_zero]
  change wpStill _ _ w5.drew _ _ _
  repeat still_step
  refine wpStill_nil ?_
  change wpList _ _ _ _ _ w5.drew
  have lb5 : b < w5.heap.size := (Array.getElem?_eq_some_iff.1 HB5.out).1
  obtain ⟨nv, hnv⟩ : ∃ nv, Value.slice (some ⟨g5, o5 + ((S.tr s).length + 1 - S.servers.toNat), none⟩) ((S.tr s).length + 1 - ((S.tr s).length + 1 - S.servers.toNat)) (c5' - ((S.tr s).length + 1 - S.servers.toNat)) = nv := ⟨_, rfl⟩
  rw [hnv]
  have NV := Lib.hid hnv
  clear hnv hcut hmax
  go_wp2_with (first | (at_mapUpdate; refine MV.store rfl _ _ _ 57 rfl 22 Try.underlying3 Try.underlying57 m2 n _ rfl (v25.out.kept rfl) (by unfold maxLen; omega) s nv rfl rfl hs ?_; intro w6 hv6 hg6 hz6; have hb6 : w6.heap[b]? = some (.cells (S.hints1.moved1.cells m1 m2) 59 (0, 0)) := (hg6.block b lb5 (fun e => R4.out.ne2 (by injection e with e; exact e.symm))).trans HB5.out; have c26 : w6.cell? ⟨b, 2, none⟩ = some (.map (some m1)) := (cells_at hb6 2).trans rfl) | (at_mapUpdate; refine MV.store rfl _ _ _ 56 rfl 3 Try.underlying3 Try.underlying56 m1 n _ rfl (v15.out.kept (hg6.block m1 v15.out.lt (fun e => R4.out.ne (by injection e)))) (by unfold maxLen; omega) s (.int .i64 v) rfl rfl hs ?_; intro w7 hv7 hg7 hz7))
  go_ret
  have s5 := HT5.out.size
  have hz6' : w6.heap.size = w5.heap.size := hz6
  have old6 : ∀ g, g ≠ m2 → g < w5.heap.size → w6.heap[g]? = w5.heap[g]? := fun g q1 q2 => hg6.block g q2 (fun e => q1 (by injection e))
  have old7 : ∀ g, g ≠ m1 → g < w5.heap.size → w7.heap[g]? = w6.heap[g]? := fun g q1 q2 => hg7.block g (by omega) (fun e => q1 (by injection e))
  have lF : ∀ k, Fw F w4 k → Fw F w k := fun k q => q.elim .inl (fun q => .inr (Nat.le_trans LT4.out q))
  obtain ⟨i0, i1, i2, i3⟩ := is_of c
  have q1 := H.out.short s
  have q2 := H.out.s0
  have q3 := H.out.s1
  have hwas : S.where_ s = was := HW.out
  have g5cells : ∃ cur, w5.heap[g5]? = some (.cells cur 3 (0, 0)) := by
    rcases HR5.out with ⟨e, _⟩ | ⟨g', o', c', cur, e, _, hb, _⟩
    · simp [nilS] at e
    · injection e with e1 e2 e3
      injection e1 with e1
      injection e1 with e1 e4
      subst e1
      exact ⟨cur, hb⟩
  obtain ⟨cur5, hc5⟩ := g5cells
  have n2 : g5 ≠ m2 := fun e => by obtain ⟨es, cl, q⟩ := v25.out.is_map; rw [e] at hc5; rw [q] at hc5; simp at hc5
  have n1 : g5 ≠ m1 := fun e => by obtain ⟨es, cl, q⟩ := v15.out.is_map; rw [e] at hc5; rw [q] at hc5; simp at hc5
  have l5 : g5 < w5.heap.size := (Array.getElem?_eq_some_iff.1 hc5).1
  have hcut := SlRow.cut (w := w5) (F := Fw F w4) (g := g5) (off := o5) (c := c5') (xs := S.tr s ++ [was]) (by simpa using HR5.out) ((S.tr s).length + 1 - S.servers.toNat) (by simp)
  have el : (S.tr s ++ [was]).length = (S.tr s).length + 1 := by simp
  rw [el, NV.out] at hcut
  have nown : nv.ownBlock = some g5 := by rw [← NV.out]; rfl
  refine ⟨rfl, ⟨upd T s (some nv), ?_⟩, ?_⟩
  · refine R4.out.turned (S' := S.hint s v) s (fun _ q => .inl q) ((old7 b (fun e => R4.out.ne1 e.symm) lb5).trans hb6) ?_ (hv6.kept (old7 m2 (fun e => R4.out.ne e.symm) (by have := R4.out.vm2.lt; omega))) rfl rfl (fun k q => by unfold upd; rw [if_neg q]) (fun k q => by show (if k = s then _ else S.tr k) = S.tr k; rw [if_neg q]) (fun k x hx => ?_) (fun k g q hg => ?_) ?_ ?_ (fun g hg => ?_)
    · have e : (fun k => ((S.hint s v).wh k).map (Value.int .i64)) = upd (fun k => (S.hints1.moved1.wh k).map (Value.int .i64)) s (some (.int .i64 v)) := by
        funext k
        show (if k = s then some v else S.wh k).map (Value.int .i64) = if k = s then some (.int .i64 v) else (S.wh k).map (Value.int .i64)
        split <;> rfl
      rw [e]; exact hv7
    · have hx' : (if k = s then some v else S.wh k) = some x := hx
      split at hx'
      · injection hx' with hx'; subst hx'; exact ⟨i2, i3⟩
      · exact H.out.whwf k x hx'
    · have r := R4.out.rowne k g hg
      have na : tv.ownBlock ≠ some g := fun e => R4.out.apart k s q g hg (by rw [HT.out]; exact e)
      exact ((old7 g r.2.1 (by omega)).trans (old6 g r.2.2.1 (by omega))).trans (HT5.out.block g r.2.2.2.2 na)
    · have etr : (S.hint s v).tr s = (S.tr s ++ [was]).drop ((S.tr s).length + 1 - S.servers.toNat) := by unfold RS.hint; simp [hwas]
      have eT : (upd T s (some nv) s).getD nilS = nv := by unfold upd; simp
      rw [etr, eT]
      exact hcut.kept lF (fun g hg => by rw [nown] at hg; injection hg with hg; subst hg; exact (old7 g5 n1 l5).trans (old6 g5 n2 l5))
    · have etr : (S.hint s v).tr s = (S.tr s ++ [was]).drop ((S.tr s).length + 1 - S.servers.toNat) := by unfold RS.hint; simp [hwas]
      rw [etr]; simp
      show _ ≤ S.servers
      omega
    · have eT : (upd T s (some nv) s).getD nilS = nv := by unfold upd; simp
      rw [eT, nown] at hg
      injection hg with hg
      subst hg
      rw [HT.out]
      exact HO5.out
  · have b0 := H.out.fb
    have sz : w.heap.size ≤ w2.heap.size := by have := B2.size; rwa [World.size_setCell] at this
    have t4 : Turn F w w4 := by
      have t1 : Turn F w ((w.drewN k1).setCell ⟨b, 5, none⟩ (.int .i64 (wrap64 (S.hints + 1)))) := ⟨rfl, rfl, rfl, by rw [World.size_setCell]; exact Nat.le_refl _, fun k hk hf => heap_setCell_other _ _ _ _ (fun e => hf (by rw [e]; exact b0))⟩
      have t2 := t1.trans (Turn.of_below (F := F) B2) (fun _ _ q => q)
      have t3 : Turn F w2 (w2.setCell ⟨b, 6, none⟩ (.int .i64 (wrap64 (S.moved + 1)))) := ⟨rfl, rfl, rfl, by rw [World.size_setCell]; exact Nat.le_refl _, fun k hk hf => heap_setCell_other _ _ _ _ (fun e => hf (by rw [e]; exact b0))⟩
      have t3' := t2.trans t3 (fun _ _ q => q)
      have ta : Turn F (w2.setCell ⟨b, 6, none⟩ (.int .i64 (wrap64 (S.moved + 1)))) w4 := by
        rw [← W4.out]
        exact Turn.of_none (World.grownBy_alloc _ _ _)
      exact t3'.trans ta (fun _ _ q => q)
    have t5 := t4.trans HT5.out (fun k _ q => (OWN4.out k q).2.2.2.1)
    have t6 : Turn F w5 w6 := ⟨hg6.os.trans rfl, hg6.tape.trans rfl, hg6.output.trans rfl, by omega, fun k hk hf => old6 k (fun e => hf (by rw [e]; exact H.out.f2)) hk⟩
    have t7 : Turn F w6 w7 := Turn.of_grown hg7 H.out.f1
    exact (t5.trans t6 (fun _ _ q => q)).trans t7 (fun _ _ q => q)

/-! ### Trail -/
theorem SlRow.form {v : Value} {xs : List Int} (h : SlRow w F v xs) : (v = nilS ∧ xs = []) ∨ ∃ ad c, v = .slice (some ad) xs.length c ∧ Kd.C (Kd.int .i64) w (some ad) xs.length xs ∧ xs.length ≤ c := by
  rcases h with h | ⟨g, o, c, cur, rfl, hF, hb, h1, h2, h3, h4⟩
  · exact .inl h
  · refine .inr ⟨⟨g, o, none⟩, c, rfl, Kd.C_of_reads (d := (0 : Int)) (h1 := fun _ => rfl) ⟨rfl, by unfold maxLen at *; omega, fun hne => ⟨⟨g, o, none⟩, rfl, fun j hj => ?_⟩⟩, h1⟩
    rw [Addr.add_lit, cells_at hb, h4 j hj]

set_option maxRecDepth 100000 in
set_option maxHeartbeats 1000000 in
theorem clone_nil (w : World) : Calls Try.prog 25 #[nilS] w fun e w' => e = .returned nilS ∧ Drawn0 w w' := by
  unfold nilS
  have he : ∀ w : World, (binOp .eql 22 (.slice none 0 0) (.slice none 0 0)).run Try.prog w = .ok (.bool true) w := fun _ => rfl
  go_enter Try.func25, Try.ntmps25
  go_wp2
  go_ret
  exact ⟨rfl, by repeat (first | exact Drawn0.refl _ | apply Drawn0.step)⟩

set_option maxHeartbeats 2000000 in
set_option maxRecDepth 100000 in
theorem clone_some (ad : Addr) (c : Nat) (xs : List Int) (h : Kd.C (Kd.int .i64) w (some ad) xs.length xs) (hl : xs.length ≤ 1000000) :
    Calls Try.prog 25 #[.slice (some ad) xs.length c] w fun e w' => ∃ A' c', e = .returned (.slice A' xs.length c') ∧ Kd.R (Kd.int .i64) 3 w' w.heap.size (fun _ => True) (.slice A' xs.length c') xs ∧ Below w.heap.size w w' := by
  have HX := Lib.hid h
  clear h
  have he : ∀ w : World, (binOp .eql 22 (.slice (some ad) xs.length c) (.slice none 0 0)).run Try.prog w = .ok (.bool false) w := fun _ => rfl
  go_enter Try.func25, Try.ntmps25
  go_wp2_with (first | ((with_reducible refine gate_dst (N := 5) rfl ?_); refine Kd.R_lit (Kd.int .i64) _ 3 ?hg (N := 5) ?hd (xs := ([] : List Int)) (inner := []) (ok := fun _ => True) (okp := fun _ => True) ?hr ?hp (fun _ hk => hk) trivial (Below.refl _ _) (Nat.le_refl _) (by simp) ?_; (case hd => rfl); (case hg => rfl); (case hr => first | (go_simp; done) | (go_simp; rfl)); (case hp => exact (Reps.none _ _)); intro v5 w5' ho5 hb5 hg5 hnew5; have HO5 := Lib.hid ho5; have HB5 := Lib.hid hb5; have Hb5 := Lib.hid hb5; clear ho5 hb5 hg5 hnew5) | ((with_reducible refine gate_builtin (b := .append) (xs := #[.tmp 5, .tmp 6]) rfl ?_); at_builtin; refine Kd.R_append_rows (Kd.int .i64) (w0 := w) w.heap.size rfl (.tmp 5) (.tmp 6) 22 3 (.int .i64 0) 8 rfl Try.underlying22 infoI rfl (by decide) (by omega) v5 ([] : List Int) xs _ _ _ (fun _ => True) (fun _ => False) rfl rfl ?aO ?aR (fun _ _ h => h) (fun _ h => h.elim) ?aF ?aB ?aS ?aL ?_; (case aO => exact HO5.out); (case aR => exact Kd.C_below HX.out Hb5.out); (case aF => exact (fun _ _ => trivial)); (case aB => exact HB5.out); (case aS => exact below_size HB5.out); (case aL => simp; omega); intro v6 w6 ho6 hb6 hg6 hat6))
  go_ret
  obtain ⟨A6, c6, e6⟩ := Kd.R_slice ho6
  subst e6
  exact ⟨A6, c6, rfl, ho6, hb6⟩

theorem clone_calls {v : Value} {xs : List Int} (h : SlRow w F v xs) (hl : xs.length ≤ 1000000) :
    Calls Try.prog 25 #[v] w fun e w' => ∃ A' c', e = .returned (.slice A' xs.length c') ∧ Kd.R (Kd.int .i64) 3 w' w.heap.size (fun _ => True) (.slice A' xs.length c') xs ∧ Below w.heap.size w w' := by
  rcases h.form with ⟨rfl, rfl⟩ | ⟨ad, c, rfl, hC, hc⟩
  · refine (clone_nil w).mono ?_
    rintro e w' ⟨rfl, hd⟩
    exact ⟨none, 0, rfl, JP.R_of_own (by simpa using World.ownsRow_nil w' w.heap.size 3 1), hd.below⟩
  · exact clone_some ad c xs hC hl

set_option maxRecDepth 100000 in
set_option maxHeartbeats 1000000 in
theorem trail_calls (h : Rep w F b n S m1 m2 T) (s : Int) (hs : (Lit.int .i64 s).wf = true) :
    Calls Try.prog 16 #[.pointer (some ⟨b, 0, none⟩), .int .i64 s] w fun e w' => ∃ A' c', e = .returned (.slice A' (S.tr s).length c') ∧ Kd.R (Kd.int .i64) 3 w' w.heap.size (fun _ => True) (.slice A' (S.tr s).length c') (S.tr s) ∧ Below w.heap.size w w' := by
  have H := Lib.hid h
  have c3 : w.cell? ⟨b, 3, none⟩ = some (.map (some m2)) := (cells_at h.blk 3).trans rfl
  obtain ⟨tv, htv⟩ : ∃ tv, (T s).getD nilS = tv := ⟨_, rfl⟩
  have HT := Lib.hid htv
  have HR := Lib.hid (h.row s)
  have hl : (S.tr s).length ≤ 1000000 := by have := h.short s; have := h.s1; omega
  clear h htv
  go_enter Try.func16, Try.ntmps16
  go_wp2_with (first | (at_lookup; refine MV.look rfl _ _ 57 rfl 22 Try.underlying3 Try.underlying57 (zeroSl _) m2 n _ rfl (H.out.vm2.kept rfl) s rfl hs tv HT.out ?_) | (go_at_call 25; refine (clone_calls (F := F) (by have q := HR.out; rw [HT.out] at q; exact q.kept (fun _ z => z) (fun _ _ => rfl)) hl).mono ?_; rintro e w1 ⟨A', c', rfl, R1, B1⟩))
  go_ret
  exact ⟨A', c', rfl, R1, by first | exact B1 | exact below_step (Drawn0.below ⟨_, rfl⟩) B1⟩

/-! ### Shard -/
theorem jshard_c {A : Option Addr} {c : Nat} {xs : List Int} {bk : Int} (h : Kd.C (Kd.int .u8) w A xs.length xs) (hc : xs.length ≤ c) (hl : xs.length ≤ 9223372036854775807) (b0 : -9223372036854775808 ≤ bk) (b1 : bk ≤ 9223372036854775807) :
    Calls Try.prog 26 #[.slice A xs.length c, .int .i64 bk] w fun e w' => e = .returned (.int .i64 (jumpV (fnvV [xs]) bk)) ∧ Below w.heap.size w w' := by
  obtain ⟨K, hK⟩ := Shard_ev xs bk (by omega) b0 b1
  exact jump_Shard.calls K A c xs bk _ w h hc (hK K (Nat.le_refl _))

set_option maxHeartbeats 1000000 in
theorem shard_calls (h : Rep w F b n S m1 m2 T) (A : Option Addr) (c : Nat) (xs : List Int) (hx : Kd.C (Kd.int .u8) w A xs.length xs) (hc : xs.length ≤ c) (hl : xs.length ≤ 9223372036854775807) :
    Calls Try.prog 17 #[.pointer (some ⟨b, 0, none⟩), .slice A xs.length c] w fun e w' => e = .returned (.int .i64 (jumpV (fnvV [xs]) S.shards)) ∧ Below w.heap.size w w' := by
  have c1 : w.cell? ⟨b, 1, none⟩ = some (.int .i64 S.shards) := (cells_at h.blk 1).trans rfl
  have v0 : -9223372036854775808 ≤ S.shards := by have := h.h0; omega
  have v1 : S.shards ≤ 9223372036854775807 := by have := h.h1; omega
  have HX := Lib.hid hx
  clear h hx
  go_enter Try.func17, Try.ntmps17
  go_wp2_with (go_at_call 26; refine (jshard_c HX.out hc hl v0 v1).mono ?_; rintro e w1 ⟨rfl, B1⟩)
  go_ret
  exact ⟨rfl, by first | exact B1 | exact below_step (Drawn0.below ⟨_, rfl⟩) B1⟩

end Go.Proofs.Ytohljkjaggcapaa.RT
