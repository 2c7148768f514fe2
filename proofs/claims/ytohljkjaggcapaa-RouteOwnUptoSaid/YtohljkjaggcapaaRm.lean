import Derived.Test.YtohljkjaggcapaaRl
namespace Go.Proofs.Ytohljkjaggcapaa.RT
open Go.RowKit Go.Proofs.YtohljkjaggcapaaW.PrintWords Go.Proofs.YtohljkjaggcapaaW.PrintLast Go.Proofs.Ytohljkjaggcapaa.PJ Go.Proofs.Ytohljkjaggcapaa.JF Go.Proofs.Ytohljkjaggcapaa.JQ Go.Proofs.Ytohljkjaggcapaa.MV
set_option linter.unusedVariables false
set_option linter.unusedSimpArgs false
variable {w : World} {F : Nat → Prop} {b n : Nat} {S : RS} {m1 m2 : Nat} {T : Int → Option Value}

/-! ### exact footprints -/
theorem Rep.tight (h : Rep w F b n S m1 m2 T) : Rep w (fun k => F k ∧ k < w.heap.size ∧ ∃ o, w.heap[k]? = some o ∧ (k = b ∨ k = m1 ∨ k = m2 ∨ ∃ j, ((T j).getD nilS).ownBlock = some k)) b n S m1 m2 T := by
  have lb : b < w.heap.size := (Array.getElem?_eq_some_iff.1 h.blk).1
  obtain ⟨e1, c1, q1⟩ := h.vm1.is_map
  obtain ⟨e2, c2, q2⟩ := h.vm2.is_map
  refine ⟨h.blk, ⟨h.fb, lb, _, h.blk, .inl rfl⟩, ⟨h.f1, h.vm1.lt, _, q1, .inr (.inl rfl)⟩, ⟨h.f2, h.vm2.lt, _, q2, .inr (.inr (.inl rfl))⟩, h.ne, h.vm1, h.vm2, fun k => ?_, h.apart, h.s0, h.s1, h.h0, h.h1, h.short, h.whwf⟩
  rcases h.row k with e | ⟨g, o, c, cur, e, hF, hb, r⟩
  · exact .inl e
  · exact .inr ⟨g, o, c, cur, e, ⟨hF, (Array.getElem?_eq_some_iff.1 hb).1, _, hb, .inr (.inr (.inr ⟨k, by rw [e]; rfl⟩))⟩, hb, r⟩

/-- The footprint as a walk carries it. -/
structure Ro (w : World) (B : Nat) (N : Nat → Prop) (b n : Nat) (S : RS) : Prop where
  ex : ∃ F m1 m2 T, Rep w F b n S m1 m2 T ∧ ∀ k, F k → B ≤ k ∧ k < w.heap.size ∧ ¬ N k

theorem new_ro (a c : Int) (a0 : 1 ≤ a) (a1 : a ≤ 8) (c0 : 1 ≤ c) (c1 : c ≤ 64) (w : World) (B : Nat) (N : Nat → Prop) (hB : B ≤ w.heap.size) (hN : ∀ k, N k → k < w.heap.size) :
    Calls Try.prog 10 #[.int .i64 a, .int .i64 c] w fun e w' => ∃ b, e = .returned (.tuple #[.pointer (some ⟨b, 0, none⟩), .int .i64 0]) ∧ Ro w' B N b 0 (RS.new a c) ∧ Below w.heap.size w w' := by
  refine (new_good a c a0 a1 c0 c1 w).mono ?_
  rintro e w' ⟨b, m1, m2, rfl, R, hb⟩
  exact ⟨b, rfl, ⟨_, m1, m2, _, R.tight, fun k hk => ⟨by have : w.heap.size ≤ k := hk.1; omega, hk.2.1, fun q => by have := hN k q; have : w.heap.size ≤ k := hk.1; omega⟩⟩, hb⟩

/-- Whatever is done elsewhere. -/
theorem Ro.step {w' : World} {B : Nat} {N : Nat → Prop} (h : Ro w B N b n S) (hs : w.heap.size ≤ w'.heap.size) (hd : ∀ k, k < w.heap.size → ¬ N k → w'.heap[k]? = w.heap[k]?) : Ro w' B N b n S := by
  obtain ⟨F, m1, m2, T, R, hF⟩ := h.ex
  have lt : ∀ {g : Nat} {o : Obj}, w.heap[g]? = some o → g < w.heap.size := fun e => (Array.getElem?_eq_some_iff.1 e).1
  have keep : ∀ k, F k → w'.heap[k]? = w.heap[k]? := fun k hk => hd k (hF k hk).2.1 (hF k hk).2.2
  refine ⟨F, m1, m2, T, ⟨(keep _ R.fb).trans R.blk, R.fb, R.f1, R.f2, R.ne, R.vm1.kept (keep _ R.f1), R.vm2.kept (keep _ R.f2), fun k => (R.row k).kept (fun _ q => q) (fun g hg => keep g (R.rowne k g hg).2.2.2.1), R.apart, R.s0, R.s1, R.h0, R.h1, R.short, R.whwf⟩, fun k hk => ⟨(hF k hk).1, by have := (hF k hk).2.1; omega, (hF k hk).2.2⟩⟩
theorem Ro.names {B : Nat} {N N' : Nat → Prop} (h : Ro w B N b n S) (hN : ∀ k, N' k → N k ∨ w.heap.size ≤ k) : Ro w B N' b n S := by
  obtain ⟨F, m1, m2, T, R, hF⟩ := h.ex
  exact ⟨F, m1, m2, T, R, fun k hk => ⟨(hF k hk).1, (hF k hk).2.1, fun q => (hN k q).elim (hF k hk).2.2 (fun q => by have := (hF k hk).2.1; omega)⟩⟩

/-- What the names hold has not turned; nothing below B has. -/
structure Wk (B : Nat) (N : Nat → Prop) (w w' : World) : Prop where
  low : Below B w w'
  kept : ∀ k, k < w.heap.size → N k → w'.heap[k]? = w.heap[k]?

theorem Ro.work {B : Nat} {N : Nat → Prop} {w' : World} (hF : ∀ k, F k → B ≤ k ∧ k < w.heap.size ∧ ¬ N k) (hB : B ≤ w.heap.size) (t : Turn F w w') : Wk B N w w' :=
  ⟨t.below (fun k hk => (hF k hk).1) hB, fun k hk hN => t.block k hk (fun f => (hF k f).2.2 hN)⟩

theorem fine_ro {B : Nat} {N : Nat → Prop} (h : Ro w B N b n S) (hB : B ≤ w.heap.size) (s v : Int) (hs : (Lit.int .i64 s).wf = true) (c : S.is s v = true) (hn : n < 4611686018427387904) :
    Calls Try.prog 12 #[.pointer (some ⟨b, 0, none⟩), .int .i64 s, .int .i64 v] w fun e w' => e = .returned (.bool true) ∧ Ro w' B N b (n + 1) (S.fine s v) ∧ Wk B N w w' := by
  obtain ⟨F, m1, m2, T, R, hF⟩ := h.ex
  refine (fine_yes R s v hs c hn).mono ?_
  rintro e w' ⟨rfl, R', t⟩
  exact ⟨rfl, ⟨F, m1, m2, _, R', fun k hk => ⟨(hF k hk).1, by have := (hF k hk).2.1; have := t.size; omega, (hF k hk).2.2⟩⟩, Ro.work hF hB t⟩
theorem hint_ro_yes {B : Nat} {N : Nat → Prop} (h : Ro w B N b n S) (hB : B ≤ w.heap.size) (hN : ∀ k, N k → k < w.heap.size) (s v : Int) (hs : (Lit.int .i64 s).wf = true) (c : S.is s v = true) (cv : S.where_ s ≠ v) (hn : n < 4611686018427387904) :
    Calls Try.prog 13 #[.pointer (some ⟨b, 0, none⟩), .int .i64 s, .int .i64 v] w fun e w' => e = .returned (.bool true) ∧ Ro w' B N b (n + 1) (S.hint s v) ∧ Wk B N w w' := by
  obtain ⟨F, m1, m2, T, R, hF⟩ := h.ex
  refine (hint_yes R s v hs c cv hn).mono ?_
  rintro e w' ⟨rfl, ⟨T', R'⟩, t⟩
  refine ⟨rfl, ⟨_, m1, m2, _, R'.tight, fun k hk => ?_⟩, Ro.work hF hB t⟩
  obtain ⟨q, hk2, _⟩ := hk
  rcases q with q | q
  · exact ⟨(hF k q).1, hk2, (hF k q).2.2⟩
  · exact ⟨by omega, hk2, fun z => by have := hN k z; omega⟩
theorem hint_ro_same {B : Nat} {N : Nat → Prop} (h : Ro w B N b n S) (hB : B ≤ w.heap.size) (s v : Int) (hs : (Lit.int .i64 s).wf = true) (c : S.is s v = true) (cv : S.where_ s = v) :
    Calls Try.prog 13 #[.pointer (some ⟨b, 0, none⟩), .int .i64 s, .int .i64 v] w fun e w' => e = .returned (.bool false) ∧ Ro w' B N b n S.hints1 ∧ Wk B N w w' := by
  obtain ⟨F, m1, m2, T, R, hF⟩ := h.ex
  refine (hint_same R s v hs c cv).mono ?_
  rintro e w' ⟨rfl, R', t⟩
  exact ⟨rfl, ⟨F, m1, m2, _, R', fun k hk => ⟨(hF k hk).1, by have := (hF k hk).2.1; have := t.size; omega, (hF k hk).2.2⟩⟩, Ro.work hF hB t⟩
theorem where_ro {B : Nat} {N : Nat → Prop} (h : Ro w B N b n S) (s : Int) (hs : (Lit.int .i64 s).wf = true) :
    Calls Try.prog 14 #[.pointer (some ⟨b, 0, none⟩), .int .i64 s] w fun e w' => e = .returned (.int .i64 (S.where_ s)) ∧ Below w.heap.size w w' := by
  obtain ⟨F, m1, m2, T, R, hF⟩ := h.ex
  exact where_calls R s hs
theorem trail_ro {B : Nat} {N : Nat → Prop} (h : Ro w B N b n S) (s : Int) (hs : (Lit.int .i64 s).wf = true) :
    Calls Try.prog 16 #[.pointer (some ⟨b, 0, none⟩), .int .i64 s] w fun e w' => ∃ A' c', e = .returned (.slice A' (S.tr s).length c') ∧ Kd.R (Kd.int .i64) 3 w' w.heap.size (fun _ => True) (.slice A' (S.tr s).length c') (S.tr s) ∧ Below w.heap.size w w' := by
  obtain ⟨F, m1, m2, T, R, hF⟩ := h.ex
  exact trail_calls R s hs
theorem shard_ro {B : Nat} {N : Nat → Prop} (h : Ro w B N b n S) (A : Option Addr) (c : Nat) (xs : List Int) (hx : Kd.C (Kd.int .u8) w A xs.length xs) (hc : xs.length ≤ c) (hl : xs.length ≤ 9223372036854775807) :
    Calls Try.prog 17 #[.pointer (some ⟨b, 0, none⟩), .slice A xs.length c] w fun e w' => e = .returned (.int .i64 (jumpV (fnvV [xs]) S.shards)) ∧ Below w.heap.size w w' := by
  obtain ⟨F, m1, m2, T, R, hF⟩ := h.ex
  exact shard_calls R A c xs hx hc hl
theorem Ro.bounds {B : Nat} {N : Nat → Prop} (h : Ro w B N b n S) : 1 ≤ S.servers ∧ S.servers ≤ 8 ∧ 1 ≤ S.shards ∧ S.shards ≤ 64 := by
  obtain ⟨F, m1, m2, T, R, hF⟩ := h.ex
  exact ⟨R.s0, R.s1, R.h0, R.h1⟩

end Go.Proofs.Ytohljkjaggcapaa.RT
