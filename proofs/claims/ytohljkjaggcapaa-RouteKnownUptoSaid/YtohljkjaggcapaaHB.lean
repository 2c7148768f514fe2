/- A route in the walks' own form; the plain functions that the program's functions compute; the rows' arguments opened. -/
import Derived.Test.YtohljkjaggcapaaRm
import Derived.Test.YtohljkjaggcapaaRz
import Derived.Test.YtohljkjaggcapaaHA
import Derived.KernelRfl
/-! A route in the walks' own form: a pointer of a colour, told by the plain route. -/
namespace Go.Proofs.Ytohljkjaggcapaa.G
open Go Go.RowKit Go.Proofs.YtohljkjaggcapaaW.PrintWords Go.Proofs.YtohljkjaggcapaaW.PrintLast Go.Proofs.Ytohljkjaggcapaa.PJ Go.Proofs.Ytohljkjaggcapaa.JF Go.Proofs.Ytohljkjaggcapaa.JQ Go.Proofs.Ytohljkjaggcapaa.MV Go.Proofs.Ytohljkjaggcapaa.RT
set_option linter.unusedVariables false
set_option linter.unusedSimpArgs false
/-! ### the plain side -/
structure Rou where
  s : RS
  n : Nat
instance : Inhabited RS := ⟨⟨0, 0, 0, 0, 0, fun _ => none, fun _ => []⟩⟩
instance : Inhabited Rou := ⟨⟨default, 0⟩⟩
def route_New.f (a b : Int) : Option (Option Rou × Int) := some (if a < 1 ∨ 8 < a ∨ b < 1 ∨ 64 < b then (none, 2) else (some ⟨RS.new a b, 0⟩, 0))
def route_Route_Where.f (o : Option Rou) (s : Int) : Option Int := match o with
  | none => some (-1)
  | some r => some (r.s.where_ s)
def route_Route_Fine.f (o : Option Rou) (s v : Int) : Option (Bool × Option Rou) := match o with
  | none => some (false, none)
  | some r =>
  if r.s.is s v = true then (if r.n < 4611686018427387904 then some (true, some ⟨r.s.fine s v, r.n + 1⟩) else none) else some (false, some r)
def route_Route_Hint.f (o : Option Rou) (s v : Int) : Option (Bool × Option Rou) := match o with
  | none => some (false, none)
  | some r =>
  if r.s.is s v = true then (if r.s.where_ s = v then some (false, some ⟨r.s.hints1, r.n⟩) else if r.n < 4611686018427387904 then some (true, some ⟨r.s.hint s v, r.n + 1⟩) else none) else some (false, some r)
def route_Route_Trail.f (o : Option Rou) (s : Int) : Option (List Int) := match o with
  | none => some []
  | some r => if -9223372036854775808 ≤ s ∧ s ≤ 9223372036854775807 then some (r.s.tr s) else none
def route_Route_Shard.f (o : Option Rou) (k : List Int) : Option Int := match o with
  | none => some (-1)
  | some r => some (jumpV (fnvV [k]) r.s.shards)
def route_Route_Counts.f (o : Option Rou) : Option (Int × Int × Int) := match o with
  | none => some (0, 0, 0)
  | some r => some (r.s.good, r.s.hints, r.s.moved)
/-- the shards that are believed to be at a server -/
def atV (S : RS) (v : Int) : List Int := (List.map (fun n : Nat => (n : Int)) (List.range S.shards.toNat)).filter fun s => decide (S.where_ s = v)
def route_Route_At.f (o : Option Rou) (v : Int) : Option (List Int) := match o with
  | none => some []
  | some r => some (atV r.s v)
/-! ### between the two ways to tell memory -/
def newc (w : World) (c : Nat → Nat) (j : Nat) : Nat → Nat := fun k => if k < w.heap.size then c k else j
section
variable {M : Nat → Prop} {c c' : Nat → Nat} {w w' : World} {j m : Nat}
theorem ev_below (h : Below w.heap.size w w') (j : Nat) : Ev M c w (newc w c j) w' :=
  ⟨h.os, h.tape, h.output, h.size, fun k hk => if_pos hk, fun k hk _ => h.block k hk⟩
theorem ev_turn {F : Nat → Prop} (h : Turn F w w') (hF : ∀ k, F k → k < w.heap.size → M (c k)) (j : Nat) : Ev M c w (newc w c j) w' :=
  ⟨h.os, h.tape, h.output, h.size, fun k hk => if_pos hk, fun k hk hm => h.block k hk (fun f => hm (hF k f hk))⟩
theorem cb_newc (h : CB m c w) (hj : j < m) : CB m (newc w c j) w' := fun k _ => by
  unfold newc; split
  · exact h k (by assumption)
  · exact hj
theorem sl_of_R {e : TypeId} {base : Nat} {ok : Nat → Prop} {A : Option Addr} {cap : Nat} {xs : List Int} (h : Kd.R (Kd.int .i64) e w base ok (.slice A xs.length cap) xs) (hc : ∀ k, base ≤ k → k < w.heap.size → c k = j) : SL true (Kint .i64) j 0 c w A cap xs := by
  obtain ⟨_, cells, hown, hl, hr⟩ := h
  obtain ⟨h1, h2⟩ := hown
  rcases h2 with ⟨e1, e2⟩ | ⟨g, cap', cur, e1, hg, hb, hn, hm, hs, ht⟩
  · injection e1 with a b d
    subst a; subst d
    have : xs = [] := List.eq_nil_of_length_eq_zero b
    subst this
    exact SL.nil
  · injection e1 with a b d
    subst a; subst d
    refine ⟨cur.toList, hn, hm, by rw [Array.length_toList, hs]; rfl, .inr ⟨_, rfl, g, 0, cur, e, (0, 0), rfl, hb, hc g hg (lt_of_get hb), fun k hk => by rw [Nat.zero_add]; exact Array.getElem?_toList.symm, fun _ k hk => by omega⟩, fun n hn' => ?_⟩
    have ht : cur.toList.take (xs.length * 1) = cells := ht
    have h3 : ((cells.drop (n * 1)).take 1) = [Value.int .i64 xs[n]] := hr n xs[n] (List.getElem?_eq_getElem hn')
    rw [← ht] at h3
    show (cur.toList.drop (n * 1)).take 1 = [Value.int .i64 xs[n]]
    rw [← h3, List.drop_take, List.take_take]
    congr 1
    omega
theorem c_of_sl {q : IntKind} {own : Bool} {i : Nat} {A : Option Addr} {cap : Nat} {xs : List Int} (h : SL own (Kint q) j i c w A cap xs) : Kd.C (Kd.int q) w A xs.length xs := by
  refine Kd.C_of_reads (d := (0 : Int)) (h1 := fun _ => rfl) ⟨rfl, h.lenB, fun hne => ?_⟩
  obtain ⟨a, cs, e0, _, _⟩ := h.at 0 (by omega) (by omega)
  refine ⟨a, e0, fun k hk => ?_⟩
  obtain ⟨a', cs', e1, hat, hrep⟩ := h.at k (by omega) (by omega)
  rw [e0] at e1
  cases e1
  have hrep : cs' = [Value.int q (rd xs k)] := hrep
  subst hrep
  have := hat.cell0 (v := Value.int q (rd xs k)) rfl
  have e2 : (k : Int).toNat * (Kint q).sz = k := by show (k : Int).toNat * 1 = k; omega
  rw [e2] at this
  rw [this]
  unfold rd
  rfl
theorem sl_cap {α : Type} {e : K α} {own : Bool} {i : Nat} {A : Option Addr} {cap : Nat} {xs : List α} (h : SL own e j i c w A cap xs) : xs.length ≤ cap := by
  obtain ⟨cs, h2, _⟩ := h; exact h2
end
/-! ### a route -/
theorem _root_.Go.Proofs.Ytohljkjaggcapaa.RT.Rep.kept {w w' : World} {F : Nat → Prop} {b n : Nat} {S : RS} {m1 m2 : Nat} {T : Int → Option Value} (h : Rep w F b n S m1 m2 T) (hd : ∀ k, F k → k < w.heap.size → w'.heap[k]? = w.heap[k]?) : Rep w' F b n S m1 m2 T := by
  have lt : ∀ {g : Nat} {o : Obj}, w.heap[g]? = some o → g < w.heap.size := fun e => (Array.getElem?_eq_some_iff.1 e).1
  exact ⟨(hd _ h.fb (lt h.blk)).trans h.blk, h.fb, h.f1, h.f2, h.ne, h.vm1.kept (hd _ h.f1 h.vm1.lt), h.vm2.kept (hd _ h.f2 h.vm2.lt), fun k => (h.row k).kept (fun _ q => q) (fun g hg => hd g (h.rowne k g hg).2.2.2.1 (h.rowne k g hg).2.2.2.2), h.apart, h.s0, h.s1, h.h0, h.h1, h.short, h.whwf⟩
theorem _root_.Go.Proofs.Ytohljkjaggcapaa.RT.Rep.wide {w : World} {F F' : Nat → Prop} {b n : Nat} {S : RS} {m1 m2 : Nat} {T : Int → Option Value} (h : Rep w F b n S m1 m2 T) (hF : ∀ k, F k → k < w.heap.size → F' k) : Rep w F' b n S m1 m2 T := by
  have h := h.tight
  exact ⟨h.blk, hF _ h.fb.1 h.fb.2.1, hF _ h.f1.1 h.f1.2.1, hF _ h.f2.1 h.f2.2.1, h.ne, h.vm1, h.vm2, fun k => (h.row k).kept (fun k q => hF k q.1 q.2.1) (fun _ _ => rfl), h.apart, h.s0, h.s1, h.h0, h.h1, h.short, h.whwf⟩
def RU (j : Nat) (c : Nat → Nat) (w : World) (p : Option Addr) (o : Option Rou) : Prop := match o with
  | none => p = none
  | some r => ∃ b m1 m2 T, p = some ⟨b, 0, none⟩ ∧ Rep w (fun k => c k = j) b r.n r.s m1 m2 T ∧ ∀ k v, r.s.wh k = some v → 0 ≤ k ∧ k < r.s.shards
section
variable {M : Nat → Prop} {j j' : Nat} {c c' : Nat → Nat} {w w' : World} {p : Option Addr} {o : Option Rou}
theorem RU.nil : RU j c w none none := rfl
theorem RU.isNone (h : RU j c w p o) : p.isNone = o.isNone := by
  cases o with
  | none => have h : p = none := h; rw [h]; rfl
  | some r => obtain ⟨b, m1, m2, T, e, _⟩ := h; rw [e]; rfl
theorem RU.ev (h : RU j c w p o) (E : Ev M c w c' w') (hj : ¬ M j) (h0 : ¬ M 0) : RU j c' w' p o := by
  cases o with
  | none => exact h
  | some r =>
    obtain ⟨b, m1, m2, T, e, R, hk⟩ := h
    have R' := R.wide (F' := fun k => c k = j ∧ k < w.heap.size) (fun k q l => ⟨q, l⟩)
    refine ⟨b, m1, m2, T, e, (R'.kept (w' := w') fun k q l => E.blk k l (by rw [q.1]; exact hj)).wide fun k q _ => by rw [E.col k q.2]; exact q.1, hk⟩
theorem RU.rc (h : RU j c w p o) (hr : ∀ k, c k = j → c' k = j') (h0 : ∀ k, c k = 0 → c' k = 0) : RU j' c' w p o := by
  cases o with
  | none => exact h
  | some r =>
    obtain ⟨b, m1, m2, T, e, R, hk⟩ := h
    exact ⟨b, m1, m2, T, e, R.wide fun k q _ => hr k q, hk⟩
end
theorem fits_wf {s : Int} (h : -9223372036854775808 ≤ s ∧ s ≤ 9223372036854775807) : (Lit.int .i64 s).wf = true := by
  show (decide (-9223372036854775808 ≤ s) && decide (s ≤ 9223372036854775807)) = true
  simp [h.1, h.2]
theorem wf_of_is {S : RS} {s v : Int} (h : S.is s v = true) (h1 : S.shards ≤ 64) : (Lit.int .i64 s).wf = true := by
  obtain ⟨i0, i1, _⟩ := is_of h
  exact fits_wf (by omega)
section
variable {m : Nat} {c0 : Nat → Nat} {w0 : World} {j4 : Nat} {p2 : Option Addr} {a1 : Option Rou} {a5 a6 : Int}
theorem route_New.calls (hm0 : 0 < m) (B0 : CB m c0 w0) (jr : Nat) (bjr : jr < m) (r : Option Rou × Int) (H : route_New.f a5 a6 = some r) :
    Calls Try.prog 10 #[.int .i64 a5, .int .i64 a6] w0 (fun e w_ => ∃ (c_ : Nat → Nat) (P0_ : Option Addr), e = .returned (.tuple #[.pointer P0_, .int .i64 r.2]) ∧ Ev (fun x => False) c0 w0 c_ w_ ∧ CB m c_ w_ ∧ RU jr c_ w_ P0_ r.1) := by
  have H := Option.some.inj H
  subst H
  by_cases c : a5 < 1 ∨ 8 < a5 ∨ a6 < 1 ∨ 64 < a6
  · rw [if_pos c]
    refine (new_bad a5 a6 c w0).mono ?_
    rintro e w' ⟨rfl, hd⟩
    exact ⟨newc w0 c0 jr, none, rfl, ev_below hd.below jr, cb_newc B0 bjr, rfl⟩
  · rw [if_neg c]
    refine (new_good a5 a6 (by omega) (by omega) (by omega) (by omega) w0).mono ?_
    rintro e w' ⟨b, m1, m2, rfl, R, hb⟩
    exact ⟨newc w0 c0 jr, some ⟨b, 0, none⟩, rfl, ev_below hb jr, cb_newc B0 bjr, b, m1, m2, _, rfl, R.wide (fun k q _ => if_neg (by have q : w0.heap.size ≤ k := q; omega)), fun k v h => by cases h⟩
theorem where_any {w : World} {F : Nat → Prop} {b n : Nat} {S : RS} {m1 m2 : Nat} {T : Int → Option Value} (h : Rep w F b n S m1 m2 T) (s : Int) :
    Calls Try.prog 14 #[.pointer (some ⟨b, 0, none⟩), .int .i64 s] w fun e w' => e = .returned (.int .i64 (S.where_ s)) ∧ Below w.heap.size w w' := by
  by_cases c : S.is s 0 = true
  · exact where_calls h s (wf_of_is c h.h1)
  · have H := Lib.hid h
    unfold RS.where_
    rw [if_neg c]
    have c' : S.is s 0 = false := by simpa using c
    clear h
    go_enter Try.func14, Try.ntmps14
    go_wp2_with (go_at_call 23; refine (is_calls H.out s 0).mono ?_; rintro e w1 ⟨rfl, k1, rfl⟩; rw [c'])
    go_ret
    exact ⟨rfl, by repeat (first | exact Below.refl _ _ | apply below_drew1 | exact Drawn0.below ⟨_, rfl⟩)⟩
theorem route_Route_Where.calls (hm0 : 0 < m) (B0 : CB m c0 w0) (h3 : RU j4 c0 w0 p2 a1) (bj4 : j4 < m) (r : Int) (H : route_Route_Where.f a1 a5 = some r) :
    Calls Try.prog 14 #[.pointer p2, .int .i64 a5] w0 (fun e w_ => ∃ (c_ : Nat → Nat), e = .returned (.int .i64 r) ∧ Ev (fun x => False) c0 w0 c_ w_ ∧ CB m c_ w_) := by
  rcases a1 with _ | q
  · have h3 : p2 = none := h3
    subst h3
    have H := Option.some.inj H
    subst H
    refine (where_nil a5 w0).mono ?_
    rintro e w' ⟨rfl, hb⟩
    exact ⟨newc w0 c0 0, rfl, ev_below hb 0, cb_newc B0 hm0⟩
  dsimp only [route_Route_Where.f] at H
  have H := Option.some.inj H
  subst H
  obtain ⟨b, m1, m2, T, rfl, R, hk⟩ := h3
  refine (where_any R a5).mono ?_
  rintro e w' ⟨rfl, hb⟩
  exact ⟨newc w0 c0 0, rfl, ev_below hb 0, cb_newc B0 hm0⟩
theorem route_Route_Shard.calls {A7 : Option Addr} {C8 j9 : Nat} {k1 : List Int} (hm0 : 0 < m) (B0 : CB m c0 w0) (h3 : RU j4 c0 w0 p2 a1) (h4 : SL false (Kint .u8) j9 0 c0 w0 A7 C8 k1) (bj4 : j4 < m) (bj9 : j9 < m) (r : Int) (H : route_Route_Shard.f a1 k1 = some r) :
    Calls Try.prog 17 #[.pointer p2, .slice A7 k1.length C8] w0 (fun e w_ => ∃ (c_ : Nat → Nat), e = .returned (.int .i64 r) ∧ Ev (fun x => False) c0 w0 c_ w_ ∧ CB m c_ w_) := by
  rcases a1 with _ | q
  · have h3 : p2 = none := h3
    subst h3
    have H := Option.some.inj H
    subst H
    refine (shard_nil A7 k1.length C8 w0).mono ?_
    rintro e w' ⟨rfl, hd⟩
    exact ⟨newc w0 c0 0, rfl, ev_below hd.below 0, cb_newc B0 hm0⟩
  dsimp only [route_Route_Shard.f] at H
  have H := Option.some.inj H
  subst H
  obtain ⟨b, m1, m2, T, rfl, R, hk⟩ := h3
  refine (shard_calls R A7 C8 k1 (c_of_sl h4) (sl_cap h4) (by have := h4.lenB; unfold maxLen at this; omega)).mono ?_
  rintro e w' ⟨rfl, hb⟩
  exact ⟨newc w0 c0 0, rfl, ev_below hb 0, cb_newc B0 hm0⟩
theorem route_Route_Trail.calls (hm0 : 0 < m) (B0 : CB m c0 w0) (h3 : RU j4 c0 w0 p2 a1) (bj4 : j4 < m) (jr : Nat) (bjr : jr < m) (r : List Int) (H : route_Route_Trail.f a1 a5 = some r) :
    Calls Try.prog 16 #[.pointer p2, .int .i64 a5] w0 (fun e w_ => ∃ (c_ : Nat → Nat) (A0_ : Option Addr) (C0_ : Nat), e = .returned (.slice A0_ r.length C0_) ∧ Ev (fun x => False) c0 w0 c_ w_ ∧ CB m c_ w_ ∧ SL true (Kint .i64) jr 0 c_ w_ A0_ C0_ r) := by
  rcases a1 with _ | q
  · have h3 : p2 = none := h3
    subst h3
    have H := Option.some.inj H
    subst H
    refine (trail_nil a5 w0).mono ?_
    rintro e w' ⟨rfl, hd⟩
    exact ⟨newc w0 c0 jr, none, 0, rfl, ev_below hd.below jr, cb_newc B0 bjr, SL.nil⟩
  dsimp only [route_Route_Trail.f] at H
  obtain ⟨g, H⟩ := ifN H
  have H := Option.some.inj H
  subst H
  obtain ⟨b, m1, m2, T, rfl, R, hk⟩ := h3
  refine (trail_calls R a5 (fits_wf ⟨g.1, g.2⟩)).mono ?_
  rintro e w' ⟨A', c', rfl, hR, hb⟩
  exact ⟨newc w0 c0 jr, A', c', rfl, ev_below hb jr, cb_newc B0 bjr, sl_of_R hR (fun k hk _ => if_neg (by omega))⟩
theorem route_Route_Fine.calls (hm0 : 0 < m) (B0 : CB m c0 w0) (h3 : RU j4 c0 w0 p2 a1) (bj4 : 0 < j4 ∧ j4 < m) (r : Bool × Option Rou) (H : route_Route_Fine.f a1 a5 a6 = some r) :
    Calls Try.prog 12 #[.pointer p2, .int .i64 a5, .int .i64 a6] w0 (fun e w_ => ∃ (c_ : Nat → Nat), e = .returned (.bool r.1) ∧ Ev (fun x => (x = j4)) c0 w0 c_ w_ ∧ CB m c_ w_ ∧ RU j4 c_ w_ p2 r.2) := by
  rcases a1 with _ | q
  · have h3 : p2 = none := h3
    subst h3
    have H := Option.some.inj H
    subst H
    refine (fine_nil a5 a6 w0).mono ?_
    rintro e w' ⟨rfl, hd⟩
    exact ⟨newc w0 c0 j4, rfl, ev_below hd.below j4, cb_newc B0 bj4.2, rfl⟩
  dsimp only [route_Route_Fine.f] at H
  have h3' := h3
  obtain ⟨b, m1, m2, T, rfl, R, hk⟩ := h3
  by_cases c : q.s.is a5 a6 = true
  · rw [if_pos c] at H
    obtain ⟨g, H⟩ := ifN H
    have H := Option.some.inj H
    subst H
    refine (fine_yes R a5 a6 (wf_of_is c R.h1) c g).mono ?_
    rintro e w' ⟨rfl, R', t⟩
    refine ⟨newc w0 c0 j4, rfl, ev_turn t (fun k q _ => q) j4, cb_newc B0 bj4.2, b, m1, m2, _, rfl, R'.wide (fun k q l => by unfold newc; split; exact q; rfl), fun k v hv => ?_⟩
    unfold RS.fine at hv ⊢
    simp only at hv ⊢
    split at hv
    · obtain ⟨i0, i1, _⟩ := is_of c; subst k; exact ⟨i0, i1⟩
    · exact hk k v hv
  · rw [if_neg c] at H
    have H := Option.some.inj H
    subst H
    refine (fine_no R a5 a6 (by simpa using c)).mono ?_
    rintro e w' ⟨rfl, hd⟩
    have E : Ev No c0 w0 (newc w0 c0 j4) w' := ev_below hd.below j4
    exact ⟨newc w0 c0 j4, rfl, E.mono (fun _ q => q.elim), cb_newc B0 bj4.2, h3'.ev E (fun q => q) (fun q => q)⟩
theorem route_Route_Hint.calls (hm0 : 0 < m) (B0 : CB m c0 w0) (h3 : RU j4 c0 w0 p2 a1) (bj4 : 0 < j4 ∧ j4 < m) (r : Bool × Option Rou) (H : route_Route_Hint.f a1 a5 a6 = some r) :
    Calls Try.prog 13 #[.pointer p2, .int .i64 a5, .int .i64 a6] w0 (fun e w_ => ∃ (c_ : Nat → Nat), e = .returned (.bool r.1) ∧ Ev (fun x => (x = j4)) c0 w0 c_ w_ ∧ CB m c_ w_ ∧ RU j4 c_ w_ p2 r.2) := by
  rcases a1 with _ | q
  · have h3 : p2 = none := h3
    subst h3
    have H := Option.some.inj H
    subst H
    refine (hint_nil a5 a6 w0).mono ?_
    rintro e w' ⟨rfl, hd⟩
    exact ⟨newc w0 c0 j4, rfl, ev_below hd.below j4, cb_newc B0 bj4.2, rfl⟩
  dsimp only [route_Route_Hint.f] at H
  have h3' := h3
  obtain ⟨b, m1, m2, T, rfl, R, hk⟩ := h3
  by_cases c : q.s.is a5 a6 = true
  · rw [if_pos c] at H
    by_cases cv : q.s.where_ a5 = a6
    · rw [if_pos cv] at H
      have H := Option.some.inj H
      subst H
      refine (hint_same R a5 a6 (wf_of_is c R.h1) c cv).mono ?_
      rintro e w' ⟨rfl, R', t⟩
      exact ⟨newc w0 c0 j4, rfl, ev_turn t (fun k q _ => q) j4, cb_newc B0 bj4.2, b, m1, m2, _, rfl, R'.wide (fun k q l => by unfold newc; split; exact q; rfl), hk⟩
    · rw [if_neg cv] at H
      obtain ⟨g, H⟩ := ifN H
      have H := Option.some.inj H
      subst H
      refine (hint_yes R a5 a6 (wf_of_is c R.h1) c cv g).mono ?_
      rintro e w' ⟨rfl, ⟨T', R'⟩, t⟩
      refine ⟨newc w0 c0 j4, rfl, ev_turn t (fun k q _ => q) j4, cb_newc B0 bj4.2, b, m1, m2, T', rfl, R'.wide (fun k q l => by unfold newc; split; exact q.elim id (fun q => by omega); rfl), fun k v hv => ?_⟩
      unfold RS.hint at hv ⊢
      simp only at hv ⊢
      split at hv
      · obtain ⟨i0, i1, _⟩ := is_of c; subst k; exact ⟨i0, i1⟩
      · exact hk k v hv
  · rw [if_neg c] at H
    have H := Option.some.inj H
    subst H
    refine (hint_no R a5 a6 (by simpa using c)).mono ?_
    rintro e w' ⟨rfl, hd⟩
    have E : Ev No c0 w0 (newc w0 c0 j4) w' := ev_below hd.below j4
    exact ⟨newc w0 c0 j4, rfl, E.mono (fun _ q => q.elim), cb_newc B0 bj4.2, h3'.ev E (fun q => q) (fun q => q)⟩
end
end Go.Proofs.Ytohljkjaggcapaa.G
namespace Go.Proofs.Ytohljkjaggcapaa.G
open Go
set_option linter.unusedVariables false
set_option linter.unusedSimpArgs false
structure haulagelaw23_Op where
  Who : Int
  Kind : Int
  Shard : Int
  Server : Int
  Key : List Int
deriving Inhabited, DecidableEq
/-! haulage/haulagelaw23.num -/
def haulagelaw23_num.f (a1 : Int) : Option Int := some a1
/-! haulage/haulagelaw23.ints -/
def haulagelaw23_ints.j2 : Option Bool := some true
def haulagelaw23_ints.b1 (a1 : List Int) (a5 : List Int) (i16 : Int) : Option (Ctl Int (Sum Unit Bool)) := if i16 < (a1.length : Int) then (if 0 ≤ i16 ∧ i16 < (a1.length : Int) then (if 0 ≤ i16 ∧ i16 < (a5.length : Int) then (if (rd a1 i16) = (rd a5 i16) then (some (.next (IntKind.i64.wrap (i16 + 1)))) else (some (.done (.inr false)))) else none) else none) else (some (.done (.inl ())))
def haulagelaw23_ints.f (k : Nat) (a1 : List Int) (a5 : List Int) : Option Bool := if (a1.length : Int) = (a5.length : Int) then ((loop (fun (s_ : Int) => haulagelaw23_ints.b1 a1 a5 s_) k 0).bind fun x_ => match x_ with | .inl y_ => haulagelaw23_ints.j2 | .inr q_ => some q_) else (some false)
/-! haulage/haulagelaw23.known -/
def haulagelaw23_known.j1 (k : Nat) (t3 : (Option Rou) × Int) (b22 : Bool) : Option Bool := if b22 = true then (some false) else ((route_Route_Fine.f t3.1 0 2).bind fun t29 => (route_Route_Hint.f t29.2 0 2).bind fun t38 => (route_Route_Hint.f t38.2 0 1).bind fun t47 => if t29.1 = true then (if t38.1 = true then (some false) else (if t47.1 = true then ((route_Route_Where.f t47.2 0).bind fun t59 => if t59 = 1 then ((route_Route_Trail.f t47.2 0).bind fun t67 => (haulagelaw23_ints.f k t67 [2]).bind fun t84 => some t84) else (some false)) else (some false))) else (some false))
def haulagelaw23_known.f (k : Nat) : Option Bool := (route_New.f 3 2).bind fun t3 => (haulagelaw23_num.f t3.2).bind fun t14 => if t14 = 0 then (haulagelaw23_known.j1 k t3 (Option.isNone t3.1)) else (haulagelaw23_known.j1 k t3 true)
/-! haulage/haulagelaw23.RouteHomes -/
def haulagelaw23_RouteHomes.j2 (i52 : Int) (b102 : Bool) : Option (Ctl Int (Sum Unit Bool)) := if b102 = true then (some (.done (.inr false))) else (some (.next (IntKind.i64.wrap (i52 + 1))))
def haulagelaw23_RouteHomes.j1 (a1 : Int) (t20 : (Option Rou) × Int) (t41 : (Option Rou) × Int) (i52 : Int) (b73 : Bool) : Option (Ctl Int (Sum Unit Bool)) := if b73 = true then ((route_Route_Where.f t41.1 i52).bind fun t80 => (route_Route_Where.f t20.1 i52).bind fun t87 => if t80 = t87 then (haulagelaw23_RouteHomes.j2 i52 false) else ((route_Route_Where.f t41.1 i52).bind fun t95 => haulagelaw23_RouteHomes.j2 i52 (!decide (t95 = a1)))) else (some (.done (.inl ())))
def haulagelaw23_RouteHomes.j5 (t20 : (Option Rou) × Int) (t113 : (Option Rou) × Int) (i124 : Int) (b145 : Bool) : Option (Ctl Int (Sum Unit Bool)) := if b145 = true then ((route_Route_Where.f t113.1 i124).bind fun t152 => (route_Route_Where.f t20.1 i124).bind fun t159 => if t152 = t159 then (some (.next (IntKind.i64.wrap (i124 + 1)))) else (some (.done (.inr false)))) else (some (.done (.inl ())))
def haulagelaw23_RouteHomes.b6 (a2 : Int) (t20 : (Option Rou) × Int) (t113 : (Option Rou) × Int) (i124 : Int) : Option (Ctl Int (Sum Unit Bool)) := if i124 < a2 then ((haulagelaw23_num.f t113.2).bind fun t138 => haulagelaw23_RouteHomes.j5 t20 t113 i124 (decide (t138 = 0))) else (haulagelaw23_RouteHomes.j5 t20 t113 i124 false)
def haulagelaw23_RouteHomes.j9 (i174 : Int) (b259 : Bool) : Option (Ctl Int (Sum Unit Bool)) := if b259 = true then (some (.done (.inr false))) else (some (.next (IntKind.i64.wrap (i174 + 1))))
def haulagelaw23_RouteHomes.j8 (a2 : Int) (a3 : List (List Int)) (t20 : (Option Rou) × Int) (t113 : (Option Rou) × Int) (i174 : Int) (b195 : Bool) : Option (Ctl Int (Sum Unit Bool)) := if b195 = true then (if 0 ≤ i174 ∧ i174 < (a3.length : Int) then (if 0 ≤ i174 ∧ i174 < (a3.length : Int) then ((route_Route_Shard.f t113.1 (rd a3 i174)).bind fun t226 => (route_Route_Shard.f t20.1 (rd a3 i174)).bind fun t233 => if t226 = t233 then (haulagelaw23_RouteHomes.j9 i174 false) else (if 0 ≤ i174 ∧ i174 < (a3.length : Int) then ((route_Route_Shard.f t113.1 (rd a3 i174)).bind fun t252 => haulagelaw23_RouteHomes.j9 i174 (!decide (t252 = a2))) else none)) else none) else none) else (some (.done (.inl ())))
def haulagelaw23_RouteHomes.b10 (a2 : Int) (a3 : List (List Int)) (t20 : (Option Rou) × Int) (t113 : (Option Rou) × Int) (i174 : Int) : Option (Ctl Int (Sum Unit Bool)) := if i174 < (a3.length : Int) then ((haulagelaw23_num.f t113.2).bind fun t188 => haulagelaw23_RouteHomes.j8 a2 a3 t20 t113 i174 (decide (t188 = 0))) else (haulagelaw23_RouteHomes.j8 a2 a3 t20 t113 i174 false)
def haulagelaw23_RouteHomes.j11 (a1 : Int) (a2 : Int) (t41 : (Option Rou) × Int) (t113 : (Option Rou) × Int) : Option Bool := (haulagelaw23_num.f t41.2).bind fun t270 => if ((decide (t270 = 0)) == (decide (a1 < 8))) = true then ((haulagelaw23_num.f t113.2).bind fun t278 => some ((decide (t278 = 0)) == (decide (a2 < 64)))) else (some false)
def haulagelaw23_RouteHomes.j7 (k : Nat) (a1 : Int) (a2 : Int) (a3 : List (List Int)) (t20 : (Option Rou) × Int) (t41 : (Option Rou) × Int) (t113 : (Option Rou) × Int) : Option Bool := (loop (fun (s_ : Int) => haulagelaw23_RouteHomes.b10 a2 a3 t20 t113 s_) k 0).bind fun x_ => match x_ with | .inl y_ => haulagelaw23_RouteHomes.j11 a1 a2 t41 t113 | .inr q_ => some q_
def haulagelaw23_RouteHomes.j4 (k : Nat) (a1 : Int) (a2 : Int) (a3 : List (List Int)) (t20 : (Option Rou) × Int) (t41 : (Option Rou) × Int) : Option Bool := (route_New.f a1 (IntKind.i64.wrap (a2 + 1))).bind fun t113 => (loop (fun (s_ : Int) => haulagelaw23_RouteHomes.b6 a2 t20 t113 s_) k 0).bind fun x_ => match x_ with | .inl y_ => haulagelaw23_RouteHomes.j7 k a1 a2 a3 t20 t41 t113 | .inr q_ => some q_
def haulagelaw23_RouteHomes.b3 (a1 : Int) (a2 : Int) (t20 : (Option Rou) × Int) (t41 : (Option Rou) × Int) (i52 : Int) : Option (Ctl Int (Sum Unit Bool)) := if i52 < a2 then ((haulagelaw23_num.f t41.2).bind fun t66 => haulagelaw23_RouteHomes.j1 a1 t20 t41 i52 (decide (t66 = 0))) else (haulagelaw23_RouteHomes.j1 a1 t20 t41 i52 false)
def haulagelaw23_RouteHomes.f (k : Nat) (a1 : Int) (a2 : Int) (a3 : List (List Int)) : Option Bool := (haulagelaw23_known.f k).bind fun t10 => if t10 = true then ((route_New.f a1 a2).bind fun t20 => (haulagelaw23_num.f t20.2).bind fun t31 => if t31 = 0 then ((route_New.f (IntKind.i64.wrap (a1 + 1)) a2).bind fun t41 => (loop (fun (s_ : Int) => haulagelaw23_RouteHomes.b3 a1 a2 t20 t41 s_) k 0).bind fun x_ => match x_ with | .inl y_ => haulagelaw23_RouteHomes.j4 k a1 a2 a3 t20 t41 | .inr q_ => some q_) else (some (Option.isNone t20.1))) else (some false)
/-! haulage/haulagelaw23.RouteBooks -/
def haulagelaw23_RouteBooks.j8 (a3 : List haulagelaw23_Op) (a11 : Int) (b186 : Bool) (i188 : Int) (o267 : Option Rou) (i268 : Int) (b269 : Bool) (b291 : Bool) : Option (Ctl ((Option Rou) × Bool × Int × Int) (Sum ((Option Rou) × Bool × Int) Bool)) := if b291 = true then (some (.done (.inr false))) else (if b186 = true then (some (.next (o267, true, i268, IntKind.i64.wrap (i188 + 1)))) else (if b269 = true then (some (.next (o267, decide (((rd a3 i188).Shard) = a11), i268, IntKind.i64.wrap (i188 + 1)))) else (some (.next (o267, false, i268, IntKind.i64.wrap (i188 + 1))))))
def haulagelaw23_RouteBooks.j7 (a1 : Int) (a3 : List haulagelaw23_Op) (a11 : Int) (t97 : Int) (b186 : Bool) (i188 : Int) (o267 : Option Rou) (i268 : Int) (b269 : Bool) : Option (Ctl ((Option Rou) × Bool × Int × Int) (Sum ((Option Rou) × Bool × Int) Bool)) := if b269 = true then ((route_Route_Where.f o267 ((rd a3 i188).Shard)).bind fun t158 => if t158 = ((rd a3 i188).Server) then (if ((rd a3 i188).Server) < 0 then (haulagelaw23_RouteBooks.j8 a3 a11 b186 i188 o267 i268 b269 true) else (if a1 ≤ ((rd a3 i188).Server) then (haulagelaw23_RouteBooks.j8 a3 a11 b186 i188 o267 i268 b269 true) else (haulagelaw23_RouteBooks.j8 a3 a11 b186 i188 o267 i268 b269 false))) else (haulagelaw23_RouteBooks.j8 a3 a11 b186 i188 o267 i268 b269 true)) else ((route_Route_Where.f o267 ((rd a3 i188).Shard)).bind fun t168 => haulagelaw23_RouteBooks.j8 a3 a11 b186 i188 o267 i268 b269 (!decide (t168 = t97)))
def haulagelaw23_RouteBooks.j6 (a1 : Int) (a3 : List haulagelaw23_Op) (a11 : Int) (t97 : Int) (t120 : Bool × (Option Rou)) (b186 : Bool) (i188 : Int) (i251 : Int) (b259 : Bool) : Option (Ctl ((Option Rou) × Bool × Int × Int) (Sum ((Option Rou) × Bool × Int) Bool)) := if b259 = true then (some (.done (.inr false))) else (haulagelaw23_RouteBooks.j7 a1 a3 a11 t97 b186 i188 t120.2 i251 t120.1)
def haulagelaw23_RouteBooks.j5 (a1 : Int) (a3 : List haulagelaw23_Op) (a11 : Int) (t97 : Int) (t120 : Bool × (Option Rou)) (b186 : Bool) (i188 : Int) (i251 : Int) : Option (Ctl ((Option Rou) × Bool × Int × Int) (Sum ((Option Rou) × Bool × Int) Bool)) := if (t120.1 == (decide (t97 = ((rd a3 i188).Server)))) = true then (if 0 ≤ t97 then (if 0 ≤ ((rd a3 i188).Server) then (haulagelaw23_RouteBooks.j6 a1 a3 a11 t97 t120 b186 i188 i251 (decide (((rd a3 i188).Server) < a1))) else (haulagelaw23_RouteBooks.j6 a1 a3 a11 t97 t120 b186 i188 i251 false)) else (haulagelaw23_RouteBooks.j6 a1 a3 a11 t97 t120 b186 i188 i251 false)) else (haulagelaw23_RouteBooks.j6 a1 a3 a11 t97 t120 b186 i188 i251 false)
def haulagelaw23_RouteBooks.j12 (i368 : Int) (i369 : Int) (b421 : Bool) : Option (Ctl (Int × Int) (Sum Int (Ctl (Int × Int) (Sum Int Bool)))) := if b421 = true then (some (.done (.inr (.done (.inr false))))) else (some (.next (IntKind.i64.wrap (i368 + 1), IntKind.i64.wrap (i369 + 1))))
def haulagelaw23_RouteBooks.b13 (o306 : Option Rou) (i341 : Int) (t357 : List Int) (i368 : Int) (i369 : Int) : Option (Ctl (Int × Int) (Sum Int (Ctl (Int × Int) (Sum Int Bool)))) := if i369 < (t357.length : Int) then (if 0 ≤ i369 ∧ i369 < (t357.length : Int) then ((route_Route_Where.f o306 (rd t357 i369)).bind fun t396 => if t396 = i341 then (if 0 < i369 then (if 0 ≤ i369 ∧ i369 < (t357.length : Int) then (if 0 ≤ (IntKind.i64.wrap (i369 - 1)) ∧ (IntKind.i64.wrap (i369 - 1)) < (t357.length : Int) then (haulagelaw23_RouteBooks.j12 i368 i369 (decide ((rd t357 i369) ≤ (rd t357 (IntKind.i64.wrap (i369 - 1)))))) else none) else none) else (haulagelaw23_RouteBooks.j12 i368 i369 false)) else (haulagelaw23_RouteBooks.j12 i368 i369 true)) else none) else (some (.done (.inl i368)))
def haulagelaw23_RouteBooks.j14 (i341 : Int) (i429 : Int) : Option (Ctl (Int × Int) (Sum Int Bool)) := some (.next (i429, IntKind.i64.wrap (i341 + 1)))
def haulagelaw23_RouteBooks.b15 (k : Nat) (a1 : Int) (o306 : Option Rou) (i340 : Int) (i341 : Int) : Option (Ctl (Int × Int) (Sum Int Bool)) := if i341 ≤ a1 then ((route_Route_At.f o306 i341).bind fun t357 => (loop (fun (s_ : Int × Int) => haulagelaw23_RouteBooks.b13 o306 i341 t357 s_.1 s_.2) k (i340, 0)).bind fun x_ => match x_ with | .inl y_ => haulagelaw23_RouteBooks.j14 i341 y_ | .inr q_ => some q_) else (some (.done (.inl i340)))
def haulagelaw23_RouteBooks.j17 (i441 : Int) (b477 : Bool) : Option (Ctl Int (Sum Unit Bool)) := if b477 = true then (some (.done (.inr false))) else (some (.next (IntKind.i64.wrap (i441 + 1))))
def haulagelaw23_RouteBooks.b18 (a2 : Int) (a7 : List (List Int)) (o306 : Option Rou) (i441 : Int) : Option (Ctl Int (Sum Unit Bool)) := if i441 < (a7.length : Int) then (if 0 ≤ i441 ∧ i441 < (a7.length : Int) then ((route_Route_Shard.f o306 (rd a7 i441)).bind fun t468 => if t468 < 0 then (haulagelaw23_RouteBooks.j17 i441 true) else (haulagelaw23_RouteBooks.j17 i441 (decide (a2 ≤ t468)))) else none) else (some (.done (.inl ())))
def haulagelaw23_RouteBooks.j19 (a2 : Int) (i435 : Int) : Option Bool := some (decide (i435 = a2))
def haulagelaw23_RouteBooks.j16 (k : Nat) (a2 : Int) (a7 : List (List Int)) (o306 : Option Rou) (i435 : Int) : Option Bool := (loop (fun (s_ : Int) => haulagelaw23_RouteBooks.b18 a2 a7 o306 s_) k 0).bind fun x_ => match x_ with | .inl y_ => haulagelaw23_RouteBooks.j19 a2 i435 | .inr q_ => some q_
def haulagelaw23_RouteBooks.j11 (k : Nat) (a1 : Int) (a2 : Int) (a7 : List (List Int)) (o306 : Option Rou) (b331 : Bool) : Option Bool := if b331 = true then (some false) else ((loop (fun (s_ : Int × Int) => haulagelaw23_RouteBooks.b15 k a1 o306 s_.1 s_.2) k (0, (-1))).bind fun x_ => match x_ with | .inl y_ => haulagelaw23_RouteBooks.j16 k a2 a7 o306 y_ | .inr q_ => some q_)
def haulagelaw23_RouteBooks.j10 (k : Nat) (a1 : Int) (a2 : Int) (a7 : List (List Int)) (a11 : Int) (t46 : Int) (o306 : Option Rou) (b307 : Bool) (i308 : Int) : Option Bool := (route_Route_Counts.f o306).bind fun t313 => if b307 = true then (haulagelaw23_RouteBooks.j11 k a1 a2 a7 o306 (!decide (t313.2.2 = i308))) else ((route_Route_Where.f o306 a11).bind fun t323 => if t323 = t46 then (haulagelaw23_RouteBooks.j11 k a1 a2 a7 o306 (!decide (t313.2.2 = i308))) else (haulagelaw23_RouteBooks.j11 k a1 a2 a7 o306 true))
def haulagelaw23_RouteBooks.b9 (a1 : Int) (a3 : List haulagelaw23_Op) (a11 : Int) (o185 : Option Rou) (b186 : Bool) (i187 : Int) (i188 : Int) : Option (Ctl ((Option Rou) × Bool × Int × Int) (Sum ((Option Rou) × Bool × Int) Bool)) := if i188 < (a3.length : Int) then (if 0 ≤ i188 ∧ i188 < (a3.length : Int) then ((route_Route_Where.f o185 ((rd a3 i188).Shard)).bind fun t97 => if ((rd a3 i188).Kind) = 0 then ((route_Route_Fine.f o185 ((rd a3 i188).Shard) ((rd a3 i188).Server)).bind fun t109 => haulagelaw23_RouteBooks.j7 a1 a3 a11 t97 b186 i188 t109.2 i187 t109.1) else (if ((rd a3 i188).Kind) = 1 then ((route_Route_Hint.f o185 ((rd a3 i188).Shard) ((rd a3 i188).Server)).bind fun t120 => if t120.1 = true then (haulagelaw23_RouteBooks.j5 a1 a3 a11 t97 t120 b186 i188 (IntKind.i64.wrap (i187 + 1))) else (haulagelaw23_RouteBooks.j5 a1 a3 a11 t97 t120 b186 i188 i187)) else (haulagelaw23_RouteBooks.j7 a1 a3 a11 t97 b186 i188 o185 i187 false))) else none) else (some (.done (.inl (o185, b186, i187))))
def haulagelaw23_RouteBooks.f (k : Nat) (a1 : Int) (a2 : Int) (a3 : List haulagelaw23_Op) (a7 : List (List Int)) (a11 : Int) : Option Bool := (haulagelaw23_known.f k).bind fun t15 => if t15 = true then ((route_New.f a1 a2).bind fun t25 => (haulagelaw23_num.f t25.2).bind fun t36 => if t36 = 0 then ((route_Route_Where.f t25.1 a11).bind fun t46 => (loop (fun (s_ : (Option Rou) × Bool × Int × Int) => haulagelaw23_RouteBooks.b9 a1 a3 a11 s_.1 s_.2.1 s_.2.2.1 s_.2.2.2) k (t25.1, false, 0, 0)).bind fun x_ => match x_ with | .inl y_ => haulagelaw23_RouteBooks.j10 k a1 a2 a7 a11 t46 y_.1 y_.2.1 y_.2.2 | .inr q_ => some q_) else (some (Option.isNone t25.1))) else (some false)
/-! haulage/haulagelaw23.RouteKnown -/
def haulagelaw23_RouteKnown.j1 (i26 : Int) (b64 : Bool) : Option (Ctl Int (Sum Unit Bool)) := if b64 = true then (some (.done (.inr false))) else (some (.next (IntKind.i64.wrap (i26 + 1))))
def haulagelaw23_RouteKnown.j6 (o374 : Option Rou) (b375 : Bool) : Option Bool := if b375 = true then (some false) else ((route_Route_Counts.f o374).bind fun t382 => (route_Route_Counts.f none).bind fun t391 => if t382.1 = 2 then (if t382.2.1 = 5 then (if t382.2.2 = 4 then ((route_Route_Where.f none 0).bind fun t402 => if t402 = (-1) then ((route_Route_Shard.f none []).bind fun t410 => if t410 = (-1) then ((route_Route_Fine.f none 0 0).bind fun t418 => if t418.1 = true then (some false) else ((route_Route_Hint.f t418.2 0 0).bind fun t427 => if t427.1 = true then (some false) else ((route_Route_Trail.f t427.2 0).bind fun t436 => if (t436.length : Int) = 0 then ((route_Route_At.f t427.2 0).bind fun t447 => if (t447.length : Int) = 0 then (if t391.1 = 0 then (if t391.2.1 = 0 then (some (decide (t391.2.2 = 0))) else (some false)) else (some false)) else (some false)) else (some false)))) else (some false)) else (some false)) else (some false)) else (some false)) else (some false))
def haulagelaw23_RouteKnown.j5 (k : Nat) (t205 : Bool × (Option Rou)) (b247 : Bool) : Option Bool := if b247 = true then (some false) else ((route_Route_Hint.f t205.2 0 1).bind fun t254 => (route_Route_Trail.f t254.2 0).bind fun t264 => (haulagelaw23_ints.f k t264 [2, 1, 0]).bind fun t281 => if t281 = true then ((route_Route_Hint.f t254.2 0 2).bind fun t291 => (route_Route_Trail.f t291.2 0).bind fun t301 => (haulagelaw23_ints.f k t301 [1, 0, 1]).bind fun t318 => if t318 = true then ((route_Route_Hint.f t291.2 0 3).bind fun t326 => if t326.1 = true then (haulagelaw23_RouteKnown.j6 t326.2 true) else ((route_Route_Hint.f t326.2 2 0).bind fun t335 => if t335.1 = true then (haulagelaw23_RouteKnown.j6 t335.2 true) else ((route_Route_Fine.f t335.2 0 (-1)).bind fun t344 => if t344.1 = true then (haulagelaw23_RouteKnown.j6 t344.2 true) else ((route_Route_Fine.f t344.2 0 1).bind fun t353 => if t353.1 = true then ((route_Route_Trail.f t353.2 0).bind fun t362 => haulagelaw23_RouteKnown.j6 t353.2 (!decide ((t362.length : Int) = 0))) else (haulagelaw23_RouteKnown.j6 t353.2 true))))) else (haulagelaw23_RouteKnown.j6 t291.2 true)) else (some false))
def haulagelaw23_RouteKnown.j4 (k : Nat) (b161 : Bool) : Option Bool := if b161 = true then (some false) else ((route_New.f 3 2).bind fun t168 => (route_Route_Fine.f t168.1 0 2).bind fun t178 => (route_Route_Hint.f t178.2 0 2).bind fun t187 => (route_Route_Hint.f t187.2 0 1).bind fun t196 => (route_Route_Hint.f t196.2 0 0).bind fun t205 => (route_Route_Where.f t205.2 0).bind fun t215 => if t215 = 0 then ((route_Route_Trail.f t205.2 0).bind fun t223 => (haulagelaw23_ints.f k t223 [2, 1]).bind fun t240 => haulagelaw23_RouteKnown.j5 k t205 (!t240)) else (haulagelaw23_RouteKnown.j5 k t205 true))
def haulagelaw23_RouteKnown.j3 (k : Nat) : Option Bool := (route_New.f 1 3).bind fun t75 => (haulagelaw23_num.f t75.2).bind fun t86 => if t86 = 0 then ((route_Route_Where.f t75.1 0).bind fun t94 => if t94 = 0 then ((route_Route_Where.f t75.1 2).bind fun t102 => if t102 = 0 then ((route_Route_Where.f t75.1 3).bind fun t110 => if t110 = (-1) then ((route_Route_Where.f t75.1 (-1)).bind fun t118 => if t118 = (-1) then ((route_Route_At.f t75.1 0).bind fun t126 => (haulagelaw23_ints.f k t126 [0, 1, 2]).bind fun t143 => if t143 = true then ((route_Route_At.f t75.1 1).bind fun t151 => haulagelaw23_RouteKnown.j4 k (!decide ((t151.length : Int) = 0))) else (haulagelaw23_RouteKnown.j4 k true)) else (haulagelaw23_RouteKnown.j4 k true)) else (haulagelaw23_RouteKnown.j4 k true)) else (haulagelaw23_RouteKnown.j4 k true)) else (haulagelaw23_RouteKnown.j4 k true)) else (haulagelaw23_RouteKnown.j4 k true)
def haulagelaw23_RouteKnown.b2 (i26 : Int) : Option (Ctl Int (Sum Unit Bool)) := if i26 < 4 then (if 0 ≤ i26 ∧ i26 < (4 : Int) then (if 0 ≤ i26 ∧ i26 < (4 : Int) then ((route_New.f (rd [0, 1, 9, 1, 1, 65, 1, 0] ((i26.toNat * 2 + 0 : Nat) : Int)) (rd [0, 1, 9, 1, 1, 65, 1, 0] ((i26.toNat * 2 + 1 : Nat) : Int))).bind fun t46 => if (Option.isNone t46.1) = true then ((haulagelaw23_num.f t46.2).bind fun t57 => haulagelaw23_RouteKnown.j1 i26 (!decide (t57 = 2))) else (haulagelaw23_RouteKnown.j1 i26 true)) else none) else none) else (some (.done (.inl ())))
def haulagelaw23_RouteKnown.f (k : Nat) : Option Bool := (haulagelaw23_known.f k).bind fun t4 => if t4 = true then ((loop (fun (s_ : Int) => haulagelaw23_RouteKnown.b2 s_) k 0).bind fun x_ => match x_ with | .inl y_ => haulagelaw23_RouteKnown.j3 k | .inr q_ => some q_) else (some false)end Go.Proofs.Ytohljkjaggcapaa.G
namespace Go.Proofs.Ytohljkjaggcapaa.G
open Go Go.RowKit
set_option linter.unusedVariables false
set_option linter.unusedSimpArgs false
def K_haulagelaw23_Op : K haulagelaw23_Op where
  sz := 5
  pos := by decide
  rep := fun i c w cs x => ∃ (A1 : Option Addr) (C2 : Nat), cs = [.int .i64 x.Who, .int .i64 x.Kind, .int .i64 x.Shard, .int .i64 x.Server, .slice A1 x.Key.length C2] ∧ SL false (Kint .u8) i i c w A1 C2 x.Key
  ev := fun ⟨A1, C2, h_, h3⟩ E hi => ⟨A1, C2, h_, h3.ev E hi hi⟩
  rc := fun ⟨A1, C2, h_, h3⟩ hr => ⟨A1, C2, h_, h3.rc hr hr⟩
  len := fun ⟨A1, C2, h_, h3⟩ => by rw [h_]; rfl
  one := @fun i c w cs x ⟨A1, C2, h_, h3⟩ u hu => by rw [h_] at hu; exact one_all (us := [.int .i64 x.Who, .int .i64 x.Kind, .int .i64 x.Shard, .int .i64 x.Server, .slice A1 x.Key.length C2]) rfl u hu
theorem Try_hm : Try.prog.follows .mixedOrders = true := by kernel_rfl
theorem sz_3 : ∀ w, (sizeOf 3).run Try.prog w = .ok 1 w := fun _ => by kernel_rfl
theorem ag_3 : ∀ w, (isAgg 3).run Try.prog w = .ok false w := fun _ => by kernel_rfl
theorem sz_36 : ∀ w, (sizeOf 36).run Try.prog w = .ok 1 w := fun _ => by kernel_rfl
theorem ag_36 : ∀ w, (isAgg 36).run Try.prog w = .ok false w := fun _ => by kernel_rfl
theorem sz_40 : ∀ w, (sizeOf 40).run Try.prog w = .ok 5 w := fun _ => by kernel_rfl
theorem ag_40 : ∀ w, (isAgg 40).run Try.prog w = .ok true w := fun _ => by kernel_rfl
theorem zv_40 : ∀ w, (zeroValue 40).run Try.prog w = .ok (.agg #[.int .i64 0, .int .i64 0, .int .i64 0, .int .i64 0, .slice none 0 0]) w := fun _ => by kernel_rfl
theorem ff_40_2 : ∀ q w, (Instr.fieldAt 40 (.pointer (some q)) 2).run Try.prog w = .ok (.pointer (some (q.add 2))) w := fun _ _ => by kernel_rfl
theorem ff_40_1 : ∀ q w, (Instr.fieldAt 40 (.pointer (some q)) 1).run Try.prog w = .ok (.pointer (some (q.add 1))) w := fun _ _ => by kernel_rfl
theorem ff_40_3 : ∀ q w, (Instr.fieldAt 40 (.pointer (some q)) 3).run Try.prog w = .ok (.pointer (some (q.add 3))) w := fun _ _ => by kernel_rfl
theorem zv_52 : ∀ w, (zeroValue 52).run Try.prog w = .ok (.agg #[.int .i64 0, .int .i64 0, .int .i64 0, .int .i64 0, .int .i64 0, .int .i64 0, .int .i64 0, .int .i64 0]) w := fun _ => by kernel_rfl
theorem sz_52 : ∀ w, (sizeOf 52).run Try.prog w = .ok 8 w := fun _ => by kernel_rfl
theorem ua_52 : Try.prog.underlying 52 = some (.array 4 43) := Try.underlying52
theorem sz_43 : ∀ w, (sizeOf 43).run Try.prog w = .ok 2 w := fun _ => by kernel_rfl
theorem ua_43 : Try.prog.underlying 43 = some (.array 2 3) := Try.underlying43
end Go.Proofs.Ytohljkjaggcapaa.G
/-! The arguments of the rows: ops and keys opened. -/
namespace Go.Proofs.Ytohljkjaggcapaa.G
open Go Go.ChangeShapes Go.WideShapes
set_option linter.unusedVariables false
theorem row_own : ownKnob Try.prog.godebug = none := by kernel_rfl
theorem row_laidOut : laidOutB Try.prog = true := by kernel_rfl
theorem cellsU : Try.prog.cellsOf 5 = 1 := by kernel_rfl
theorem cellsI : Try.prog.cellsOf 3 = 1 := by kernel_rfl
theorem cellsB : Try.prog.cellsOf 36 = 1 := by kernel_rfl
theorem cellsO : Try.prog.cellsOf 40 = 5 := by kernel_rfl
def intok (n : Int) : Prop := (Lit.int .i64 n).wf = true
theorem intok.range {n : Int} (h : intok n) : -9223372036854775808 ≤ n ∧ n ≤ 9223372036854775807 := by simpa [intok, Lit.wf, IntKind.min, IntKind.max, IntKind.signed, IntKind.bits] using h
def byteok (n : Int) : Prop := (Lit.int .u8 n).wf = true
def bytesok (xs : List Int) : Prop := ∀ n ∈ xs, byteok n
theorem byteok.range {n : Int} (h : byteok n) : 0 ≤ n ∧ n ≤ 255 := by simpa [byteok, Lit.wf, IntKind.min, IntKind.max, IntKind.signed, IntKind.bits] using h
abbrev opwt (o : haulagelaw23_Op) : Nat := o.Key.length + 1
def opok (o : haulagelaw23_Op) : Prop := intok o.Shard ∧ intok o.Server ∧ bytesok o.Key
theorem sum_one {α : Type} (xs : List α) : (xs.map fun _ => 1).sum = xs.length := by
  induction xs with
  | nil => rfl
  | cons x xs ih => simp [ih]; omega
theorem opens_bytes {w : World} : Opens Try.prog w 36 (Kslice (Kint .u8)) (fun xs => xs.length + 1) bytesok := by
  intro H enc fuel cs x h
  obtain ⟨y, h1, h2, h3⟩ := opens_slice (e := Kint .u8) Try.underlying36 cellsU (opens_int Try.underlying5) H enc fuel cs x h
  have h2' : (y.map fun _ => 1).sum + 1 ≤ Rows.uptoBulk x.1 := h2
  rw [sum_one] at h2'
  exact ⟨y, h1, h2', h3⟩
set_option maxRecDepth 100000 in
theorem opens_op {w : World} : Opens Try.prog w 40 K_haulagelaw23_Op opwt opok := by
  intro H enc fuel cs x h
  obtain ⟨xs, n, rfl, rfl, hl, hxl, hf⟩ := DataW.trod_struct Try.underlying40 h
  rw [cellsO] at hl
  match cs, hl with
  | [v0, v1, v2, v3, v4], _ =>
    match xs, hxl with
    | [x0, x1, x2, x3, x4], _ =>
      have g0 : DataW.trod enc Try.prog w 0 (fun _ => true) true n 3 (([v0, v1, v2, v3, v4].drop 0).take (Try.prog.cellsOf 3)) = some x0 := hf 0 _ rfl
      rw [cellsI] at g0
      replace g0 : DataW.trod enc Try.prog w 0 (fun _ => true) true n 3 [v0] = some x0 := g0
      have g1 : DataW.trod enc Try.prog w 0 (fun _ => true) true n 3 (([v0, v1, v2, v3, v4].drop 1).take (Try.prog.cellsOf 3)) = some x1 := hf 1 _ rfl
      rw [cellsI] at g1
      replace g1 : DataW.trod enc Try.prog w 0 (fun _ => true) true n 3 [v1] = some x1 := g1
      have g2 : DataW.trod enc Try.prog w 0 (fun _ => true) true n 3 (([v0, v1, v2, v3, v4].drop 2).take (Try.prog.cellsOf 3)) = some x2 := hf 2 _ rfl
      rw [cellsI] at g2
      replace g2 : DataW.trod enc Try.prog w 0 (fun _ => true) true n 3 [v2] = some x2 := g2
      have g3 : DataW.trod enc Try.prog w 0 (fun _ => true) true n 3 (([v0, v1, v2, v3, v4].drop 3).take (Try.prog.cellsOf 3)) = some x3 := hf 3 _ rfl
      rw [cellsI] at g3
      replace g3 : DataW.trod enc Try.prog w 0 (fun _ => true) true n 3 [v3] = some x3 := g3
      have g4 : DataW.trod enc Try.prog w 0 (fun _ => true) true n 36 (([v0, v1, v2, v3, v4].drop 4).take (Try.prog.cellsOf 36)) = some x4 := hf 4 _ rfl
      rw [cellsB] at g4
      replace g4 : DataW.trod enc Try.prog w 0 (fun _ => true) true n 36 [v4] = some x4 := g4
      obtain ⟨y0, r0, -, -⟩ := opens_int (w := w) Try.underlying3 H enc n _ _ g0
      obtain ⟨y1, r1, -, -⟩ := opens_int (w := w) Try.underlying3 H enc n _ _ g1
      obtain ⟨y2, r2, -, k2⟩ := opens_int (w := w) Try.underlying3 H enc n _ _ g2
      obtain ⟨y3, r3, -, k3⟩ := opens_int (w := w) Try.underlying3 H enc n _ _ g3
      obtain ⟨y4, ⟨A4, C4, e4, s4⟩, b4, k4⟩ := opens_bytes (w := w) H enc n _ _ g4
      have r0' : [v0] = [.int .i64 y0] := r0
      have r1' : [v1] = [.int .i64 y1] := r1
      have r2' : [v2] = [.int .i64 y2] := r2
      have r3' : [v3] = [.int .i64 y3] := r3
      simp only [List.cons.injEq, and_true] at r0' r1' r2' r3' e4
      refine ⟨⟨y0, y1, y2, y3, y4⟩, ⟨A4, C4, by rw [r0', r1', r2', r3', e4], s4⟩, ?_, k2, k3, k4⟩
      refine Nat.le_trans ?_ (bulk_agg _)
      simp only [List.map_cons, List.map_nil, Rows.uptoBulkAll]
      have b4' : y4.length + 1 ≤ Rows.uptoBulk x4.1 := b4
      show y4.length + 1 ≤ _
      omega
theorem opsum_len : ∀ xs : List haulagelaw23_Op, xs.length ≤ (xs.map opwt).sum
  | [] => Nat.le_refl _
  | o :: xs => by have := opsum_len xs; simp only [List.map_cons, List.sum_cons, List.length_cons, opwt]; omega
theorem keysum_len : ∀ xs : List (List Int), xs.length ≤ (xs.map fun x => x.length + 1).sum
  | [] => Nat.le_refl _
  | o :: xs => by have := keysum_len xs; simp only [List.map_cons, List.sum_cons, List.length_cons]; omega
/-- an argument of ops -/
theorem arg_ops {H : Type} {enc : TypeId × Value → H} {w : World} {v : Value} {d : DataW H} {p : List MemPlace} (hv : ∃ a len cap, v = .slice a len cap) (h : DataW.Trod enc Try.prog w 0 (fun _ => true) true 38 v d p) :
    ∃ A C xs, v = .slice A xs.length C ∧ SL false K_haulagelaw23_Op 0 0 c0 w A C xs ∧ (xs.map opwt).sum + 1 ≤ Rows.uptoBulk d ∧ ∀ o ∈ xs, opok o := by
  obtain ⟨a, len, cap, rfl⟩ := hv
  obtain ⟨fuel, hf⟩ := h
  obtain ⟨A, C, xs, e, h1, h2, h3⟩ := open_sl (e := K_haulagelaw23_Op) Try.underlying38 cellsO opens_op hf
  refine ⟨A, C, xs, ?_, h1, h2, h3⟩
  have e' : [Value.slice a len cap] = [.slice A xs.length C] := e
  exact List.head_eq_of_cons_eq e'
/-- an argument of keys -/
theorem arg_keys {H : Type} {enc : TypeId × Value → H} {w : World} {v : Value} {d : DataW H} {p : List MemPlace} (hv : ∃ a len cap, v = .slice a len cap) (h : DataW.Trod enc Try.prog w 0 (fun _ => true) true 34 v d p) :
    ∃ A C xs, v = .slice A xs.length C ∧ SL false (Kslice (Kint .u8)) 0 0 c0 w A C xs ∧ (xs.map fun x => x.length + 1).sum + 1 ≤ Rows.uptoBulk d ∧ ∀ o ∈ xs, bytesok o := by
  obtain ⟨a, len, cap, rfl⟩ := hv
  obtain ⟨fuel, hf⟩ := h
  obtain ⟨A, C, xs, e, h1, h2, h3⟩ := open_sl (e := Kslice (Kint .u8)) Try.underlying34 cellsB opens_bytes hf
  refine ⟨A, C, xs, ?_, h1, h2, h3⟩
  have e' : [Value.slice a len cap] = [.slice A xs.length C] := e
  exact List.head_eq_of_cons_eq e'
end Go.Proofs.Ytohljkjaggcapaa.G
