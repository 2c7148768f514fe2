/- Walks: each function of the program answers as its plain function says: , , tableRead, haulagelaw13same, haulagelaw13sameAnswer, haulagelaw13put, haulagelaw13get, haulagelaw13comes. -/
import Derived.Test.YtcolmmjcdlmcoaaNC4
import Derived.WideLaws
import Derived.Test.YtcolmmjcdlmcoaaNB
import Derived.Test.YtcolmmjcdlmcoaaNC2
import Derived.Test.YtcolmmjcdlmcoaaNC3
/-! The reader, told by hand: a text; take, with its deferred function that recovers. -/
namespace Go.Proofs.Ytcolmmjcdlmcoaa.G
open Go Go.RowKit
set_option linter.unusedVariables false
set_option linter.unusedSimpArgs false
theorem lag_rd : ∀ w, (isAgg 88).run Try.prog w = .ok false w := fun _ => by kernel_rfl
theorem lag_int : ∀ w, (isAgg 3).run Try.prog w = .ok false w := fun _ => by kernel_rfl
theorem lag_u64 : ∀ w, (isAgg 80).run Try.prog w = .ok false w := fun _ => by kernel_rfl
theorem lag_bytes : ∀ w, (isAgg 23).run Try.prog w = .ok false w := fun _ => by kernel_rfl
theorem lsz_u64 : ∀ w, (sizeOf 80).run Try.prog w = .ok 1 w := fun _ => by kernel_rfl
theorem lsz_bytes : ∀ w, (sizeOf 23).run Try.prog w = .ok 1 w := fun _ => by kernel_rfl
theorem lzv_u64 : ∀ w, (zeroValue 80).run Try.prog w = .ok (.int .u64 0) w := fun _ => by kernel_rfl
theorem lzv_bytes : ∀ w, (zeroValue 23).run Try.prog w = .ok (.slice none 0 0) w := fun _ => by kernel_rfl
theorem copied_eq {x : List Int} (h : x.length ≤ 140737488355328) : parcel_copied.f x = some x := by
  unfold parcel_copied.f
  by_cases c : x = []
  · subst c; rfl
  · have hp : x.length ≠ 0 := fun q => c (List.length_eq_zero_iff.1 q)
    rw [if_neg (by omega), if_pos (by omega), if_pos (by simp; omega)]
    simp
def retT (jr : Nat) (x : List Int) (c : Nat → Nat) (w : World) (v : Value) : Prop := ∃ A C, v = .slice A x.length C ∧ SL true (Kint .u8) jr 0 c w A C x
set_option maxHeartbeats 2000000 in
theorem text1_calls {m : Nat} {c0 : Nat → Nat} {w0 : World} {j jb jc : Nat} {p : Option Addr} {q1 q2 : Addr} {r : Rdr} {most : Int} (B0 : CB m c0 w0) (h : RD j c0 w0 p (some r)) (hj : 0 < j) (h1 : AT true jb c0 w0 q1 [.pointer p]) (h2 : AT true jc c0 w0 q2 [.int .i64 most])
    (hjb : jb ≠ j) (hjc : jc ≠ j) (jr : Nat) (hjr : jr < m) (hjr' : jr ≠ j) (x : (List Int × Int) ⊕ (List Int × List Int × Int)) (H : rtext r.left r.fault most = some x) :
    Calls Try.prog 70 #[.pointer (some q1), .pointer (some q2)] w0 (RX m j c0 w0 p r.outer x (retT jr)) := by
  refine enter (N := 13) (l := [.pointer (some q1), .pointer (some q2)]) Try.func70 rfl rfl (Nat.le_of_ble_eq_true rfl) fun a F => ?_
  have n0 : ¬ ((0 : Nat) = j) := by omega
  refine wp_seq_k fun K1 hK1 => ?_
  refine reg ?_
  refine q_val F rfl rfl (by decide) (r_assign F rfl) fun a F => ?_
  refine nil ?_
  refine hK1 _ _ ?_
  refine wp_seq_k fun K2 hK2 => ?_
  refine preg ?_
  refine p_val F rfl rfl (by decide) (r_load F rfl lag_rd (AT.cell0 h1 rfl)) fun a F => ?_
  refine p_val F rfl rfl (by decide) (r_load F rfl lag_int (AT.cell0 h2 rfl)) fun a F => ?_
  refine p_val F rfl rfl (by decide) (r_max F rfl rfl) fun a F => ?_
  refine p_val F rfl rfl (by decide) (r_convi F Try.underlying80 (by kernel_rfl) rfl) fun a F => ?_
  refine p_call F rfl rfl (by decide) (r_call (vs := [.pointer p, .int .u64 (IntKind.u64.wrap (max most 0))]) F Try.func71 rfl rfl rfl) (size_calls B0 h hj) ?_
  rintro e w1 ⟨c1, E1, B1, hx⟩
  unfold rtext at H
  generalize rsize r.left r.fault (IntKind.u64.wrap (max most 0)) = res at hx H
  match res with
  | .inl (l, f) =>
    right
    obtain ⟨⟨t, u, rfl⟩, hR1⟩ := hx
    have H := Option.some.inj H
    subst H
    refine ⟨_, rfl, fun a F => ?_⟩
    repeat (first | refine thenP ?_ | refine inbP ?_)
    refine outP (F.sub (L' := []) trivial) ?_
    exact ⟨c1, E1, B1, ⟨t, u, rfl⟩, hR1⟩
  | .inr (n, l, f) =>
    left
    obtain ⟨⟨v, rfl, hv⟩, hR1⟩ := hx
    have hv : v = .int .i64 n := hv
    subst hv
    obtain ⟨⟨g0, g1, g2⟩, H⟩ := ifN H
    have H := Option.some.inj H
    subst H
    refine ⟨_, rfl, fun a F => ?_⟩
    refine p_val F rfl rfl (by decide) (r_assign F rfl) fun a F => ?_
    refine pnil ?_
    refine hK2 _ _ ?_
    refine wp_seq_k fun K3 hK3 => ?_
    refine preg ?_
    refine p_val F rfl rfl (by decide) (r_load F rfl lag_rd (AT.cell0 (h1.ev E1 hjb) rfl)) fun a F => ?_
    refine p_val F rfl rfl (by decide) (r_move F rfl) fun a F => ?_
    refine p_call F rfl rfl (by decide) (r_call (vs := [.pointer p, .int .i64 n]) F Try.func73 rfl rfl rfl) (next_calls B1 hR1 hj) ?_
    rintro e w2 ⟨c2, E2, B2, hx⟩
    have e0 : rnext l f n = .inr (l.take n.toNat, l.drop n.toNat, f) := by unfold rnext; rw [if_pos ⟨g0, g1⟩]
    rw [show (⟨l, r.outer, f⟩ : Rdr).left = l from rfl, show (⟨l, r.outer, f⟩ : Rdr).fault = f from rfl, e0] at hx
    obtain ⟨⟨v, rfl, A3, C3, rfl, hs⟩, hR2⟩ := hx
    left
    refine ⟨_, rfl, fun a F => ?_⟩
    have hlen : (l.take n.toNat).length ≤ 140737488355328 := by rw [List.length_take]; omega
    refine p_call F rfl rfl (by decide) (r_call (vs := [.slice A3 (l.take n.toNat).length C3]) F Try.func72 rfl rfl rfl) (parcel_copied.calls (Nat.lt_of_le_of_lt (Nat.zero_le _) hjr) B2 hs jr hjr _ (copied_eq hlen)) ?_
    rintro e w3 ⟨c3, A4, C4, rfl, E3, B3, hs3⟩
    left
    refine ⟨_, rfl, fun a F => ?_⟩
    refine p_val F rfl rfl (by decide) (r_assign F rfl) fun a F => ?_
    refine pnil ?_
    refine hK3 _ _ ?_
    refine wp_ret ?_
    repeat (first | refine thenR ?_ | refine inbR ?_)
    refine out1 F rfl rfl ?_
    have E3' : Ev (fun x => x = j) c2 w2 c3 w3 := E3.mono (fun _ q => q.elim)
    exact ⟨c3, (E1.trans E2 (fun _ q => q)).trans E3' (fun _ q => q), B3, ⟨_, rfl, A4, C4, rfl, hs3⟩, hR2.ev E3 (fun q => q) (fun q => q)⟩
/-! ### deferred functions that recover -/
section
variable {P : Program} {ops : Array Oper} {Q : Exit → Act → List Frame → World → Prop} {a : Act} {N : Nat} {L : List (Nat × Value)} {D : List Deferred} {w w' : World} {v : Value} {rest : List Nat} {o : Oper} {d : Nat} {cs cs' : List Frame} {i : Nat}
theorem enterS {f : FuncId} {fn : Func} {c : Code} {l : List Value} {u : FrameMode} {R : Ending → FrameMode → World → Prop} (hf : P.funcs[f]? = some fn) (hb : fn.body = some c) (hn : fn.ntmps = N) (hl : l.length ≤ N)
    (h : ∀ c₀ cs, c₀.mode = u → ∀ a, Fr a N (enum 0 l) → c.wpS P (bodyPostS P fn c₀ cs R) a (c₀ :: cs) w) : CallsD P f l.toArray u w R := by
  refine callsD_of_wpS hf hb fun c₀ cs hu => ?_
  refine h c₀ cs hu _ ?_
  rw [show l.toArray.size = l.length by simp, hn]
  exact Fr.enter l (N - l.length) (by omega)
theorem enterD {f : FuncId} {fn : Func} {c : Code} {l : List Value} {R : Ending → World → Prop} (hf : P.funcs[f]? = some fn) (hb : fn.body = some c) (hn : fn.ntmps = N) (hl : l.length ≤ N)
    (h : ∀ a, Fr a N (enum 0 l) → c.wp P (bodyPostD P fn R) a w) : Calls P f l.toArray w R := by
  refine calls_of_wp_defers hf hb ?_
  refine h _ ?_
  rw [show l.toArray.size = l.length by simp, hn]
  exact Fr.enter l (N - l.length) (by omega)
theorem s_rec_yes (F : Fr a N L D) (ho : ops[i]? = some o) (hg : o.guard = none) (hd : o.dst = some d) (hN : d < N) (hr : (execOp a.eval o).run P w = .ok .recover w) (hrec : recoverD cs = some (v, cs'))
    (k : ∀ a', Fr a' N ((d, v) :: L) D → wpOpsS P ops Q rest a' cs' w) : wpOpsS P ops Q (i :: rest) a cs w := by
  unfold wpOpsS
  simp only [ho]
  rw [if_pos (by simp [Region.wanted, hg]), hr]
  simp only [hrec]
  rw [hd]; exact k _ (F.put v hN)
theorem s_rec_no (F : Fr a N L D) (ho : ops[i]? = some o) (hg : o.guard = none) (hd : o.dst = some d) (hN : d < N) (hr : (execOp a.eval o).run P w = .ok .recover w) (hrec : recoverD cs = none)
    (k : ∀ a', Fr a' N ((d, .nilIface) :: L) D → wpOpsS P ops Q rest a' cs w) : wpOpsS P ops Q (i :: rest) a cs w := by
  unfold wpOpsS
  simp only [ho]
  rw [if_pos (by simp [Region.wanted, hg]), hr]
  simp only [hrec]
  rw [hd]; exact k _ (F.put .nilIface hN)
theorem s_val (F : Fr a N L D) (ho : ops[i]? = some o) (hg : o.guard = none) (hd : o.dst = some d) (hN : d < N) (hr : (execOp a.eval o).run P w = .ok (.value v) w')
    (k : ∀ a', Fr a' N ((d, v) :: L) D → wpOpsS P ops Q rest a' cs w') : wpOpsS P ops Q (i :: rest) a cs w := by
  unfold wpOpsS
  simp only [ho]
  rw [if_pos (by simp [Region.wanted, hg]), hr]
  show wpOpsS P ops Q rest (a.put o.dst v) cs w'
  rw [hd]; exact k _ (F.put v hN)
end
section
variable {P : Program} {a : Act} {N : Nat} {L : List (Nat × Value)} {D : List Deferred} {w w' : World} {v : Value} {x y : Operand} {d : Option Tmp} {t ty : TypeId} {pos : String} {af : Array Edge} {gd : Option (Nat × Bool)}
theorem r_recover (a : Act) {ats : Array TypeId} : (execOp a.eval { dst := d, op := .call { callee := .builtin .recover, args := #[], argTypes := ats }, type := ty, pos := pos, after := af, guard := gd }).run P w = .ok .recover w := by
  simp [execOp, resolve, invoke, builtin]
theorem r_ifneq_t (F : Fr a N L D) {t1 yt : TypeId} {u : Value} (hu : P.underlying t = some (.interface (P.methodsAt t))) (hx : ev L x = some (.iface t1 u)) : (execOp a.eval { dst := d, op := .binOp .neq t x (.const .nilIface) yt, type := ty, pos := pos, after := af, guard := gd }).run P w = .ok (.value (.bool true)) w := by
  have h := run_equal_held_nil (P := P) w t t1 u hu
  have e : a.eval (.const .nilIface) = .nilIface := rfl
  simp [execOp, F.ev hx, e, binOp, eqGuard, h]
theorem r_ifneq_f (F : Fr a N L D) {yt : TypeId} (hu : P.underlying t = some (.interface (P.methodsAt t))) (hx : ev L x = some .nilIface) : (execOp a.eval { dst := d, op := .binOp .neq t x (.const .nilIface) yt, type := ty, pos := pos, after := af, guard := gd }).run P w = .ok (.value (.bool false)) w := by
  have h := run_equal_nil_nil (P := P) w t hu
  have e : a.eval (.const .nilIface) = .nilIface := rfl
  simp [execOp, F.ev hx, e, binOp, eqGuard, h]
theorem r_callv (F : Fr a N L D) {f : FuncId} {fn : Func} {fst cp : Array Value} {ats : Array TypeId} (hf : P.funcs[f]? = some fn) (hb : fn.body.isNone = false) (hn : (fn.name == "runtime.NumGoroutine") = false) (hx : ev L x = some (.func (.func f) fst cp)) :
    (execOp a.eval { dst := d, op := .call { callee := .value x, args := #[], argTypes := ats }, type := ty, pos := pos, after := af, guard := gd }).run P w = .ok (.enter f (fst ++ cp)) w := by
  have hn' : ¬ fn.name = "runtime.NumGoroutine" := by simpa using hn
  have hb' : ¬ fn.body = none := by intro q; rw [q] at hb; cases hb
  simp [execOp, resolve, Deferred.ofValue, F.ev hx, invoke, callFunc, hf, hb', hn']
theorem r_defer (F : Fr a N L D) {f : FuncId} {fst cp : Array Value} {ats : Array TypeId} (hx : ev L x = some (.func (.func f) fst cp)) :
    (execOp a.eval { dst := d, op := .defer { callee := .value x, args := #[], argTypes := ats }, type := ty, pos := pos, after := af, guard := gd }).run P w = .ok (.defer { target := .fn (.func f) cp, args := fst }) w := by
  simp [execOp, resolve, Deferred.ofValue, F.ev hx]
theorem p_defer {ops : Array Oper} {Q : Exit → Act → World → Prop} {rest : List Oper} {o : Oper} {df : Deferred} (F : Fr a N L D) (hg : o.guard = none) (hd : o.dst = none) (hr : (execOp a.eval o).run P w = .ok (.defer df) w)
    (k : ∀ a', Fr a' N L (df :: D) → wpList P ops Q rest a' w) : wpList P ops Q (o :: rest) a w :=
  p_upon hg hr (by
    show wpList P ops Q rest ({ a with defers := df :: a.defers }.put o.dst undef) w
    rw [hd]; exact k _ ⟨by show df :: a.defers = df :: D; rw [F.dfr], F.size, F.get⟩)
theorem resR1 {fn : Func} {r1 : ResultVar} {v1 : Value} (F : Fr a N L D) (hr : fn.results = #[r1]) (h1 : RV P L w r1 v1) : (results fn a.tmps).run P w = .ok v1 w := by
  have e1 := h1.run F
  show Sem.run P (results fn a.tmps) w = _
  unfold results; rw [hr]
  change Sem.run P ((do let vs ← #[r1].mapM (rvS a.tmps); pure (if h : vs.size = 1 then vs[0] else .tuple vs)) : Sem Value) w = _
  simp [e1]
theorem leaves1 {fn : Func} {r1 : ResultVar} {v1 : Value} {R : Ending → World → Prop} (F : Fr a N L D) (hr : fn.results = #[r1]) (h1 : RV P L w r1 v1) (h : R (.returned v1) w) : Leaves P fn a.tmps R [] .returning w := ⟨v1, resR1 F hr h1, h⟩
theorem invoke_fn {f : FuncId} {fn : Func} {cp args : Array Value} (hf : P.funcs[f]? = some fn) (hb : fn.body.isNone = false) (hn : (fn.name == "runtime.NumGoroutine") = false) : (invoke (.fn (.func f) cp) args).run P w = .ok (.enter f (args ++ cp)) w := by
  have hn' : ¬ fn.name = "runtime.NumGoroutine" := by simpa using hn
  have hb' : ¬ fn.body = none := by intro q; rw [q] at hb; cases hb
  simp [invoke, callFunc, hf, hb', hn']
end
def Rcv (j jv : Nat) (c : Nat → Nat) (w : World) (p : Option Addr) (qv : Addr) (rd : Rdr) (x : Value) (w' : World) : Prop :=
  Ev (fun x => x = j ∨ x = jv) c w c w' ∧ w'.heap.size = w.heap.size ∧ RD j c w' p (some rd) ∧ AT true jv c w' qv [x]
set_option maxHeartbeats 2000000 in
theorem catchP_u64 {c : Nat → Nat} {w : World} {j jb jz jv : Nat} {ad q1 qz qv : Addr} {r : Rdr} {z v0 : Value} (hj : 0 < j) (h : RD j c w (some ad) (some r)) (h1 : AT true jb c w q1 [.pointer (some ad)]) (hz : AT true jz c w qz [z]) (hv : AT true jv c w qv [v0])
    (n1 : jb ≠ j) (n2 : jz ≠ j) (n3 : jv ≠ j) (n4 : 0 < jv) (hone : z.oneCell' = true) (t : TypeId) (u : Value) (older : List PanicEntry) :
    CallsD Try.prog 82 #[.pointer (some q1), .pointer (some qz), .pointer (some qv)] (.panicking ({ v := .iface t u, recovered := false } :: older)) w fun e u' w' =>
      e = .returned (.tuple #[]) ∧ u' = .panicking ({ v := .iface t u, recovered := true } :: older) ∧ Rcv j jv c w (some ad) qv ⟨r.left, r.outer, 10⟩ z w' := by
  refine enterS (N := 16) (l := [.pointer (some q1), .pointer (some qz), .pointer (some qv)]) Try.func82 rfl rfl (Nat.le_of_ble_eq_true rfl) fun c₀ cs hu a F => ?_
  refine wpS_seq ?_
  refine wpS_seq ?_
  refine wpS_region ?_
  refine s_rec_yes F rfl rfl rfl (by decide) (r_recover a) (v := .iface t u) (cs' := { c₀ with mode := .panicking ({ v := .iface t u, recovered := true } :: older) } :: cs) (by simp [recoverD, hu]) fun a F => ?_
  refine s_val F rfl rfl rfl (by decide) (r_assign F rfl) fun a F => ?_
  show Code.wpS _ _ _ _ _ _
  refine wpS_of_wp ?_
  obtain ⟨ad', A1, C1, A2, C2, e0, hat, hl, ho⟩ := RD.some h
  cases e0
  have m0 : ¬ ((0 : Nat) = j) := by omega
  refine wp_seq_k fun K2 hK2 => ?_
  refine reg ?_
  refine q_val F rfl rfl (by decide) (r_move F rfl) fun a F => ?_
  refine q_val F rfl rfl (by decide) (r_ifneq_t F (by kernel_rfl) rfl) fun a F => ?_
  refine nil ?_
  refine hK2 _ _ ?_
  refine wp_cond_true (F.ev rfl) ?_
  refine reg ?_
  refine q_val F rfl rfl (by decide) (r_load F rfl lag_rd (AT.cell0 h1 rfl)) fun a F => ?_
  refine q_val F rfl rfl (by decide) (r_nil F rfl) fun a F => ?_
  refine q_val F rfl rfl (by decide) (r_fieldAddr F rfl ff_112_2) fun a F => ?_
  refine q_eff0 F rfl rfl (e_store F rfl rfl sz_29 hat (by simp) rfl) ?_
  rintro w2 a ⟨E2, hat2, hz2⟩ F
  refine nil ?_
  show Code.wpS _ _ _ _ _ _
  refine wpS_of_wp ?_
  refine wp_seq_k fun K3 hK3 => ?_
  refine reg ?_
  refine q_val F rfl rfl (by decide) (r_load F rfl lag_rd (AT.cell0 (h1.ev E2 n1) rfl)) fun a F => ?_
  refine q_val F rfl rfl (by decide) (r_nil F rfl) fun a F => ?_
  refine q_val F rfl rfl (by decide) (r_fieldAddr F rfl ff_112_2) fun a F => ?_
  refine q_val F rfl rfl (by decide) (r_load F rfl ag_29 (AT.cell hat2 rfl)) fun a F => ?_
  refine q_val F rfl rfl (by decide) (r_neq F rfl rfl) fun a F => ?_
  refine nil ?_
  refine hK3 _ _ ?_
  refine wp_cond_true (F.ev rfl) ?_
  refine reg ?_
  refine q_val F rfl rfl (by decide) (r_load F rfl lag_u64 (AT.cell0 (hz.ev E2 n2) rfl)) fun a F => ?_
  refine q_eff0 F rfl rfl (e_store0 F rfl rfl lsz_u64 (hv.ev E2 n3) (by simp) hone) ?_
  rintro w3 a ⟨E3, hat3, hz3⟩ F
  refine nil ?_
  have n5 : ¬ (j = jv) := fun q => n3 q.symm
  have m1 : ¬ ((0 : Nat) = jv) := by omega
  refine ⟨F.dfr, _, rfl, .tuple #[], results_none rfl _ _ _, rfl, rfl, ?_⟩
  exact ⟨(E2.mono (fun _ q => Or.inl q)).trans (E3.mono (M' := fun x => x = j ∨ x = jv) (fun _ q => Or.inr q)) (fun _ q => q), by rw [hz3, hz2], RD.mk (t := ⟨r.left, r.outer, 10⟩) (hat2.ev E3 n5) ((hl.ev E2 m0 m0).ev E3 m1 m1) ((ho.ev E2 m0 m0).ev E3 m1 m1), hat3⟩
set_option maxHeartbeats 2000000 in
theorem catchR_u64 {c : Nat → Nat} {w : World} {j jb jz jv : Nat} {ad q1 qz qv : Addr} {r : Rdr} {z v0 : Value} (hj : 0 < j) (h : RD j c w (some ad) (some r)) (h1 : AT true jb c w q1 [.pointer (some ad)]) (hz : AT true jz c w qz [z]) (hv : AT true jv c w qv [v0])
    (n1 : jb ≠ j) (n2 : jz ≠ j) (n3 : jv ≠ j) (n4 : 0 < jv) (hone : z.oneCell' = true) :
    CallsD Try.prog 82 #[.pointer (some q1), .pointer (some qz), .pointer (some qv)] .returning w fun e u' w' =>
      e = .returned (.tuple #[]) ∧ u' = .returning ∧ Rcv j jv c w (some ad) qv r (if r.fault = 0 then v0 else z) w' := by
  refine enterS (N := 16) (l := [.pointer (some q1), .pointer (some qz), .pointer (some qv)]) Try.func82 rfl rfl (Nat.le_of_ble_eq_true rfl) fun c₀ cs hu a F => ?_
  refine wpS_seq ?_
  refine wpS_seq ?_
  refine wpS_region ?_
  refine s_rec_no F rfl rfl rfl (by decide) (r_recover a) (by simp [recoverD, hu]) fun a F => ?_
  refine s_val F rfl rfl rfl (by decide) (r_assign F rfl) fun a F => ?_
  show Code.wpS _ _ _ _ _ _
  refine wpS_of_wp ?_
  obtain ⟨ad', A1, C1, A2, C2, e0, hat, hl, ho⟩ := RD.some h
  cases e0
  have m1 : ¬ ((0 : Nat) = jv) := by omega
  have n5 : ¬ (j = jv) := fun q => n3 q.symm
  have hc0 : ({ c₀ with mode := .returning } : Frame) = c₀ := by cases c₀; simp_all
  refine wp_seq_k fun K2 hK2 => ?_
  refine reg ?_
  refine q_val F rfl rfl (by decide) (r_move F rfl) fun a F => ?_
  refine q_val F rfl rfl (by decide) (r_ifneq_f F (by kernel_rfl) rfl) fun a F => ?_
  refine nil ?_
  refine hK2 _ _ ?_
  refine wp_cond_false (F.ev rfl) ?_
  refine wp_skip ?_
  show Code.wpS _ _ _ _ _ _
  refine wpS_of_wp ?_
  refine wp_seq_k fun K3 hK3 => ?_
  refine reg ?_
  refine q_val F rfl rfl (by decide) (r_load F rfl lag_rd (AT.cell0 h1 rfl)) fun a F => ?_
  refine q_val F rfl rfl (by decide) (r_nil F rfl) fun a F => ?_
  refine q_val F rfl rfl (by decide) (r_fieldAddr F rfl ff_112_2) fun a F => ?_
  refine q_val F rfl rfl (by decide) (r_load F rfl ag_29 (AT.cell hat rfl)) fun a F => ?_
  refine q_val F rfl rfl (by decide) (r_neq F rfl rfl) fun a F => ?_
  refine nil ?_
  refine hK3 _ _ ?_
  by_cases hf : r.fault = 0
  · refine wp_cond_false ((F.ev rfl).trans (congrArg Value.bool (congrArg not (decide_eq_true hf)))) ?_
    refine wp_skip ?_
    refine ⟨F.dfr, .returning, by rw [hc0], .tuple #[], results_none rfl _ _ _, rfl, rfl, ?_⟩
    rw [if_pos hf]
    exact ⟨Ev.refl, rfl, h, hv⟩
  · refine wp_cond_true ((F.ev rfl).trans (congrArg Value.bool (congrArg not (decide_eq_false hf)))) ?_
    refine reg ?_
    refine q_val F rfl rfl (by decide) (r_load F rfl lag_u64 (AT.cell0 hz rfl)) fun a F => ?_
    refine q_eff0 F rfl rfl (e_store0 F rfl rfl lsz_u64 hv (by simp) hone) ?_
    rintro w3 a ⟨E3, hat3, hz3⟩ F
    refine nil ?_
    refine ⟨F.dfr, .returning, by rw [hc0], .tuple #[], results_none rfl _ _ _, rfl, rfl, ?_⟩
    rw [if_neg hf]
    exact ⟨E3.mono (fun _ q => Or.inr q), hz3, h.ev E3 n5 m1, hat3⟩
set_option maxHeartbeats 2000000 in
theorem catchP_bytes {c : Nat → Nat} {w : World} {j jb jz jv : Nat} {ad q1 qz qv : Addr} {r : Rdr} {z v0 : Value} (hj : 0 < j) (h : RD j c w (some ad) (some r)) (h1 : AT true jb c w q1 [.pointer (some ad)]) (hz : AT true jz c w qz [z]) (hv : AT true jv c w qv [v0])
    (n1 : jb ≠ j) (n2 : jz ≠ j) (n3 : jv ≠ j) (n4 : 0 < jv) (hone : z.oneCell' = true) (t : TypeId) (u : Value) (older : List PanicEntry) :
    CallsD Try.prog 83 #[.pointer (some q1), .pointer (some qz), .pointer (some qv)] (.panicking ({ v := .iface t u, recovered := false } :: older)) w fun e u' w' =>
      e = .returned (.tuple #[]) ∧ u' = .panicking ({ v := .iface t u, recovered := true } :: older) ∧ Rcv j jv c w (some ad) qv ⟨r.left, r.outer, 10⟩ z w' := by
  refine enterS (N := 16) (l := [.pointer (some q1), .pointer (some qz), .pointer (some qv)]) Try.func83 rfl rfl (Nat.le_of_ble_eq_true rfl) fun c₀ cs hu a F => ?_
  refine wpS_seq ?_
  refine wpS_seq ?_
  refine wpS_region ?_
  refine s_rec_yes F rfl rfl rfl (by decide) (r_recover a) (v := .iface t u) (cs' := { c₀ with mode := .panicking ({ v := .iface t u, recovered := true } :: older) } :: cs) (by simp [recoverD, hu]) fun a F => ?_
  refine s_val F rfl rfl rfl (by decide) (r_assign F rfl) fun a F => ?_
  show Code.wpS _ _ _ _ _ _
  refine wpS_of_wp ?_
  obtain ⟨ad', A1, C1, A2, C2, e0, hat, hl, ho⟩ := RD.some h
  cases e0
  have m0 : ¬ ((0 : Nat) = j) := by omega
  refine wp_seq_k fun K2 hK2 => ?_
  refine reg ?_
  refine q_val F rfl rfl (by decide) (r_move F rfl) fun a F => ?_
  refine q_val F rfl rfl (by decide) (r_ifneq_t F (by kernel_rfl) rfl) fun a F => ?_
  refine nil ?_
  refine hK2 _ _ ?_
  refine wp_cond_true (F.ev rfl) ?_
  refine reg ?_
  refine q_val F rfl rfl (by decide) (r_load F rfl lag_rd (AT.cell0 h1 rfl)) fun a F => ?_
  refine q_val F rfl rfl (by decide) (r_nil F rfl) fun a F => ?_
  refine q_val F rfl rfl (by decide) (r_fieldAddr F rfl ff_112_2) fun a F => ?_
  refine q_eff0 F rfl rfl (e_store F rfl rfl sz_29 hat (by simp) rfl) ?_
  rintro w2 a ⟨E2, hat2, hz2⟩ F
  refine nil ?_
  show Code.wpS _ _ _ _ _ _
  refine wpS_of_wp ?_
  refine wp_seq_k fun K3 hK3 => ?_
  refine reg ?_
  refine q_val F rfl rfl (by decide) (r_load F rfl lag_rd (AT.cell0 (h1.ev E2 n1) rfl)) fun a F => ?_
  refine q_val F rfl rfl (by decide) (r_nil F rfl) fun a F => ?_
  refine q_val F rfl rfl (by decide) (r_fieldAddr F rfl ff_112_2) fun a F => ?_
  refine q_val F rfl rfl (by decide) (r_load F rfl ag_29 (AT.cell hat2 rfl)) fun a F => ?_
  refine q_val F rfl rfl (by decide) (r_neq F rfl rfl) fun a F => ?_
  refine nil ?_
  refine hK3 _ _ ?_
  refine wp_cond_true (F.ev rfl) ?_
  refine reg ?_
  refine q_val F rfl rfl (by decide) (r_load F rfl lag_bytes (AT.cell0 (hz.ev E2 n2) rfl)) fun a F => ?_
  refine q_eff0 F rfl rfl (e_store0 F rfl rfl lsz_bytes (hv.ev E2 n3) (by simp) hone) ?_
  rintro w3 a ⟨E3, hat3, hz3⟩ F
  refine nil ?_
  have n5 : ¬ (j = jv) := fun q => n3 q.symm
  have m1 : ¬ ((0 : Nat) = jv) := by omega
  refine ⟨F.dfr, _, rfl, .tuple #[], results_none rfl _ _ _, rfl, rfl, ?_⟩
  exact ⟨(E2.mono (fun _ q => Or.inl q)).trans (E3.mono (M' := fun x => x = j ∨ x = jv) (fun _ q => Or.inr q)) (fun _ q => q), by rw [hz3, hz2], RD.mk (t := ⟨r.left, r.outer, 10⟩) (hat2.ev E3 n5) ((hl.ev E2 m0 m0).ev E3 m1 m1) ((ho.ev E2 m0 m0).ev E3 m1 m1), hat3⟩
set_option maxHeartbeats 2000000 in
theorem catchR_bytes {c : Nat → Nat} {w : World} {j jb jz jv : Nat} {ad q1 qz qv : Addr} {r : Rdr} {z v0 : Value} (hj : 0 < j) (h : RD j c w (some ad) (some r)) (h1 : AT true jb c w q1 [.pointer (some ad)]) (hz : AT true jz c w qz [z]) (hv : AT true jv c w qv [v0])
    (n1 : jb ≠ j) (n2 : jz ≠ j) (n3 : jv ≠ j) (n4 : 0 < jv) (hone : z.oneCell' = true) :
    CallsD Try.prog 83 #[.pointer (some q1), .pointer (some qz), .pointer (some qv)] .returning w fun e u' w' =>
      e = .returned (.tuple #[]) ∧ u' = .returning ∧ Rcv j jv c w (some ad) qv r (if r.fault = 0 then v0 else z) w' := by
  refine enterS (N := 16) (l := [.pointer (some q1), .pointer (some qz), .pointer (some qv)]) Try.func83 rfl rfl (Nat.le_of_ble_eq_true rfl) fun c₀ cs hu a F => ?_
  refine wpS_seq ?_
  refine wpS_seq ?_
  refine wpS_region ?_
  refine s_rec_no F rfl rfl rfl (by decide) (r_recover a) (by simp [recoverD, hu]) fun a F => ?_
  refine s_val F rfl rfl rfl (by decide) (r_assign F rfl) fun a F => ?_
  show Code.wpS _ _ _ _ _ _
  refine wpS_of_wp ?_
  obtain ⟨ad', A1, C1, A2, C2, e0, hat, hl, ho⟩ := RD.some h
  cases e0
  have m1 : ¬ ((0 : Nat) = jv) := by omega
  have n5 : ¬ (j = jv) := fun q => n3 q.symm
  have hc0 : ({ c₀ with mode := .returning } : Frame) = c₀ := by cases c₀; simp_all
  refine wp_seq_k fun K2 hK2 => ?_
  refine reg ?_
  refine q_val F rfl rfl (by decide) (r_move F rfl) fun a F => ?_
  refine q_val F rfl rfl (by decide) (r_ifneq_f F (by kernel_rfl) rfl) fun a F => ?_
  refine nil ?_
  refine hK2 _ _ ?_
  refine wp_cond_false (F.ev rfl) ?_
  refine wp_skip ?_
  show Code.wpS _ _ _ _ _ _
  refine wpS_of_wp ?_
  refine wp_seq_k fun K3 hK3 => ?_
  refine reg ?_
  refine q_val F rfl rfl (by decide) (r_load F rfl lag_rd (AT.cell0 h1 rfl)) fun a F => ?_
  refine q_val F rfl rfl (by decide) (r_nil F rfl) fun a F => ?_
  refine q_val F rfl rfl (by decide) (r_fieldAddr F rfl ff_112_2) fun a F => ?_
  refine q_val F rfl rfl (by decide) (r_load F rfl ag_29 (AT.cell hat rfl)) fun a F => ?_
  refine q_val F rfl rfl (by decide) (r_neq F rfl rfl) fun a F => ?_
  refine nil ?_
  refine hK3 _ _ ?_
  by_cases hf : r.fault = 0
  · refine wp_cond_false ((F.ev rfl).trans (congrArg Value.bool (congrArg not (decide_eq_true hf)))) ?_
    refine wp_skip ?_
    refine ⟨F.dfr, .returning, by rw [hc0], .tuple #[], results_none rfl _ _ _, rfl, rfl, ?_⟩
    rw [if_pos hf]
    exact ⟨Ev.refl, rfl, h, hv⟩
  · refine wp_cond_true ((F.ev rfl).trans (congrArg Value.bool (congrArg not (decide_eq_false hf)))) ?_
    refine reg ?_
    refine q_val F rfl rfl (by decide) (r_load F rfl lag_bytes (AT.cell0 hz rfl)) fun a F => ?_
    refine q_eff0 F rfl rfl (e_store0 F rfl rfl lsz_bytes hv (by simp) hone) ?_
    rintro w3 a ⟨E3, hat3, hz3⟩ F
    refine nil ?_
    refine ⟨F.dfr, .returning, by rw [hc0], .tuple #[], results_none rfl _ _ _, rfl, rfl, ?_⟩
    rw [if_neg hf]
    exact ⟨E3.mono (fun _ q => Or.inr q), hz3, h.ev E3 n5 m1, hat3⟩
def takeF {α : Type} (z : α) (a1 : Option Rdr) (X : Rdr → (List Int × Int) ⊕ (α × List Int × Int)) : α × Option Rdr := match a1 with
  | none => (z, none)
  | some r => if r.fault = 0 then rtake z r (X r) else (z, some r)
set_option maxRecDepth 100000 in
set_option maxHeartbeats 4000000 in
theorem take_calls_u64 {m : Nat} {c0 : Nat → Nat} {w0 : World} {j : Nat} {p : Option Addr} {a1 : Option Rdr} {f : FuncId} {fn : Func} {fst cp : Array Value} {X : Rdr → (List Int × Int) ⊕ (Int × List Int × Int)} (B0 : CB m c0 w0) (h : RD j c0 w0 p a1) (hj : 0 < j ∧ j < m)
    (hf : Try.prog.funcs[f]? = some fn) (hfb : fn.body.isNone = false) (hfn : (fn.name == "runtime.NumGoroutine") = false)
    (hcl : ∀ r, a1 = some r → r.fault = 0 → ∀ c1 w1, Ev No c0 w0 c1 w1 → CB (m + 3) c1 w1 → RD j c1 w1 p (some r) → Calls Try.prog f (fst ++ cp) w1 (RX (m + 4) j c1 w1 p r.outer (X r) (retI .u64))) :
    Calls Try.prog 67 #[.pointer p, .func (.func f) fst cp] w0 (fun e w_ => ∃ c_, Ev (fun x => x = j) c0 w0 c_ w_ ∧ CB (m + 4) c_ w_ ∧ (∃ v, e = .returned v ∧ (retI .u64) (takeF 0 a1 X).1 c_ w_ v) ∧ RD j c_ w_ p (takeF 0 a1 X).2) := by
  refine enterD (N := 19) (l := [.pointer p, .func (.func f) fst cp]) Try.func67 rfl rfl (Nat.le_of_ble_eq_true rfl) fun a F => ?_
  refine wp_seq_k fun K1 hK1 => ?_
  refine reg ?_
  refine q_eff F rfl rfl (by decide) (e_box F rfl c0 m) ?_
  rintro v w1 a ⟨c1, qb, rfl, E1, hb1, M1⟩ F
  have hb1 : AT true m c1 w1 qb [.pointer p] := hb1
  have B1 : CB (m + 4) c1 w1 := M1 _ (B0.mono (by omega)) (by omega)
  refine q_eff F rfl rfl (by decide) (e_alloc F lzv_u64 c1 (m + 1)) ?_
  rintro v w2 a ⟨c2, qv, rfl, E2, hv2, M2⟩ F
  have hv2 : AT true (m + 1) c2 w2 qv [.int .u64 0] := hv2
  have B2 : CB (m + 4) c2 w2 := M2 _ B1 (by omega)
  refine nil ?_
  refine hK1 _ _ ?_
  refine wp_seq_k fun K2 hK2 => ?_
  refine reg ?_
  refine q_eff F rfl rfl (by decide) (e_alloc F lzv_u64 c2 (m + 2)) ?_
  rintro v w3 a ⟨c3, qz, rfl, E3, hz3, M3⟩ F
  have hz3 : AT true (m + 2) c3 w3 qz [.int .u64 0] := hz3
  have B3 : CB (m + 3) c3 w3 := M3 _ (M2 _ (M1 _ (B0.mono (by omega)) (by omega)) (by omega)) (by omega)
  have no : ∀ x, ¬ No x := fun x q => q
  have hb3 : AT true m c3 w3 qb [.pointer p] := (hb1.ev E2 (no _)).ev E3 (no _)
  have hv3 : AT true (m + 1) c3 w3 qv [.int .u64 0] := hv2.ev E3 (no _)
  have E : Ev No c0 w0 c3 w3 := (E1.trans E2 (fun _ q => q)).trans E3 (fun _ q => q)
  have hR : RD j c3 w3 p a1 := h.ev E (no _) (no _)
  clear E1 E2 E3 hb1 hv2 B1 B2 M1 M2 M3
  have EX : Ev (fun x => x = j ∨ m ≤ x) c0 w0 c3 w3 := E.mono (fun _ q => q.elim)
  refine nil ?_
  refine hK2 _ _ ?_
  refine wp_seq_k fun K3 hK3 => ?_
  refine wp_seq_k fun K4 hK4 => ?_
  -- nothing is read
  have early : ∀ a, Fr a 19 [(4, .pointer (some qv)), (5, .pointer (some qz)), (14, .bool true)] → takeF 0 a1 X = (0, a1) → K4 a w3 := by
    intro a F ht
    refine hK4 _ _ ?_
    refine wp_cond_true (F.ev rfl) ?_
    refine wp_seq_k fun K5 hK5 => ?_
    refine reg ?_
    refine q_val F rfl rfl (by decide) (r_load F rfl lag_u64 (AT.cell0 hz3 rfl)) fun a F => ?_
    refine q_eff0 F rfl rfl (e_store0 F rfl rfl lsz_u64 hv3 (by simp) rfl) ?_
    rintro w4 a ⟨E4, hv4, hs4⟩ F
    refine nil ?_
    refine hK5 _ _ ?_
    refine wp_ret ?_
    repeat (first | refine thenR ?_ | refine inbR ?_)
    show Leaves _ _ _ _ _ _ _
    rw [F.dfr]
    refine leaves1 F rfl ⟨qv, rfl, lv_one lag_u64 (AT.cell0 hv4 rfl)⟩ ?_
    refine ⟨c3, (EX.trans (E4.mono (M' := fun x => x = j ∨ m ≤ x) (fun x q => Or.inr (by omega))) (fun _ q => q)).leave B0 id (fun _ _ => rfl), (B3.size hs4).mono (by omega), ⟨_, rfl, ?_⟩, ?_⟩
    · rw [ht]; exact rfl
    · rw [ht]; exact hR.ev E4 (by omega) (by omega)
  refine reg ?_
  refine q_val F rfl rfl (by decide) (r_load F rfl lag_rd (AT.cell0 hb3 rfl)) fun a F => ?_
  refine q_val F rfl rfl (by decide) (r_peqlA F Try.underlying88 rfl rfl (RD.isNone hR)) fun a F => ?_
  refine q_val F rfl rfl (by decide) (r_move F rfl) fun a F => ?_
  cases a1 with
  | none =>
    refine q_no F rfl (by decide) rfl rfl (by decide) fun a F => ?_
    refine q_no F rfl (by decide) rfl rfl (by decide) fun a F => ?_
    refine q_no F rfl (by decide) rfl rfl (by decide) fun a F => ?_
    refine q_no F rfl (by decide) rfl rfl (by decide) fun a F => ?_
    refine q_no F rfl (by decide) rfl rfl (by decide) fun a F => ?_
    refine q_val F rfl rfl (by decide) (r_pick_t F rfl rfl rfl) fun a F => ?_
    refine nil ?_
    exact early a (F.sub ⟨rfl, rfl, rfl, trivial⟩) rfl
  | some r =>
    obtain ⟨ad, A1, C1, A2, C2, rfl, hat, hl, ho⟩ := RD.some hR
    refine q_yes F rfl (by decide) rfl rfl ?_
    refine q_val F rfl rfl (by decide) (r_load F rfl lag_rd (AT.cell0 hb3 rfl)) fun a F => ?_
    refine q_yes F rfl (by decide) rfl rfl ?_
    refine q_val F rfl rfl (by decide) (r_nil F rfl) fun a F => ?_
    refine q_yes F rfl (by decide) rfl rfl ?_
    refine q_val F rfl rfl (by decide) (r_fieldAddr F rfl ff_112_2) fun a F => ?_
    refine q_yes F rfl (by decide) rfl rfl ?_
    refine q_val F rfl rfl (by decide) (r_load F rfl ag_29 (AT.cell hat rfl)) fun a F => ?_
    refine q_yes F rfl (by decide) rfl rfl ?_
    refine q_val F rfl rfl (by decide) (r_neq F rfl rfl) fun a F => ?_
    refine q_val F rfl rfl (by decide) (r_pick_f F rfl rfl rfl) fun a F => ?_
    refine nil ?_
    by_cases hft : r.fault = 0
    · rw [decide_eq_true hft] at F
      refine hK4 _ _ ?_
      refine wp_cond_false (F.ev rfl) ?_
      refine wp_skip ?_
      refine hK3 _ _ ?_
      have htk : takeF 0 (some r) X = rtake 0 r (X r) := by unfold takeF; simp only [if_pos hft]
      rw [htk]
      refine wp_seq_k fun K5 hK5 => ?_
      refine preg ?_
      refine p_val F rfl rfl (by decide) (r_makeFunc (vs := [.pointer (some qb), .pointer (some qz), .pointer (some qv)]) F rfl) fun a F => ?_
      refine p_defer F rfl rfl (r_defer F rfl) fun a F => ?_
      refine pnil ?_
      refine hK5 _ _ ?_
      refine wp_seq_k fun K6 hK6 => ?_
      refine preg ?_
      refine p_val F rfl rfl (by decide) (r_move F rfl) fun a F => ?_
      refine p_call F rfl rfl (by decide) (r_callv F hf hfb hfn rfl) (hcl r rfl hft c3 w3 E B3 hR) ?_
      rintro e w4 ⟨c4, E4, B4, hx⟩
      have hb4 := hb3.ev E4 (show ¬ m = j by omega)
      have hv4 := hv3.ev E4 (show ¬ m + 1 = j by omega)
      have hz4 := hz3.ev E4 (show ¬ m + 2 = j by omega)
      generalize hXr : X r = res at hx
      match res with
      | .inl (l, ft) =>
        right
        obtain ⟨⟨t, u, rfl⟩, hR4⟩ := hx
        refine ⟨_, rfl, fun a F => ?_⟩
        repeat (first | refine thenP ?_ | refine inbP ?_)
        show Leaves _ _ _ _ _ _ _
        rw [F.dfr]
        refine leaves_cons (f := 82) (args := #[.pointer (some qb), .pointer (some qz), .pointer (some qv)]) (by simp) (invoke_fn (args := #[]) Try.func82 rfl rfl) ?_
        refine (catchP_u64 (jb := m) (jz := m + 2) (jv := m + 1) hj.1 hR4 hb4 hz4 hv4 (by omega) (by omega) (by omega) (by omega) rfl t u []).mono ?_
        rintro e u' w6 ⟨rfl, rfl, E6, hs6, hR6, hv6⟩
        show Leaves _ _ _ _ _ .returning _
        refine leaves1 F rfl ⟨qv, rfl, lv_one lag_u64 (AT.cell0 hv6 rfl)⟩ ?_
        refine ⟨c4, ((EX.trans (E4.mono (M' := fun x => x = j ∨ m ≤ x) (fun x q => Or.inl q)) (fun _ q => q)).trans (E6.mono (M' := fun x => x = j ∨ m ≤ x) (fun x q => q.elim (fun q => Or.inl q) (fun q => Or.inr (by omega)))) (fun _ q => q)).leave B0 id (fun _ _ => rfl), B4.size hs6, ⟨_, rfl, ?_⟩, hR6⟩
        exact rfl
      | .inr (x, l, ft) =>
        left
        obtain ⟨⟨v, rfl, hv⟩, hR4⟩ := hx
        have hone : v.oneCell' = true := by cases (show v = .int .u64 x from hv); rfl
        refine ⟨v, rfl, fun a F => ?_⟩
        refine p_eff0 F rfl rfl (e_store0 F rfl rfl lsz_u64 hv4 (by simp) hone) ?_
        rintro w5 a ⟨E5, hv5, hs5⟩ F
        have hv5 : AT true (m + 1) c4 w5 qv [v] := hv5
        refine pnil ?_
        refine hK6 _ _ ?_
        refine wp_ret ?_
        repeat (first | refine thenR ?_ | refine inbR ?_)
        show Leaves _ _ _ _ _ _ _
        rw [F.dfr]
        refine leaves_cons (f := 82) (args := #[.pointer (some qb), .pointer (some qz), .pointer (some qv)]) (by simp) (invoke_fn (args := #[]) Try.func82 rfl rfl) ?_
        refine (catchR_u64 (jb := m) (jz := m + 2) (jv := m + 1) hj.1 (hR4.ev E5 (by omega) (by omega)) (hb4.ev E5 (by omega)) (hz4.ev E5 (by omega)) hv5 (by omega) (by omega) (by omega) (by omega) rfl).mono ?_
        rintro e u' w6 ⟨rfl, rfl, E6, hs6, hR6, hv6⟩
        show Leaves _ _ _ _ _ .returning _
        refine leaves1 F rfl ⟨qv, rfl, lv_one lag_u64 (AT.cell0 hv6 rfl)⟩ ?_
        rw [hXr]
        have ET : Ev (fun x => x = j) c0 w0 c4 w6 := (((EX.trans (E4.mono (M' := fun x => x = j ∨ m ≤ x) (fun x q => Or.inl q)) (fun _ q => q)).trans (E5.mono (M' := fun x => x = j ∨ m ≤ x) (fun x q => Or.inr (by omega))) (fun _ q => q)).trans (E6.mono (M' := fun x => x = j ∨ m ≤ x) (fun x q => q.elim (fun q => Or.inl q) (fun q => Or.inr (by omega)))) (fun _ q => q)).leave B0 id (fun _ _ => rfl)
        by_cases hq : ft = 0
        · rw [if_pos (show (⟨l, r.outer, ft⟩ : Rdr).fault = 0 from hq)]
          refine ⟨c4, ET, (B4.size hs5).size hs6, ⟨_, rfl, ?_⟩, ?_⟩
          · show (retI .u64) (rtake 0 r (.inr (x, l, ft))).1 c4 w6 v
            unfold rtake; simp only [if_pos hq]
            exact hv
          · unfold rtake; simp only [if_pos hq]; exact hR6
        · rw [if_neg (show ¬ (⟨l, r.outer, ft⟩ : Rdr).fault = 0 from hq)]
          refine ⟨c4, ET, (B4.size hs5).size hs6, ⟨_, rfl, ?_⟩, ?_⟩
          · show (retI .u64) (rtake 0 r (.inr (x, l, ft))).1 c4 w6 _
            unfold rtake; simp only [if_neg hq]
            exact rfl
          · unfold rtake; simp only [if_neg hq]; exact hR6
    · rw [decide_eq_false hft] at F
      exact early a (F.sub ⟨rfl, rfl, rfl, trivial⟩) (by unfold takeF; simp only [if_neg hft])
set_option maxRecDepth 100000 in
set_option maxHeartbeats 4000000 in
theorem take_calls_bytes {m : Nat} {c0 : Nat → Nat} {w0 : World} {j : Nat} {p : Option Addr} {a1 : Option Rdr} {f : FuncId} {fn : Func} {fst cp : Array Value} {X : Rdr → (List Int × Int) ⊕ (List Int × List Int × Int)} (B0 : CB m c0 w0) (h : RD j c0 w0 p a1) (hj : 0 < j ∧ j < m)
    (hf : Try.prog.funcs[f]? = some fn) (hfb : fn.body.isNone = false) (hfn : (fn.name == "runtime.NumGoroutine") = false)
    (hcl : ∀ r, a1 = some r → r.fault = 0 → ∀ c1 w1, Ev No c0 w0 c1 w1 → CB (m + 3) c1 w1 → RD j c1 w1 p (some r) → Calls Try.prog f (fst ++ cp) w1 (RX (m + 4) j c1 w1 p r.outer (X r) (retT (m + 3)))) :
    Calls Try.prog 69 #[.pointer p, .func (.func f) fst cp] w0 (fun e w_ => ∃ c_, Ev (fun x => x = j) c0 w0 c_ w_ ∧ CB (m + 4) c_ w_ ∧ (∃ v, e = .returned v ∧ (retT (m + 3)) (takeF ([] : List Int) a1 X).1 c_ w_ v) ∧ RD j c_ w_ p (takeF ([] : List Int) a1 X).2) := by
  refine enterD (N := 19) (l := [.pointer p, .func (.func f) fst cp]) Try.func69 rfl rfl (Nat.le_of_ble_eq_true rfl) fun a F => ?_
  refine wp_seq_k fun K1 hK1 => ?_
  refine reg ?_
  refine q_eff F rfl rfl (by decide) (e_box F rfl c0 m) ?_
  rintro v w1 a ⟨c1, qb, rfl, E1, hb1, M1⟩ F
  have hb1 : AT true m c1 w1 qb [.pointer p] := hb1
  have B1 : CB (m + 4) c1 w1 := M1 _ (B0.mono (by omega)) (by omega)
  refine q_eff F rfl rfl (by decide) (e_alloc F lzv_bytes c1 (m + 1)) ?_
  rintro v w2 a ⟨c2, qv, rfl, E2, hv2, M2⟩ F
  have hv2 : AT true (m + 1) c2 w2 qv [.slice none 0 0] := hv2
  have B2 : CB (m + 4) c2 w2 := M2 _ B1 (by omega)
  refine nil ?_
  refine hK1 _ _ ?_
  refine wp_seq_k fun K2 hK2 => ?_
  refine reg ?_
  refine q_eff F rfl rfl (by decide) (e_alloc F lzv_bytes c2 (m + 2)) ?_
  rintro v w3 a ⟨c3, qz, rfl, E3, hz3, M3⟩ F
  have hz3 : AT true (m + 2) c3 w3 qz [.slice none 0 0] := hz3
  have B3 : CB (m + 3) c3 w3 := M3 _ (M2 _ (M1 _ (B0.mono (by omega)) (by omega)) (by omega)) (by omega)
  have no : ∀ x, ¬ No x := fun x q => q
  have hb3 : AT true m c3 w3 qb [.pointer p] := (hb1.ev E2 (no _)).ev E3 (no _)
  have hv3 : AT true (m + 1) c3 w3 qv [.slice none 0 0] := hv2.ev E3 (no _)
  have E : Ev No c0 w0 c3 w3 := (E1.trans E2 (fun _ q => q)).trans E3 (fun _ q => q)
  have hR : RD j c3 w3 p a1 := h.ev E (no _) (no _)
  clear E1 E2 E3 hb1 hv2 B1 B2 M1 M2 M3
  have EX : Ev (fun x => x = j ∨ m ≤ x) c0 w0 c3 w3 := E.mono (fun _ q => q.elim)
  refine nil ?_
  refine hK2 _ _ ?_
  refine wp_seq_k fun K3 hK3 => ?_
  refine wp_seq_k fun K4 hK4 => ?_
  -- nothing is read
  have early : ∀ a, Fr a 19 [(4, .pointer (some qv)), (5, .pointer (some qz)), (14, .bool true)] → takeF ([] : List Int) a1 X = (([] : List Int), a1) → K4 a w3 := by
    intro a F ht
    refine hK4 _ _ ?_
    refine wp_cond_true (F.ev rfl) ?_
    refine wp_seq_k fun K5 hK5 => ?_
    refine reg ?_
    refine q_val F rfl rfl (by decide) (r_load F rfl lag_bytes (AT.cell0 hz3 rfl)) fun a F => ?_
    refine q_eff0 F rfl rfl (e_store0 F rfl rfl lsz_bytes hv3 (by simp) rfl) ?_
    rintro w4 a ⟨E4, hv4, hs4⟩ F
    refine nil ?_
    refine hK5 _ _ ?_
    refine wp_ret ?_
    repeat (first | refine thenR ?_ | refine inbR ?_)
    show Leaves _ _ _ _ _ _ _
    rw [F.dfr]
    refine leaves1 F rfl ⟨qv, rfl, lv_one lag_bytes (AT.cell0 hv4 rfl)⟩ ?_
    refine ⟨c3, (EX.trans (E4.mono (M' := fun x => x = j ∨ m ≤ x) (fun x q => Or.inr (by omega))) (fun _ q => q)).leave B0 id (fun _ _ => rfl), (B3.size hs4).mono (by omega), ⟨_, rfl, ?_⟩, ?_⟩
    · rw [ht]; exact ⟨none, 0, rfl, SL.nil⟩
    · rw [ht]; exact hR.ev E4 (by omega) (by omega)
  refine reg ?_
  refine q_val F rfl rfl (by decide) (r_load F rfl lag_rd (AT.cell0 hb3 rfl)) fun a F => ?_
  refine q_val F rfl rfl (by decide) (r_peqlA F Try.underlying88 rfl rfl (RD.isNone hR)) fun a F => ?_
  refine q_val F rfl rfl (by decide) (r_move F rfl) fun a F => ?_
  cases a1 with
  | none =>
    refine q_no F rfl (by decide) rfl rfl (by decide) fun a F => ?_
    refine q_no F rfl (by decide) rfl rfl (by decide) fun a F => ?_
    refine q_no F rfl (by decide) rfl rfl (by decide) fun a F => ?_
    refine q_no F rfl (by decide) rfl rfl (by decide) fun a F => ?_
    refine q_no F rfl (by decide) rfl rfl (by decide) fun a F => ?_
    refine q_val F rfl rfl (by decide) (r_pick_t F rfl rfl rfl) fun a F => ?_
    refine nil ?_
    exact early a (F.sub ⟨rfl, rfl, rfl, trivial⟩) rfl
  | some r =>
    obtain ⟨ad, A1, C1, A2, C2, rfl, hat, hl, ho⟩ := RD.some hR
    refine q_yes F rfl (by decide) rfl rfl ?_
    refine q_val F rfl rfl (by decide) (r_load F rfl lag_rd (AT.cell0 hb3 rfl)) fun a F => ?_
    refine q_yes F rfl (by decide) rfl rfl ?_
    refine q_val F rfl rfl (by decide) (r_nil F rfl) fun a F => ?_
    refine q_yes F rfl (by decide) rfl rfl ?_
    refine q_val F rfl rfl (by decide) (r_fieldAddr F rfl ff_112_2) fun a F => ?_
    refine q_yes F rfl (by decide) rfl rfl ?_
    refine q_val F rfl rfl (by decide) (r_load F rfl ag_29 (AT.cell hat rfl)) fun a F => ?_
    refine q_yes F rfl (by decide) rfl rfl ?_
    refine q_val F rfl rfl (by decide) (r_neq F rfl rfl) fun a F => ?_
    refine q_val F rfl rfl (by decide) (r_pick_f F rfl rfl rfl) fun a F => ?_
    refine nil ?_
    by_cases hft : r.fault = 0
    · rw [decide_eq_true hft] at F
      refine hK4 _ _ ?_
      refine wp_cond_false (F.ev rfl) ?_
      refine wp_skip ?_
      refine hK3 _ _ ?_
      have htk : takeF ([] : List Int) (some r) X = rtake ([] : List Int) r (X r) := by unfold takeF; simp only [if_pos hft]
      rw [htk]
      refine wp_seq_k fun K5 hK5 => ?_
      refine preg ?_
      refine p_val F rfl rfl (by decide) (r_makeFunc (vs := [.pointer (some qb), .pointer (some qz), .pointer (some qv)]) F rfl) fun a F => ?_
      refine p_defer F rfl rfl (r_defer F rfl) fun a F => ?_
      refine pnil ?_
      refine hK5 _ _ ?_
      refine wp_seq_k fun K6 hK6 => ?_
      refine preg ?_
      refine p_val F rfl rfl (by decide) (r_move F rfl) fun a F => ?_
      refine p_call F rfl rfl (by decide) (r_callv F hf hfb hfn rfl) (hcl r rfl hft c3 w3 E B3 hR) ?_
      rintro e w4 ⟨c4, E4, B4, hx⟩
      have hb4 := hb3.ev E4 (show ¬ m = j by omega)
      have hv4 := hv3.ev E4 (show ¬ m + 1 = j by omega)
      have hz4 := hz3.ev E4 (show ¬ m + 2 = j by omega)
      generalize hXr : X r = res at hx
      match res with
      | .inl (l, ft) =>
        right
        obtain ⟨⟨t, u, rfl⟩, hR4⟩ := hx
        refine ⟨_, rfl, fun a F => ?_⟩
        repeat (first | refine thenP ?_ | refine inbP ?_)
        show Leaves _ _ _ _ _ _ _
        rw [F.dfr]
        refine leaves_cons (f := 83) (args := #[.pointer (some qb), .pointer (some qz), .pointer (some qv)]) (by simp) (invoke_fn (args := #[]) Try.func83 rfl rfl) ?_
        refine (catchP_bytes (jb := m) (jz := m + 2) (jv := m + 1) hj.1 hR4 hb4 hz4 hv4 (by omega) (by omega) (by omega) (by omega) rfl t u []).mono ?_
        rintro e u' w6 ⟨rfl, rfl, E6, hs6, hR6, hv6⟩
        show Leaves _ _ _ _ _ .returning _
        refine leaves1 F rfl ⟨qv, rfl, lv_one lag_bytes (AT.cell0 hv6 rfl)⟩ ?_
        refine ⟨c4, ((EX.trans (E4.mono (M' := fun x => x = j ∨ m ≤ x) (fun x q => Or.inl q)) (fun _ q => q)).trans (E6.mono (M' := fun x => x = j ∨ m ≤ x) (fun x q => q.elim (fun q => Or.inl q) (fun q => Or.inr (by omega)))) (fun _ q => q)).leave B0 id (fun _ _ => rfl), B4.size hs6, ⟨_, rfl, ?_⟩, hR6⟩
        exact ⟨none, 0, rfl, SL.nil⟩
      | .inr (x, l, ft) =>
        left
        obtain ⟨⟨v, rfl, hv⟩, hR4⟩ := hx
        have hone : v.oneCell' = true := by obtain ⟨A3, C3, e3, hs3⟩ := hv; rw [e3]; rfl
        refine ⟨v, rfl, fun a F => ?_⟩
        refine p_eff0 F rfl rfl (e_store0 F rfl rfl lsz_bytes hv4 (by simp) hone) ?_
        rintro w5 a ⟨E5, hv5, hs5⟩ F
        have hv5 : AT true (m + 1) c4 w5 qv [v] := hv5
        refine pnil ?_
        refine hK6 _ _ ?_
        refine wp_ret ?_
        repeat (first | refine thenR ?_ | refine inbR ?_)
        show Leaves _ _ _ _ _ _ _
        rw [F.dfr]
        refine leaves_cons (f := 83) (args := #[.pointer (some qb), .pointer (some qz), .pointer (some qv)]) (by simp) (invoke_fn (args := #[]) Try.func83 rfl rfl) ?_
        refine (catchR_bytes (jb := m) (jz := m + 2) (jv := m + 1) hj.1 (hR4.ev E5 (by omega) (by omega)) (hb4.ev E5 (by omega)) (hz4.ev E5 (by omega)) hv5 (by omega) (by omega) (by omega) (by omega) rfl).mono ?_
        rintro e u' w6 ⟨rfl, rfl, E6, hs6, hR6, hv6⟩
        show Leaves _ _ _ _ _ .returning _
        refine leaves1 F rfl ⟨qv, rfl, lv_one lag_bytes (AT.cell0 hv6 rfl)⟩ ?_
        rw [hXr]
        have ET : Ev (fun x => x = j) c0 w0 c4 w6 := (((EX.trans (E4.mono (M' := fun x => x = j ∨ m ≤ x) (fun x q => Or.inl q)) (fun _ q => q)).trans (E5.mono (M' := fun x => x = j ∨ m ≤ x) (fun x q => Or.inr (by omega))) (fun _ q => q)).trans (E6.mono (M' := fun x => x = j ∨ m ≤ x) (fun x q => q.elim (fun q => Or.inl q) (fun q => Or.inr (by omega)))) (fun _ q => q)).leave B0 id (fun _ _ => rfl)
        by_cases hq : ft = 0
        · rw [if_pos (show (⟨l, r.outer, ft⟩ : Rdr).fault = 0 from hq)]
          refine ⟨c4, ET, (B4.size hs5).size hs6, ⟨_, rfl, ?_⟩, ?_⟩
          · show (retT (m + 3)) (rtake ([] : List Int) r (.inr (x, l, ft))).1 c4 w6 v
            unfold rtake; simp only [if_pos hq]
            obtain ⟨A3, C3, e3, hs3⟩ := hv
            exact ⟨A3, C3, e3, (hs3.ev E5 (by omega) (by omega)).ev E6 (by omega) (by omega)⟩
          · unfold rtake; simp only [if_pos hq]; exact hR6
        · rw [if_neg (show ¬ (⟨l, r.outer, ft⟩ : Rdr).fault = 0 from hq)]
          refine ⟨c4, ET, (B4.size hs5).size hs6, ⟨_, rfl, ?_⟩, ?_⟩
          · show (retT (m + 3)) (rtake ([] : List Int) r (.inr (x, l, ft))).1 c4 w6 _
            unfold rtake; simp only [if_neg hq]
            exact ⟨none, 0, rfl, SL.nil⟩
          · unfold rtake; simp only [if_neg hq]; exact hR6
    · rw [decide_eq_false hft] at F
      exact early a (F.sub ⟨rfl, rfl, rfl, trivial⟩) (by unfold takeF; simp only [if_neg hft])
end Go.Proofs.Ytcolmmjcdlmcoaa.G
/-! The reader: Read, Num, Text in the walks' own form. -/
namespace Go.Proofs.Ytcolmmjcdlmcoaa.G
open Go Go.RowKit
set_option linter.unusedVariables false
set_option linter.unusedSimpArgs false
theorem r_makeFunc1 {P : Program} {a : Act} {N : Nat} {L : List (Nat × Value)} {D : List Deferred} {w : World} {x : Operand} {v : Value} {d : Option Tmp} {ty : TypeId} {pos : String} {af : Array Edge} {gd : Option (Nat × Bool)} {f : FuncId} (F : Fr a N L D) (hx : ev L x = some v) :
    (execOp a.eval { dst := d, op := .makeFunc (.func f) #[x] #[], type := ty, pos := pos, after := af, guard := gd }).run P w = .ok (.value (.func (.func f) #[v] #[])) w := by
  simp [execOp, F.ev hx, Instr.makeFunc, Sem.run_bind, Sem.run_pure, Result.andThen]
set_option maxHeartbeats 2000000 in
theorem parcel_Reader_Num.calls {m : Nat} {c0 : Nat → Nat} {w0 : World} {j4 : Nat} {p2 : Option Addr} {a1 : Option Rdr} (hm0 : 0 < m) (B0 : CB m c0 w0) (h3 : RD j4 c0 w0 p2 a1) (bj4 : 0 < j4 ∧ j4 < m) (r : Int × (Option Rdr)) (H : parcel_Reader_Num.f a1 = some r) :
    Calls Try.prog 52 #[.pointer p2] w0 (fun e w_ => ∃ (c_ : Nat → Nat), e = .returned (.int .u64 r.1) ∧ Ev (fun x => (x = j4)) c0 w0 c_ w_ ∧ CB m c_ w_ ∧ RD j4 c_ w_ p2 r.2) := by
  have hr : r = takeF 0 a1 (fun r => rnum r.fault r.left 0 0) := by
    unfold parcel_Reader_Num.f at H
    unfold takeF
    cases a1 with
    | none => exact (Option.some.inj H).symm
    | some q =>
      simp only at H ⊢
      split at H
      · rename_i hq; rw [if_pos hq]; exact (Option.some.inj H).symm
      · rename_i hq; rw [if_neg hq]; exact (Option.some.inj H).symm
  subst hr
  refine enter (N := 7) (l := [.pointer p2]) Try.func52 rfl rfl (Nat.le_of_ble_eq_true rfl) fun a F => ?_
  refine wp_seq_k fun K1 hK1 => ?_
  refine reg ?_
  refine q_val F rfl rfl (by decide) (r_assign F rfl) fun a F => ?_
  refine nil ?_
  refine hK1 _ _ ?_
  refine wp_seq_k fun K2 hK2 => ?_
  refine reg ?_
  refine q_val F rfl rfl (by decide) (r_move F rfl) fun a F => ?_
  refine q_val F rfl rfl (by decide) (r_move F rfl) fun a F => ?_
  refine q_val F rfl rfl (by decide) (r_makeFunc1 F rfl) fun a F => ?_
  refine q_call F rfl rfl (by decide) (r_call (vs := [.pointer p2, .func (.func 68) #[.pointer p2] #[]]) F Try.func67 rfl rfl rfl) (take_calls_u64 (X := fun r => rnum r.fault r.left 0 0) B0 h3 bj4 Try.func68 rfl rfl (fun r e0 _ c1 w1 E1 B1 hR => num_calls (B1.mono (by omega)) hR bj4.1)) ?_
  rintro e w1 ⟨c1, E, B, ⟨v, rfl, hv⟩, hR⟩
  have hv : v = .int .u64 (takeF 0 a1 (fun r => rnum r.fault r.left 0 0)).1 := hv
  subst hv
  refine ⟨_, rfl, fun a F => ?_⟩
  refine q_val F rfl rfl (by decide) (r_assign F rfl) fun a F => ?_
  refine nil ?_
  refine hK2 _ _ ?_
  refine wp_ret ?_
  refine out1 F rfl rfl ?_
  have EL := (E.mono (M' := fun x => x = j4 ∨ m ≤ x) (fun _ q => Or.inl q)).leave B0 (fun x => if x < m then x else 0) (fun x hx => if_pos hx)
  exact ⟨fun b => if c1 b < m then c1 b else 0, rfl, EL, fun b hb => by show (if c1 b < m then c1 b else 0) < m; split <;> omega, hR.rc (fun k hk => by show (if c1 k < m then c1 k else 0) = _; rw [hk, if_pos bj4.2]) (fun k hk => by show (if c1 k < m then c1 k else 0) = _; rw [hk]; split <;> omega)⟩
set_option maxHeartbeats 2000000 in
theorem parcel_Reader_Text.calls {m : Nat} {c0 : Nat → Nat} {w0 : World} {j4 : Nat} {p2 : Option Addr} {a1 : Option Rdr} {a6 : Int} (hm0 : 0 < m) (B0 : CB m c0 w0) (h3 : RD j4 c0 w0 p2 a1) (bj4 : 0 < j4 ∧ j4 < m) (jr : Nat) (bjr : jr < m) (r : (List Int) × (Option Rdr)) (H : parcel_Reader_Text.f a1 a6 = some r) :
    Calls Try.prog 53 #[.pointer p2, .int .i64 a6] w0 (fun e w_ => ∃ (c_ : Nat → Nat) (A0_ : Option Addr) (C0_ : Nat), e = .returned (.slice A0_ r.1.length C0_) ∧ Ev (fun x => (x = j4)) c0 w0 c_ w_ ∧ CB m c_ w_ ∧ SL true (Kint .u8) jr 0 c_ w_ A0_ C0_ r.1 ∧ RD j4 c_ w_ p2 r.2) := by
  obtain ⟨X, hX, hr⟩ : ∃ X : Rdr → (List Int × Int) ⊕ (List Int × List Int × Int), (∀ q, a1 = some q → q.fault = 0 → rtext q.left q.fault a6 = some (X q)) ∧ r = takeF [] a1 X := by
    unfold parcel_Reader_Text.f at H
    cases a1 with
    | none => exact ⟨fun _ => .inl ([], 0), fun q e => (by cases e), (Option.some.inj H).symm⟩
    | some q =>
      simp only at H
      split at H
      · rename_i hq
        obtain ⟨x, e1, H⟩ := bind_some H
        refine ⟨fun _ => x, fun q' e _ => by cases e; exact e1, ?_⟩
        unfold takeF; simp only [if_pos hq]; exact (Option.some.inj H).symm
      · rename_i hq
        refine ⟨fun _ => .inl ([], 0), fun q' e h => by cases e; exact absurd h hq, ?_⟩
        unfold takeF; simp only [if_neg hq]; exact (Option.some.inj H).symm
  subst hr
  refine enter (N := 8) (l := [.pointer p2, .int .i64 a6]) Try.func53 rfl rfl (Nat.le_of_ble_eq_true rfl) fun a F => ?_
  refine wp_seq_k fun K1 hK1 => ?_
  refine reg ?_
  refine q_eff F rfl rfl (by decide) (e_box F rfl c0 m) ?_
  rintro v w1 a ⟨c1, q1, rfl, E1, hb1, M1⟩ F
  have hb1 : AT true m c1 w1 q1 [.pointer p2] := hb1
  refine q_eff F rfl rfl (by decide) (e_box F rfl c1 (m + 1)) ?_
  rintro v w2 a ⟨c2, q2, rfl, E2, hb2, M2⟩ F
  have hb2 : AT true (m + 1) c2 w2 q2 [.int .i64 a6] := hb2
  have no : ∀ x, ¬ No x := fun x q => q
  have B2 : CB (m + 2) c2 w2 := M2 _ (M1 _ (B0.mono (by omega)) (by omega)) (by omega)
  have E : Ev No c0 w0 c2 w2 := E1.trans E2 (fun _ q => q)
  have hR := h3.ev E (no _) (no _)
  have hb1 := hb1.ev E2 (no _)
  refine q_val F rfl rfl (by decide) (r_assign F rfl) fun a F => ?_
  refine nil ?_
  refine hK1 _ _ ?_
  refine wp_seq_k fun K2 hK2 => ?_
  refine reg ?_
  refine q_val F rfl rfl (by decide) (r_load F rfl lag_rd (AT.cell0 hb1 rfl)) fun a F => ?_
  refine q_val F rfl rfl (by decide) (r_makeFunc (vs := [.pointer (some q1), .pointer (some q2)]) F rfl) fun a F => ?_
  refine q_call F rfl rfl (by decide) (r_call (vs := [.pointer p2, .func (.func 70) #[] #[.pointer (some q1), .pointer (some q2)]]) F Try.func69 rfl rfl rfl)
    (take_calls_bytes (X := X) (m := m + 2) B2 hR ⟨bj4.1, by omega⟩ Try.func70 rfl rfl (fun q e0 hf c3 w3 E3 B3 hR3 => text1_calls (jb := m) (jc := m + 1) (B3.mono (by omega)) hR3 bj4.1 (hb1.ev E3 (no _)) (hb2.ev E3 (no _)) (by omega) (by omega) (m + 2 + 3) (by omega) (by omega) (X q) (hX q e0 hf))) ?_
  rintro e w3 ⟨c3, E3, B3, ⟨v, rfl, A3, C3, rfl, hs3⟩, hR3⟩
  refine ⟨_, rfl, fun a F => ?_⟩
  refine q_val F rfl rfl (by decide) (r_assign F rfl) fun a F => ?_
  refine nil ?_
  refine hK2 _ _ ?_
  refine wp_ret ?_
  refine out1 F rfl rfl ?_
  have ET : Ev (fun x => x = j4 ∨ m ≤ x) c0 w0 c3 w3 := (E.mono (M' := fun x => x = j4 ∨ m ≤ x) (fun _ q => q.elim)).trans (E3.mono (M' := fun x => x = j4 ∨ m ≤ x) (fun _ q => Or.inl q)) (fun _ q => q)
  have EL := ET.leave B0 (fun x => if x = m + 5 then jr else if x < m then x else 0) (fun x hx => by show (if x = m + 5 then jr else if x < m then x else 0) = x; rw [if_neg (by omega), if_pos hx])
  exact ⟨fun b => if c3 b = m + 5 then jr else if c3 b < m then c3 b else 0, A3, C3, rfl, EL, fun b hb => by show (if c3 b = m + 5 then jr else if c3 b < m then c3 b else 0) < m; (repeat' split) <;> omega,
    hs3.rc (fun k hk => by show (if c3 k = m + 5 then jr else if c3 k < m then c3 k else 0) = _; rw [hk, if_pos (by omega)]) (fun k hk => by show (if c3 k = m + 5 then jr else if c3 k < m then c3 k else 0) = _; rw [hk]; (repeat' split) <;> omega),
    hR3.rc (fun k hk => by show (if c3 k = m + 5 then jr else if c3 k < m then c3 k else 0) = _; rw [hk, if_neg (by omega), if_pos bj4.2]) (fun k hk => by show (if c3 k = m + 5 then jr else if c3 k < m then c3 k else 0) = _; rw [hk]; (repeat' split) <;> omega)⟩
set_option maxHeartbeats 2000000 in
theorem parcel_Read.calls {m : Nat} {c0 : Nat → Nat} {w0 : World} {j1 : Nat} {A2 : Option Addr} {C3 : Nat} {a1 : List Int} (hm0 : 0 < m) (B0 : CB m c0 w0) (h4 : SL false (Kint .u8) j1 0 c0 w0 A2 C3 a1) (bj1 : j1 < m) (jr : Nat) (bjr : jr < m) (r : Option Rdr) (H : parcel_Read.f a1 = some r) :
    Calls Try.prog 51 #[.slice A2 a1.length C3] w0 (fun e w_ => ∃ (c_ : Nat → Nat) (P0_ : Option Addr), e = .returned (.pointer P0_) ∧ Ev (fun x => False) c0 w0 c_ w_ ∧ CB m c_ w_ ∧ RD jr c_ w_ P0_ r) := by
  unfold parcel_Read.f at H
  obtain ⟨g, H⟩ := ifN H
  have H := Option.some.inj H
  subst H
  refine enter (N := 18) (l := [.slice A2 a1.length C3]) Try.func51 rfl rfl (Nat.le_of_ble_eq_true rfl) fun a F => ?_
  refine wp_seq_k fun K1 hK1 => ?_
  refine reg ?_
  refine q_val F rfl rfl (by decide) (r_assign F rfl) fun a F => ?_
  refine nil ?_
  refine hK1 _ _ ?_
  refine wp_seq_k fun K2 hK2 => ?_
  refine reg ?_
  refine q_val F rfl rfl (by decide) (r_move F rfl) fun a F => ?_
  refine q_val F rfl rfl (by decide) (r_lensl F Try.underlying23 rfl) fun a F => ?_
  refine q_eff F rfl rfl (by decide) (e_make (k := (Kint .u8)) (x0 := 0) F et_23 rfl rfl (fun _ _ _ => rfl) (by decide) (by omega) c0 (m + 2) 0) ?_
  rintro v w1 a ⟨c1, A5, C5, rfl, E1, h5, B1⟩ F
  have B1 := B1 (m + 3) (B0.mono (by omega)) (by omega)
  have h4 := h4.ev E1 (fun q => q.elim) (fun q => q.elim)
  refine q_val F rfl rfl (by decide) (r_assign F rfl) fun a F => ?_
  refine nil ?_
  refine hK2 _ _ ?_
  refine wp_seq_k fun K3 hK3 => ?_
  refine reg ?_
  refine q_val F rfl rfl (by decide) (r_move F rfl) fun a F => ?_
  refine q_val F rfl rfl (by decide) (r_move F rfl) fun a F => ?_
  refine q_eff F rfl rfl (by decide) (e_copy (k := (Kint .u8)) (xs := List.replicate ((a1.length : Nat) : Int).toNat (0 : Int)) (ys := a1) F et_23 rfl rfl h5 h4 (by omega)) ?_
  rintro v w2 a ⟨rfl, E2, h5, Z2⟩ F
  have e5 : a1.take (List.replicate ((a1.length : Nat) : Int).toNat (0 : Int)).length ++ (List.replicate ((a1.length : Nat) : Int).toNat (0 : Int)).drop a1.length = a1 := by simp
  have l5 : (List.replicate ((a1.length : Nat) : Int).toNat (0 : Int)).length = a1.length := by simp
  rw [e5] at h5
  rw [l5] at F
  refine nil ?_
  refine hK3 _ _ ?_
  refine wp_seq_k fun K4 hK4 => ?_
  refine reg ?_
  refine q_val F rfl rfl (by decide) (r_move F rfl) fun a F => ?_
  refine q_val F rfl rfl (by decide) (r_move F rfl) fun a F => ?_
  refine q_val F rfl rfl (by decide) (r_lensl F Try.underlying23 rfl) fun a F => ?_
  refine q_val F rfl rfl (by decide) (r_move F rfl) fun a F => ?_
  refine q_val F rfl rfl (by decide) (r_lensl F Try.underlying23 rfl) fun a F => ?_
  obtain ⟨A6, C6, hr6, h6⟩ := cut_nn (n := ((a1.length : Nat) : Int)) Try.underlying23 sz_5 h5 ⟨by omega, by omega⟩
  refine q_val F rfl rfl (by decide) (r_slice (vl := none) (vh := some (.int .i64 ((a1.length : Nat) : Int))) (vm := some (.int .i64 ((a1.length : Nat) : Int))) F rfl rfl rfl rfl hr6) fun a F => ?_
  have e6 : a1.take ((a1.length : Nat) : Int).toNat = a1 := by simp
  rw [e6] at F h6
  refine q_val F rfl rfl (by decide) (r_build (v := .agg #[.slice A6 a1.length C6, .slice none 0 0, .int .i64 0]) F [(0, .slice A6 a1.length C6)] (by exact ⟨rfl, rfl, trivial⟩) (fun w => by kernel_rfl)) fun a F => ?_
  refine q_eff F rfl rfl (by decide) (e_box F (v := .agg #[.slice A6 a1.length C6, .slice none 0 0, .int .i64 0]) rfl c1 (m + 1)) ?_
  rintro v w3 a ⟨c3, qa, rfl, E3, h7, B3⟩ F
  have B3 := B3 (m + 3) (B1.size Z2) (by omega)
  have h7 : AT true (m + 1) c3 w3 qa [.slice A6 a1.length C6, .slice none 0 0, .int .i64 0] := h7
  have h6 := h6.ev E3 (fun q => q.elim) (fun q => q.elim)
  refine q_val F rfl rfl (by decide) (r_assign F rfl) fun a F => ?_
  refine nil ?_
  refine hK4 _ _ ?_
  refine wp_ret ?_
  refine out1 F rfl rfl ?_
  have ET : Ev (fun x => False ∨ m ≤ x) c0 w0 c3 w3 := ((E1.mono (M' := fun x => False ∨ m ≤ x) (fun _ q => q.elim)).trans (E2.mono (M' := fun x => False ∨ m ≤ x) (fun x q => Or.inr (by omega))) (fun _ q => q)).trans (E3.mono (M' := fun x => False ∨ m ≤ x) (fun _ q => q.elim)) (fun _ q => q)
  have EL := ET.leave B0 (fun x => if x = m + 1 then jr else if x < m then x else 0) (fun x hx => by show (if x = m + 1 then jr else if x < m then x else 0) = x; rw [if_neg (by omega), if_pos hx])
  refine ⟨fun b => if c3 b = m + 1 then jr else if c3 b < m then c3 b else 0, some qa, rfl, EL, fun b hb => by show (if c3 b = m + 1 then jr else if c3 b < m then c3 b else 0) < m; (repeat' split) <;> omega, ?_⟩
  exact RD.mk (t := ⟨a1, [], 0⟩) (h7.rc (fun k hk => by show (if c3 k = m + 1 then jr else if c3 k < m then c3 k else 0) = _; rw [hk, if_pos rfl])) (h6.r.rc (fun k hk => by show (if c3 k = m + 1 then jr else if c3 k < m then c3 k else 0) = _; rw [hk]; (repeat' split) <;> omega) (fun k hk => by show (if c3 k = m + 1 then jr else if c3 k < m then c3 k else 0) = _; rw [hk]; (repeat' split) <;> omega)) SL.nil
end Go.Proofs.Ytcolmmjcdlmcoaa.G
namespace Go.Proofs.Ytcolmmjcdlmcoaa.G
open Go Go.RowKit
set_option linter.unusedVariables false
set_option linter.unusedSimpArgs false
set_option maxRecDepth 100000 in
set_option maxHeartbeats 4000000 in
theorem table_Read.calls (k : Nat) {m : Nat} {c0 : Nat → Nat} {w0 : World} {j5 : Nat} {A2 : Option Addr} {C3 : Nat} {a1 : List Int} (hm0 : 0 < m) (B0 : CB m c0 w0) (h4 : SL false (Kint .u8) j5 0 c0 w0 A2 C3 a1) (bj5 : j5 < m) (jr533 : Nat) (bjr533 : jr533 < m) (r : (Option Tab) × Int) (H : table_Read.f k a1 = some r) : Calls Try.prog 29 #[.slice A2 a1.length C3] w0 (fun e w_ => ∃ (c_ : Nat → Nat) (P0_ : Option Addr), e = .returned (.tuple #[.pointer P0_, .int .i64 r.2]) ∧ Ev (fun x => False) c0 w0 c_ w_ ∧ CB m c_ w_ ∧ TB jr533 c_ w_ P0_ r.1) := by
 unfold table_Read.f at H
 have B := B0.mono (show m ≤ m + 5 by omega)
 have E : Ev (fun x => False ∨ m ≤ x) c0 w0 c0 w0 := Ev.refl
 refine enter (N := 81) (l := [.slice A2 a1.length C3]) Try.func29 rfl rfl (Nat.le_of_ble_eq_true rfl) fun a F => ?_
 refine wp_seq_k fun K6 hK6 => ?_
 refine reg ?_
 refine q_val F rfl rfl (by decide) (r_assign F rfl) fun a F => ?_
 refine q_val F rfl rfl (by decide) (r_assign F rfl) fun a F => ?_
 refine nil ?_
 refine hK6 _ _ ?_
 refine wp_seq_k fun K7 hK7 => ?_
 refine reg ?_
 refine q_val F rfl rfl (by decide) (r_move F rfl) fun a F => ?_
 obtain ⟨t8, q9, H⟩ := bind_some H
 refine q_call F rfl rfl (by decide) (r_call F Try.func51 rfl (by kernel_rfl) rfl) (parcel_Read.calls (m := m + 5) (by omega) B h4 (by omega) (m + 1) (by omega) _ q9) ?_
 rintro e w11 ⟨c10, p14, rfl, E12, B13, h15⟩
 refine ⟨_, rfl, fun a F => ?_⟩
 have B := B13
 have h4 := SL.ev h4 E12 (fun q => q.elim) (fun q => q.elim)
 have E := E.trans E12 (fun x q => q.elim)
 refine q_val F rfl rfl (by decide) (r_assign F rfl) fun a F => ?_
 refine nil ?_
 refine hK7 _ _ ?_
 refine wp_seq_k fun K17 hK17 => ?_
 refine reg ?_
 refine q_val F rfl rfl (by decide) (r_move F rfl) fun a F => ?_
 obtain ⟨t18, q19, H⟩ := bind_some H
 refine q_call F rfl rfl (by decide) (r_call F Try.func52 rfl (by kernel_rfl) rfl) (parcel_Reader_Num.calls (m := m + 5) (by omega) B h15 (by omega) _ q19) ?_
 rintro e w21 ⟨c20, rfl, E22, B23, h24⟩
 refine ⟨_, rfl, fun a F => ?_⟩
 have B := B23
 have h4 := SL.ev h4 E22 (by show ¬ (j5 = m + 1); omega) (by show ¬ (0 = m + 1); omega)
 have E := E.trans E22 (fun x q => by replace q : x = m + 1 := q; show False ∨ m ≤ x; omega)
 refine q_val F rfl rfl (by decide) (r_move F rfl) fun a F => ?_
 obtain ⟨t26, q27, H⟩ := bind_some H
 refine q_call F rfl rfl (by decide) (r_call F Try.func52 rfl (by kernel_rfl) rfl) (parcel_Reader_Num.calls (m := m + 5) (by omega) B h24 (by omega) _ q27) ?_
 rintro e w29 ⟨c28, rfl, E30, B31, h32⟩
 refine ⟨_, rfl, fun a F => ?_⟩
 have B := B31
 have h4 := SL.ev h4 E30 (by show ¬ (j5 = m + 1); omega) (by show ¬ (0 = m + 1); omega)
 have E := E.trans E30 (fun x q => by replace q : x = m + 1 := q; show False ∨ m ≤ x; omega)
 refine q_val F rfl rfl (by decide) (r_assign F rfl) fun a F => ?_
 refine q_val F rfl rfl (by decide) (r_assign F rfl) fun a F => ?_
 refine nil ?_
 refine hK17 _ _ ?_
 refine wp_seq_k fun K34 hK34 => ?_
 refine reg ?_
 obtain ⟨t35, q36, H⟩ := bind_some H
 refine q_call F rfl rfl (by decide) (r_call F Try.func21 rfl (by kernel_rfl) rfl) (table_New.calls (m := m + 5) (by omega) B (m + 2) (by omega) _ q36) ?_
 rintro e w38 ⟨c37, p41, rfl, E39, B40, h42⟩
 refine ⟨_, rfl, fun a F => ?_⟩
 have B := B40
 have h4 := SL.ev h4 E39 (fun q => q.elim) (fun q => q.elim)
 have h32 := RD.ev h32 E39 (fun q => q.elim) (fun q => q.elim)
 have E := E.trans E39 (fun x q => q.elim)
 refine q_val F rfl rfl (by decide) (r_assign F rfl) fun a F => ?_
 refine nil ?_
 refine hK34 _ _ ?_
 refine wp_seq_k fun K44 hK44 => ?_
 refine reg ?_
 refine q_val F rfl rfl (by decide) (r_move F rfl) fun a F => ?_
 refine q_val F rfl rfl (by decide) (r_move F rfl) fun a F => ?_
 refine q_val F rfl rfl (by decide) (r_min F rfl rfl) fun a F => ?_
 refine q_val F rfl rfl (by decide) (r_convi F Try.underlying3 rfl rfl) fun a F => ?_
 obtain ⟨ob45, e46, H⟩ := bind_some H
 have z47 := h42
 rw [e46] at z47
 obtain ⟨ad48, p50, rfl, hat49, h51⟩ := TB.some z47
 refine q_val F rfl rfl (by decide) (r_nil F rfl) fun a F => ?_
 refine q_val F rfl rfl (by decide) (r_fieldAddr F rfl ff_70_1) fun a F => ?_
 refine q_eff0 F rfl rfl (e_store F rfl rfl sz_3 hat49 (Nat.le_of_ble_eq_true rfl) rfl) ?_
 rintro w53 a ⟨E54, hat49, Z55⟩ F
 have B := B.size Z55
 have h4 := SL.ev h4 E54 (by show ¬ (j5 = m + 2); omega) (by show ¬ (0 = m + 2); omega)
 have h32 := RD.ev h32 E54 (by show ¬ (m + 1 = m + 2); omega) (by show ¬ (0 = m + 2); omega)
 have h51 := TR.ev h51 E54 (by show ¬ (0 = m + 2); omega) (by show ¬ (0 = m + 2); omega)
 have E := E.trans E54 (fun x q => by replace q : x = m + 2 := q; show False ∨ m ≤ x; omega)
 have hat49 : AT true (m + 2) c37 w53 ad48 [.pointer p50, .int .i64 (IntKind.i64.wrap (min t18.1 1099511627776)), .int .i64 ob45.size] := hat49
 have h56 : TB (m + 2) c37 w53 (some ad48) (some (Tab.mk ob45.rows (IntKind.i64.wrap (min t18.1 1099511627776)) ob45.size)) := TB.mk hat49 h51
 refine nil ?_
 refine hK44 _ _ ?_
 refine wp_seq_k fun K57 hK57 => ?_
 refine reg ?_
 refine q_val F rfl rfl (by decide) (r_move F rfl) fun a F => ?_
 refine q_val F rfl rfl (by decide) (r_leq F rfl rfl) fun a F => ?_
 refine q_val F rfl rfl (by decide) (r_assign F rfl) fun a F => ?_
 refine nil ?_
 refine hK57 _ _ ?_
 refine wp_seq_k fun K58 hK58 => ?_
 refine reg ?_
 refine q_eff F rfl rfl (by decide) (e_makeMap (q := .u64) (K := 80) (emb := Value.bool) F c37 (m + 3) (fun w => by kernel_rfl)) ?_
 rintro v w60 a ⟨c59, qa61, rfl, E62, h63, B64⟩ F
 have B := B64 _ B (by omega)
 have h4 := SL.ev h4 E62 (fun q => q.elim) (fun q => q.elim)
 have h32 := RD.ev h32 E62 (fun q => q.elim) (fun q => q.elim)
 have h51 := TR.ev h51 E62 (fun q => q.elim) (fun q => q.elim)
 have hat49 := AT.ev hat49 E62 (fun q => q.elim)
 have h56 := TB.ev h56 E62 (fun q => q.elim) (fun q => q.elim)
 have E := E.trans E62 (fun x q => q.elim)
 have h63 : MU (m + 3) c59 w60 (some qa61) (MpV.mk (fun _ => none) 0) := h63
 refine q_val F rfl rfl (by decide) (r_assign F rfl) fun a F => ?_
 refine nil ?_
 refine hK58 _ _ ?_
 refine wp_seq_k fun K65 hK65 => ?_
 refine reg ?_
 refine q_val F rfl rfl (by decide) (r_assign F rfl) fun a F => ?_
 refine nil ?_
 refine hK65 _ _ ?_
 refine wp_seq_k fun K66 hK66 => ?_
 refine wp_block ?_
 obtain ⟨x304, HL, HR303⟩ := bind_some H
 have J513 : ∀ (c514 : Nat → Nat) (w515 : World) (a : Act) (o509 : Option Rdr) (o511 : Option Tab) (b512 : Bool), Fr a 81 [(4, .pointer p14), (7, .pointer (some ad48)), (8, .bool b512)] → Ev (fun x => False ∨ m ≤ x) c0 w0 c514 w515 → CB (m + 5) c514 w515 → RD (m + 1) c514 w515 p14 o509 → TB (m + 2) c514 w515 (some ad48) o511 → table_Read.j8 o509 o511 b512 = some r → K66 a w515 := by
  intro c514 w515 a o509 o511 b512 F E B h508 h510 H
  unfold table_Read.j8 at H
  refine hK66 _ _ ?_
  refine wp_seq_k fun K516 hK516 => ?_
  refine wp_seq_k fun K517 hK517 => ?_
  have J527 : ∀ (c528 : Nat → Nat) (w529 : World) (a : Act) (b526 : Bool), Fr a 81 [(7, .pointer (some ad48)), (79, .bool b526)] → Ev (fun x => False ∨ m ≤ x) c0 w0 c528 w529 → CB (m + 5) c528 w529 → TB (m + 2) c528 w529 (some ad48) o511 → table_Read.j9 o511 b526 = some r → K517 a w529 := by
   intro c528 w529 a b526 F E B h510 H
   unfold table_Read.j9 at H
   refine hK517 _ _ ?_
   by_cases hb530 : b526 = true
   ·have H := (if_pos hb530).symm.trans H
    refine wp_cond_true ((F.ev rfl).trans (congrArg Value.bool hb530)) ?_
    refine wp_seq_k fun K531 hK531 => ?_
    refine reg ?_
    refine q_val F rfl rfl (by decide) (r_assign F rfl) fun a F => ?_
    refine q_val F rfl rfl (by decide) (r_assign F rfl) fun a F => ?_
    refine nil ?_
    refine hK531 _ _ ?_
    refine wp_ret ?_
    refine thenR ?_
    have H := Option.some.inj H
    subst H
    refine out2 F rfl rfl rfl ?_
    exact ⟨fun b_ => (fun x_ => if x_ = m + 2 then jr533 else if x_ < m then x_ else 0) (c528 b_), none, rfl, E.leave B0 (fun x_ => if x_ = m + 2 then jr533 else if x_ < m then x_ else 0) (by intro x_ hx_; show (if x_ = m + 2 then jr533 else if x_ < m then x_ else 0) = x_; ((repeat' split) <;> omega)), (fun b_ hb_ => by show (if (c528 b_) = m + 2 then jr533 else if (c528 b_) < m then (c528 b_) else 0) < m; ((repeat' split) <;> omega)), TB.nil⟩
   ·have H := (if_neg hb530).symm.trans H
    refine wp_cond_false ((F.ev rfl).trans (congrArg Value.bool (bfalse hb530))) ?_
    refine wp_skip ?_
    refine hK516 _ _ ?_
    refine wp_seq_k fun K532 hK532 => ?_
    refine reg ?_
    refine q_val F rfl rfl (by decide) (r_move F rfl) fun a F => ?_
    refine q_val F rfl rfl (by decide) (r_assign F rfl) fun a F => ?_
    refine q_val F rfl rfl (by decide) (r_assign F rfl) fun a F => ?_
    refine nil ?_
    refine hK532 _ _ ?_
    refine wp_ret ?_
    have H := Option.some.inj H
    subst H
    refine out2 F rfl rfl rfl ?_
    exact ⟨fun b_ => (fun x_ => if x_ = m + 2 then jr533 else if x_ < m then x_ else 0) (c528 b_), (some ad48), rfl, E.leave B0 (fun x_ => if x_ = m + 2 then jr533 else if x_ < m then x_ else 0) (by intro x_ hx_; show (if x_ = m + 2 then jr533 else if x_ < m then x_ else 0) = x_; ((repeat' split) <;> omega)), (fun b_ hb_ => by show (if (c528 b_) = m + 2 then jr533 else if (c528 b_) < m then (c528 b_) else 0) < m; ((repeat' split) <;> omega)), TB.rc h510 (fun k_ hk_ => by show (if (c528 k_) = m + 2 then jr533 else if (c528 k_) < m then (c528 k_) else 0) = _; rw [hk_]; ((repeat' split) <;> omega)) (fun k_ hk_ => by show (if (c528 k_) = m + 2 then jr533 else if (c528 k_) < m then (c528 k_) else 0) = _; rw [hk_]; ((repeat' split) <;> omega))⟩
  refine reg ?_
  refine q_val F rfl rfl (by decide) (r_move F rfl) fun a F => ?_
  refine q_val F rfl rfl (by decide) (r_not F rfl) fun a F => ?_
  refine q_val F rfl rfl (by decide) (r_move F rfl) fun a F => ?_
  by_cases hb518 : b512 = true
  ·have H := (if_pos hb518).symm.trans H
   refine q_yes F rfl (by decide) rfl (congrArg not hb518) ?_
   refine q_val F rfl rfl (by decide) (r_move F rfl) fun a F => ?_
   obtain ⟨t519, q520, H⟩ := bind_some H
   refine q_yes F rfl (by decide) rfl (congrArg not hb518) ?_
   refine q_call F rfl rfl (by decide) (r_call F Try.func54 rfl (by kernel_rfl) rfl) (parcel_Reader_Done.calls (m := m + 5) (by omega) B h508 (by omega) _ q520) ?_
   rintro e w522 ⟨c521, rfl, E523, B524⟩
   refine ⟨_, rfl, fun a F => ?_⟩
   have B := B524
   have h508 := RD.ev h508 E523 (fun q => q.elim) (fun q => q.elim)
   have h510 := TB.ev h510 E523 (fun q => q.elim) (fun q => q.elim)
   have E := E.trans E523 (fun x q => q.elim)
   refine q_yes F rfl (by decide) rfl (congrArg not hb518) ?_
   refine q_val F rfl rfl (by decide) (r_neq F rfl rfl) fun a F => ?_
   refine q_val F rfl rfl (by decide) (r_pick_f F rfl (congrArg not hb518) rfl) fun a F => ?_
   refine nil ?_
   exact J527 c521 w522 a (!decide (t519 = 0)) (F.sub ⟨rfl, rfl, trivial⟩) E B h510 H
  ·have H := (if_neg hb518).symm.trans H
   refine q_no F rfl (by decide) rfl (congrArg not (bfalse hb518)) (by decide) fun a F => ?_
   refine q_no F rfl (by decide) rfl (congrArg not (bfalse hb518)) (by decide) fun a F => ?_
   refine q_no F rfl (by decide) rfl (congrArg not (bfalse hb518)) (by decide) fun a F => ?_
   refine q_val F rfl rfl (by decide) (r_pick_t F rfl (congrArg not (bfalse hb518)) rfl) fun a F => ?_
   refine nil ?_
   exact J527 c514 w515 a true (F.sub ⟨rfl, rfl, trivial⟩) E B h510 H
 refine loop_fuel (I := fun n a w => ∃ (o285 : Option Rdr) (i286 : Int) (o289 : Option Tab) (b290 : Bool) (o293 : MpV Bool) (s294 : ByteArray) (c : Nat → Nat), Fr a 81 [(4, .pointer p14), (5, .int .u64 t18.1), (6, .int .u64 i286), (7, .pointer (some ad48)), (8, .bool b290), (9, .map (Option.map Addr.block (some qa61))), (10, .string s294)] ∧ Ev (fun x => False ∨ m ≤ x) c0 w0 c w ∧ CB (m + 5) c w ∧ RD (m + 1) c w p14 o285 ∧ TB (m + 2) c w (some ad48) o289 ∧ MU (m + 3) c w (some qa61) o293 ∧ loop (fun (s_ : (Option Rdr) × Int × (Option Tab) × Bool × (MpV Bool) × ByteArray) => table_Read.b7 k t18 s_.1 s_.2.1 s_.2.2.1 s_.2.2.2.1 s_.2.2.2.2.1 s_.2.2.2.2.2) n (o285, i286, o289, b290, o293, s294) = some x304) (k := k) ⟨t26.2, t26.1, (some (Tab.mk ob45.rows (IntKind.i64.wrap (min t18.1 1099511627776)) ob45.size)), (decide (t18.1 ≤ 1099511627776)), (MpV.mk (fun _ => none) 0), ({ data := #[] }), c59, F.sub ⟨rfl, rfl, rfl, rfl, rfl, rfl, rfl, trivial⟩, E, B, h32, h56, h63, HL⟩ ?_
 clear HL H E F B
 intro n301 X297 hX297 a w296 ⟨o285, i286, o289, b290, o293, s294, c295, F, E, B, h284, h288, h292, HL⟩
 obtain ⟨n302, ctl300, rfl, HB, HN298, HD299⟩ := loop_some HL
 have H : table_Read.b7 k t18 o285 i286 o289 b290 o293 s294 = some ctl300 := HB
 clear HB HL
 unfold table_Read.b7 at H
 refine wp_seq_k fun K305 hK305 => ?_
 refine wp_seq_k fun K306 hK306 => ?_
 have J309 : ∀ (c310 : Nat → Nat) (w311 : World) (a : Act) (b308 : Bool), Fr a 81 [(4, .pointer p14), (5, .int .u64 t18.1), (6, .int .u64 i286), (7, .pointer (some ad48)), (8, .bool b290), (9, .map (Option.map Addr.block (some qa61))), (10, .string s294), (34, .bool b308)] → Ev (fun x => False ∨ m ≤ x) c0 w0 c310 w311 → CB (m + 5) c310 w311 → RD (m + 1) c310 w311 p14 o285 → TB (m + 2) c310 w311 (some ad48) o289 → MU (m + 3) c310 w311 (some qa61) o293 → table_Read.j4 k t18 o285 i286 o289 b290 o293 s294 b308 = some ctl300 → K306 a w311 := by
  intro c310 w311 a b308 F E B h284 h288 h292 H
  unfold table_Read.j4 at H
  refine hK306 _ _ ?_
  by_cases hb312 : b308 = true
  ·have H := (if_pos hb312).symm.trans H
   refine wp_cond_true ((F.ev rfl).trans (congrArg Value.bool hb312)) ?_
   refine wp_skip ?_
   refine hK305 _ _ ?_
   refine wp_seq_k fun K313 hK313 => ?_
   refine wp_block ?_
   refine wp_seq_k fun K314 hK314 => ?_
   have J462 : ∀ (c463 : Nat → Nat) (w464 : World) (a : Act) (t92 : (List Int) × (Option Rdr)) (qa127 : Addr) (t114 : (List Int) × (Option Rdr)) (A459 : Option Addr) (C460 : Nat), Fr a 81 [(4, .pointer p14), (5, .int .u64 t18.1), (6, .int .u64 i286), (7, .pointer (some ad48)), (9, .map (Option.map Addr.block (some qa61))), (10, .string s294), (11, .string (bs t92.1)), (12, .pointer (some qa127))] → Ev (fun x => False ∨ m ≤ x) c0 w0 c463 w464 → CB (m + 5) c463 w464 → AT true (m + 4) c463 w464 qa127 [.slice A459 t114.1.length C460, .int .i64 0] → TB (m + 2) c463 w464 (some ad48) o289 → MU (m + 3) c463 w464 (some qa61) o293 → RD (m + 1) c463 w464 p14 t114.2 → SL true (Kint .u8) 0 0 c463 w464 A459 C460 t114.1 → table_Read.j5 k t18 t92 t114 i286 o289 o293 s294 = some ctl300 → K314 a w464 := by
    intro c463 w464 a t92 qa127 t114 A459 C460 F E B h129 h288 h292 h458 h461 H
    unfold table_Read.j5 at H
    refine hK314 _ _ ?_
    refine wp_seq_k fun K465 hK465 => ?_
    refine reg ?_
    refine q_val F rfl rfl (by decide) (r_move F rfl) fun a F => ?_
    obtain ⟨t248, q249, H⟩ := bind_some H
    refine q_call F rfl rfl (by decide) (r_call F Try.func52 rfl (by kernel_rfl) rfl) (parcel_Reader_Num.calls (m := m + 5) (by omega) B h458 (by omega) _ q249) ?_
    rintro e w467 ⟨c466, rfl, E468, B469, h470⟩
    refine ⟨_, rfl, fun a F => ?_⟩
    have B := B469
    have h129 := AT.ev h129 E468 (by show ¬ (m + 4 = m + 1); omega)
    have h288 := TB.ev h288 E468 (by show ¬ (m + 2 = m + 1); omega) (by show ¬ (0 = m + 1); omega)
    have h292 := MU.ev h292 E468 (by show ¬ (m + 3 = m + 1); omega) (by show ¬ (0 = m + 1); omega)
    have h461 := SL.ev h461 E468 (by show ¬ (0 = m + 1); omega) (by show ¬ (0 = m + 1); omega)
    have E := E.trans E468 (fun x q => by replace q : x = m + 1 := q; show False ∨ m ≤ x; omega)
    refine q_val F rfl rfl (by decide) (r_assign F rfl) fun a F => ?_
    refine nil ?_
    refine hK465 _ _ ?_
    refine wp_seq_k fun K472 hK472 => ?_
    refine reg ?_
    refine q_val F rfl rfl (by decide) (r_move F rfl) fun a F => ?_
    refine q_val F rfl rfl (by decide) (r_convi F Try.underlying3 rfl rfl) fun a F => ?_
    refine q_val F rfl rfl (by decide) (r_fieldAddr F rfl ff_66_1) fun a F => ?_
    refine q_eff0 F rfl rfl (e_store F rfl rfl sz_3 h129 (Nat.le_of_ble_eq_true rfl) rfl) ?_
    rintro w473 a ⟨E474, h129, Z475⟩ F
    have B := B.size Z475
    have h288 := TB.ev h288 E474 (by show ¬ (m + 2 = m + 4); omega) (by show ¬ (0 = m + 4); omega)
    have h292 := MU.ev h292 E474 (by show ¬ (m + 3 = m + 4); omega) (by show ¬ (0 = m + 4); omega)
    have h461 := SL.ev h461 E474 (by show ¬ (0 = m + 4); omega) (by show ¬ (0 = m + 4); omega)
    have h470 := RD.ev h470 E474 (by show ¬ (m + 1 = m + 4); omega) (by show ¬ (0 = m + 4); omega)
    have E := E.trans E474 (fun x q => by replace q : x = m + 4 := q; show False ∨ m ≤ x; omega)
    have h129 : AT true (m + 4) c466 w473 qa127 [.slice A459 t114.1.length C460, .int .i64 (IntKind.i64.wrap t248.1)] := h129
    refine nil ?_
    refine hK472 _ _ ?_
    refine wp_seq_k fun K476 hK476 => ?_
    have J482 : ∀ (c483 : Nat → Nat) (w484 : World) (a : Act) (b481 : Bool), Fr a 81 [(4, .pointer p14), (5, .int .u64 t18.1), (6, .int .u64 i286), (7, .pointer (some ad48)), (8, .bool b481), (9, .map (Option.map Addr.block (some qa61))), (11, .string (bs t92.1)), (12, .pointer (some qa127)), (13, .int .u64 t248.1)] → Ev (fun x => False ∨ m ≤ x) c0 w0 c483 w484 → CB (m + 5) c483 w484 → AT true (m + 4) c483 w484 qa127 [.slice A459 t114.1.length C460, .int .i64 (IntKind.i64.wrap t248.1)] → RD (m + 1) c483 w484 p14 t248.2 → TB (m + 2) c483 w484 (some ad48) o289 → MU (m + 3) c483 w484 (some qa61) o293 → SL true (Kint .u8) 0 0 c483 w484 A459 C460 t114.1 → table_Read.j6 k t92 t114 t248 i286 o289 o293 b481 = some ctl300 → K476 a w484 := by
     intro c483 w484 a b481 F E B h129 h470 h288 h292 h461 H
     unfold table_Read.j6 at H
     refine hK476 _ _ ?_
     refine wp_seq_k fun K485 hK485 => ?_
     refine reg ?_
     refine q_val F rfl rfl (by decide) (r_move F rfl) fun a F => ?_
     refine q_val F rfl rfl (by decide) (r_move F rfl) fun a F => ?_
     refine q_val F rfl rfl (by decide) (r_move F rfl) fun a F => ?_
     obtain ⟨g270, H⟩ := ifN H
     refine q_eff0 F rfl rfl (e_mapUpdate (z := true) F Try.underlying80 Try.underlying91 rfl rfl rfl h292 g270.1 (by have := g270.2; unfold maxLen; omega)) ?_
     rintro w486 a ⟨E487, h488, Z489⟩ F
     have B := B.size Z489
     have h129 := AT.ev h129 E487 (by show ¬ (m + 4 = m + 3); omega)
     have h470 := RD.ev h470 E487 (by show ¬ (m + 1 = m + 3); omega) (by show ¬ (0 = m + 3); omega)
     have h288 := TB.ev h288 E487 (by show ¬ (m + 2 = m + 3); omega) (by show ¬ (0 = m + 3); omega)
     have h461 := SL.ev h461 E487 (by show ¬ (0 = m + 3); omega) (by show ¬ (0 = m + 3); omega)
     have E := E.trans E487 (fun x q => by replace q : x = m + 3 := q; show False ∨ m ≤ x; omega)
     have h488 : MU (m + 3) c483 w486 (some qa61) (MpV.mk (fun i_ => if i_ = t248.1 then some true else o293.f i_) (o293.n + 1)) := h488
     refine q_val F rfl rfl (by decide) (r_assign F rfl) fun a F => ?_
     refine nil ?_
     refine hK485 _ _ ?_
     refine reg ?_
     refine q_val F rfl rfl (by decide) (r_move F rfl) fun a F => ?_
     refine q_val F rfl rfl (by decide) (r_move F rfl) fun a F => ?_
     refine q_val F rfl rfl (by decide) (r_loads (cs := [.slice A459 t114.1.length C460, .int .i64 (IntKind.i64.wrap t248.1)]) F rfl ag_66 sz_66 h129) fun a F => ?_
     obtain ⟨t275, q276, H⟩ := bind_some H
     refine q_call F rfl rfl (by decide) (r_call F Try.func43 rfl (by kernel_rfl) rfl) (table_Table_set.calls k (m := m + 5) (by omega) B h288 h461.r (by omega) _ q276) ?_
     rintro e w491 ⟨c490, rfl, E492, B493, h494⟩
     refine ⟨_, rfl, fun a F => ?_⟩
     have B := B493
     have h129 := AT.ev h129 E492 (by show ¬ (m + 4 = m + 2); omega)
     have h470 := RD.ev h470 E492 (by show ¬ (m + 1 = m + 2); omega) (by show ¬ (0 = m + 2); omega)
     have h461 := SL.ev h461 E492 (by show ¬ (0 = m + 2); omega) (by show ¬ (0 = m + 2); omega)
     have h488 := MU.ev h488 E492 (by show ¬ (m + 3 = m + 2); omega) (by show ¬ (0 = m + 2); omega)
     have E := E.trans E492 (fun x q => by replace q : x = m + 2 := q; show False ∨ m ≤ x; omega)
     refine nil ?_
     refine hK313 _ _ ?_
     refine reg ?_
     refine q_val F rfl rfl (by decide) (r_move F rfl) fun a F => ?_
     refine q_val F rfl rfl (by decide) (r_sub F rfl rfl) fun a F => ?_
     refine q_val F rfl rfl (by decide) (r_assign F rfl) fun a F => ?_
     refine nil ?_
     have H := HN298 _ (Option.some.inj H).symm
     exact hX297 _ _ _ (Nat.lt_succ_self _) ⟨t248.2, (IntKind.u64.wrap (i286 - 1)), t275, b481, (MpV.mk (fun i_ => if i_ = t248.1 then some true else o293.f i_) (o293.n + 1)), (bs t92.1), c490, F.sub ⟨rfl, rfl, rfl, rfl, rfl, rfl, rfl, trivial⟩, E, B, h470, h494, h488, H⟩
    refine reg ?_
    refine q_val F rfl rfl (by decide) (r_move F rfl) fun a F => ?_
    refine q_val F rfl rfl (by decide) (r_move F rfl) fun a F => ?_
    refine q_val F rfl rfl (by decide) (r_sgtr F rfl rfl) fun a F => ?_
    refine q_val F rfl rfl (by decide) (r_move F rfl) fun a F => ?_
    by_cases hb477 : (Op.bytesLess (bs t92.1).toList s294.toList || ((bs t92.1).toList == s294.toList)) = true
    ·have H := (if_pos hb477).symm.trans H
     refine q_no F rfl (by decide) rfl (congrArg not hb477) (by decide) fun a F => ?_
     refine q_no F rfl (by decide) rfl (congrArg not hb477) (by decide) fun a F => ?_
     refine q_val F rfl rfl (by decide) (r_pick_f F rfl (congrArg not hb477) rfl) fun a F => ?_
     refine q_val F rfl rfl (by decide) (r_move F rfl) fun a F => ?_
     refine q_no F rfl (by decide) rfl rfl (by decide) fun a F => ?_
     refine q_no F rfl (by decide) rfl rfl (by decide) fun a F => ?_
     refine q_no F rfl (by decide) rfl rfl (by decide) fun a F => ?_
     refine q_val F rfl rfl (by decide) (r_pick_f F rfl rfl rfl) fun a F => ?_
     refine q_val F rfl rfl (by decide) (r_move F rfl) fun a F => ?_
     refine q_no F rfl (by decide) rfl rfl (by decide) fun a F => ?_
     refine q_no F rfl (by decide) rfl rfl (by decide) fun a F => ?_
     refine q_no F rfl (by decide) rfl rfl (by decide) fun a F => ?_
     refine q_no F rfl (by decide) rfl rfl (by decide) fun a F => ?_
     refine q_val F rfl rfl (by decide) (r_pick_f F rfl rfl rfl) fun a F => ?_
     refine q_val F rfl rfl (by decide) (r_assign F rfl) fun a F => ?_
     refine nil ?_
     exact J482 c466 w473 a false (F.sub ⟨rfl, rfl, rfl, rfl, rfl, rfl, rfl, rfl, rfl, trivial⟩) E B h129 h470 h288 h292 h461 H
    ·have H := (if_neg hb477).symm.trans H
     refine q_yes F rfl (by decide) rfl (congrArg not (bfalse hb477)) ?_
     refine q_val F rfl rfl (by decide) (r_move F rfl) fun a F => ?_
     refine q_yes F rfl (by decide) rfl (congrArg not (bfalse hb477)) ?_
     refine q_val F rfl rfl (by decide) (r_gtr F rfl rfl) fun a F => ?_
     refine q_val F rfl rfl (by decide) (r_pick_t F rfl (congrArg not (bfalse hb477)) rfl) fun a F => ?_
     refine q_val F rfl rfl (by decide) (r_move F rfl) fun a F => ?_
     by_cases hb478 : 0 < t248.1
     ·have H := (if_pos hb478).symm.trans H
      refine q_yes F rfl (by decide) rfl (decide_eq_true hb478) ?_
      refine q_val F rfl rfl (by decide) (r_move F rfl) fun a F => ?_
      refine q_yes F rfl (by decide) rfl (decide_eq_true hb478) ?_
      refine q_val F rfl rfl (by decide) (r_move F rfl) fun a F => ?_
      refine q_yes F rfl (by decide) rfl (decide_eq_true hb478) ?_
      refine q_val F rfl rfl (by decide) (r_leq F rfl rfl) fun a F => ?_
      refine q_val F rfl rfl (by decide) (r_pick_t F rfl (decide_eq_true hb478) rfl) fun a F => ?_
      refine q_val F rfl rfl (by decide) (r_move F rfl) fun a F => ?_
      by_cases hb479 : t248.1 ≤ t18.1
      ·have H := (if_pos hb479).symm.trans H
       refine q_yes F rfl (by decide) rfl (decide_eq_true hb479) ?_
       refine q_val F rfl rfl (by decide) (r_move F rfl) fun a F => ?_
       refine q_yes F rfl (by decide) rfl (decide_eq_true hb479) ?_
       refine q_val F rfl rfl (by decide) (r_move F rfl) fun a F => ?_
       obtain ⟨g480, H⟩ := ifN H
       refine q_yes F rfl (by decide) rfl (decide_eq_true hb479) ?_
       refine q_val F rfl rfl (by decide) (r_lookupm (emb := Value.bool) (z := false) F Try.underlying80 Try.underlying91 (fun w => by kernel_rfl) rfl rfl h292 g480) fun a F => ?_
       refine q_yes F rfl (by decide) rfl (decide_eq_true hb479) ?_
       refine q_val F rfl rfl (by decide) (r_not F rfl) fun a F => ?_
       refine q_val F rfl rfl (by decide) (r_pick_t F rfl (decide_eq_true hb479) rfl) fun a F => ?_
       refine q_val F rfl rfl (by decide) (r_assign F rfl) fun a F => ?_
       refine nil ?_
       exact J482 c466 w473 a (!((o293.f t248.1).getD false)) (F.sub ⟨rfl, rfl, rfl, rfl, rfl, rfl, rfl, rfl, rfl, trivial⟩) E B h129 h470 h288 h292 h461 H
      ·have H := (if_neg hb479).symm.trans H
       refine q_no F rfl (by decide) rfl (decide_eq_false hb479) (by decide) fun a F => ?_
       refine q_no F rfl (by decide) rfl (decide_eq_false hb479) (by decide) fun a F => ?_
       refine q_no F rfl (by decide) rfl (decide_eq_false hb479) (by decide) fun a F => ?_
       refine q_no F rfl (by decide) rfl (decide_eq_false hb479) (by decide) fun a F => ?_
       refine q_val F rfl rfl (by decide) (r_pick_f F rfl (decide_eq_false hb479) rfl) fun a F => ?_
       refine q_val F rfl rfl (by decide) (r_assign F rfl) fun a F => ?_
       refine nil ?_
       exact J482 c466 w473 a false (F.sub ⟨rfl, rfl, rfl, rfl, rfl, rfl, rfl, rfl, rfl, trivial⟩) E B h129 h470 h288 h292 h461 H
     ·have H := (if_neg hb478).symm.trans H
      refine q_no F rfl (by decide) rfl (decide_eq_false hb478) (by decide) fun a F => ?_
      refine q_no F rfl (by decide) rfl (decide_eq_false hb478) (by decide) fun a F => ?_
      refine q_no F rfl (by decide) rfl (decide_eq_false hb478) (by decide) fun a F => ?_
      refine q_val F rfl rfl (by decide) (r_pick_f F rfl (decide_eq_false hb478) rfl) fun a F => ?_
      refine q_val F rfl rfl (by decide) (r_move F rfl) fun a F => ?_
      refine q_no F rfl (by decide) rfl rfl (by decide) fun a F => ?_
      refine q_no F rfl (by decide) rfl rfl (by decide) fun a F => ?_
      refine q_no F rfl (by decide) rfl rfl (by decide) fun a F => ?_
      refine q_no F rfl (by decide) rfl rfl (by decide) fun a F => ?_
      refine q_val F rfl rfl (by decide) (r_pick_f F rfl rfl rfl) fun a F => ?_
      refine q_val F rfl rfl (by decide) (r_assign F rfl) fun a F => ?_
      refine nil ?_
      exact J482 c466 w473 a false (F.sub ⟨rfl, rfl, rfl, rfl, rfl, rfl, rfl, rfl, rfl, trivial⟩) E B h129 h470 h288 h292 h461 H
   refine regD (SB (fun x => x = m + 1) c310 w311) 8 (.q 0 (.q 3 (.f 1 (.g 2 (.f 4 (.q 5 (.e 6 (.q 7 (.e 8 .nil)))) 6 (.e 4 (.q 5 (.q 7 (.e 8 .nil))))) 4 (.q 5 (.f 2 (.e 6 (.q 7 (.e 8 .nil))) 6 (.e 2 (.q 7 (.e 8 .nil))))) 6 (.f 2 (.e 4 (.q 5 (.q 7 (.e 8 .nil)))) 4 (.q 5 (.e 2 (.q 7 (.e 8 .nil)))))) 6 (.e 1 (.f 2 (.e 4 (.q 5 (.q 7 (.e 8 .nil)))) 4 (.q 5 (.e 2 (.q 7 (.e 8 .nil))))))))) Try_hm (by decide +kernel) ?_
   intro w326 w1_ w2_ w3_ w4_
   have E327 : Ev No c310 w311 c310 w326 := Ev.same w1_ w2_ w3_ w4_
   have B := B.same w1_
   have zh284 := h284
   have zh288 := h288
   have zh292 := h292
   have ER : Ev (fun x => x = m + 1) c310 w311 c310 w326 := Ev.same w1_ w2_ w3_ w4_
   have h284 := RD.ev h284 E327 (fun q => q.elim) (fun q => q.elim)
   have h288 := TB.ev h288 E327 (fun q => q.elim) (fun q => q.elim)
   have h292 := MU.ev h292 E327 (fun q => q.elim) (fun q => q.elim)
   have E := E.trans E327 (fun x q => q.elim)
   refine d_q F rfl rfl rfl (by decide) (fun wq hS => r_move F rfl) ER.sb fun a F => ?_
   refine d_q F rfl rfl rfl (by decide) (fun wq hS => r_move F rfl) ER.sb fun a F => ?_
   refine d_f ?_ ?_
   ·obtain ⟨t92, q93, H⟩ := bind_some H
    refine o_call F rfl (wanted_none rfl) rfl (by decide) (r_call F Try.func53 rfl (by kernel_rfl) rfl) (parcel_Reader_Text.calls (m := m + 5) (by omega) B h284 (by omega) 0 (by omega) _ q93) ?_
    rintro e w329 ⟨c328, A332, C333, rfl, E330, B331, h334, h335⟩
    refine ⟨_, rfl, fun a F => ?_⟩
    have B := B331
    have ER := ER.trans E330 (fun x q => by replace q : x = m + 1 := q; show x = m + 1; omega)
    have h288 := TB.ev h288 E330 (by show ¬ (m + 2 = m + 1); omega) (by show ¬ (0 = m + 1); omega)
    have h292 := MU.ev h292 E330 (by show ¬ (m + 3 = m + 1); omega) (by show ¬ (0 = m + 1); omega)
    have E := E.trans E330 (fun x q => by replace q : x = m + 1 := q; show False ∨ m ≤ x; omega)
    refine ⟨fun _ => ER.sb, ?_⟩
    refine d_g ?_ ?_ ?_
    ·refine o_val F rfl rfl rfl (by decide) (r_bytesStr F Try.underlying23 Try.underlying5 Try.underlying9 rfl h334) fun a F => ?_
     refine ⟨fun _ => ER.sb, ?_⟩
     refine d_f ?_ ?_
     ·obtain ⟨t114, q115, H⟩ := bind_some H
      refine o_call F rfl (wanted_none rfl) rfl (by decide) (r_call F Try.func53 rfl (by kernel_rfl) rfl) (parcel_Reader_Text.calls (m := m + 5) (by omega) B h335 (by omega) 0 (by omega) _ q115) ?_
      rintro e w338 ⟨c337, A341, C342, rfl, E339, B340, h343, h344⟩
      refine ⟨_, rfl, fun a F => ?_⟩
      have B := B340
      have ER := ER.trans E339 (fun x q => by replace q : x = m + 1 := q; show x = m + 1; omega)
      have h288 := TB.ev h288 E339 (by show ¬ (m + 2 = m + 1); omega) (by show ¬ (0 = m + 1); omega)
      have h292 := MU.ev h292 E339 (by show ¬ (m + 3 = m + 1); omega) (by show ¬ (0 = m + 1); omega)
      have h334 := SL.ev h334 E339 (by show ¬ (0 = m + 1); omega) (by show ¬ (0 = m + 1); omega)
      have E := E.trans E339 (fun x q => by replace q : x = m + 1 := q; show False ∨ m ≤ x; omega)
      refine ⟨fun _ => ER.sb, ?_⟩
      refine d_q F rfl rfl rfl (by decide) (fun wq hS => r_build (v := .agg #[.slice A341 t114.1.length C342, .int .i64 0]) F [(0, .slice A341 t114.1.length C342)] (by exact ⟨rfl, rfl, trivial⟩) (fun w => by kernel_rfl)) ER.sb fun a F => ?_
      refine d_e ?_
      refine o_eff F rfl rfl rfl (by decide) (e_alloc F zv_66 c337 (m + 4)) ?_
      rintro v w347 a ⟨c346, qa127, rfl, E348, h129, B349⟩ F
      have B := B349 _ B (by omega)
      have ER := ER.trans E348 (fun x q => q.elim)
      have h288 := TB.ev h288 E348 (fun q => q.elim) (fun q => q.elim)
      have h292 := MU.ev h292 E348 (fun q => q.elim) (fun q => q.elim)
      have h334 := SL.ev h334 E348 (fun q => q.elim) (fun q => q.elim)
      have h343 := SL.ev h343 E348 (fun q => q.elim) (fun q => q.elim)
      have h344 := RD.ev h344 E348 (fun q => q.elim) (fun q => q.elim)
      have E := E.trans E348 (fun x q => q.elim)
      have h129 : AT true (m + 4) c346 w347 qa127 [.slice none 0 0, .int .i64 0] := h129
      refine ⟨fun _ => ER.sb, ?_⟩
      refine d_q F rfl rfl rfl (by decide) (fun wq hS => r_assign F rfl) ER.sb fun a F => ?_
      refine d_e ?_
      refine o_eff0 F rfl rfl rfl (e_storeN0 (us := [.slice A341 t114.1.length C342, .int .i64 0]) F rfl rfl sz_66 h129 (Nat.le_of_ble_eq_true rfl) (one_all rfl)) ?_
      rintro w350 a ⟨E351, h129, Z352⟩ F
      have B := B.size Z352
      have h288 := TB.ev h288 E351 (by show ¬ (m + 2 = m + 4); omega) (by show ¬ (0 = m + 4); omega)
      have h292 := MU.ev h292 E351 (by show ¬ (m + 3 = m + 4); omega) (by show ¬ (0 = m + 4); omega)
      have h334 := SL.ev h334 E351 (by show ¬ (0 = m + 4); omega) (by show ¬ (0 = m + 4); omega)
      have h343 := SL.ev h343 E351 (by show ¬ (0 = m + 4); omega) (by show ¬ (0 = m + 4); omega)
      have h344 := RD.ev h344 E351 (by show ¬ (m + 1 = m + 4); omega) (by show ¬ (0 = m + 4); omega)
      have E := E.trans E351 (fun x q => by replace q : x = m + 4 := q; show False ∨ m ≤ x; omega)
      have h129 : AT true (m + 4) c346 w350 qa127 [.slice A341 t114.1.length C342, .int .i64 0] := h129
      refine ⟨fun q => absurd rfl q, ?_⟩
      refine d_nil ?_
      exact J462 c346 w350 a t92 qa127 t114 A341 C342 (F.sub ⟨rfl, rfl, rfl, rfl, rfl, rfl, rfl, rfl, trivial⟩) E B h129 h288 h292 h344 h343 H
     ·obtain ⟨t114, q115, H⟩ := bind_some H
      refine o_eff F rfl rfl rfl (by decide) (e_alloc F zv_66 c328 (m + 4)) ?_
      rintro v w354 a ⟨c353, qa127, rfl, E355, h129, B356⟩ F
      have B := B356 _ B (by omega)
      have ER := ER.trans E355 (fun x q => q.elim)
      have h288 := TB.ev h288 E355 (fun q => q.elim) (fun q => q.elim)
      have h292 := MU.ev h292 E355 (fun q => q.elim) (fun q => q.elim)
      have h334 := SL.ev h334 E355 (fun q => q.elim) (fun q => q.elim)
      have h335 := RD.ev h335 E355 (fun q => q.elim) (fun q => q.elim)
      have E := E.trans E355 (fun x q => q.elim)
      have h129 : AT true (m + 4) c353 w354 qa127 [.slice none 0 0, .int .i64 0] := h129
      refine ⟨fun _ => ER.sb, ?_⟩
      refine d_e ?_
      refine o_call F rfl (wanted_none rfl) rfl (by decide) (r_call F Try.func53 rfl (by kernel_rfl) rfl) (parcel_Reader_Text.calls (m := m + 5) (by omega) B h335 (by omega) 0 (by omega) _ q115) ?_
      rintro e w358 ⟨c357, A361, C362, rfl, E359, B360, h363, h364⟩
      refine ⟨_, rfl, fun a F => ?_⟩
      have B := B360
      have ER := ER.trans E359 (fun x q => by replace q : x = m + 1 := q; show x = m + 1; omega)
      have h288 := TB.ev h288 E359 (by show ¬ (m + 2 = m + 1); omega) (by show ¬ (0 = m + 1); omega)
      have h292 := MU.ev h292 E359 (by show ¬ (m + 3 = m + 1); omega) (by show ¬ (0 = m + 1); omega)
      have h334 := SL.ev h334 E359 (by show ¬ (0 = m + 1); omega) (by show ¬ (0 = m + 1); omega)
      have h129 := AT.ev h129 E359 (by show ¬ (m + 4 = m + 1); omega)
      have E := E.trans E359 (fun x q => by replace q : x = m + 1 := q; show False ∨ m ≤ x; omega)
      refine ⟨fun _ => ER.sb, ?_⟩
      refine d_q F rfl rfl rfl (by decide) (fun wq hS => r_build (v := .agg #[.slice A361 t114.1.length C362, .int .i64 0]) F [(0, .slice A361 t114.1.length C362)] (by exact ⟨rfl, rfl, trivial⟩) (fun w => by kernel_rfl)) ER.sb fun a F => ?_
      refine d_q F rfl rfl rfl (by decide) (fun wq hS => r_assign F rfl) ER.sb fun a F => ?_
      refine d_e ?_
      refine o_eff0 F rfl rfl rfl (e_storeN0 (us := [.slice A361 t114.1.length C362, .int .i64 0]) F rfl rfl sz_66 h129 (Nat.le_of_ble_eq_true rfl) (one_all rfl)) ?_
      rintro w366 a ⟨E367, h129, Z368⟩ F
      have B := B.size Z368
      have h288 := TB.ev h288 E367 (by show ¬ (m + 2 = m + 4); omega) (by show ¬ (0 = m + 4); omega)
      have h292 := MU.ev h292 E367 (by show ¬ (m + 3 = m + 4); omega) (by show ¬ (0 = m + 4); omega)
      have h334 := SL.ev h334 E367 (by show ¬ (0 = m + 4); omega) (by show ¬ (0 = m + 4); omega)
      have h363 := SL.ev h363 E367 (by show ¬ (0 = m + 4); omega) (by show ¬ (0 = m + 4); omega)
      have h364 := RD.ev h364 E367 (by show ¬ (m + 1 = m + 4); omega) (by show ¬ (0 = m + 4); omega)
      have E := E.trans E367 (fun x q => by replace q : x = m + 4 := q; show False ∨ m ≤ x; omega)
      have h129 : AT true (m + 4) c357 w366 qa127 [.slice A361 t114.1.length C362, .int .i64 0] := h129
      refine ⟨fun q => absurd rfl q, ?_⟩
      refine d_nil ?_
      exact J462 c357 w366 a t92 qa127 t114 A361 C362 (F.sub ⟨rfl, rfl, rfl, rfl, rfl, rfl, rfl, rfl, trivial⟩) E B h129 h288 h292 h364 h363 H
    ·obtain ⟨t114, q115, H⟩ := bind_some H
     refine o_call F rfl (wanted_none rfl) rfl (by decide) (r_call F Try.func53 rfl (by kernel_rfl) rfl) (parcel_Reader_Text.calls (m := m + 5) (by omega) B h335 (by omega) 0 (by omega) _ q115) ?_
     rintro e w370 ⟨c369, A373, C374, rfl, E371, B372, h375, h376⟩
     refine ⟨_, rfl, fun a F => ?_⟩
     have B := B372
     have ER := ER.trans E371 (fun x q => by replace q : x = m + 1 := q; show x = m + 1; omega)
     have h288 := TB.ev h288 E371 (by show ¬ (m + 2 = m + 1); omega) (by show ¬ (0 = m + 1); omega)
     have h292 := MU.ev h292 E371 (by show ¬ (m + 3 = m + 1); omega) (by show ¬ (0 = m + 1); omega)
     have h334 := SL.ev h334 E371 (by show ¬ (0 = m + 1); omega) (by show ¬ (0 = m + 1); omega)
     have E := E.trans E371 (fun x q => by replace q : x = m + 1 := q; show False ∨ m ≤ x; omega)
     refine ⟨fun _ => ER.sb, ?_⟩
     refine d_q F rfl rfl rfl (by decide) (fun wq hS => r_build (v := .agg #[.slice A373 t114.1.length C374, .int .i64 0]) F [(0, .slice A373 t114.1.length C374)] (by exact ⟨rfl, rfl, trivial⟩) (fun w => by kernel_rfl)) ER.sb fun a F => ?_
     refine d_f ?_ ?_
     ·refine o_val F rfl rfl rfl (by decide) (r_bytesStr F Try.underlying23 Try.underlying5 Try.underlying9 rfl h334) fun a F => ?_
      refine ⟨fun _ => ER.sb, ?_⟩
      refine d_e ?_
      refine o_eff F rfl rfl rfl (by decide) (e_alloc F zv_66 c369 (m + 4)) ?_
      rintro v w379 a ⟨c378, qa127, rfl, E380, h129, B381⟩ F
      have B := B381 _ B (by omega)
      have ER := ER.trans E380 (fun x q => q.elim)
      have h288 := TB.ev h288 E380 (fun q => q.elim) (fun q => q.elim)
      have h292 := MU.ev h292 E380 (fun q => q.elim) (fun q => q.elim)
      have h334 := SL.ev h334 E380 (fun q => q.elim) (fun q => q.elim)
      have h375 := SL.ev h375 E380 (fun q => q.elim) (fun q => q.elim)
      have h376 := RD.ev h376 E380 (fun q => q.elim) (fun q => q.elim)
      have E := E.trans E380 (fun x q => q.elim)
      have h129 : AT true (m + 4) c378 w379 qa127 [.slice none 0 0, .int .i64 0] := h129
      refine ⟨fun _ => ER.sb, ?_⟩
      refine d_q F rfl rfl rfl (by decide) (fun wq hS => r_assign F rfl) ER.sb fun a F => ?_
      refine d_e ?_
      refine o_eff0 F rfl rfl rfl (e_storeN0 (us := [.slice A373 t114.1.length C374, .int .i64 0]) F rfl rfl sz_66 h129 (Nat.le_of_ble_eq_true rfl) (one_all rfl)) ?_
      rintro w382 a ⟨E383, h129, Z384⟩ F
      have B := B.size Z384
      have h288 := TB.ev h288 E383 (by show ¬ (m + 2 = m + 4); omega) (by show ¬ (0 = m + 4); omega)
      have h292 := MU.ev h292 E383 (by show ¬ (m + 3 = m + 4); omega) (by show ¬ (0 = m + 4); omega)
      have h334 := SL.ev h334 E383 (by show ¬ (0 = m + 4); omega) (by show ¬ (0 = m + 4); omega)
      have h375 := SL.ev h375 E383 (by show ¬ (0 = m + 4); omega) (by show ¬ (0 = m + 4); omega)
      have h376 := RD.ev h376 E383 (by show ¬ (m + 1 = m + 4); omega) (by show ¬ (0 = m + 4); omega)
      have E := E.trans E383 (fun x q => by replace q : x = m + 4 := q; show False ∨ m ≤ x; omega)
      have h129 : AT true (m + 4) c378 w382 qa127 [.slice A373 t114.1.length C374, .int .i64 0] := h129
      refine ⟨fun q => absurd rfl q, ?_⟩
      refine d_nil ?_
      exact J462 c378 w382 a t92 qa127 t114 A373 C374 (F.sub ⟨rfl, rfl, rfl, rfl, rfl, rfl, rfl, rfl, trivial⟩) E B h129 h288 h292 h376 h375 H
     ·refine o_eff F rfl rfl rfl (by decide) (e_alloc F zv_66 c369 (m + 4)) ?_
      rintro v w386 a ⟨c385, qa127, rfl, E387, h129, B388⟩ F
      have B := B388 _ B (by omega)
      have ER := ER.trans E387 (fun x q => q.elim)
      have h288 := TB.ev h288 E387 (fun q => q.elim) (fun q => q.elim)
      have h292 := MU.ev h292 E387 (fun q => q.elim) (fun q => q.elim)
      have h334 := SL.ev h334 E387 (fun q => q.elim) (fun q => q.elim)
      have h375 := SL.ev h375 E387 (fun q => q.elim) (fun q => q.elim)
      have h376 := RD.ev h376 E387 (fun q => q.elim) (fun q => q.elim)
      have E := E.trans E387 (fun x q => q.elim)
      have h129 : AT true (m + 4) c385 w386 qa127 [.slice none 0 0, .int .i64 0] := h129
      refine ⟨fun _ => ER.sb, ?_⟩
      refine d_e ?_
      refine o_val F rfl rfl rfl (by decide) (r_bytesStr F Try.underlying23 Try.underlying5 Try.underlying9 rfl h334) fun a F => ?_
      refine ⟨fun _ => ER.sb, ?_⟩
      refine d_q F rfl rfl rfl (by decide) (fun wq hS => r_assign F rfl) ER.sb fun a F => ?_
      refine d_e ?_
      refine o_eff0 F rfl rfl rfl (e_storeN0 (us := [.slice A373 t114.1.length C374, .int .i64 0]) F rfl rfl sz_66 h129 (Nat.le_of_ble_eq_true rfl) (one_all rfl)) ?_
      rintro w389 a ⟨E390, h129, Z391⟩ F
      have B := B.size Z391
      have h288 := TB.ev h288 E390 (by show ¬ (m + 2 = m + 4); omega) (by show ¬ (0 = m + 4); omega)
      have h292 := MU.ev h292 E390 (by show ¬ (m + 3 = m + 4); omega) (by show ¬ (0 = m + 4); omega)
      have h334 := SL.ev h334 E390 (by show ¬ (0 = m + 4); omega) (by show ¬ (0 = m + 4); omega)
      have h375 := SL.ev h375 E390 (by show ¬ (0 = m + 4); omega) (by show ¬ (0 = m + 4); omega)
      have h376 := RD.ev h376 E390 (by show ¬ (m + 1 = m + 4); omega) (by show ¬ (0 = m + 4); omega)
      have E := E.trans E390 (fun x q => by replace q : x = m + 4 := q; show False ∨ m ≤ x; omega)
      have h129 : AT true (m + 4) c385 w389 qa127 [.slice A373 t114.1.length C374, .int .i64 0] := h129
      refine ⟨fun q => absurd rfl q, ?_⟩
      refine d_nil ?_
      exact J462 c385 w389 a t92 qa127 t114 A373 C374 (F.sub ⟨rfl, rfl, rfl, rfl, rfl, rfl, rfl, rfl, trivial⟩) E B h129 h288 h292 h376 h375 H
    ·refine o_eff F rfl rfl rfl (by decide) (e_alloc F zv_66 c328 (m + 4)) ?_
     rintro v w393 a ⟨c392, qa127, rfl, E394, h129, B395⟩ F
     have B := B395 _ B (by omega)
     have ER := ER.trans E394 (fun x q => q.elim)
     have h288 := TB.ev h288 E394 (fun q => q.elim) (fun q => q.elim)
     have h292 := MU.ev h292 E394 (fun q => q.elim) (fun q => q.elim)
     have h334 := SL.ev h334 E394 (fun q => q.elim) (fun q => q.elim)
     have h335 := RD.ev h335 E394 (fun q => q.elim) (fun q => q.elim)
     have E := E.trans E394 (fun x q => q.elim)
     have h129 : AT true (m + 4) c392 w393 qa127 [.slice none 0 0, .int .i64 0] := h129
     refine ⟨fun _ => ER.sb, ?_⟩
     refine d_f ?_ ?_
     ·refine o_val F rfl rfl rfl (by decide) (r_bytesStr F Try.underlying23 Try.underlying5 Try.underlying9 rfl h334) fun a F => ?_
      refine ⟨fun _ => ER.sb, ?_⟩
      refine d_e ?_
      obtain ⟨t114, q115, H⟩ := bind_some H
      refine o_call F rfl (wanted_none rfl) rfl (by decide) (r_call F Try.func53 rfl (by kernel_rfl) rfl) (parcel_Reader_Text.calls (m := m + 5) (by omega) B h335 (by omega) 0 (by omega) _ q115) ?_
      rintro e w397 ⟨c396, A400, C401, rfl, E398, B399, h402, h403⟩
      refine ⟨_, rfl, fun a F => ?_⟩
      have B := B399
      have ER := ER.trans E398 (fun x q => by replace q : x = m + 1 := q; show x = m + 1; omega)
      have h288 := TB.ev h288 E398 (by show ¬ (m + 2 = m + 1); omega) (by show ¬ (0 = m + 1); omega)
      have h292 := MU.ev h292 E398 (by show ¬ (m + 3 = m + 1); omega) (by show ¬ (0 = m + 1); omega)
      have h334 := SL.ev h334 E398 (by show ¬ (0 = m + 1); omega) (by show ¬ (0 = m + 1); omega)
      have h129 := AT.ev h129 E398 (by show ¬ (m + 4 = m + 1); omega)
      have E := E.trans E398 (fun x q => by replace q : x = m + 1 := q; show False ∨ m ≤ x; omega)
      refine ⟨fun _ => ER.sb, ?_⟩
      refine d_q F rfl rfl rfl (by decide) (fun wq hS => r_build (v := .agg #[.slice A400 t114.1.length C401, .int .i64 0]) F [(0, .slice A400 t114.1.length C401)] (by exact ⟨rfl, rfl, trivial⟩) (fun w => by kernel_rfl)) ER.sb fun a F => ?_
      refine d_q F rfl rfl rfl (by decide) (fun wq hS => r_assign F rfl) ER.sb fun a F => ?_
      refine d_e ?_
      refine o_eff0 F rfl rfl rfl (e_storeN0 (us := [.slice A400 t114.1.length C401, .int .i64 0]) F rfl rfl sz_66 h129 (Nat.le_of_ble_eq_true rfl) (one_all rfl)) ?_
      rintro w405 a ⟨E406, h129, Z407⟩ F
      have B := B.size Z407
      have h288 := TB.ev h288 E406 (by show ¬ (m + 2 = m + 4); omega) (by show ¬ (0 = m + 4); omega)
      have h292 := MU.ev h292 E406 (by show ¬ (m + 3 = m + 4); omega) (by show ¬ (0 = m + 4); omega)
      have h334 := SL.ev h334 E406 (by show ¬ (0 = m + 4); omega) (by show ¬ (0 = m + 4); omega)
      have h402 := SL.ev h402 E406 (by show ¬ (0 = m + 4); omega) (by show ¬ (0 = m + 4); omega)
      have h403 := RD.ev h403 E406 (by show ¬ (m + 1 = m + 4); omega) (by show ¬ (0 = m + 4); omega)
      have E := E.trans E406 (fun x q => by replace q : x = m + 4 := q; show False ∨ m ≤ x; omega)
      have h129 : AT true (m + 4) c396 w405 qa127 [.slice A400 t114.1.length C401, .int .i64 0] := h129
      refine ⟨fun q => absurd rfl q, ?_⟩
      refine d_nil ?_
      exact J462 c396 w405 a t92 qa127 t114 A400 C401 (F.sub ⟨rfl, rfl, rfl, rfl, rfl, rfl, rfl, rfl, trivial⟩) E B h129 h288 h292 h403 h402 H
     ·obtain ⟨t114, q115, H⟩ := bind_some H
      refine o_call F rfl (wanted_none rfl) rfl (by decide) (r_call F Try.func53 rfl (by kernel_rfl) rfl) (parcel_Reader_Text.calls (m := m + 5) (by omega) B h335 (by omega) 0 (by omega) _ q115) ?_
      rintro e w409 ⟨c408, A412, C413, rfl, E410, B411, h414, h415⟩
      refine ⟨_, rfl, fun a F => ?_⟩
      have B := B411
      have ER := ER.trans E410 (fun x q => by replace q : x = m + 1 := q; show x = m + 1; omega)
      have h288 := TB.ev h288 E410 (by show ¬ (m + 2 = m + 1); omega) (by show ¬ (0 = m + 1); omega)
      have h292 := MU.ev h292 E410 (by show ¬ (m + 3 = m + 1); omega) (by show ¬ (0 = m + 1); omega)
      have h334 := SL.ev h334 E410 (by show ¬ (0 = m + 1); omega) (by show ¬ (0 = m + 1); omega)
      have h129 := AT.ev h129 E410 (by show ¬ (m + 4 = m + 1); omega)
      have E := E.trans E410 (fun x q => by replace q : x = m + 1 := q; show False ∨ m ≤ x; omega)
      refine ⟨fun _ => ER.sb, ?_⟩
      refine d_q F rfl rfl rfl (by decide) (fun wq hS => r_build (v := .agg #[.slice A412 t114.1.length C413, .int .i64 0]) F [(0, .slice A412 t114.1.length C413)] (by exact ⟨rfl, rfl, trivial⟩) (fun w => by kernel_rfl)) ER.sb fun a F => ?_
      refine d_e ?_
      refine o_val F rfl rfl rfl (by decide) (r_bytesStr F Try.underlying23 Try.underlying5 Try.underlying9 rfl h334) fun a F => ?_
      refine ⟨fun _ => ER.sb, ?_⟩
      refine d_q F rfl rfl rfl (by decide) (fun wq hS => r_assign F rfl) ER.sb fun a F => ?_
      refine d_e ?_
      refine o_eff0 F rfl rfl rfl (e_storeN0 (us := [.slice A412 t114.1.length C413, .int .i64 0]) F rfl rfl sz_66 h129 (Nat.le_of_ble_eq_true rfl) (one_all rfl)) ?_
      rintro w417 a ⟨E418, h129, Z419⟩ F
      have B := B.size Z419
      have h288 := TB.ev h288 E418 (by show ¬ (m + 2 = m + 4); omega) (by show ¬ (0 = m + 4); omega)
      have h292 := MU.ev h292 E418 (by show ¬ (m + 3 = m + 4); omega) (by show ¬ (0 = m + 4); omega)
      have h334 := SL.ev h334 E418 (by show ¬ (0 = m + 4); omega) (by show ¬ (0 = m + 4); omega)
      have h414 := SL.ev h414 E418 (by show ¬ (0 = m + 4); omega) (by show ¬ (0 = m + 4); omega)
      have h415 := RD.ev h415 E418 (by show ¬ (m + 1 = m + 4); omega) (by show ¬ (0 = m + 4); omega)
      have E := E.trans E418 (fun x q => by replace q : x = m + 4 := q; show False ∨ m ≤ x; omega)
      have h129 : AT true (m + 4) c408 w417 qa127 [.slice A412 t114.1.length C413, .int .i64 0] := h129
      refine ⟨fun q => absurd rfl q, ?_⟩
      refine d_nil ?_
      exact J462 c408 w417 a t92 qa127 t114 A412 C413 (F.sub ⟨rfl, rfl, rfl, rfl, rfl, rfl, rfl, rfl, trivial⟩) E B h129 h288 h292 h415 h414 H
   ·refine o_eff F rfl rfl rfl (by decide) (e_alloc F zv_66 c310 (m + 4)) ?_
    rintro v w421 a ⟨c420, qa127, rfl, E422, h129, B423⟩ F
    have B := B423 _ B (by omega)
    have ER := ER.trans E422 (fun x q => q.elim)
    have h284 := RD.ev h284 E422 (fun q => q.elim) (fun q => q.elim)
    have h288 := TB.ev h288 E422 (fun q => q.elim) (fun q => q.elim)
    have h292 := MU.ev h292 E422 (fun q => q.elim) (fun q => q.elim)
    have E := E.trans E422 (fun x q => q.elim)
    have h129 : AT true (m + 4) c420 w421 qa127 [.slice none 0 0, .int .i64 0] := h129
    refine ⟨fun _ => ER.sb, ?_⟩
    refine d_e ?_
    obtain ⟨t92, q93, H⟩ := bind_some H
    refine o_call F rfl (wanted_none rfl) rfl (by decide) (r_call F Try.func53 rfl (by kernel_rfl) rfl) (parcel_Reader_Text.calls (m := m + 5) (by omega) B h284 (by omega) 0 (by omega) _ q93) ?_
    rintro e w425 ⟨c424, A428, C429, rfl, E426, B427, h430, h431⟩
    refine ⟨_, rfl, fun a F => ?_⟩
    have B := B427
    have ER := ER.trans E426 (fun x q => by replace q : x = m + 1 := q; show x = m + 1; omega)
    have h288 := TB.ev h288 E426 (by show ¬ (m + 2 = m + 1); omega) (by show ¬ (0 = m + 1); omega)
    have h292 := MU.ev h292 E426 (by show ¬ (m + 3 = m + 1); omega) (by show ¬ (0 = m + 1); omega)
    have h129 := AT.ev h129 E426 (by show ¬ (m + 4 = m + 1); omega)
    have E := E.trans E426 (fun x q => by replace q : x = m + 1 := q; show False ∨ m ≤ x; omega)
    refine ⟨fun _ => ER.sb, ?_⟩
    refine d_f ?_ ?_
    ·refine o_val F rfl rfl rfl (by decide) (r_bytesStr F Try.underlying23 Try.underlying5 Try.underlying9 rfl h430) fun a F => ?_
     refine ⟨fun _ => ER.sb, ?_⟩
     refine d_e ?_
     obtain ⟨t114, q115, H⟩ := bind_some H
     refine o_call F rfl (wanted_none rfl) rfl (by decide) (r_call F Try.func53 rfl (by kernel_rfl) rfl) (parcel_Reader_Text.calls (m := m + 5) (by omega) B h431 (by omega) 0 (by omega) _ q115) ?_
     rintro e w434 ⟨c433, A437, C438, rfl, E435, B436, h439, h440⟩
     refine ⟨_, rfl, fun a F => ?_⟩
     have B := B436
     have ER := ER.trans E435 (fun x q => by replace q : x = m + 1 := q; show x = m + 1; omega)
     have h288 := TB.ev h288 E435 (by show ¬ (m + 2 = m + 1); omega) (by show ¬ (0 = m + 1); omega)
     have h292 := MU.ev h292 E435 (by show ¬ (m + 3 = m + 1); omega) (by show ¬ (0 = m + 1); omega)
     have h129 := AT.ev h129 E435 (by show ¬ (m + 4 = m + 1); omega)
     have h430 := SL.ev h430 E435 (by show ¬ (0 = m + 1); omega) (by show ¬ (0 = m + 1); omega)
     have E := E.trans E435 (fun x q => by replace q : x = m + 1 := q; show False ∨ m ≤ x; omega)
     refine ⟨fun _ => ER.sb, ?_⟩
     refine d_q F rfl rfl rfl (by decide) (fun wq hS => r_build (v := .agg #[.slice A437 t114.1.length C438, .int .i64 0]) F [(0, .slice A437 t114.1.length C438)] (by exact ⟨rfl, rfl, trivial⟩) (fun w => by kernel_rfl)) ER.sb fun a F => ?_
     refine d_q F rfl rfl rfl (by decide) (fun wq hS => r_assign F rfl) ER.sb fun a F => ?_
     refine d_e ?_
     refine o_eff0 F rfl rfl rfl (e_storeN0 (us := [.slice A437 t114.1.length C438, .int .i64 0]) F rfl rfl sz_66 h129 (Nat.le_of_ble_eq_true rfl) (one_all rfl)) ?_
     rintro w442 a ⟨E443, h129, Z444⟩ F
     have B := B.size Z444
     have h288 := TB.ev h288 E443 (by show ¬ (m + 2 = m + 4); omega) (by show ¬ (0 = m + 4); omega)
     have h292 := MU.ev h292 E443 (by show ¬ (m + 3 = m + 4); omega) (by show ¬ (0 = m + 4); omega)
     have h430 := SL.ev h430 E443 (by show ¬ (0 = m + 4); omega) (by show ¬ (0 = m + 4); omega)
     have h439 := SL.ev h439 E443 (by show ¬ (0 = m + 4); omega) (by show ¬ (0 = m + 4); omega)
     have h440 := RD.ev h440 E443 (by show ¬ (m + 1 = m + 4); omega) (by show ¬ (0 = m + 4); omega)
     have E := E.trans E443 (fun x q => by replace q : x = m + 4 := q; show False ∨ m ≤ x; omega)
     have h129 : AT true (m + 4) c433 w442 qa127 [.slice A437 t114.1.length C438, .int .i64 0] := h129
     refine ⟨fun q => absurd rfl q, ?_⟩
     refine d_nil ?_
     exact J462 c433 w442 a t92 qa127 t114 A437 C438 (F.sub ⟨rfl, rfl, rfl, rfl, rfl, rfl, rfl, rfl, trivial⟩) E B h129 h288 h292 h440 h439 H
    ·obtain ⟨t114, q115, H⟩ := bind_some H
     refine o_call F rfl (wanted_none rfl) rfl (by decide) (r_call F Try.func53 rfl (by kernel_rfl) rfl) (parcel_Reader_Text.calls (m := m + 5) (by omega) B h431 (by omega) 0 (by omega) _ q115) ?_
     rintro e w446 ⟨c445, A449, C450, rfl, E447, B448, h451, h452⟩
     refine ⟨_, rfl, fun a F => ?_⟩
     have B := B448
     have ER := ER.trans E447 (fun x q => by replace q : x = m + 1 := q; show x = m + 1; omega)
     have h288 := TB.ev h288 E447 (by show ¬ (m + 2 = m + 1); omega) (by show ¬ (0 = m + 1); omega)
     have h292 := MU.ev h292 E447 (by show ¬ (m + 3 = m + 1); omega) (by show ¬ (0 = m + 1); omega)
     have h129 := AT.ev h129 E447 (by show ¬ (m + 4 = m + 1); omega)
     have h430 := SL.ev h430 E447 (by show ¬ (0 = m + 1); omega) (by show ¬ (0 = m + 1); omega)
     have E := E.trans E447 (fun x q => by replace q : x = m + 1 := q; show False ∨ m ≤ x; omega)
     refine ⟨fun _ => ER.sb, ?_⟩
     refine d_q F rfl rfl rfl (by decide) (fun wq hS => r_build (v := .agg #[.slice A449 t114.1.length C450, .int .i64 0]) F [(0, .slice A449 t114.1.length C450)] (by exact ⟨rfl, rfl, trivial⟩) (fun w => by kernel_rfl)) ER.sb fun a F => ?_
     refine d_e ?_
     refine o_val F rfl rfl rfl (by decide) (r_bytesStr F Try.underlying23 Try.underlying5 Try.underlying9 rfl h430) fun a F => ?_
     refine ⟨fun _ => ER.sb, ?_⟩
     refine d_q F rfl rfl rfl (by decide) (fun wq hS => r_assign F rfl) ER.sb fun a F => ?_
     refine d_e ?_
     refine o_eff0 F rfl rfl rfl (e_storeN0 (us := [.slice A449 t114.1.length C450, .int .i64 0]) F rfl rfl sz_66 h129 (Nat.le_of_ble_eq_true rfl) (one_all rfl)) ?_
     rintro w454 a ⟨E455, h129, Z456⟩ F
     have B := B.size Z456
     have h288 := TB.ev h288 E455 (by show ¬ (m + 2 = m + 4); omega) (by show ¬ (0 = m + 4); omega)
     have h292 := MU.ev h292 E455 (by show ¬ (m + 3 = m + 4); omega) (by show ¬ (0 = m + 4); omega)
     have h430 := SL.ev h430 E455 (by show ¬ (0 = m + 4); omega) (by show ¬ (0 = m + 4); omega)
     have h451 := SL.ev h451 E455 (by show ¬ (0 = m + 4); omega) (by show ¬ (0 = m + 4); omega)
     have h452 := RD.ev h452 E455 (by show ¬ (m + 1 = m + 4); omega) (by show ¬ (0 = m + 4); omega)
     have E := E.trans E455 (fun x q => by replace q : x = m + 4 := q; show False ∨ m ≤ x; omega)
     have h129 : AT true (m + 4) c445 w454 qa127 [.slice A449 t114.1.length C450, .int .i64 0] := h129
     refine ⟨fun q => absurd rfl q, ?_⟩
     refine d_nil ?_
     exact J462 c445 w454 a t92 qa127 t114 A449 C450 (F.sub ⟨rfl, rfl, rfl, rfl, rfl, rfl, rfl, rfl, trivial⟩) E B h129 h288 h292 h452 h451 H
  ·have H := (if_neg hb312).symm.trans H
   refine wp_cond_false ((F.ev rfl).trans (congrArg Value.bool (bfalse hb312))) ?_
   refine wp_exit ?_
   refine thenE ?_
   refine thenE ?_
   refine inbE ?_
   have hx_ := HD299 _ (Option.some.inj H).symm
   have H := HR303
   rw [← hx_] at H
   exact J513 c310 w311 a o285 o289 b290 (F.sub ⟨rfl, rfl, rfl, trivial⟩) E B h284 h288 H
 refine reg ?_
 refine q_val F rfl rfl (by decide) (r_move F rfl) fun a F => ?_
 refine q_val F rfl rfl (by decide) (r_gtr F rfl rfl) fun a F => ?_
 refine q_val F rfl rfl (by decide) (r_move F rfl) fun a F => ?_
 by_cases hb307 : 0 < i286
 ·have H := (if_pos hb307).symm.trans H
  refine q_yes F rfl (by decide) rfl (decide_eq_true hb307) ?_
  refine q_val F rfl rfl (by decide) (r_move F rfl) fun a F => ?_
  refine q_val F rfl rfl (by decide) (r_pick_t F rfl (decide_eq_true hb307) rfl) fun a F => ?_
  refine nil ?_
  exact J309 c295 w296 a b290 (F.sub ⟨rfl, rfl, rfl, rfl, rfl, rfl, rfl, rfl, trivial⟩) E B h284 h288 h292 H
 ·have H := (if_neg hb307).symm.trans H
  refine q_no F rfl (by decide) rfl (decide_eq_false hb307) (by decide) fun a F => ?_
  refine q_val F rfl rfl (by decide) (r_pick_f F rfl (decide_eq_false hb307) rfl) fun a F => ?_
  refine nil ?_
  exact J309 c295 w296 a false (F.sub ⟨rfl, rfl, rfl, rfl, rfl, rfl, rfl, rfl, trivial⟩) E B h284 h288 h292 H
end Go.Proofs.Ytcolmmjcdlmcoaa.G
namespace Go.Proofs.Ytcolmmjcdlmcoaa.G
open Go Go.RowKit
set_option linter.unusedVariables false
set_option linter.unusedSimpArgs false
set_option maxRecDepth 100000 in
set_option maxHeartbeats 4000000 in
theorem haulagelaw13_same.calls (k : Nat) {m : Nat} {c0 : Nat → Nat} {w0 : World} {A2 : Option Addr} {C3 : Nat} {A6 : Option Addr} {C7 : Nat} {a1 : List Int} {a5 : List Int} (hm0 : 0 < m) (B0 : CB m c0 w0) (h4 : SL false (Kint .u8) 0 0 c0 w0 A2 C3 a1) (h8 : SL false (Kint .u8) 0 0 c0 w0 A6 C7 a5) (r : Bool) (H : haulagelaw13_same.f k a1 a5 = some r) : Calls Try.prog 18 #[.slice A2 a1.length C3, .slice A6 a5.length C7] w0 (fun e w_ => ∃ (c_ : Nat → Nat), e = .returned (.bool r) ∧ Ev (fun x => False) c0 w0 c_ w_ ∧ CB m c_ w_) := by
 unfold haulagelaw13_same.f at H
 have B := B0.mono (show m ≤ m + 1 by omega)
 have E : Ev (fun x => False ∨ m ≤ x) c0 w0 c0 w0 := Ev.refl
 refine enter (N := 26) (l := [.slice A2 a1.length C3, .slice A6 a5.length C7]) Try.func18 rfl rfl (Nat.le_of_ble_eq_true rfl) fun a F => ?_
 refine wp_seq_k fun K9 hK9 => ?_
 refine reg ?_
 refine q_val F rfl rfl (by decide) (r_assign F rfl) fun a F => ?_
 refine nil ?_
 refine hK9 _ _ ?_
 refine wp_seq_k fun K10 hK10 => ?_
 refine wp_seq_k fun K11 hK11 => ?_
 refine reg ?_
 refine q_val F rfl rfl (by decide) (r_move F rfl) fun a F => ?_
 refine q_val F rfl rfl (by decide) (r_lensl F Try.underlying23 rfl) fun a F => ?_
 refine q_val F rfl rfl (by decide) (r_move F rfl) fun a F => ?_
 refine q_val F rfl rfl (by decide) (r_lensl F Try.underlying23 rfl) fun a F => ?_
 refine q_val F rfl rfl (by decide) (r_neq F rfl rfl) fun a F => ?_
 refine nil ?_
 refine hK11 _ _ ?_
 by_cases hb12 : (a1.length : Int) = (a5.length : Int)
 ·have H := (if_pos hb12).symm.trans H
  refine wp_cond_false ((F.ev rfl).trans (congrArg Value.bool (congrArg not (decide_eq_true hb12)))) ?_
  refine wp_skip ?_
  refine hK10 _ _ ?_
  refine wp_seq_k fun K14 hK14 => ?_
  refine wp_seq_k fun K15 hK15 => ?_
  refine reg ?_
  refine q_val F rfl rfl (by decide) (r_assign F rfl) fun a F => ?_
  refine nil ?_
  refine hK15 _ _ ?_
  refine wp_block ?_
  obtain ⟨x26, HL, HR25⟩ := bind_some H
  have J53 : ∀ (c54 : Nat → Nat) (w55 : World) (a : Act), Fr a 26 [] → Ev (fun x => False ∨ m ≤ x) c0 w0 c54 w55 → CB (m + 1) c54 w55 → haulagelaw13_same.j2 = some r → K14 a w55 := by
   intro c54 w55 a  F E B  H
   unfold haulagelaw13_same.j2 at H
   refine hK14 _ _ ?_
   refine wp_seq_k fun K56 hK56 => ?_
   refine reg ?_
   refine q_val F rfl rfl (by decide) (r_assign F rfl) fun a F => ?_
   refine nil ?_
   refine hK56 _ _ ?_
   refine wp_ret ?_
   have H := Option.some.inj H
   subst H
   refine out1 F rfl rfl ?_
   exact ⟨fun b_ => (fun x_ => if x_ < m then x_ else 0) (c54 b_), rfl, E.leave B0 (fun x_ => if x_ < m then x_ else 0) (by intro x_ hx_; show (if x_ < m then x_ else 0) = x_; ((repeat' split) <;> omega)), (fun b_ hb_ => by show (if (c54 b_) < m then (c54 b_) else 0) < m; ((repeat' split) <;> omega))⟩
  refine loop_fuel (I := fun n a w => ∃ (i16 : Int) (c : Nat → Nat), Fr a 26 [(0, .slice A2 a1.length C3), (1, .slice A6 a5.length C7), (5, .int .i64 i16)] ∧ Ev (fun x => False ∨ m ≤ x) c0 w0 c w ∧ CB (m + 1) c w ∧ SL false (Kint .u8) 0 0 c w A2 C3 a1 ∧ SL false (Kint .u8) 0 0 c w A6 C7 a5 ∧ loop (fun (s_ : Int) => haulagelaw13_same.b1 a1 a5 s_) n i16 = some x26) (k := k) ⟨0, c0, F.sub ⟨rfl, rfl, rfl, trivial⟩, E, B, h4, h8, HL⟩ ?_
  clear HL H E F B
  intro n23 X19 hX19 a w18 ⟨i16, c17, F, E, B, h4, h8, HL⟩
  obtain ⟨n24, ctl22, rfl, HB, HN20, HD21⟩ := loop_some HL
  have H : haulagelaw13_same.b1 a1 a5 i16 = some ctl22 := HB
  clear HB HL
  unfold haulagelaw13_same.b1 at H
  refine wp_seq_k fun K27 hK27 => ?_
  refine wp_seq_k fun K28 hK28 => ?_
  refine reg ?_
  refine q_val F rfl rfl (by decide) (r_move F rfl) fun a F => ?_
  refine q_val F rfl rfl (by decide) (r_move F rfl) fun a F => ?_
  refine q_val F rfl rfl (by decide) (r_lensl F Try.underlying23 rfl) fun a F => ?_
  refine q_val F rfl rfl (by decide) (r_lss F rfl rfl) fun a F => ?_
  refine nil ?_
  refine hK28 _ _ ?_
  by_cases hb29 : i16 < (a1.length : Int)
  ·have H := (if_pos hb29).symm.trans H
   refine wp_cond_true ((F.ev rfl).trans (congrArg Value.bool (decide_eq_true hb29))) ?_
   refine wp_skip ?_
   refine hK27 _ _ ?_
   refine wp_seq_k fun K30 hK30 => ?_
   refine wp_block ?_
   refine wp_seq_k fun K31 hK31 => ?_
   refine regD (SB No c17 w18) 9 (.q 0 (.q 1 (.q 2 (.q 3 (.q 4 (.q 5 (.q 6 (.q 7 (.q 8 .nil))))))))) Try_hm (by decide +kernel) ?_
   intro w32 w1_ w2_ w3_ w4_
   have E33 : Ev No c17 w18 c17 w32 := Ev.same w1_ w2_ w3_ w4_
   have B := B.same w1_
   have zh4 := h4
   have zh8 := h8
   have ER : Ev No c17 w18 c17 w32 := Ev.same w1_ w2_ w3_ w4_
   have h4 := SL.ev h4 E33 (fun q => q.elim) (fun q => q.elim)
   have h8 := SL.ev h8 E33 (fun q => q.elim) (fun q => q.elim)
   have E := E.trans E33 (fun x q => q.elim)
   refine d_q F rfl rfl rfl (by decide) (fun wq hS => r_move F rfl) ER.sb fun a F => ?_
   refine d_q F rfl rfl rfl (by decide) (fun wq hS => r_move F rfl) ER.sb fun a F => ?_
   obtain ⟨g34, H⟩ := ifN H
   obtain ⟨ad35, cs36, e37, h38, r39⟩ := SL.at zh4 i16 g34.1 g34.2
   obtain rfl : cs36 = [.int .u8 (rd a1 i16)] := r39
   obtain ⟨qa40, qqa40⟩ : ∃ q, q = (ad35.add (i16.toNat * 1)) := ⟨_, rfl⟩
   have h38 : AT false 0 c17 w18 qa40 [.int .u8 (rd a1 i16)] := by rw [qqa40]; exact h38
   have zh38 := h38
   have h38 := AT.ev h38 ER (fun q => q.elim)
   refine d_q F rfl rfl rfl (by decide) (fun wq hS => r_indexAddr' F Try.underlying23 sz_5 rfl rfl g34.1 g34.2 e37 qqa40) ER.sb fun a F => ?_
   refine d_q F rfl rfl rfl (by decide) (fun wq hS => r_load F rfl ag_5 (AT.cell0 (AT.sb zh38 hS (fun q => q.elim)) rfl)) ER.sb fun a F => ?_
   refine d_q F rfl rfl rfl (by decide) (fun wq hS => r_move F rfl) ER.sb fun a F => ?_
   refine d_q F rfl rfl rfl (by decide) (fun wq hS => r_move F rfl) ER.sb fun a F => ?_
   obtain ⟨g42, H⟩ := ifN H
   obtain ⟨ad43, cs44, e45, h46, r47⟩ := SL.at zh8 i16 g42.1 g42.2
   obtain rfl : cs44 = [.int .u8 (rd a5 i16)] := r47
   obtain ⟨qa48, qqa48⟩ : ∃ q, q = (ad43.add (i16.toNat * 1)) := ⟨_, rfl⟩
   have h46 : AT false 0 c17 w18 qa48 [.int .u8 (rd a5 i16)] := by rw [qqa48]; exact h46
   have zh46 := h46
   have h46 := AT.ev h46 ER (fun q => q.elim)
   refine d_q F rfl rfl rfl (by decide) (fun wq hS => r_indexAddr' F Try.underlying23 sz_5 rfl rfl g42.1 g42.2 e45 qqa48) ER.sb fun a F => ?_
   refine d_q F rfl rfl rfl (by decide) (fun wq hS => r_load F rfl ag_5 (AT.cell0 (AT.sb zh46 hS (fun q => q.elim)) rfl)) ER.sb fun a F => ?_
   refine d_q F rfl rfl rfl (by decide) (fun wq hS => r_neq F rfl rfl) ER.sb fun a F => ?_
   refine d_nil ?_
   refine hK31 _ _ ?_
   by_cases hb50 : (rd a1 i16) = (rd a5 i16)
   ·have H := (if_pos hb50).symm.trans H
    refine wp_cond_false ((F.ev rfl).trans (congrArg Value.bool (congrArg not (decide_eq_true hb50)))) ?_
    refine wp_skip ?_
    refine hK30 _ _ ?_
    refine reg ?_
    refine q_val F rfl rfl (by decide) (r_move F rfl) fun a F => ?_
    refine q_val F rfl rfl (by decide) (r_add F rfl rfl) fun a F => ?_
    refine q_val F rfl rfl (by decide) (r_assign F rfl) fun a F => ?_
    refine nil ?_
    have H := HN20 _ (Option.some.inj H).symm
    exact hX19 _ _ _ (Nat.lt_succ_self _) ⟨(IntKind.i64.wrap (i16 + 1)), c17, F.sub ⟨rfl, rfl, rfl, trivial⟩, E, B, h4, h8, H⟩
   ·have H := (if_neg hb50).symm.trans H
    refine wp_cond_true ((F.ev rfl).trans (congrArg Value.bool (congrArg not (decide_eq_false hb50)))) ?_
    refine wp_seq_k fun K51 hK51 => ?_
    refine reg ?_
    refine q_val F rfl rfl (by decide) (r_assign F rfl) fun a F => ?_
    refine nil ?_
    refine hK51 _ _ ?_
    refine wp_ret ?_
    refine inbR ?_
    refine thenR ?_
    refine thenR ?_
    refine inbR ?_
    refine thenR ?_
    have hx_ := HD21 _ (Option.some.inj H).symm
    have H := HR25
    rw [← hx_] at H
    replace H : some false = some r := H
    have H := Option.some.inj H
    subst H
    refine out1 F rfl rfl ?_
    exact ⟨fun b_ => (fun x_ => if x_ < m then x_ else 0) (c17 b_), rfl, E.leave B0 (fun x_ => if x_ < m then x_ else 0) (by intro x_ hx_; show (if x_ < m then x_ else 0) = x_; ((repeat' split) <;> omega)), (fun b_ hb_ => by show (if (c17 b_) < m then (c17 b_) else 0) < m; ((repeat' split) <;> omega))⟩
  ·have H := (if_neg hb29).symm.trans H
   refine wp_cond_false ((F.ev rfl).trans (congrArg Value.bool (decide_eq_false hb29))) ?_
   refine wp_exit ?_
   refine thenE ?_
   refine thenE ?_
   refine inbE ?_
   have hx_ := HD21 _ (Option.some.inj H).symm
   have H := HR25
   rw [← hx_] at H
   exact J53 c17 w18 a  (F.sub trivial) E B  H
 ·have H := (if_neg hb12).symm.trans H
  refine wp_cond_true ((F.ev rfl).trans (congrArg Value.bool (congrArg not (decide_eq_false hb12)))) ?_
  refine wp_seq_k fun K13 hK13 => ?_
  refine reg ?_
  refine q_val F rfl rfl (by decide) (r_assign F rfl) fun a F => ?_
  refine nil ?_
  refine hK13 _ _ ?_
  refine wp_ret ?_
  refine thenR ?_
  have H := Option.some.inj H
  subst H
  refine out1 F rfl rfl ?_
  exact ⟨fun b_ => (fun x_ => if x_ < m then x_ else 0) (c0 b_), rfl, E.leave B0 (fun x_ => if x_ < m then x_ else 0) (by intro x_ hx_; show (if x_ < m then x_ else 0) = x_; ((repeat' split) <;> omega)), (fun b_ hb_ => by show (if (c0 b_) < m then (c0 b_) else 0) < m; ((repeat' split) <;> omega))⟩
end Go.Proofs.Ytcolmmjcdlmcoaa.G
namespace Go.Proofs.Ytcolmmjcdlmcoaa.G
open Go Go.RowKit
set_option linter.unusedVariables false
set_option linter.unusedSimpArgs false
set_option maxRecDepth 100000 in
set_option maxHeartbeats 4000000 in
theorem haulagelaw13_sameAnswer.calls (k : Nat) {m : Nat} {c0 : Nat → Nat} {w0 : World} {A2 : Option Addr} {C3 : Nat} {A5 : Option Addr} {C6 : Nat} {A9 : Option Addr} {C10 : Nat} {A12 : Option Addr} {C13 : Nat} {a1 : api_Answer} {a8 : api_Answer} (hm0 : 0 < m) (B0 : CB m c0 w0) (h4 : SL false (Kint .u8) 0 0 c0 w0 A2 C3 a1.Key) (h7 : SL false (Kint .u8) 0 0 c0 w0 A5 C6 a1.Value) (h11 : SL false (Kint .u8) 0 0 c0 w0 A9 C10 a8.Key) (h14 : SL false (Kint .u8) 0 0 c0 w0 A12 C13 a8.Value) (r : Bool) (H : haulagelaw13_sameAnswer.f k a1 a8 = some r) : Calls Try.prog 22 #[.agg #[.bool a1.Done, .slice A2 a1.Key.length C3, .slice A5 a1.Value.length C6, .int .i64 a1.Rev, .int .i64 a1.At], .agg #[.bool a8.Done, .slice A9 a8.Key.length C10, .slice A12 a8.Value.length C13, .int .i64 a8.Rev, .int .i64 a8.At]] w0 (fun e w_ => ∃ (c_ : Nat → Nat), e = .returned (.bool r) ∧ Ev (fun x => False) c0 w0 c_ w_ ∧ CB m c_ w_) := by
 unfold haulagelaw13_sameAnswer.f at H
 have B := B0.mono (show m ≤ m + 3 by omega)
 have E : Ev (fun x => False ∨ m ≤ x) c0 w0 c0 w0 := Ev.refl
 refine enter (N := 38) (l := [.agg #[.bool a1.Done, .slice A2 a1.Key.length C3, .slice A5 a1.Value.length C6, .int .i64 a1.Rev, .int .i64 a1.At], .agg #[.bool a8.Done, .slice A9 a8.Key.length C10, .slice A12 a8.Value.length C13, .int .i64 a8.Rev, .int .i64 a8.At]]) Try.func22 rfl rfl (Nat.le_of_ble_eq_true rfl) fun a F => ?_
 refine wp_seq_k fun K15 hK15 => ?_
 refine reg ?_
 refine q_eff F rfl rfl (by decide) (e_box F (v := .agg #[.bool a1.Done, .slice A2 a1.Key.length C3, .slice A5 a1.Value.length C6, .int .i64 a1.Rev, .int .i64 a1.At]) rfl c0 (m + 1)) ?_
 rintro v w17 a ⟨c16, qa18, rfl, E19, h20, B21⟩ F
 have B := B21 _ B (by omega)
 have h4 := SL.ev h4 E19 (fun q => q.elim) (fun q => q.elim)
 have h7 := SL.ev h7 E19 (fun q => q.elim) (fun q => q.elim)
 have h11 := SL.ev h11 E19 (fun q => q.elim) (fun q => q.elim)
 have h14 := SL.ev h14 E19 (fun q => q.elim) (fun q => q.elim)
 have E := E.trans E19 (fun x q => q.elim)
 have h20 : AT true (m + 1) c16 w17 qa18 [.bool a1.Done, .slice A2 a1.Key.length C3, .slice A5 a1.Value.length C6, .int .i64 a1.Rev, .int .i64 a1.At] := h20
 refine q_eff F rfl rfl (by decide) (e_box F (v := .agg #[.bool a8.Done, .slice A9 a8.Key.length C10, .slice A12 a8.Value.length C13, .int .i64 a8.Rev, .int .i64 a8.At]) rfl c16 (m + 2)) ?_
 rintro v w24 a ⟨c23, qa25, rfl, E26, h27, B28⟩ F
 have B := B28 _ B (by omega)
 have h4 := SL.ev h4 E26 (fun q => q.elim) (fun q => q.elim)
 have h7 := SL.ev h7 E26 (fun q => q.elim) (fun q => q.elim)
 have h11 := SL.ev h11 E26 (fun q => q.elim) (fun q => q.elim)
 have h14 := SL.ev h14 E26 (fun q => q.elim) (fun q => q.elim)
 have h20 := AT.ev h20 E26 (fun q => q.elim)
 have E := E.trans E26 (fun x q => q.elim)
 have h27 : AT true (m + 2) c23 w24 qa25 [.bool a8.Done, .slice A9 a8.Key.length C10, .slice A12 a8.Value.length C13, .int .i64 a8.Rev, .int .i64 a8.At] := h27
 refine q_val F rfl rfl (by decide) (r_assign F rfl) fun a F => ?_
 refine nil ?_
 refine hK15 _ _ ?_
 refine wp_seq_k fun K30 hK30 => ?_
 refine reg ?_
 refine q_val F rfl rfl (by decide) (r_fieldAddr F rfl ff_28_0) fun a F => ?_
 refine q_val F rfl rfl (by decide) (r_load F rfl ag_4 (AT.cell h20 rfl)) fun a F => ?_
 refine q_val F rfl rfl (by decide) (r_fieldAddr F rfl ff_28_0) fun a F => ?_
 refine q_val F rfl rfl (by decide) (r_load F rfl ag_4 (AT.cell h27 rfl)) fun a F => ?_
 refine q_val F rfl rfl (by decide) (r_beql F Try.underlying4 rfl rfl) fun a F => ?_
 refine q_val F rfl rfl (by decide) (r_move F rfl) fun a F => ?_
 by_cases hb31 : (a1.Done == a8.Done) = true
 ·have H := (if_pos hb31).symm.trans H
  refine q_yes F rfl (by decide) rfl hb31 ?_
  refine q_val F rfl rfl (by decide) (r_fieldAddr F rfl ff_28_1) fun a F => ?_
  refine q_yes F rfl (by decide) rfl hb31 ?_
  refine q_val F rfl rfl (by decide) (r_load F rfl ag_23 (AT.cell h20 rfl)) fun a F => ?_
  refine q_yes F rfl (by decide) rfl hb31 ?_
  refine q_val F rfl rfl (by decide) (r_fieldAddr F rfl ff_28_1) fun a F => ?_
  refine q_yes F rfl (by decide) rfl hb31 ?_
  refine q_val F rfl rfl (by decide) (r_load F rfl ag_23 (AT.cell h27 rfl)) fun a F => ?_
  obtain ⟨t32, q33, H⟩ := bind_some H
  refine q_yes F rfl (by decide) rfl hb31 ?_
  refine q_call F rfl rfl (by decide) (r_call F Try.func18 rfl (by kernel_rfl) rfl) (haulagelaw13_same.calls k (m := m + 3) (by omega) B h4 h11 _ q33) ?_
  rintro e w35 ⟨c34, rfl, E36, B37⟩
  refine ⟨_, rfl, fun a F => ?_⟩
  have B := B37
  have h4 := SL.ev h4 E36 (fun q => q.elim) (fun q => q.elim)
  have h7 := SL.ev h7 E36 (fun q => q.elim) (fun q => q.elim)
  have h11 := SL.ev h11 E36 (fun q => q.elim) (fun q => q.elim)
  have h14 := SL.ev h14 E36 (fun q => q.elim) (fun q => q.elim)
  have h20 := AT.ev h20 E36 (fun q => q.elim)
  have h27 := AT.ev h27 E36 (fun q => q.elim)
  have E := E.trans E36 (fun x q => q.elim)
  refine q_val F rfl rfl (by decide) (r_pick_t F rfl hb31 rfl) fun a F => ?_
  refine q_val F rfl rfl (by decide) (r_move F rfl) fun a F => ?_
  by_cases hb39 : t32 = true
  ·have H := (if_pos hb39).symm.trans H
   refine q_yes F rfl (by decide) rfl hb39 ?_
   refine q_val F rfl rfl (by decide) (r_fieldAddr F rfl ff_28_2) fun a F => ?_
   refine q_yes F rfl (by decide) rfl hb39 ?_
   refine q_val F rfl rfl (by decide) (r_load F rfl ag_23 (AT.cell h20 rfl)) fun a F => ?_
   refine q_yes F rfl (by decide) rfl hb39 ?_
   refine q_val F rfl rfl (by decide) (r_fieldAddr F rfl ff_28_2) fun a F => ?_
   refine q_yes F rfl (by decide) rfl hb39 ?_
   refine q_val F rfl rfl (by decide) (r_load F rfl ag_23 (AT.cell h27 rfl)) fun a F => ?_
   obtain ⟨t40, q41, H⟩ := bind_some H
   refine q_yes F rfl (by decide) rfl hb39 ?_
   refine q_call F rfl rfl (by decide) (r_call F Try.func18 rfl (by kernel_rfl) rfl) (haulagelaw13_same.calls k (m := m + 3) (by omega) B h7 h14 _ q41) ?_
   rintro e w43 ⟨c42, rfl, E44, B45⟩
   refine ⟨_, rfl, fun a F => ?_⟩
   have B := B45
   have h4 := SL.ev h4 E44 (fun q => q.elim) (fun q => q.elim)
   have h7 := SL.ev h7 E44 (fun q => q.elim) (fun q => q.elim)
   have h11 := SL.ev h11 E44 (fun q => q.elim) (fun q => q.elim)
   have h14 := SL.ev h14 E44 (fun q => q.elim) (fun q => q.elim)
   have h20 := AT.ev h20 E44 (fun q => q.elim)
   have h27 := AT.ev h27 E44 (fun q => q.elim)
   have E := E.trans E44 (fun x q => q.elim)
   refine q_val F rfl rfl (by decide) (r_pick_t F rfl hb39 rfl) fun a F => ?_
   refine q_val F rfl rfl (by decide) (r_move F rfl) fun a F => ?_
   by_cases hb47 : t40 = true
   ·have H := (if_pos hb47).symm.trans H
    refine q_yes F rfl (by decide) rfl hb47 ?_
    refine q_val F rfl rfl (by decide) (r_fieldAddr F rfl ff_28_3) fun a F => ?_
    refine q_yes F rfl (by decide) rfl hb47 ?_
    refine q_val F rfl rfl (by decide) (r_load F rfl ag_3 (AT.cell h20 rfl)) fun a F => ?_
    refine q_yes F rfl (by decide) rfl hb47 ?_
    refine q_val F rfl rfl (by decide) (r_fieldAddr F rfl ff_28_3) fun a F => ?_
    refine q_yes F rfl (by decide) rfl hb47 ?_
    refine q_val F rfl rfl (by decide) (r_load F rfl ag_3 (AT.cell h27 rfl)) fun a F => ?_
    refine q_yes F rfl (by decide) rfl hb47 ?_
    refine q_val F rfl rfl (by decide) (r_eql F rfl rfl) fun a F => ?_
    refine q_val F rfl rfl (by decide) (r_pick_t F rfl hb47 rfl) fun a F => ?_
    refine q_val F rfl rfl (by decide) (r_move F rfl) fun a F => ?_
    by_cases hb48 : a1.Rev = a8.Rev
    ·have H := (if_pos hb48).symm.trans H
     refine q_yes F rfl (by decide) rfl (decide_eq_true hb48) ?_
     refine q_val F rfl rfl (by decide) (r_fieldAddr F rfl ff_28_4) fun a F => ?_
     refine q_yes F rfl (by decide) rfl (decide_eq_true hb48) ?_
     refine q_val F rfl rfl (by decide) (r_load F rfl ag_3 (AT.cell h20 rfl)) fun a F => ?_
     refine q_yes F rfl (by decide) rfl (decide_eq_true hb48) ?_
     refine q_val F rfl rfl (by decide) (r_fieldAddr F rfl ff_28_4) fun a F => ?_
     refine q_yes F rfl (by decide) rfl (decide_eq_true hb48) ?_
     refine q_val F rfl rfl (by decide) (r_load F rfl ag_3 (AT.cell h27 rfl)) fun a F => ?_
     refine q_yes F rfl (by decide) rfl (decide_eq_true hb48) ?_
     refine q_val F rfl rfl (by decide) (r_eql F rfl rfl) fun a F => ?_
     refine q_val F rfl rfl (by decide) (r_pick_t F rfl (decide_eq_true hb48) rfl) fun a F => ?_
     refine q_val F rfl rfl (by decide) (r_assign F rfl) fun a F => ?_
     refine nil ?_
     refine hK30 _ _ ?_
     refine wp_ret ?_
     have H := Option.some.inj H
     subst H
     refine out1 F rfl rfl ?_
     exact ⟨fun b_ => (fun x_ => if x_ < m then x_ else 0) (c42 b_), rfl, E.leave B0 (fun x_ => if x_ < m then x_ else 0) (by intro x_ hx_; show (if x_ < m then x_ else 0) = x_; ((repeat' split) <;> omega)), (fun b_ hb_ => by show (if (c42 b_) < m then (c42 b_) else 0) < m; ((repeat' split) <;> omega))⟩
    ·have H := (if_neg hb48).symm.trans H
     refine q_no F rfl (by decide) rfl (decide_eq_false hb48) (by decide) fun a F => ?_
     refine q_no F rfl (by decide) rfl (decide_eq_false hb48) (by decide) fun a F => ?_
     refine q_no F rfl (by decide) rfl (decide_eq_false hb48) (by decide) fun a F => ?_
     refine q_no F rfl (by decide) rfl (decide_eq_false hb48) (by decide) fun a F => ?_
     refine q_no F rfl (by decide) rfl (decide_eq_false hb48) (by decide) fun a F => ?_
     refine q_val F rfl rfl (by decide) (r_pick_f F rfl (decide_eq_false hb48) rfl) fun a F => ?_
     refine q_val F rfl rfl (by decide) (r_assign F rfl) fun a F => ?_
     refine nil ?_
     refine hK30 _ _ ?_
     refine wp_ret ?_
     have H := Option.some.inj H
     subst H
     refine out1 F rfl rfl ?_
     exact ⟨fun b_ => (fun x_ => if x_ < m then x_ else 0) (c42 b_), rfl, E.leave B0 (fun x_ => if x_ < m then x_ else 0) (by intro x_ hx_; show (if x_ < m then x_ else 0) = x_; ((repeat' split) <;> omega)), (fun b_ hb_ => by show (if (c42 b_) < m then (c42 b_) else 0) < m; ((repeat' split) <;> omega))⟩
   ·have H := (if_neg hb47).symm.trans H
    refine q_no F rfl (by decide) rfl (bfalse hb47) (by decide) fun a F => ?_
    refine q_no F rfl (by decide) rfl (bfalse hb47) (by decide) fun a F => ?_
    refine q_no F rfl (by decide) rfl (bfalse hb47) (by decide) fun a F => ?_
    refine q_no F rfl (by decide) rfl (bfalse hb47) (by decide) fun a F => ?_
    refine q_no F rfl (by decide) rfl (bfalse hb47) (by decide) fun a F => ?_
    refine q_val F rfl rfl (by decide) (r_pick_f F rfl (bfalse hb47) rfl) fun a F => ?_
    refine q_val F rfl rfl (by decide) (r_move F rfl) fun a F => ?_
    refine q_no F rfl (by decide) rfl rfl (by decide) fun a F => ?_
    refine q_no F rfl (by decide) rfl rfl (by decide) fun a F => ?_
    refine q_no F rfl (by decide) rfl rfl (by decide) fun a F => ?_
    refine q_no F rfl (by decide) rfl rfl (by decide) fun a F => ?_
    refine q_no F rfl (by decide) rfl rfl (by decide) fun a F => ?_
    refine q_val F rfl rfl (by decide) (r_pick_f F rfl rfl rfl) fun a F => ?_
    refine q_val F rfl rfl (by decide) (r_assign F rfl) fun a F => ?_
    refine nil ?_
    refine hK30 _ _ ?_
    refine wp_ret ?_
    have H := Option.some.inj H
    subst H
    refine out1 F rfl rfl ?_
    exact ⟨fun b_ => (fun x_ => if x_ < m then x_ else 0) (c42 b_), rfl, E.leave B0 (fun x_ => if x_ < m then x_ else 0) (by intro x_ hx_; show (if x_ < m then x_ else 0) = x_; ((repeat' split) <;> omega)), (fun b_ hb_ => by show (if (c42 b_) < m then (c42 b_) else 0) < m; ((repeat' split) <;> omega))⟩
  ·have H := (if_neg hb39).symm.trans H
   refine q_no F rfl (by decide) rfl (bfalse hb39) (by decide) fun a F => ?_
   refine q_no F rfl (by decide) rfl (bfalse hb39) (by decide) fun a F => ?_
   refine q_no F rfl (by decide) rfl (bfalse hb39) (by decide) fun a F => ?_
   refine q_no F rfl (by decide) rfl (bfalse hb39) (by decide) fun a F => ?_
   refine q_no F rfl (by decide) rfl (bfalse hb39) (by decide) fun a F => ?_
   refine q_val F rfl rfl (by decide) (r_pick_f F rfl (bfalse hb39) rfl) fun a F => ?_
   refine q_val F rfl rfl (by decide) (r_move F rfl) fun a F => ?_
   refine q_no F rfl (by decide) rfl rfl (by decide) fun a F => ?_
   refine q_no F rfl (by decide) rfl rfl (by decide) fun a F => ?_
   refine q_no F rfl (by decide) rfl rfl (by decide) fun a F => ?_
   refine q_no F rfl (by decide) rfl rfl (by decide) fun a F => ?_
   refine q_no F rfl (by decide) rfl rfl (by decide) fun a F => ?_
   refine q_val F rfl rfl (by decide) (r_pick_f F rfl rfl rfl) fun a F => ?_
   refine q_val F rfl rfl (by decide) (r_move F rfl) fun a F => ?_
   refine q_no F rfl (by decide) rfl rfl (by decide) fun a F => ?_
   refine q_no F rfl (by decide) rfl rfl (by decide) fun a F => ?_
   refine q_no F rfl (by decide) rfl rfl (by decide) fun a F => ?_
   refine q_no F rfl (by decide) rfl rfl (by decide) fun a F => ?_
   refine q_no F rfl (by decide) rfl rfl (by decide) fun a F => ?_
   refine q_val F rfl rfl (by decide) (r_pick_f F rfl rfl rfl) fun a F => ?_
   refine q_val F rfl rfl (by decide) (r_assign F rfl) fun a F => ?_
   refine nil ?_
   refine hK30 _ _ ?_
   refine wp_ret ?_
   have H := Option.some.inj H
   subst H
   refine out1 F rfl rfl ?_
   exact ⟨fun b_ => (fun x_ => if x_ < m then x_ else 0) (c34 b_), rfl, E.leave B0 (fun x_ => if x_ < m then x_ else 0) (by intro x_ hx_; show (if x_ < m then x_ else 0) = x_; ((repeat' split) <;> omega)), (fun b_ hb_ => by show (if (c34 b_) < m then (c34 b_) else 0) < m; ((repeat' split) <;> omega))⟩
 ·have H := (if_neg hb31).symm.trans H
  refine q_no F rfl (by decide) rfl (bfalse hb31) (by decide) fun a F => ?_
  refine q_no F rfl (by decide) rfl (bfalse hb31) (by decide) fun a F => ?_
  refine q_no F rfl (by decide) rfl (bfalse hb31) (by decide) fun a F => ?_
  refine q_no F rfl (by decide) rfl (bfalse hb31) (by decide) fun a F => ?_
  refine q_no F rfl (by decide) rfl (bfalse hb31) (by decide) fun a F => ?_
  refine q_val F rfl rfl (by decide) (r_pick_f F rfl (bfalse hb31) rfl) fun a F => ?_
  refine q_val F rfl rfl (by decide) (r_move F rfl) fun a F => ?_
  refine q_no F rfl (by decide) rfl rfl (by decide) fun a F => ?_
  refine q_no F rfl (by decide) rfl rfl (by decide) fun a F => ?_
  refine q_no F rfl (by decide) rfl rfl (by decide) fun a F => ?_
  refine q_no F rfl (by decide) rfl rfl (by decide) fun a F => ?_
  refine q_no F rfl (by decide) rfl rfl (by decide) fun a F => ?_
  refine q_val F rfl rfl (by decide) (r_pick_f F rfl rfl rfl) fun a F => ?_
  refine q_val F rfl rfl (by decide) (r_move F rfl) fun a F => ?_
  refine q_no F rfl (by decide) rfl rfl (by decide) fun a F => ?_
  refine q_no F rfl (by decide) rfl rfl (by decide) fun a F => ?_
  refine q_no F rfl (by decide) rfl rfl (by decide) fun a F => ?_
  refine q_no F rfl (by decide) rfl rfl (by decide) fun a F => ?_
  refine q_no F rfl (by decide) rfl rfl (by decide) fun a F => ?_
  refine q_val F rfl rfl (by decide) (r_pick_f F rfl rfl rfl) fun a F => ?_
  refine q_val F rfl rfl (by decide) (r_move F rfl) fun a F => ?_
  refine q_no F rfl (by decide) rfl rfl (by decide) fun a F => ?_
  refine q_no F rfl (by decide) rfl rfl (by decide) fun a F => ?_
  refine q_no F rfl (by decide) rfl rfl (by decide) fun a F => ?_
  refine q_no F rfl (by decide) rfl rfl (by decide) fun a F => ?_
  refine q_no F rfl (by decide) rfl rfl (by decide) fun a F => ?_
  refine q_val F rfl rfl (by decide) (r_pick_f F rfl rfl rfl) fun a F => ?_
  refine q_val F rfl rfl (by decide) (r_assign F rfl) fun a F => ?_
  refine nil ?_
  refine hK30 _ _ ?_
  refine wp_ret ?_
  have H := Option.some.inj H
  subst H
  refine out1 F rfl rfl ?_
  exact ⟨fun b_ => (fun x_ => if x_ < m then x_ else 0) (c23 b_), rfl, E.leave B0 (fun x_ => if x_ < m then x_ else 0) (by intro x_ hx_; show (if x_ < m then x_ else 0) = x_; ((repeat' split) <;> omega)), (fun b_ hb_ => by show (if (c23 b_) < m then (c23 b_) else 0) < m; ((repeat' split) <;> omega))⟩
end Go.Proofs.Ytcolmmjcdlmcoaa.G
namespace Go.Proofs.Ytcolmmjcdlmcoaa.G
open Go Go.RowKit
set_option linter.unusedVariables false
set_option linter.unusedSimpArgs false
set_option maxRecDepth 100000 in
set_option maxHeartbeats 4000000 in
theorem haulagelaw13_put.calls {m : Nat} {c0 : Nat → Nat} {w0 : World} {A2 : Option Addr} {C3 : Nat} {A6 : Option Addr} {C7 : Nat} {a1 : List Int} {a5 : List Int} (hm0 : 0 < m) (B0 : CB m c0 w0) (h4 : SL false (Kint .u8) 0 0 c0 w0 A2 C3 a1) (h8 : SL false (Kint .u8) 0 0 c0 w0 A6 C7 a5) (r : api_Op) (H : haulagelaw13_put.f a1 a5 = some r) : Calls Try.prog 32 #[.slice A2 a1.length C3, .slice A6 a5.length C7] w0 (fun e w_ => ∃ (c_ : Nat → Nat) (A0_ : Option Addr) (C0_ : Nat) (A2_ : Option Addr) (C2_ : Nat), e = .returned (.agg #[.int .i64 r.Kind, .slice A0_ r.Key.length C0_, .slice A2_ r.Value.length C2_, .int .i64 r.Rev]) ∧ Ev (fun x => False) c0 w0 c_ w_ ∧ CB m c_ w_ ∧ SL false (Kint .u8) 0 0 c_ w_ A0_ C0_ r.Key ∧ SL false (Kint .u8) 0 0 c_ w_ A2_ C2_ r.Value) := by
 unfold haulagelaw13_put.f at H
 have B := B0.mono (show m ≤ m + 2 by omega)
 have E : Ev (fun x => False ∨ m ≤ x) c0 w0 c0 w0 := Ev.refl
 refine enter (N := 8) (l := [.slice A2 a1.length C3, .slice A6 a5.length C7]) Try.func32 rfl rfl (Nat.le_of_ble_eq_true rfl) fun a F => ?_
 refine wp_seq_k fun K9 hK9 => ?_
 refine reg ?_
 refine q_eff F rfl rfl (by decide) (e_alloc F zv_33 c0 (m + 1)) ?_
 rintro v w11 a ⟨c10, qa12, rfl, E13, h14, B15⟩ F
 have B := B15 _ B (by omega)
 have h4 := SL.ev h4 E13 (fun q => q.elim) (fun q => q.elim)
 have h8 := SL.ev h8 E13 (fun q => q.elim) (fun q => q.elim)
 have E := E.trans E13 (fun x q => q.elim)
 have h14 : AT true (m + 1) c10 w11 qa12 [.int .i64 0, .slice none 0 0, .slice none 0 0, .int .i64 0] := h14
 refine nil ?_
 refine hK9 _ _ ?_
 refine wp_seq_k fun K17 hK17 => ?_
 refine reg ?_
 refine q_val F rfl rfl (by decide) (r_move F rfl) fun a F => ?_
 refine q_val F rfl rfl (by decide) (r_move F rfl) fun a F => ?_
 refine q_val F rfl rfl (by decide) (r_build (v := .agg #[.int .i64 2, .slice A2 a1.length C3, .slice A6 a5.length C7, .int .i64 0]) F [(0, .int .i64 2), (1, .slice A2 a1.length C3), (2, .slice A6 a5.length C7)] (by exact ⟨rfl, rfl, rfl, rfl, rfl, rfl, trivial⟩) (fun w => by kernel_rfl)) fun a F => ?_
 refine q_eff0 F rfl rfl (e_storeN0 (us := [.int .i64 2, .slice A2 a1.length C3, .slice A6 a5.length C7, .int .i64 0]) F rfl rfl sz_33 h14 (Nat.le_of_ble_eq_true rfl) (one_all rfl)) ?_
 rintro w18 a ⟨E19, h14, Z20⟩ F
 have B := B.size Z20
 have h4 := SL.ev h4 E19 (by show ¬ (0 = m + 1); omega) (by show ¬ (0 = m + 1); omega)
 have h8 := SL.ev h8 E19 (by show ¬ (0 = m + 1); omega) (by show ¬ (0 = m + 1); omega)
 have E := E.trans E19 (fun x q => by replace q : x = m + 1 := q; show False ∨ m ≤ x; omega)
 have h14 : AT true (m + 1) c10 w18 qa12 [.int .i64 2, .slice A2 a1.length C3, .slice A6 a5.length C7, .int .i64 0] := h14
 refine nil ?_
 refine hK17 _ _ ?_
 refine wp_ret ?_
 have H := Option.some.inj H
 subst H
 refine outR1 F rfl ⟨_, rfl, lv_agg (cs := [.int .i64 2, .slice A2 a1.length C3, .slice A6 a5.length C7, .int .i64 0]) ag_33 sz_33 h14⟩ ?_
 exact ⟨fun b_ => (fun x_ => if x_ < m then x_ else 0) (c10 b_), A2, C3, A6, C7, rfl, E.leave B0 (fun x_ => if x_ < m then x_ else 0) (by intro x_ hx_; show (if x_ < m then x_ else 0) = x_; ((repeat' split) <;> omega)), (fun b_ hb_ => by show (if (c10 b_) < m then (c10 b_) else 0) < m; ((repeat' split) <;> omega)), SL.rc h4 (fun k_ hk_ => by show (if (c10 k_) < m then (c10 k_) else 0) = _; rw [hk_]; ((repeat' split) <;> omega)) (fun k_ hk_ => by show (if (c10 k_) < m then (c10 k_) else 0) = _; rw [hk_]; ((repeat' split) <;> omega)), SL.rc h8 (fun k_ hk_ => by show (if (c10 k_) < m then (c10 k_) else 0) = _; rw [hk_]; ((repeat' split) <;> omega)) (fun k_ hk_ => by show (if (c10 k_) < m then (c10 k_) else 0) = _; rw [hk_]; ((repeat' split) <;> omega))⟩
end Go.Proofs.Ytcolmmjcdlmcoaa.G
namespace Go.Proofs.Ytcolmmjcdlmcoaa.G
open Go Go.RowKit
set_option linter.unusedVariables false
set_option linter.unusedSimpArgs false
set_option maxRecDepth 100000 in
set_option maxHeartbeats 4000000 in
theorem haulagelaw13_get.calls {m : Nat} {c0 : Nat → Nat} {w0 : World} {A2 : Option Addr} {C3 : Nat} {a1 : List Int} (hm0 : 0 < m) (B0 : CB m c0 w0) (h4 : SL false (Kint .u8) 0 0 c0 w0 A2 C3 a1) (jr17 : Nat) (bjr17 : jr17 < m) (r : api_Op) (H : haulagelaw13_get.f a1 = some r) : Calls Try.prog 15 #[.slice A2 a1.length C3] w0 (fun e w_ => ∃ (c_ : Nat → Nat) (A0_ : Option Addr) (C0_ : Nat) (A2_ : Option Addr) (C2_ : Nat), e = .returned (.agg #[.int .i64 r.Kind, .slice A0_ r.Key.length C0_, .slice A2_ r.Value.length C2_, .int .i64 r.Rev]) ∧ Ev (fun x => False) c0 w0 c_ w_ ∧ CB m c_ w_ ∧ SL false (Kint .u8) 0 0 c_ w_ A0_ C0_ r.Key ∧ SL true (Kint .u8) jr17 0 c_ w_ A2_ C2_ r.Value) := by
 unfold haulagelaw13_get.f at H
 have B := B0.mono (show m ≤ m + 2 by omega)
 have E : Ev (fun x => False ∨ m ≤ x) c0 w0 c0 w0 := Ev.refl
 refine enter (N := 5) (l := [.slice A2 a1.length C3]) Try.func15 rfl rfl (Nat.le_of_ble_eq_true rfl) fun a F => ?_
 refine wp_seq_k fun K5 hK5 => ?_
 refine reg ?_
 refine q_eff F rfl rfl (by decide) (e_alloc F zv_33 c0 (m + 1)) ?_
 rintro v w7 a ⟨c6, qa8, rfl, E9, h10, B11⟩ F
 have B := B11 _ B (by omega)
 have h4 := SL.ev h4 E9 (fun q => q.elim) (fun q => q.elim)
 have E := E.trans E9 (fun x q => q.elim)
 have h10 : AT true (m + 1) c6 w7 qa8 [.int .i64 0, .slice none 0 0, .slice none 0 0, .int .i64 0] := h10
 refine nil ?_
 refine hK5 _ _ ?_
 refine wp_seq_k fun K13 hK13 => ?_
 refine reg ?_
 refine q_val F rfl rfl (by decide) (r_move F rfl) fun a F => ?_
 refine q_val F rfl rfl (by decide) (r_build (v := .agg #[.int .i64 1, .slice A2 a1.length C3, .slice none 0 0, .int .i64 0]) F [(0, .int .i64 1), (1, .slice A2 a1.length C3)] (by exact ⟨rfl, rfl, rfl, rfl, trivial⟩) (fun w => by kernel_rfl)) fun a F => ?_
 refine q_eff0 F rfl rfl (e_storeN0 (us := [.int .i64 1, .slice A2 a1.length C3, .slice none 0 0, .int .i64 0]) F rfl rfl sz_33 h10 (Nat.le_of_ble_eq_true rfl) (one_all rfl)) ?_
 rintro w14 a ⟨E15, h10, Z16⟩ F
 have B := B.size Z16
 have h4 := SL.ev h4 E15 (by show ¬ (0 = m + 1); omega) (by show ¬ (0 = m + 1); omega)
 have E := E.trans E15 (fun x q => by replace q : x = m + 1 := q; show False ∨ m ≤ x; omega)
 have h10 : AT true (m + 1) c6 w14 qa8 [.int .i64 1, .slice A2 a1.length C3, .slice none 0 0, .int .i64 0] := h10
 refine nil ?_
 refine hK13 _ _ ?_
 refine wp_ret ?_
 have H := Option.some.inj H
 subst H
 refine outR1 F rfl ⟨_, rfl, lv_agg (cs := [.int .i64 1, .slice A2 a1.length C3, .slice none 0 0, .int .i64 0]) ag_33 sz_33 h10⟩ ?_
 exact ⟨fun b_ => (fun x_ => if x_ < m then x_ else 0) (c6 b_), A2, C3, none, 0, rfl, E.leave B0 (fun x_ => if x_ < m then x_ else 0) (by intro x_ hx_; show (if x_ < m then x_ else 0) = x_; ((repeat' split) <;> omega)), (fun b_ hb_ => by show (if (c6 b_) < m then (c6 b_) else 0) < m; ((repeat' split) <;> omega)), SL.rc h4 (fun k_ hk_ => by show (if (c6 k_) < m then (c6 k_) else 0) = _; rw [hk_]; ((repeat' split) <;> omega)) (fun k_ hk_ => by show (if (c6 k_) < m then (c6 k_) else 0) = _; rw [hk_]; ((repeat' split) <;> omega)), SL.nil⟩
end Go.Proofs.Ytcolmmjcdlmcoaa.G
namespace Go.Proofs.Ytcolmmjcdlmcoaa.G
open Go Go.RowKit
set_option linter.unusedVariables false
set_option linter.unusedSimpArgs false
set_option maxRecDepth 100000 in
set_option maxHeartbeats 4000000 in
theorem haulagelaw13_comes.calls (k : Nat) {m : Nat} {c0 : Nat → Nat} {w0 : World} {A2 : Option Addr} {C3 : Nat} {A6 : Option Addr} {C7 : Nat} {a1 : List Int} {a5 : List Int} (hm0 : 0 < m) (B0 : CB m c0 w0) (h4 : SL false (Kint .u8) 0 0 c0 w0 A2 C3 a1) (h8 : SL false (Kint .u8) 0 0 c0 w0 A6 C7 a5) (r : Bool) (H : haulagelaw13_comes.f k a1 a5 = some r) : Calls Try.prog 28 #[.slice A2 a1.length C3, .slice A6 a5.length C7] w0 (fun e w_ => ∃ (c_ : Nat → Nat), e = .returned (.bool r) ∧ Ev (fun x => False) c0 w0 c_ w_ ∧ CB m c_ w_) := by
 unfold haulagelaw13_comes.f at H
 have B := B0.mono (show m ≤ m + 1 by omega)
 have E : Ev (fun x => False ∨ m ≤ x) c0 w0 c0 w0 := Ev.refl
 refine enter (N := 41) (l := [.slice A2 a1.length C3, .slice A6 a5.length C7]) Try.func28 rfl rfl (Nat.le_of_ble_eq_true rfl) fun a F => ?_
 refine wp_seq_k fun K9 hK9 => ?_
 refine reg ?_
 refine q_val F rfl rfl (by decide) (r_assign F rfl) fun a F => ?_
 refine nil ?_
 refine hK9 _ _ ?_
 refine wp_seq_k fun K10 hK10 => ?_
 refine wp_seq_k fun K11 hK11 => ?_
 refine reg ?_
 refine q_val F rfl rfl (by decide) (r_assign F rfl) fun a F => ?_
 refine nil ?_
 refine hK11 _ _ ?_
 refine wp_block ?_
 obtain ⟨x22, HL, HR21⟩ := bind_some H
 have J72 : ∀ (c73 : Nat → Nat) (w74 : World) (a : Act), Fr a 41 [(0, .slice A2 a1.length C3), (1, .slice A6 a5.length C7)] → Ev (fun x => False ∨ m ≤ x) c0 w0 c73 w74 → CB (m + 1) c73 w74 → SL false (Kint .u8) 0 0 c73 w74 A2 C3 a1 → SL false (Kint .u8) 0 0 c73 w74 A6 C7 a5 → haulagelaw13_comes.j3 a1 a5 = some r → K10 a w74 := by
  intro c73 w74 a  F E B h4 h8 H
  unfold haulagelaw13_comes.j3 at H
  refine hK10 _ _ ?_
  refine wp_seq_k fun K75 hK75 => ?_
  refine reg ?_
  refine q_val F rfl rfl (by decide) (r_move F rfl) fun a F => ?_
  refine q_val F rfl rfl (by decide) (r_lensl F Try.underlying23 rfl) fun a F => ?_
  refine q_val F rfl rfl (by decide) (r_move F rfl) fun a F => ?_
  refine q_val F rfl rfl (by decide) (r_lensl F Try.underlying23 rfl) fun a F => ?_
  refine q_val F rfl rfl (by decide) (r_lss F rfl rfl) fun a F => ?_
  refine q_val F rfl rfl (by decide) (r_assign F rfl) fun a F => ?_
  refine nil ?_
  refine hK75 _ _ ?_
  refine wp_ret ?_
  have H := Option.some.inj H
  subst H
  refine out1 F rfl rfl ?_
  exact ⟨fun b_ => (fun x_ => if x_ < m then x_ else 0) (c73 b_), rfl, E.leave B0 (fun x_ => if x_ < m then x_ else 0) (by intro x_ hx_; show (if x_ < m then x_ else 0) = x_; ((repeat' split) <;> omega)), (fun b_ hb_ => by show (if (c73 b_) < m then (c73 b_) else 0) < m; ((repeat' split) <;> omega))⟩
 refine loop_fuel (I := fun n a w => ∃ (i12 : Int) (c : Nat → Nat), Fr a 41 [(0, .slice A2 a1.length C3), (1, .slice A6 a5.length C7), (5, .int .i64 i12)] ∧ Ev (fun x => False ∨ m ≤ x) c0 w0 c w ∧ CB (m + 1) c w ∧ SL false (Kint .u8) 0 0 c w A2 C3 a1 ∧ SL false (Kint .u8) 0 0 c w A6 C7 a5 ∧ loop (fun (s_ : Int) => haulagelaw13_comes.b2 a1 a5 s_) n i12 = some x22) (k := k) ⟨0, c0, F.sub ⟨rfl, rfl, rfl, trivial⟩, E, B, h4, h8, HL⟩ ?_
 clear HL H E F B
 intro n19 X15 hX15 a w14 ⟨i12, c13, F, E, B, h4, h8, HL⟩
 obtain ⟨n20, ctl18, rfl, HB, HN16, HD17⟩ := loop_some HL
 have H : haulagelaw13_comes.b2 a1 a5 i12 = some ctl18 := HB
 clear HB HL
 unfold haulagelaw13_comes.b2 at H
 refine wp_seq_k fun K23 hK23 => ?_
 refine wp_seq_k fun K24 hK24 => ?_
 have J27 : ∀ (c28 : Nat → Nat) (w29 : World) (a : Act) (b26 : Bool), Fr a 41 [(0, .slice A2 a1.length C3), (1, .slice A6 a5.length C7), (5, .int .i64 i12), (15, .bool b26)] → Ev (fun x => False ∨ m ≤ x) c0 w0 c28 w29 → CB (m + 1) c28 w29 → SL false (Kint .u8) 0 0 c28 w29 A2 C3 a1 → SL false (Kint .u8) 0 0 c28 w29 A6 C7 a5 → haulagelaw13_comes.j1 a1 a5 i12 b26 = some ctl18 → K24 a w29 := by
  intro c28 w29 a b26 F E B h4 h8 H
  unfold haulagelaw13_comes.j1 at H
  refine hK24 _ _ ?_
  by_cases hb30 : b26 = true
  ·have H := (if_pos hb30).symm.trans H
   refine wp_cond_true ((F.ev rfl).trans (congrArg Value.bool hb30)) ?_
   refine wp_skip ?_
   refine hK23 _ _ ?_
   refine wp_seq_k fun K31 hK31 => ?_
   refine wp_block ?_
   refine wp_seq_k fun K32 hK32 => ?_
   refine regD (SB No c28 w29) 9 (.q 0 (.q 1 (.q 2 (.q 3 (.q 4 (.q 5 (.q 6 (.q 7 (.q 8 .nil))))))))) Try_hm (by decide +kernel) ?_
   intro w33 w1_ w2_ w3_ w4_
   have E34 : Ev No c28 w29 c28 w33 := Ev.same w1_ w2_ w3_ w4_
   have B := B.same w1_
   have zh4 := h4
   have zh8 := h8
   have ER : Ev No c28 w29 c28 w33 := Ev.same w1_ w2_ w3_ w4_
   have h4 := SL.ev h4 E34 (fun q => q.elim) (fun q => q.elim)
   have h8 := SL.ev h8 E34 (fun q => q.elim) (fun q => q.elim)
   have E := E.trans E34 (fun x q => q.elim)
   refine d_q F rfl rfl rfl (by decide) (fun wq hS => r_move F rfl) ER.sb fun a F => ?_
   refine d_q F rfl rfl rfl (by decide) (fun wq hS => r_move F rfl) ER.sb fun a F => ?_
   obtain ⟨g35, H⟩ := ifN H
   obtain ⟨ad36, cs37, e38, h39, r40⟩ := SL.at zh4 i12 g35.1 g35.2
   obtain rfl : cs37 = [.int .u8 (rd a1 i12)] := r40
   obtain ⟨qa41, qqa41⟩ : ∃ q, q = (ad36.add (i12.toNat * 1)) := ⟨_, rfl⟩
   have h39 : AT false 0 c28 w29 qa41 [.int .u8 (rd a1 i12)] := by rw [qqa41]; exact h39
   have zh39 := h39
   have h39 := AT.ev h39 ER (fun q => q.elim)
   refine d_q F rfl rfl rfl (by decide) (fun wq hS => r_indexAddr' F Try.underlying23 sz_5 rfl rfl g35.1 g35.2 e38 qqa41) ER.sb fun a F => ?_
   refine d_q F rfl rfl rfl (by decide) (fun wq hS => r_load F rfl ag_5 (AT.cell0 (AT.sb zh39 hS (fun q => q.elim)) rfl)) ER.sb fun a F => ?_
   refine d_q F rfl rfl rfl (by decide) (fun wq hS => r_move F rfl) ER.sb fun a F => ?_
   refine d_q F rfl rfl rfl (by decide) (fun wq hS => r_move F rfl) ER.sb fun a F => ?_
   obtain ⟨g43, H⟩ := ifN H
   obtain ⟨ad44, cs45, e46, h47, r48⟩ := SL.at zh8 i12 g43.1 g43.2
   obtain rfl : cs45 = [.int .u8 (rd a5 i12)] := r48
   obtain ⟨qa49, qqa49⟩ : ∃ q, q = (ad44.add (i12.toNat * 1)) := ⟨_, rfl⟩
   have h47 : AT false 0 c28 w29 qa49 [.int .u8 (rd a5 i12)] := by rw [qqa49]; exact h47
   have zh47 := h47
   have h47 := AT.ev h47 ER (fun q => q.elim)
   refine d_q F rfl rfl rfl (by decide) (fun wq hS => r_indexAddr' F Try.underlying23 sz_5 rfl rfl g43.1 g43.2 e46 qqa49) ER.sb fun a F => ?_
   refine d_q F rfl rfl rfl (by decide) (fun wq hS => r_load F rfl ag_5 (AT.cell0 (AT.sb zh47 hS (fun q => q.elim)) rfl)) ER.sb fun a F => ?_
   refine d_q F rfl rfl rfl (by decide) (fun wq hS => r_neq F rfl rfl) ER.sb fun a F => ?_
   refine d_nil ?_
   refine hK32 _ _ ?_
   by_cases hb51 : (rd a1 i12) = (rd a5 i12)
   ·have H := (if_pos hb51).symm.trans H
    refine wp_cond_false ((F.ev rfl).trans (congrArg Value.bool (congrArg not (decide_eq_true hb51)))) ?_
    refine wp_skip ?_
    refine hK31 _ _ ?_
    refine reg ?_
    refine q_val F rfl rfl (by decide) (r_move F rfl) fun a F => ?_
    refine q_val F rfl rfl (by decide) (r_add F rfl rfl) fun a F => ?_
    refine q_val F rfl rfl (by decide) (r_assign F rfl) fun a F => ?_
    refine nil ?_
    have H := HN16 _ (Option.some.inj H).symm
    exact hX15 _ _ _ (Nat.lt_succ_self _) ⟨(IntKind.i64.wrap (i12 + 1)), c28, F.sub ⟨rfl, rfl, rfl, trivial⟩, E, B, h4, h8, H⟩
   ·have H := (if_neg hb51).symm.trans H
    refine wp_cond_true ((F.ev rfl).trans (congrArg Value.bool (congrArg not (decide_eq_false hb51)))) ?_
    refine wp_seq_k fun K52 hK52 => ?_
    refine regD (SB No c28 w33) 10 (.q 0 (.q 1 (.q 2 (.q 3 (.q 4 (.q 5 (.q 6 (.q 7 (.q 8 (.q 9 .nil)))))))))) Try_hm (by decide +kernel) ?_
    intro w53 w1_ w2_ w3_ w4_
    have E54 : Ev No c28 w33 c28 w53 := Ev.same w1_ w2_ w3_ w4_
    have B := B.same w1_
    have zh4 := h4
    have zh8 := h8
    have zh39 := h39
    have zh47 := h47
    have ER : Ev No c28 w33 c28 w53 := Ev.same w1_ w2_ w3_ w4_
    have h4 := SL.ev h4 E54 (fun q => q.elim) (fun q => q.elim)
    have h8 := SL.ev h8 E54 (fun q => q.elim) (fun q => q.elim)
    have h39 := AT.ev h39 E54 (fun q => q.elim)
    have h47 := AT.ev h47 E54 (fun q => q.elim)
    have E := E.trans E54 (fun x q => q.elim)
    refine d_q F rfl rfl rfl (by decide) (fun wq hS => r_move F rfl) ER.sb fun a F => ?_
    refine d_q F rfl rfl rfl (by decide) (fun wq hS => r_move F rfl) ER.sb fun a F => ?_
    obtain ⟨g55, H⟩ := ifN H
    obtain ⟨ad56, cs57, e58, h59, r60⟩ := SL.at zh4 i12 g55.1 g55.2
    obtain rfl : cs57 = [.int .u8 (rd a1 i12)] := r60
    obtain ⟨qa61, qqa61⟩ : ∃ q, q = (ad56.add (i12.toNat * 1)) := ⟨_, rfl⟩
    have h59 : AT false 0 c28 w33 qa61 [.int .u8 (rd a1 i12)] := by rw [qqa61]; exact h59
    have zh59 := h59
    have h59 := AT.ev h59 ER (fun q => q.elim)
    refine d_q F rfl rfl rfl (by decide) (fun wq hS => r_indexAddr' F Try.underlying23 sz_5 rfl rfl g55.1 g55.2 e58 qqa61) ER.sb fun a F => ?_
    refine d_q F rfl rfl rfl (by decide) (fun wq hS => r_load F rfl ag_5 (AT.cell0 (AT.sb zh59 hS (fun q => q.elim)) rfl)) ER.sb fun a F => ?_
    refine d_q F rfl rfl rfl (by decide) (fun wq hS => r_move F rfl) ER.sb fun a F => ?_
    refine d_q F rfl rfl rfl (by decide) (fun wq hS => r_move F rfl) ER.sb fun a F => ?_
    obtain ⟨g63, H⟩ := ifN H
    obtain ⟨ad64, cs65, e66, h67, r68⟩ := SL.at zh8 i12 g63.1 g63.2
    obtain rfl : cs65 = [.int .u8 (rd a5 i12)] := r68
    obtain ⟨qa69, qqa69⟩ : ∃ q, q = (ad64.add (i12.toNat * 1)) := ⟨_, rfl⟩
    have h67 : AT false 0 c28 w33 qa69 [.int .u8 (rd a5 i12)] := by rw [qqa69]; exact h67
    have zh67 := h67
    have h67 := AT.ev h67 ER (fun q => q.elim)
    refine d_q F rfl rfl rfl (by decide) (fun wq hS => r_indexAddr' F Try.underlying23 sz_5 rfl rfl g63.1 g63.2 e66 qqa69) ER.sb fun a F => ?_
    refine d_q F rfl rfl rfl (by decide) (fun wq hS => r_load F rfl ag_5 (AT.cell0 (AT.sb zh67 hS (fun q => q.elim)) rfl)) ER.sb fun a F => ?_
    refine d_q F rfl rfl rfl (by decide) (fun wq hS => r_lss F rfl rfl) ER.sb fun a F => ?_
    refine d_q F rfl rfl rfl (by decide) (fun wq hS => r_assign F rfl) ER.sb fun a F => ?_
    refine d_nil ?_
    refine hK52 _ _ ?_
    refine wp_ret ?_
    refine inbR ?_
    refine thenR ?_
    refine thenR ?_
    refine inbR ?_
    refine thenR ?_
    have hx_ := HD17 _ (Option.some.inj H).symm
    have H := HR21
    rw [← hx_] at H
    replace H : some (decide ((rd a1 i12) < (rd a5 i12))) = some r := H
    have H := Option.some.inj H
    subst H
    refine out1 F rfl rfl ?_
    exact ⟨fun b_ => (fun x_ => if x_ < m then x_ else 0) (c28 b_), rfl, E.leave B0 (fun x_ => if x_ < m then x_ else 0) (by intro x_ hx_; show (if x_ < m then x_ else 0) = x_; ((repeat' split) <;> omega)), (fun b_ hb_ => by show (if (c28 b_) < m then (c28 b_) else 0) < m; ((repeat' split) <;> omega))⟩
  ·have H := (if_neg hb30).symm.trans H
   refine wp_cond_false ((F.ev rfl).trans (congrArg Value.bool (bfalse hb30))) ?_
   refine wp_exit ?_
   refine thenE ?_
   refine thenE ?_
   refine inbE ?_
   have hx_ := HD17 _ (Option.some.inj H).symm
   have H := HR21
   rw [← hx_] at H
   exact J72 c28 w29 a  (F.sub ⟨rfl, rfl, trivial⟩) E B h4 h8 H
 refine reg ?_
 refine q_val F rfl rfl (by decide) (r_move F rfl) fun a F => ?_
 refine q_val F rfl rfl (by decide) (r_move F rfl) fun a F => ?_
 refine q_val F rfl rfl (by decide) (r_lensl F Try.underlying23 rfl) fun a F => ?_
 refine q_val F rfl rfl (by decide) (r_lss F rfl rfl) fun a F => ?_
 refine q_val F rfl rfl (by decide) (r_move F rfl) fun a F => ?_
 by_cases hb25 : i12 < (a1.length : Int)
 ·have H := (if_pos hb25).symm.trans H
  refine q_yes F rfl (by decide) rfl (decide_eq_true hb25) ?_
  refine q_val F rfl rfl (by decide) (r_move F rfl) fun a F => ?_
  refine q_yes F rfl (by decide) rfl (decide_eq_true hb25) ?_
  refine q_val F rfl rfl (by decide) (r_move F rfl) fun a F => ?_
  refine q_yes F rfl (by decide) rfl (decide_eq_true hb25) ?_
  refine q_val F rfl rfl (by decide) (r_lensl F Try.underlying23 rfl) fun a F => ?_
  refine q_yes F rfl (by decide) rfl (decide_eq_true hb25) ?_
  refine q_val F rfl rfl (by decide) (r_lss F rfl rfl) fun a F => ?_
  refine q_val F rfl rfl (by decide) (r_pick_t F rfl (decide_eq_true hb25) rfl) fun a F => ?_
  refine nil ?_
  exact J27 c13 w14 a (decide (i12 < (a5.length : Int))) (F.sub ⟨rfl, rfl, rfl, rfl, trivial⟩) E B h4 h8 H
 ·have H := (if_neg hb25).symm.trans H
  refine q_no F rfl (by decide) rfl (decide_eq_false hb25) (by decide) fun a F => ?_
  refine q_no F rfl (by decide) rfl (decide_eq_false hb25) (by decide) fun a F => ?_
  refine q_no F rfl (by decide) rfl (decide_eq_false hb25) (by decide) fun a F => ?_
  refine q_no F rfl (by decide) rfl (decide_eq_false hb25) (by decide) fun a F => ?_
  refine q_val F rfl rfl (by decide) (r_pick_f F rfl (decide_eq_false hb25) rfl) fun a F => ?_
  refine nil ?_
  exact J27 c13 w14 a false (F.sub ⟨rfl, rfl, rfl, rfl, trivial⟩) E B h4 h8 H
end Go.Proofs.Ytcolmmjcdlmcoaa.G
