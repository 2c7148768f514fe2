import Derived.Test.YtohljkjaggcapaaRm
namespace Go.Proofs.Ytohljkjaggcapaa.RT
open Go.RowKit Go.Proofs.YtohljkjaggcapaaW.PrintWords Go.Proofs.YtohljkjaggcapaaW.PrintLast Go.Proofs.YtohljkjaggcapaaW.PrintMore Go.Proofs.Ytohljkjaggcapaa.PJ Go.Proofs.Ytohljkjaggcapaa.JF Go.Proofs.Ytohljkjaggcapaa.JQ Go.Proofs.Ytohljkjaggcapaa.MV
set_option linter.unusedVariables false
set_option linter.unusedSimpArgs false
variable {w : World} {F : Nat → Prop} {b n : Nat} {S : RS} {m1 m2 : Nat} {T : Int → Option Value}

/-- Whom a server knows. -/
def nextV (xs : List Int) (i : Nat) : Int := if 0 < i ∧ i < xs.length ∧ 0 < xs.getD i 0 then Int.tmod (xs.getD i 0) i else i
def nxTo (xs : List Int) (a i : Nat) : List Int := (List.range a).map fun j => if j < i then nextV xs j else 0
theorem nxTo_length (xs : List Int) (a i : Nat) : (nxTo xs a i).length = a := by simp [nxTo]
theorem nxTo_zero (xs : List Int) (a : Nat) : nxTo xs a 0 = List.replicate a 0 := by
  apply List.ext_getElem <;> simp [nxTo]
theorem nxTo_set (xs : List Int) (a i : Nat) (h : i < a) : (nxTo xs a i).set i (nextV xs i) = nxTo xs a (i + 1) := by
  apply List.ext_getElem
  · simp [nxTo]
  · intro j h1 h2
    simp only [nxTo, List.getElem_set, List.getElem_map, List.getElem_range]
    by_cases e : i = j
    · subst e; rw [if_pos rfl, if_pos (by omega)]
    · rw [if_neg e]
      by_cases c : j < i
      · rw [if_pos c, if_pos (by omega)]
      · rw [if_neg c, if_neg (by omega)]
theorem nxTo_at (xs : List Int) (a i : Nat) (h : i < a) : rdOf (0 : Int) (nxTo xs a a) i = nextV xs i := by
  unfold rdOf nxTo; simp [h]
theorem nextV_bd (xs : List Int) (i : Nat) : 0 ≤ nextV xs i ∧ nextV xs i ≤ i ∧ (nextV xs i ≠ i → nextV xs i < i) := by
  unfold nextV
  split
  · rename_i h
    rw [Int.tmod_eq_emod_of_nonneg (by omega)]
    have := Int.emod_nonneg (xs.getD i 0) (show (i : Int) ≠ 0 by omega)
    have := Int.emod_lt_of_pos (xs.getD i 0) (show (0 : Int) < i by omega)
    omega
  · omega

theorem new_is {a c s v : Int} (s0 : 0 ≤ s) (s1 : s < c) (v0 : 0 ≤ v) (v1 : v < a) {S : RS} (ea : S.servers = a) (ec : S.shards = c) : S.is s v = true := by
  unfold RS.is; simp [ea, ec, s0, s1, v0, v1]
theorem where_of {s v : Int} (h : S.is s 0 = true) (e : S.wh s = some v) : S.where_ s = v := by
  unfold RS.where_; rw [if_pos h, e]

theorem hint_servers (s v : Int) : (S.hint s v).servers = S.servers ∧ (S.hint s v).shards = S.shards ∧ (S.hint s v).wh s = some v := ⟨rfl, rfl, by show (if s = s then some v else _) = _; rw [if_pos rfl]⟩
theorem hint_tr (s v : Int) (way : List Int) (at_ : Int) (m : Nat) (hm : S.servers = m) (h1 : S.where_ s = at_) (h2 : S.tr s = way) (h3 : way.length + 1 ≤ m) : (S.hint s v).tr s = way ++ [at_] := by
  show (if s = s then (S.tr s ++ [S.where_ s]).drop ((S.tr s).length + 1 - S.servers.toNat) else S.tr s) = _
  rw [if_pos rfl, h1, h2, hm, Int.toNat_natCast, show way.length + 1 - m = 0 by omega, List.drop_zero]

theorem SlRow.own {v : Value} {xs : List Int} (h : SlRow w F v xs) {k : Nat} (hk : v.ownBlock = some k) : F k ∧ k < w.heap.size := by
  rcases h with ⟨e, _⟩ | ⟨g, o, c, cur, e, hF, hb, _⟩
  · rw [e] at hk; simp [nilS, Value.ownBlock] at hk
  · rw [e] at hk
    simp [Value.ownBlock] at hk
    subst hk
    exact ⟨hF, (Array.getElem?_eq_some_iff.1 hb).1⟩

/-- The second loop's state. -/
structure Lp (w wr : World) (xs : List Int) (m gN b : Nat) (c s g : Int) (cur : Array Value) (v15 v16 : Value) : Prop where
  ex : ∃ (S : RS) (n : Nat) (way : List Int) (at_ g2 o2 c2 : Nat), v16 = .int .i64 at_ ∧ v15 = .slice (some ⟨g2, o2, none⟩) way.length c2 ∧ Ro wr w.heap.size (fun k => k = gN ∨ k = g2) b n S ∧ n ≤ way.length + 1 ∧ S.servers = m ∧ S.shards = c ∧ S.wh s = some (at_ : Int) ∧ S.tr s = way ∧
    (way.length + at_ : Int) ≤ g ∧ SlRow wr (fun k => w.heap.size ≤ k ∧ k ≠ gN) v15 way ∧ wr.heap[gN]? = some (.cells cur 3 (0, 0)) ∧ Below w.heap.size w wr

set_option maxRecDepth 100000 in
set_option maxHeartbeats 4000000 in
theorem follows_walk (a c s g : Int) (A : Option Addr) (cap : Nat) (xs : List Int) (w : World) (HX : Kd.C (Kd.int .i64) w A xs.length xs) (hc : xs.length ≤ cap) (hlen : xs.length ≤ 17592186043904) (hs : (Lit.int .i64 s).wf = true) :
    Calls Try.prog 3 #[.int .i64 a, .int .i64 c, .int .i64 s, .slice A xs.length cap, .int .i64 g] w fun e w' => e = .returned (.bool true) ∧ Below w.heap.size w w' := by
  by_cases bad : a < 1 ∨ 8 < a ∨ c < 1 ∨ 64 < c
  · clear HX
    go_enter Try.func3, Try.ntmps3
    go_wp2_with (go_at_call 9; refine (known_calls _).mono ?_; rintro e w1 ⟨rfl, B1⟩)
    go_wp2_with (go_at_call 10; refine (new_bad a c bad _).mono ?_; rintro e w2 ⟨rfl, D2⟩)
    go_wp2_with (go_at_call 11; refine (num_c _ _).mono ?_; rintro e w3 ⟨rfl, D3⟩)
    go_ret
    exact ⟨rfl, below_step (below_step B1 D2.below) D3.below⟩
  · have a0 : 1 ≤ a := by omega
    have a1 : a ≤ 8 := by omega
    have c0 : 1 ≤ c := by omega
    have c1 : c ≤ 64 := by omega
    obtain ⟨m, rfl⟩ : ∃ m : Nat, a = m := ⟨a.toNat, by omega⟩
    have HXH := Lib.hid HX
    clear HX bad
    go_enter Try.func3, Try.ntmps3
    go_wp2_with (go_at_call 9; refine (known_calls _).mono ?_; rintro e w1 ⟨rfl, B1⟩)
    go_wp2_with (go_at_call 10; refine (new_ro (m : Int) c a0 a1 c0 c1 _ w.heap.size (fun _ => False) B1.size (fun _ h => h.elim)).mono ?_; rintro e w2 ⟨b, rfl, R2, B2⟩)
    have R2' := Lib.hid R2
    clear R2
    go_wp2_with (fail)
    refine (num_c _ _).mono ?_
    rintro e w3 ⟨rfl, D3⟩
    have B3 : Below w.heap.size w w3 := below_step (below_step B1 B2) D3.below
    have R3 := Lib.hid (R2'.out.step D3.below.size (fun k hk _ => D3.below.block k hk))
    clear R2' D3 B2 B1 w1 w2
    by_cases s0 : s < 0
    · have d0 : decide (s < 0) = true := decide_eq_true s0
      go_wp2
      go_ret
      exact ⟨rfl, B3⟩
    have d0 : decide (s < 0) = false := decide_eq_false s0
    by_cases s1 : s ≥ c
    · have d1 : decide (c ≤ s) = true := decide_eq_true s1
      go_wp2
      go_ret
      exact ⟨rfl, B3⟩
    have d1 : decide (c ≤ s) = false := decide_eq_false s1
    by_cases g0 : g < 0
    · have d2 : decide (g < 0) = true := decide_eq_true g0
      go_wp2
      go_ret
      exact ⟨rfl, B3⟩
    have d2 : decide (g < 0) = false := decide_eq_false g0
    by_cases g1 : g ≥ (m : Int)
    · have d3 : decide ((m : Int) ≤ g) = true := decide_eq_true g1
      go_wp2
      go_ret
      exact ⟨rfl, B3⟩
    have d3 : decide ((m : Int) ≤ g) = false := decide_eq_false g1
    have B3' := Lib.hid B3
    clear B3
    go_wp2_with (first | ((with_reducible refine gate_dst (N := 47) rfl ?_); refine Kd.R_make (Kd.int .i64) _ 3 rfl (N := 47) rfl 22 _ _ rfl (m : Int) rfl rfl Try.underlying22 (.int .i64 0) 8 infoI rfl (by decide) (by omega) 0 (ok := fun _ => True) (okp := fun _ => True) rfl (fun _ hk => hk) trivial (by omega) (by omega) (Below.refl _ _) (Nat.le_refl _) ?_; intro v4 w4 ho4 hb4 hg4 hnew4))
    rw [Int.toNat_natCast] at ho4
    obtain ⟨gN, cN, e4, hgN, hgN2, hgN3⟩ := Kd.R_form ho4 (by simp; omega)
    rw [List.length_replicate] at e4
    subst e4
    have HN := Lib.hid ho4
    have HB4 := Lib.hid hb4
    clear ho4 hb4 hg4 hnew4 hgN2 hgN3
    have B0 : w.heap.size ≤ w3.heap.size := B3'.out.size
    go_loopw [14] (fun v wr => ∃ i : Nat, v = .int .i64 i ∧ i ≤ m ∧ Kd.R (Kd.int .i64) 3 wr w3.heap.size (fun _ => True) (.slice (some ⟨gN, 0, none⟩) m cN) (nxTo xs m i) ∧ Below w3.heap.size w3 wr) (fun v _ => m - (intOf v).toNat)
    case atStart => exact ⟨0, rfl, by omega, by rw [nxTo_zero]; exact HN.out, HB4.out⟩
    case round =>
      clear HN HB4 w4
      obtain ⟨i, rfl, hi, HR, HBr⟩ := hrel
      by_cases ci : i < m
      · have q0 : decide ((i : Int) < (m : Int)) = true := decide_eq_true (by omega)
        have q00 : decide (i < m) = true := decide_eq_true ci
        obtain ⟨hy, hfz⟩ := Kd.R_celln (0 : Int) HR (i : Int) (by omega) (by omega)
        obtain ⟨HP, _⟩ := Kd.R_putg HR (i : Int) (i : Int)
        obtain ⟨hy2, hfz2⟩ := Kd.R_celln (0 : Int) HP (i : Int) (by omega) (by omega)
        have HBs : Below w.heap.size w (wr.setCell ⟨gN, i, none⟩ (.int .i64 i)) := (below_step B3'.out HBr).setCell (p := ⟨gN, i, none⟩) (by show _ ≤ gN; omega) _
        rw [Int.toNat_natCast] at hy hfz hy2 hfz2
        have HPH := Lib.hid HP
        have HRH := Lib.hid HR
        have HBH := Lib.hid HBr
        have one : nextV xs i = i → ∃ i_1 : Nat, Value.int .i64 ((i + 1 : Nat) : Int) = Value.int .i64 i_1 ∧ i_1 ≤ m ∧ Kd.R (Kd.int .i64) 3 (wr.setCell ⟨gN, i, none⟩ (.int .i64 i)) w3.heap.size (fun _ => True) (.slice (some ⟨gN, 0, none⟩) m cN) (nxTo xs m i_1) ∧ Below w3.heap.size w3 (wr.setCell ⟨gN, i, none⟩ (.int .i64 i)) := fun e => by
          refine ⟨i + 1, rfl, by omega, ?_, HBH.out.setCell (p := ⟨gN, i, none⟩) hgN _⟩
          have h := HPH.out
          rw [Int.toNat_natCast] at h
          have hset := nxTo_set xs m i ci
          rw [e] at hset
          rw [hset] at h; exact h
        have ONE := Lib.hid one
        clear one HR HP HBr
        by_cases k0 : 0 < i
        · have d4 : decide (0 < (i : Int)) = true := decide_eq_true (by omega)
          have d40 : decide (0 < i) = true := decide_eq_true k0
          by_cases k1 : i < xs.length
          · have d5 : decide ((i : Int) < (xs.length : Int)) = true := decide_eq_true (by omega)
            have d50 : decide (i < xs.length) = true := decide_eq_true k1
            obtain ⟨ad, ea, hx⟩ := Kd.at_int (Kd.C_below HXH.out HBs) (i : Int) (by omega) (by omega)
            subst ea
            rw [Int.toNat_natCast] at hx
            by_cases k2 : 0 < rd xs i
            · have d6 : decide (0 < rd xs i) = true := decide_eq_true k2
              have ez : ((i : Int) == 0) = false := by simp; omega
              have hne : (i : Int) ≠ 0 := by omega
              go_wp2
              go_roundw
              case rel =>
                refine ⟨i + 1, rfl, by omega, ?_, (HBH.out.setCell (p := ⟨gN, i, none⟩) hgN _).setCell (p := ⟨gN, i, none⟩) hgN _⟩
                have h := (Kd.R_putg HPH.out (i : Int) (rd xs i % i)).1
                rw [Int.toNat_natCast, List.set_set] at h
                have hset := nxTo_set xs m i ci
                have en : nextV xs i = rd xs i % i := by
                  unfold nextV
                  have k2' : 0 < xs.getD i 0 := by unfold rd at k2; simpa using k2
                  rw [if_pos ⟨k0, k1, k2'⟩, Int.tmod_eq_emod_of_nonneg (by omega)]
                  unfold rd; rw [Int.toNat_natCast]
                rw [en] at hset
                rw [hset] at h; exact h
              case measure => simp [intOf]; omega
            · have d6 : decide (0 < rd xs i) = false := decide_eq_false k2
              go_wp2
              go_roundw
              case rel => exact ONE.out (by unfold nextV; rw [if_neg]; rintro ⟨_, _, q⟩; apply k2; unfold rd; simpa using q)
              case measure => simp [intOf]; omega
          · have d5 : decide ((i : Int) < (xs.length : Int)) = false := decide_eq_false (by omega)
            have d50 : decide (i < xs.length) = false := decide_eq_false k1
            go_wp2
            go_roundw
            case rel => exact ONE.out (by unfold nextV; rw [if_neg (fun q => k1 q.2.1)])
            case measure => simp [intOf]; omega
        · have d4 : decide (0 < (i : Int)) = false := decide_eq_false (by omega)
          have d40 : decide (0 < i) = false := decide_eq_false k0
          go_wp2
          go_roundw
          case rel => exact ONE.out (by unfold nextV; rw [if_neg (fun q => k0 q.1)])
          case measure => simp [intOf]; omega
      · have ei : m = i := by omega
        subst ei
        have q0 : decide ((m : Int) < (m : Int)) = false := decide_eq_false (by omega)
        obtain ⟨gN', cN', eN, _, hgl, cur, hcur⟩ := Kd.R_form HR (by rw [nxTo_length]; omega)
        injection eN with eN eL eC
        clear eL eC
        injection eN with eN
        injection eN with eN eO
        clear eO
        subst eN
        have hread : ∀ j : Nat, j < m → cur[j]? = some (.int .i64 (nextV xs j)) := fun j hj => by
          have h := (Kd.R_celln (0 : Int) HR (j : Int) (by omega) (by omega)).1
          rw [Int.toNat_natCast, nxTo_at xs m j hj, cells_at hcur] at h
          exact h
        have HREAD := Lib.hid hread
        have BW := Lib.hid (below_step B3'.out HBr)
        have R4 := Lib.hid ((R3.out.names (N' := fun k => k = gN) (fun k e => .inr (by rw [e]; exact hgN))).step HBr.size (fun k hk _ => HBr.block k hk))
        have HCUR := Lib.hid hcur
        have sz4 : w.heap.size ≤ wr.heap.size := BW.out.size
        clear HR HBr hread hcur ci hi
        go_wp2_with (fail)
        have isg : (RS.new (m : Int) c).is s g = true := new_is s0 s1 g0 g1 rfl rfl
        refine (fine_ro R4.out sz4 s g hs isg (by omega)).mono ?_
        rintro e w5 ⟨rfl, R5, K5⟩
        obtain ⟨S5, hS5⟩ : ∃ S5, (RS.new (m : Int) c).fine s g = S5 := ⟨_, rfl⟩
        rw [hS5] at R5
        have e5a : S5.servers = m := by rw [← hS5]; rfl
        have e5b : S5.shards = c := by rw [← hS5]; rfl
        have e5c : S5.wh s = some g := by rw [← hS5]; show (if s = s then some g else _) = _; rw [if_pos rfl]
        have e5d : S5.tr s = [] := by rw [← hS5]; show (if s = s then [] else _) = _; rw [if_pos rfl]
        have R5' := Lib.hid R5
        have cur5 := Lib.hid ((K5.kept gN hgl rfl).trans HCUR.out)
        have B5 := Lib.hid (below_turn BW.out (F := fun k => w.heap.size ≤ k) ⟨K5.low.os, K5.low.tape, K5.low.output, K5.low.size, fun k hk hf => K5.low.block k (by omega)⟩ (fun k h => h) (Nat.le_refl _))
        clear R5 hS5 K5 HCUR BW R4
        obtain ⟨g, rfl⟩ : ∃ gg : Nat, g = gg := ⟨g.toNat, by omega⟩
        go_wp2_with (fail)
        clear hgl sz4 wr
        go_loopw [15, 16] (fun v15 v16 wr => Lp w wr xs m gN b c s g cur v15 v16) (fun _ v _ => (intOf v).toNat)
        case atStart =>
          have ha := MapKept.heap_alloc w5 (.cells #[] 3 (0, 0))
          have hz : (w5.alloc (.cells #[] 3 (0, 0))).heap.size = w5.heap.size + 1 := by show (w5.heap.push _).size = _; simp
          have lN : gN < w5.heap.size := (Array.getElem?_eq_some_iff.1 cur5.out).1
          refine ⟨S5, 1, [], g, w5.heap.size, 0, 0, rfl, rfl, (R5'.out.names (fun k e => ?_)).step (by rw [hz]; omega) (fun k hk _ => ha.2 k hk), by simp, e5a, e5b, e5c, e5d, by simp, .inr ⟨w5.heap.size, 0, 0, #[], rfl, ⟨B5.out.size, by omega⟩, ha.1, by simp, by simp, by simp, fun i hi => by simp at hi⟩, (ha.2 gN lN).trans cur5.out, B5.out.alloc B5.out.size _⟩
          rcases e with e | e
          · exact .inl e
          · exact .inr (Nat.le_of_eq e.symm)
        case round =>
          obtain ⟨S6, n6, way, at_, g2, o2, c2, rfl, rfl, R6, hn6, x6a, x6b, x6c, x6d, hle, hrow, hcu, hbel⟩ := hrel.ex
          have hatm : at_ < m := by omega
          have ca : wr.cell? ⟨gN, at_, none⟩ = some (.int .i64 (nextV xs at_)) := (cells_at hcu at_).trans (HREAD.out at_ hatm)
          obtain ⟨nb0, nb1, nb2⟩ := nextV_bd xs at_
          have is0 : S6.is s 0 = true := new_is s0 s1 (by omega) (by omega) x6a x6b
          have wh6 : S6.where_ s = at_ := where_of is0 x6c
          have WH6 := Lib.hid wh6
          have R6' := Lib.hid R6
          have HROW := Lib.hid hrow
          have HCU := Lib.hid hcu
          have HBEL := Lib.hid hbel
          clear hrel R6 hrow hbel wh6 cur5 B5 R5'
          by_cases k6 : nextV xs at_ = at_
          · rw [k6] at ca
            have nk : ((at_ : Int) == (at_ : Int)) = true := by simp
            have nk2 : ((at_ : Int) != (at_ : Int)) = false := by simp
            go_wp2_with (fail)
            have szq : w.heap.size ≤ wr.heap.size := HBEL.out.size
            refine (hint_ro_same R6'.out szq s (at_ : Int) hs (new_is s0 s1 (by omega) (by omega) x6a x6b) WH6.out).mono ?_
            rintro e w8 ⟨rfl, R8, K8⟩
            have hN2 : g2 < wr.heap.size := (HROW.out.own rfl).2
            have HR8 := Lib.hid (HROW.out.kept (fun _ q => q) (w' := w8) (fun gg hgg => K8.kept gg (HROW.out.own hgg).2 (.inr (by simp [Value.ownBlock] at hgg; exact hgg.symm))))
            have B8 := Lib.hid (below_turn HBEL.out (F := fun k => w.heap.size ≤ k) ⟨K8.low.os, K8.low.tape, K8.low.output, K8.low.size, fun k hk hf => K8.low.block k (by omega)⟩ (fun k h => h) (Nat.le_refl _))
            have R8' := Lib.hid R8
            have wh8 : S6.hints1.where_ s = (at_ : Int) := WH6.out
            have tr8 : S6.hints1.tr s = way := x6d
            clear R8 K8 R6' HROW HBEL
            go_wp2_with (fail)
            have WW : Calls Try.prog 14 #[.pointer (some ⟨b, 0, none⟩), .int .i64 s] w8 fun e w' => e = .returned (.int .i64 (at_ : Int)) ∧ Below w8.heap.size w8 w' := by
              have q := where_ro R8'.out s hs
              rw [wh8] at q; exact q
            refine WW.mono ?_
            rintro e w9 ⟨rfl, B9⟩
            have R9 := Lib.hid (R8'.out.step B9.size (fun k hk _ => B9.block k hk))
            clear WW
            go_wp2_with (fail)
            have TW : Calls Try.prog 16 #[.pointer (some ⟨b, 0, none⟩), .int .i64 s] w9 fun e w' => ∃ A' c', e = .returned (.slice A' way.length c') ∧ Kd.R (Kd.int .i64) 3 w' w9.heap.size (fun _ => True) (.slice A' way.length c') way ∧ Below w9.heap.size w9 w' := by
              have q := trail_ro R9.out s hs
              rw [tr8] at q; exact q
            refine TW.mono ?_
            rintro e w10 ⟨A10, c10, rfl, RT10, B10⟩
            clear TW
            have HR10 := Lib.hid (HR8.out.kept (fun _ q => q) (w' := w10) (fun gg hgg => (B10.block gg (by have := (HR8.out.own hgg).2; have := B9.size; omega)).trans (B9.block gg (HR8.out.own hgg).2)))
            have BB10 := Lib.hid (below_step (below_step B8.out B9) B10)
            go_wp2_with (fail)
            have IW : Calls Try.prog 15 #[.slice A10 way.length c10, .slice (some ⟨g2, o2, none⟩) way.length c2] w10 fun e w' => e = .returned (.bool true) ∧ Drawn0 w10 w' := by
              rcases HR10.out.form with ⟨e, _⟩ | ⟨ad, cc, e, hC, hcc⟩
              · simp [nilS] at e
              · injection e with e1 e2 e3
                injection e1 with e1
                subst e1
                subst e3
                have r10 := Kd.R_reads' RT10
                exact ints_c (xs := way) r10.2.2 r10.2.1 hC hcc (by omega)
            refine IW.mono ?_
            rintro e w11 ⟨rfl, D11⟩
            clear IW RT10
            go_wp2
            go_ret
            exact ⟨rfl, below_step BB10.out D11.below⟩
          · have nk : (nextV xs at_ == (at_ : Int)) = false := by simpa using k6
            have nk2 : (nextV xs at_ != (at_ : Int)) = true := by simpa using k6
            have hlt := nb2 k6
            have ha := MapKept.heap_alloc wr (.cells #[.int .i64 (at_ : Int)] 3 (0, 0))
            have hz : (wr.alloc (.cells #[.int .i64 (at_ : Int)] 3 (0, 0))).heap.size = wr.heap.size + 1 := by show (wr.heap.push _).size = _; simp
            have ha2 := Lib.hid ha.2
            have ha1 := Lib.hid ha.1
            have HZ := Lib.hid hz
            clear ha hz
            have lN : gN < wr.heap.size := (Array.getElem?_eq_some_iff.1 hcu).1
            have o2' : g2 ≠ gN := (HROW.out.own rfl).1.2
            go_wp2_with (at_builtin; refine sl_append rfl rfl _ _ rfl (.slice (some ⟨g2, o2, none⟩) way.length c2) way rfl (HROW.out.kept (fun _ q => q) (fun gg hgg => ha2.out gg (HROW.out.own hgg).2)) (by omega) _ (at_ : Int) rfl ((cells_at ha1.out 0).trans rfl) ?_; intro g7 c7 o7 w7 hr7 hc7 hown7 ht7; have hcu7 : w7.heap[gN]? = some (.cells cur 3 (0, 0)) := (ht7.block gN (by rw [HZ.out]; omega) (fun e => o2' (by simpa [Value.ownBlock] using e))).trans ((ha2.out gN lN).trans hcu); have ca7 : w7.cell? ⟨gN, at_, none⟩ = some (.int .i64 (nextV xs at_)) := (cells_at hcu7 at_).trans (HREAD.out at_ hatm))
            have hg7 : g7 = g2 ∨ wr.heap.size < g7 := hown7.elim (fun e => .inl (by simp [Value.ownBlock] at e; exact e.symm)) (fun e => .inr (by rw [HZ.out] at e; omega))
            have R7 := Lib.hid ((((R6'.out.step (by rw [HZ.out]; omega) (fun k hk _ => ha2.out k hk)).names (N' := fun k => k = gN ∨ k = g2 ∨ k = g7) (fun k e => by
              rcases e with e | e | e
              · exact .inl (.inl e)
              · exact .inl (.inr e)
              · rcases hg7 with q | q
                · exact .inl (.inr (e.trans q))
                · exact .inr (by rw [HZ.out]; omega))).step ht7.size (fun k hk hn => ht7.block k hk (fun e => hn (.inr (.inl (by simp [Value.ownBlock] at e; exact e.symm)))))).names (N' := fun k => k = gN ∨ k = g7) (fun k e => .inl (e.elim .inl (fun e => .inr (.inr e)))))
            have HR7 : Hid (SlRow w7 (fun k => w.heap.size ≤ k ∧ k ≠ gN) (.slice (some ⟨g7, o7, none⟩) (way ++ [(at_ : Int)]).length c7) (way ++ [(at_ : Int)])) := Lib.hid (by
              rw [show (way ++ [(at_ : Int)]).length = way.length + 1 by simp]
              refine hr7.kept (fun k q => ?_) (fun _ _ => rfl)
              rcases q with q | q
              · exact q
              · rw [HZ.out] at q
                have := HBEL.out.size
                exact ⟨by omega, by omega⟩)
            have B7 := Lib.hid (below_turn (HBEL.out.alloc HBEL.out.size (.cells #[.int .i64 (at_ : Int)] 3 (0, 0))) ht7 (fun k e => (HROW.out.own e).1.1) (Nat.le_refl _))
            have HCU7 := Lib.hid hcu7
            clear R6' HROW HCU HBEL hr7 hown7 ht7 hcu ca ha1 ha2 HZ hcu7
            go_wp2_with (fail)
            have sz7 : w.heap.size ≤ w7.heap.size := B7.out.size
            have lN7 : gN < w7.heap.size := (Array.getElem?_eq_some_iff.1 HCU7.out).1
            refine (hint_ro_yes R7.out sz7 (fun k e => e.elim (fun e => by rw [e]; exact lN7) (fun e => by rw [e]; exact (HR7.out.own rfl).2)) s (nextV xs at_) hs (new_is s0 s1 nb0 (by omega) x6a x6b) (by rw [WH6.out]; exact fun e => k6 e.symm) (by omega)).mono ?_
            rintro e w8 ⟨rfl, R8, K8⟩
            obtain ⟨y1, y2, y3⟩ := hint_servers (S := S6) s (nextV xs at_)
            have y4 := hint_tr (S := S6) s (nextV xs at_) way at_ m x6a WH6.out x6d (by omega)
            obtain ⟨S8, hS8⟩ : ∃ S8, S6.hint s (nextV xs at_) = S8 := ⟨_, rfl⟩
            rw [hS8] at R8 y1 y2 y3 y4
            have R8' := Lib.hid R8
            have HCU8 := Lib.hid ((K8.kept gN lN7 (.inl rfl)).trans HCU7.out)
            have HR8 := Lib.hid (HR7.out.kept (fun _ q => q) (w' := w8) (fun gg hgg => K8.kept gg (HR7.out.own hgg).2 (.inr (by simp [Value.ownBlock] at hgg; exact hgg.symm))))
            have B8 := Lib.hid (below_turn B7.out (F := fun k => w.heap.size ≤ k) ⟨K8.low.os, K8.low.tape, K8.low.output, K8.low.size, fun k hk hf => K8.low.block k (by omega)⟩ (fun k h => h) (Nat.le_refl _))
            have ca8 : w8.cell? ⟨gN, at_, none⟩ = some (.int .i64 (nextV xs at_)) := (cells_at HCU8.out at_).trans (HREAD.out at_ hatm)
            clear R8 K8 hS8 R7 HR7 B7 HCU7 ca7
            obtain ⟨nx, hnx⟩ : ∃ nx : Nat, nextV xs at_ = nx := ⟨(nextV xs at_).toNat, by omega⟩
            rw [hnx] at y3 ca8 hlt nb0 nb1 ⊢
            go_wp2_with (fail)
            have is8 : S8.is s 0 = true := new_is s0 s1 (by omega) (by omega) (y1.trans x6a) (y2.trans x6b)
            have wh8 : S8.where_ s = (nx : Int) := where_of is8 y3
            have WW : Calls Try.prog 14 #[.pointer (some ⟨b, 0, none⟩), .int .i64 s] w8 fun e w' => e = .returned (.int .i64 (nx : Int)) ∧ Below w8.heap.size w8 w' := by
              have q := where_ro R8'.out s hs
              rw [wh8] at q; exact q
            refine WW.mono ?_
            rintro e w9 ⟨rfl, B9⟩
            have R9 := Lib.hid (R8'.out.step B9.size (fun k hk _ => B9.block k hk))
            have cxx : ((nx : Int) != (nx : Int)) = false := by simp
            clear WW
            go_wp2_with (fail)
            have el : (way ++ [(at_ : Int)]).length = way.length + 1 := by simp
            have TW : Calls Try.prog 16 #[.pointer (some ⟨b, 0, none⟩), .int .i64 s] w9 fun e w' => ∃ A' c', e = .returned (.slice A' (way.length + 1) c') ∧ Kd.R (Kd.int .i64) 3 w' w9.heap.size (fun _ => True) (.slice A' (way.length + 1) c') (way ++ [(at_ : Int)]) ∧ Below w9.heap.size w9 w' := by
              have q := trail_ro R9.out s hs
              rw [y4, el] at q; exact q
            refine TW.mono ?_
            rintro e w10 ⟨A10, c10, rfl, RT10, B10⟩
            clear TW
            have R10 := Lib.hid (R9.out.step B10.size (fun k hk _ => B10.block k hk))
            have HR10 := Lib.hid (HR8.out.kept (fun _ q => q) (w' := w10) (fun gg hgg => (B10.block gg (by have := (HR8.out.own hgg).2; have := B9.size; omega)).trans (B9.block gg (HR8.out.own hgg).2)))
            have HCU10 := Lib.hid ((B10.block gN (by have := (Array.getElem?_eq_some_iff.1 HCU8.out).1; have := B9.size; omega)).trans ((B9.block gN (Array.getElem?_eq_some_iff.1 HCU8.out).1).trans HCU8.out))
            have BB10 := Lib.hid (below_step (below_step B8.out B9) B10)
            go_wp2_with (fail)
            have IW : Calls Try.prog 15 #[.slice A10 (way.length + 1) c10, .slice (some ⟨g7, o7, none⟩) (way.length + 1) c7] w10 fun e w' => e = .returned (.bool true) ∧ Drawn0 w10 w' := by
              rcases HR10.out.form with ⟨e, _⟩ | ⟨ad, cc, e, hC, hcc⟩
              · simp [nilS] at e
              · injection e with e1 e2 e3
                injection e1 with e1
                subst e1
                subst e3
                have r10 := Kd.R_reads' RT10
                rw [← el] at r10
                have q := ints_c (xs := way ++ [(at_ : Int)]) r10.2.2 r10.2.1 hC hcc (by rw [el]; omega)
                rw [el] at q; exact q
            refine IW.mono ?_
            rintro e w11 ⟨rfl, D11⟩
            clear IW RT10
            have cg : decide ((m : Int) - 1 < (way.length : Int) + 1) = false := decide_eq_false (by omega)
            have cg2 : decide (IntKind.i64.wrap ((m : Int) - 1) < (way.length : Int) + 1) = false := by rw [show IntKind.i64.wrap ((m : Int) - 1) = (m : Int) - 1 by rw [IntKind.wrap_i64]; omega]; exact cg
            go_wp2
            go_roundw
            case rel =>
              refine ⟨S8, n6 + 1, way ++ [(at_ : Int)], nx, g7, o7, c7, rfl, by rw [el], R10.out.step D11.below.size (fun k hk _ => D11.below.block k hk), by rw [el]; omega, y1.trans x6a, y2.trans x6b, y3, y4, by rw [el]; omega, ?_, (D11.below.block gN (Array.getElem?_eq_some_iff.1 HCU10.out).1).trans HCU10.out, below_step BB10.out D11.below⟩
              have q := HR10.out.kept (fun _ q => q) (w' := w11) (fun gg hgg => D11.below.block gg (HR10.out.own hgg).2)
              rw [el] at q; exact q
            case measure => simp [intOf]; omega

end Go.Proofs.Ytohljkjaggcapaa.RT
