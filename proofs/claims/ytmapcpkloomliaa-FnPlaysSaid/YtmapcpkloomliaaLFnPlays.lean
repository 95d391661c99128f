/- 'FnPlays' is proved: what is shown is never further away than half of the play, two instruments never drift apart, for all arguments. No condition. -/
import Derived.Test.YtmapcpkloomliaaRow
import Derived.Test.YtmapcpkloomliaaDraw2
import Derived.Test.YtmapcpkloomliaaList3
import Derived.BigQuiet
namespace Go.Proofs.Ytmapcpkloomliaa.fnPlays
open Go.ChangeShapes Go.WideShapes Go.ChangeAt Go.RowKit
set_option linter.unusedVariables false
set_option linter.unusedSimpArgs false

set_option maxHeartbeats 800000 in
theorem laws_at (a : Option Addr) (n c : Nat) (X : Nat → Int) (w : World) (h : BytesAt w a n X) (hn : n ≤ 1048576) :
    Calls Try.prog 49 #[.slice a n c, .int .i64 0] w fun e w' => ∃ x : Int, 0 ≤ x ∧ x ≤ 255 ∧ e = .returned (.int .i64 x) ∧ w = w' := by
  rcases Nat.eq_zero_or_pos n with rfl | hp
  · go_enter Try.func49, Try.ntmps49
    go_wp2
    go_ret
    exact ⟨0, by omega, by omega, rfl, rfl⟩
  · obtain ⟨b, off, rfl, hc, hx0, hx1⟩ := h.at_ (show 1 % n < n from Nat.mod_lt _ hp)
    have q0 : ((n : Int) == 0) = false := by rw [beq_eq_false_iff_ne]; omega
    have q1 : (n : Int) ≠ 0 := by omega
    have q2 : Int.tmod 1 (n : Int) = ((1 % n : Nat) : Int) := by rw [Int.tmod_eq_emod_of_nonneg (by omega)]; rfl
    have q3 : (1 : Int) % (n : Int) = ((1 % n : Nat) : Int) := rfl
    have q4 : ((1 % n : Nat) : Int) < n := by have := Nat.mod_lt 1 hp; omega
    generalize 1 % n = m at *
    go_enter Try.func49, Try.ntmps49
    go_wp2
    go_ret
    exact ⟨X m, hx0, hx1, rfl, rfl⟩
theorem quiet_eq2 {P : Program} {f : FuncId} {args : Array Value} {w : World} {a n : Nat} {v : Value}
    (h : Calls P f args (w.drewN (a + n)) fun e w' => e = .returned v ∧ w.drewN (a + n) = w') : Calls P f args (w.drewN (a + n)) fun e w'' => e = .returned v ∧ ∃ m, w'' = w.drewN (a + m) :=
  h.mono fun _ _ ⟨he, hm⟩ => ⟨he, n, hm.symm⟩
theorem laws_btoi (b : Bool) (w : World) :
    Calls Try.prog 51 #[.bool b] w fun e w' => e = .returned (.int .i64 (if b then 1 else 0)) ∧ w = w' := by
  cases b
  · go_enter Try.func51, Try.ntmps51
    go_wp2
    go_ret
    exact ⟨rfl, rfl⟩
  · go_enter Try.func51, Try.ntmps51
    go_wp2
    go_ret
    exact ⟨rfl, rfl⟩

set_option maxHeartbeats 6400000 in
set_option maxRecDepth 100000 in
theorem walk (w : World) (a0 : Option Addr) (n0 c0 : Nat) (X0 : Nat → Int) (w0 : BytesAt w a0 n0 X0) (b0 : n0 ≤ c0) (e0 : c0 ≤ maxLen) :
    Calls Try.prog 12 #[.slice a0 n0 c0] w fun e w' => e = .returned (.bool true) ∧ Ext w w' := by
  by_cases hbig : n0 ≤ 1048576
  · have hb : decide (1048576 < n0) = false := by simp; omega
    go_enter Try.func12, Try.ntmps12
    go_wp2_with fail
    refine (laws_big _ _ _ _).mono ?_
    rw [hb]
    rintro e u ⟨rfl, rfl⟩
    go_wp2_with fail
    refine (spec_DrawPlay _ _ _ _ _ w0 hbig).mono ?_
    rintro e u1 ⟨d, s, n, sa, sc, X, d1, d2, s1, s2, hn, hX, rfl, hI, hx⟩
    have hX' : ∀ i, i < n → -10000 ≤ X i ∧ X i ≤ 10000 := fun i hi => by have := hX i hi; omega
    have hOK : ∀ s : Int, -10 ≤ s → s ≤ 300 → playAllOk d s n X = true := fun s h1 h2 => by
      unfold playAllOk playOkB
      rw [inB_true.2 ⟨d1, by omega⟩, inB_true.2 ⟨by omega, by omega⟩, allB_iff.2 hX']; simp; omega
    have HOK := Lib.hid hOK
    have HX := Lib.hid hX
    have HX' := Lib.hid hX'
    clear hOK hX hX'
    go_wp2_with fail
    refine (impl_PlayAll _ _ _ _ _ _ _ hI (by omega)).mono ?_
    rintro e u2 hq
    obtain ⟨p, q, rfl, hO, hx2⟩ := hq.1 (HOK.out s s1 (by omega))
    clear hq
    go_wp2_with fail
    refine (laws_at _ _ _ _ _ (w0.ext (ext_trans hx hx2)) hbig).mono ?_
    rintro e u ⟨x, x1, x2, rfl, rfl⟩
    go_wp2_with fail
    refine (impl_PlayAll _ _ _ _ _ _ _ (hI.ext hx2) (by omega)).mono ?_
    obtain ⟨t, ht⟩ : ∃ t, t = s + x % 20 := ⟨_, rfl⟩
    rw [← ht]
    rintro e u3 hq
    have t1 : s ≤ t := by omega
    have t2 : t ≤ 300 := by omega
    obtain ⟨p', q', rfl, hO', hx3⟩ := hq.1 (HOK.out t (by omega) t2)
    clear hq ht
    have E3 : Ext w u3 := ext_trans (ext_trans hx hx2) hx3
    have HI := Lib.hid ((hI.ext hx2).ext hx3)
    have HF := Lib.hid (hO.ext hx3).reads
    have HG := Lib.hid hO'.reads
    have HS := Lib.hid (fun k (hk : k < n) => play_step d1 (by omega : d ≤ 100) (by omega : -10100 ≤ s) (by omega) HX'.out hk)
    have HB := Lib.hid (playF_bound d1 (by omega : d ≤ 100) (by omega : -10100 ≤ s) (by omega) HX'.out)
    have HB2 := Lib.hid (playF_bound d1 (by omega : d ≤ 100) (by omega : -10100 ≤ t) (by omega) HX'.out)
    have HT := Lib.hid (play_two d1 (by omega : d ≤ 100) (by omega : -10100 ≤ s) t1 (by omega) HX'.out)
    have hM : countMovesI d s n X = movesF (playF d s X) n := by unfold countMovesI; rw [if_pos (HOK.out s s1 (by omega))]
    have HM := Lib.hid hM
    have hL : greatestLagI d s n X = lagF X (playF d s X) n := by unfold greatestLagI; rw [if_pos (HOK.out s s1 (by omega))]
    have hLb := lag_bound d1 (by omega : d ≤ 100) (by omega : -10100 ≤ s) (by omega) HX'.out n (Nat.le_refl _)
    rw [← hL] at hLb
    obtain ⟨l1, l2⟩ := hLb
    have hPO : playOkB d s = true := by unfold playOkB; rw [inB_true.2 ⟨d1, by omega⟩, inB_true.2 ⟨by omega, by omega⟩]; rfl
    clear hI hO hO' hM hL
    have hMB := Lib.hid (moves_bound (playF d s X))
    go_wp2_with fail
    go_loopg [9, 10] n (fun gk mv i wr => ∃ (k : Nat), k ≤ n ∧ gk = n - k ∧ mv = .int .i64 (movesF (playF d s X) k) ∧ i = .int .i64 ((k : Int) + 1) ∧ Drawn u3 wr)
    · exact ⟨0, Nat.zero_le _, by omega, rfl, by go_num, Drawn.rf _⟩
    · obtain ⟨k, h1, h2, rfl, rfl, hd⟩ := hrel
      have hm := hMB.out k
      obtain ⟨hm1, hm2⟩ := hm
      rcases Nat.lt_or_ge k n with hlt | hge
      · obtain ⟨ib, io, rfl, hci⟩ := HI.out (by omega)
        obtain ⟨fb, fo, rfl, hcf⟩ := HF.out (by omega)
        obtain ⟨gb, go, rfl, hcg⟩ := HG.out (by omega)
        have ci := ext_cell hd.ext (hci k hlt)
        have cf0 := ext_cell hd.ext (hcf k (by omega))
        have cf1 := ext_cell hd.ext (hcf (k + 1) (by omega))
        have cg0 := ext_cell hd.ext (hcg k (by omega))
        have cg1 := ext_cell hd.ext (hcg (k + 1) (by omega))
        clear hci hcf hcg
        have q1 : (k : Int) + 1 < (n : Int) + 1 := by omega
        obtain ⟨st0, st1, st2, st3⟩ := HS.out k hlt
        clear st0
        obtain ⟨b1, b2⟩ := HB.out k (by omega)
        obtain ⟨b3, b4⟩ := HB.out (k + 1) (by omega)
        obtain ⟨b5, b6⟩ := HB2.out k (by omega)
        obtain ⟨b7, b8⟩ := HB2.out (k + 1) (by omega)
        obtain ⟨g1, g2⟩ := HT.out k (by omega)
        have g3 := g2 hlt
        obtain ⟨g4, _⟩ := HT.out (k + 1) (by omega)
        have hx0 := HX.out k hlt
        obtain ⟨x5, x6⟩ := hx0
        have hms : movesF (playF d s X) (k + 1) = if playF d s X (k + 1) = playF d s X k then movesF (playF d s X) k else movesF (playF d s X) k + 1 := rfl
        have HMS := Lib.hid hms
        clear g2 hms
        generalize playF d s X (k + 1) = y1 at *
        generalize playF d s X k = y0 at *
        generalize playF d t X (k + 1) = z1 at *
        generalize playF d t X k = z0 at *
        generalize X k = xk at *
        have hPS : ∀ w, Calls Try.prog 50 #[.int .i64 d, .int .i64 y1, .int .i64 xk] w fun e w' => e = .returned (.int .i64 y1) ∧ w = w' := fun w => by have := impl_PlayStep d y1 xk w; rw [st3] at this; exact this
        have r1 : y1 - xk ≤ d := by omega
        have r2 : -(y1 - xk) ≤ d := by omega
        have r3 : xk - y1 ≤ d := by omega
        have r4 : decide (z1 < y1) = false := decide_eq_false (by omega)
        have r5 : decide (d < y1 - xk) = false := decide_eq_false (by omega)
        have r6 : decide (d < -(y1 - xk)) = false := decide_eq_false (by omega)
        have r7 : decide (z0 - y0 < z1 - y1) = false := decide_eq_false (by omega)
        have hwn : IntKind.i64.wrap (-(y1 - xk)) = -(y1 - xk) := wrapI (by omega) (by omega)
        go_wp2_with fail
        go_quiet (fail)
        go_wp2_with fail
        rcases Int.lt_or_le (y1 - xk) (-(y1 - xk)) with hmx | hmx
        all_goals
          go_quiet ((go_at_call 50; exact quiet_eq2 (hPS _)))
          go_wp2_with fail
          by_cases hmv : y1 = y0
          · have hne : (y1 != y0) = false := by simp [hmv]
            rw [if_pos hmv] at HMS
            go_quiet ((go_at_call 51; exact quiet_eq2 (laws_btoi _ _)))
            go_wp2_with fail
            go_roundg (n - (k + 1))
            case measure => omega
            case rel => exact ⟨k + 1, by omega, rfl, by rw [HMS.out], by go_num, Drawn.dN hd _⟩
          · have hne : (y1 != y0) = true := by simp [hmv]
            rw [if_neg hmv] at HMS
            go_quiet ((go_at_call 51; exact quiet_eq2 (laws_btoi _ _)))
            go_wp2_with fail
            go_roundg (n - (k + 1))
            case measure => omega
            case rel => exact ⟨k + 1, by omega, rfl, by rw [HMS.out], by go_num, Drawn.dN hd _⟩
      · obtain rfl : k = n := by omega
        have q1 : ¬ (k : Int) + 1 < (k : Int) + 1 := by omega
        go_wp2_with fail
        refine (impl_GreatestLag _ _ _ _ _ _ _ (HI.out.ext hd.ext) (by omega)).mono ?_
        rintro e u4 ⟨rfl, hx4⟩
        go_wp2_with fail
        refine (impl_CountMoves _ _ _ _ _ _ _ ((HI.out.ext hd.ext).ext hx4) (by omega)).mono ?_
        rw [HM.out]
        rintro e u5 ⟨rfl, hx5⟩
        rcases Int.lt_or_le 0 d with hdp | hdp
        · go_wp2_with (go_at_call 52; refine (impl_PlayOk _ _ _).mono ?_; rw [hPO]; rintro e w' ⟨rfl, rfl⟩)
          go_ret
          exact ⟨rfl, ext_trans E3 (ext_trans hd.ext (ext_trans hx4 hx5))⟩
        · have hg0 : greatestLagI d s k X = 0 := by omega
          have hd0 : ¬ 0 < d := by omega
          go_wp2_with (go_at_call 52; refine (impl_PlayOk _ _ _).mono ?_; rw [hPO]; rintro e w' ⟨rfl, rfl⟩)
          go_ret
          exact ⟨rfl, ext_trans E3 (ext_trans hd.ext (ext_trans hx4 hx5))⟩
  · have hb : decide (1048576 < n0) = true := by simp; omega
    go_enter Try.func12, Try.ntmps12
    go_wp2_with fail
    refine (laws_big _ _ _ _).mono ?_
    rw [hb]
    rintro e u ⟨rfl, rfl⟩
    go_wp2_with fail
    go_ret
    exact ⟨rfl, (by repeat (first | (with_reducible exact ext_refl _) | (with_reducible refine ext_setCell ?_ ?_ _) | (with_reducible refine ext_alloc ?_ _) | (with_reducible refine ext_drewN ?_ _) | (with_reducible refine ext_drew ?_) | (with_reducible refine ext_trans ?_ (by assumption)) | (dsimp only; omega) | omega | (simp; omega)))⟩

set_option maxRecDepth 100000 in
theorem lifted (os : Os) (started : os.Started) (H : Type) (enc : TypeId × Value → H) :
    ReturnsInHanded {} Try.checked os 12 .any (Rows.fnPlaysSpec.pre6 enc Try.prog Try.f12 Rows.fnPlaysRow.domain false) (Rows.fnPlaysSpec.post enc Try.prog Try.f12 false true false false) := by
  refine returnsInHanded_of_change (C := Try.checked) own started (by kernel_rfl) Try.func12
    (ChangeSpec.witness6 (enc := enc) (C := Try.checked) false ⟨#[], #[.slice none 0 0], []⟩ 8 (by kernel_rfl) (by kernel_rfl) (by kernel_rfl) (by kernel_rfl)) ?_
  intro W base args ds gs before hval0 hW hcnd _
  have hval : ∀ (j : Nat) t v, Try.f12.params[j]? = some t → args[j]? = some v → Value.okWide Try.prog W .any base t v := hval0
  have hW' := hW
  obtain ⟨p, q, hA0, hV, rfl, hfz, hnd⟩ := hW
  have hA : DataW.TrodAll enc Try.prog W 0 (fun _ => true) true Try.f12.params.toList args.toList ds p := hA0
  rw [Try.params12] at hA hval
  obtain ⟨v0, vs0, d0, ds0, p0, q0, hargs, rfl, rfl, h0, r0⟩ := trodAll_cons hA
  obtain ⟨rfl, rfl, rfl⟩ := trodAll_nil r0
  obtain rfl : args = #[v0] := by cases args; simp_all
  obtain ⟨rfl, rfl⟩ := trodVars_none hV
  have k0 := h0
  have lt0 : ∀ x ∈ p0, x.block < W.heap.size := by obtain ⟨m, hm⟩ := k0; exact DataW.trod_lt m _ _ _ hm
  obtain ⟨a0, n0, c0, rfl⟩ := okWide_slice Try.underlying28 (hval 0 28 v0 rfl rfl)
  obtain ⟨X0, w0, b0, e0⟩ := open_bytes_arg Try.underlying28 Try.underlying5 (by kernel_rfl) h0
  clear hA0 hval0
  refine (walk W a0 n0 c0 X0 w0 b0 e0).mono fun e W' ⟨he, bel⟩ => ?_
  subst he
  exact ⟨_, rfl, _, _, _, [], _, [], hW', trodAll_mk1 (shut_bool Try.underlying4 _), (trodAll_cons_mk (Below.trod laidOut (by kernel_rfl) (of_decide_eq_true (by kernel_rfl)) k0 bel lt0) trodAll_mk0), rfl, bel.frame _, fun h => by cases h⟩

theorem closed : joinedFacts Try.prog 12 Try.f12 Rows.fnPlaysSpec Rows.fnPlaysRow = true := by
  unfold joinedFacts
  rw [make_eq, liftsFinal_eq, mayEnter_eq]
  kernel_rfl

theorem over : Rows.fnPlaysRow.holds Try.pinned (OpenSpec.ofChange Rows.fnPlaysSpec) :=
  OpenClaim.holds_of_wide 12 Try.f12 rfl rfl rfl rfl rfl rfl rfl ⟨rfl, rfl, rfl, rfl, rfl⟩ rfl rfl rfl rfl rfl (by kernel_rfl) Try.func12 closed
    (of_decide_eq_true (by kernel_rfl)) (by unfold Func.isWrapper; first | (rw [if_pos (by decide +kernel)]; kernel_rfl) | (rw [if_neg (by decide +kernel)]; exact ⟨rfl, rfl⟩))
    (fun os started H enc _ => lifted os started H enc)

theorem proved : Rows.FnPlaysSaid := over
#print axioms proved
end Go.Proofs.Ytmapcpkloomliaa.fnPlays
