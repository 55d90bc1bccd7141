/- Part 4 of the proof that the examples and small lands are as specified. No condition. -/
import Derived.Test.YtmpjpjfkbmlmfaaSm3
set_option linter.unusedVariables false
set_option linter.unusedSimpArgs false
open Go.Vm
namespace Go.Proofs.Ytmpjpjfkbmlmfaa
set_option maxRecDepth 20000
set_option maxHeartbeats 4000000

theorem vc_Even_no (l : Lnd) (h : Hp) (hn : l.ss.length ≤ 4000000) (hv : l.vs.length ≤ 4000000) (h0 : chk l ≠ 0) : VC Try.prog 21 [vL l] h (.tuple [.agg [I 0, .nilslice], I (chk l)]) h := by
  refine VC.body Try.func21 rfl Try.ntmps21 Try.call21 (h.grows_refl) rfl ?_; conv => whnf
  repeat' (first | ((first | refine zs1 ?_ | refine zs2 ?_ | refine zs3 ?_ | refine zs4 ?_ | refine zs5 ?_ | refine zs6 [] ?_); conv => whnf) | ((first | apply zi1 | apply zi2 | apply zi3 | apply zi4 | apply zi5) <;> intro _ <;> conv => whnf) | (refine VCall.intro (vc_opened_no l _ hn hv h0) ?_; conv => whnf))
  all_goals first | exact VOut.same rfl | omega
theorem vc_rEven_no (l : Lnd) (h : Hp) (hn : l.ss.length ≤ 4000000) (hv : l.vs.length ≤ 4000000) (h0 : chk l ≠ 0) : VC Try.prog 22 [vL l] h (.tuple [.agg [I 0, .nilslice], I (chk l)]) h := by
  refine VC.body Try.func22 rfl Try.ntmps22 Try.call22 (h.grows_refl) rfl ?_; conv => whnf
  repeat' (first | ((first | refine zs1 ?_ | refine zs2 ?_ | refine zs3 ?_ | refine zs4 ?_ | refine zs5 ?_ | refine zs6 [] ?_); conv => whnf) | ((first | apply zi1 | apply zi2 | apply zi3 | apply zi4 | apply zi5) <;> intro _ <;> conv => whnf) | (refine VCall.intro (vc_rcheck l _ hn hv) ?_; conv => whnf))
  all_goals first | exact VOut.same rfl | omega
theorem oS_mem {l : Lnd} {k : Nat} (o : Ok l) (hk : k < (ordL l).length) : 1 ≤ (oS l k).no ∧ (oS l k).no ≤ 1000 ∧ 1 ≤ (oS l k).so ∧ (oS l k).so ≤ 1000 := by
  obtain ⟨j, A⟩ := at_k hk
  have h := o.ss _ (List.mem_of_getElem? A.st)
  have h1 := h.no
  have h2 := h.so
  omega
theorem evGo_z {l : Lnd} (o : Ok l) {k d : Nat} (hd : k + d = (ordL l).length) (h : sK l k - nK l k = 0) : evGo l k d = xK l k := by
  cases d with
  | zero => rfl
  | succ d =>
    have hk : k < (ordL l).length := by omega
    have b := oS_mem o hk
    have hst : stepK l k = (oS l k).no + (oS l k).so := rfl
    rw [evGo, if_pos (by omega), h]
    show xR l k 0 _ = _
    exact xR_zero (by omega)
theorem evGo_le {l : Lnd} (o : Ok l) {k d : Nat} (hd : k + (d + 1) = (ordL l).length) (h : 0 ≤ sK l k - nK l k) :
    evGo l k (d + 1) = if sK l k - nK l k ≤ stepK l k then xR l k (sK l k - nK l k).toNat (stepK l k).toNat else evGo l (k + 1) d := by
  have hk : k < (ordL l).length := by omega
  have b := oS_mem o hk
  have hst : stepK l k = (oS l k).no + (oS l k).so := rfl
  obtain ⟨n1, n2⟩ := nK_succ hk
  rw [evGo]
  by_cases h1 : sK l k - nK l k < stepK l k
  · rw [if_pos h1, if_pos (by omega)]
  · rw [if_neg h1]
    by_cases h2 : sK l k - nK l k ≤ stepK l k
    · have h3 : sK l k - nK l k = stepK l k := by omega
      rw [if_pos h2, h3, xR_full hk (by omega)]
      exact evGo_z o (by omega) (by rw [n1, n2]; omega)
    · rw [if_neg h2]
theorem vc_made0 (l : Lnd) (k : Nat) (h : Hp) (o : Ok l) (hk : k ≤ (ordL l).length) : VC Try.prog 59 [vL l, I k, I 0, I 1] h (vX (xK l k)) h := by
  have := vc_made l k 0 1 h o hk (by decide) (by decide) (by decide)
  rw [← xR_zero (l := l) (k := k) (w := 1) (by decide)]
  exact this
theorem vc_madeR (l : Lnd) (k n w : Nat) (h : Hp) (o : Ok l) (hk : k ≤ (ordL l).length) (hw : 0 < w) (hw2 : w ≤ 2000) (hnb : n ≤ 1000000) : VC Try.prog 59 [vL l, I k, I n, I w] h (vX (xR l k n w)) h :=
  vc_made l k n w h o hk hw hw2 hnb
theorem xR_gn {l : Lnd} {k n w : Nat} (hk : k < (ordL l).length) (hw : 0 < w) :
    ∃ g a b : Nat, 0 < g ∧ n = g * a ∧ w = g * b ∧ xR l k n w = xC l k a b ∧ gnN l (xR l k n w) = b * nK l k + a * (oS l k).no ∧ gnS l (xR l k n w) = b * sK l k - a * (oS l k).so := by
  have hg := Nat.gcd_pos_of_pos_right n hw
  obtain ⟨e1, e2⟩ := xC_gn (l := l) (k := k) ((n / Nat.gcd n w : Nat) : Int) ((w / Nat.gcd n w : Nat) : Int) hk
  exact ⟨Nat.gcd n w, n / Nat.gcd n w, w / Nat.gcd n w, hg, (Nat.mul_div_cancel' (Nat.gcd_dvd_left _ _)).symm, (Nat.mul_div_cancel' (Nat.gcd_dvd_right _ _)).symm, rfl, e1, e2⟩
theorem vc_rEven_ok (l : Lnd) (h : Hp) (o : Ok l) : VC Try.prog 22 [vL l] h (.tuple [vX (evX l), I 0]) h := by
  obtain ⟨R, hR⟩ : ∃ R, R = evX l := ⟨_, rfl⟩
  rw [← hR]
  unfold evX at hR
  have hn := o.n
  have hol := ord_len l
  refine VC.body Try.func22 rfl Try.ntmps22 Try.call22 (h.grows_refl) rfl ?_; conv => whnf
  repeat' (first | ((first | refine zs1 ?_ | refine zs2 ?_ | refine zs3 ?_ | refine zs4 ?_ | refine zs5 ?_ | refine zs6 [] ?_); conv => whnf) | ((first | apply zi1 | apply zi2 | apply zi3 | apply zi4 | apply zi5) <;> intro _ <;> conv => whnf) | (refine VCall.intro (vc_rcheck_ok l _ o) ?_; conv => whnf) | (refine VCall.intro (vc_rorder l _ o) ?_; conv => whnf))
  refine VCode.lp (fun k : Nat => [(1, .ptr (.loc 0) 0), (2, .ptr (.loc 1) 0), (3, I 0), (5, ints (ordL l)), (6, I k)]) (fun _ => [.flat true (encN l), .flat true [DI 0, .nilslice]]) (fun k => k ≤ (ordL l).length ∧ R = evGo l k ((ordL l).length - k) ∧ 0 ≤ sK l k - nK l k) (fun k => (ordL l).length - k) 0 ⟨Nat.zero_le _, hR, less0 o⟩ ?_ ?_
  · conv => whnf
    refine Retell.turn ⟨[0,1], 2, [], []⟩ (TurnOk.mk' _ _ [] [] (OutOk.lift _) rfl (by decide) zb trivial trivial rfl) zv zm
  · rintro k ⟨hk, hRk, hless⟩
    conv => whnf
    repeat (first | ((first | refine zs1 ?_ | refine zs2 ?_ | refine zs3 ?_ | refine zs4 ?_ | refine zs5 ?_ | refine zs6 [] ?_); conv => whnf))
    refine VIte.dec (fun h3 => ?_) (fun h3 => ?_)
    · have hkl : k < (ordL l).length := by omega
      obtain ⟨j, A⟩ := at_k hkl
      have hsok := o.ss _ (List.mem_of_getElem? A.st)
      have hst : stepK l k = (oS l k).no + (oS l k).so := rfl
      rw [show (ordL l).length - k = ((ordL l).length - (k + 1)) + 1 by omega, evGo_le o (by omega) hless] at hRk
      obtain ⟨n1, n2⟩ := nK_succ hkl
      have hbd := nK_bd o k
      have q1 := hsok.no
      have q2 := hsok.so
      have c1 := fun h => vc_made0 l k h o hk
      have c2 := fun h => vc_rgains l (xK l k) h o (xK_ok o k)
      have e1 : gnN l (xK l k) = nK l k := rfl
      have e2 : gnS l (xK l k) = sK l k := rfl
      rw [e1, e2] at c2
      obtain ⟨m, hm⟩ : ∃ m : Nat, (m : Int) = sK l k - nK l k := ⟨(sK l k - nK l k).toNat, by omega⟩
      obtain ⟨s, hs⟩ : ∃ s : Nat, (s : Int) = stepK l k := ⟨(stepK l k).toNat, by omega⟩
      have c3 := fun h => vc_madeR l k m s h o hk (by omega) (by omega) (by omega)
      have c4 := fun (hms : m ≤ s) h => vc_rgains l (xR l k m s) h o (xR_ok o k hms (by omega) (by omega))
      rw [show (sK l k - nK l k).toNat = m by omega, show (stepK l k).toNat = s by omega] at hRk
      have hAs := A.st
      have hAa := A.at_
      have hgn : gnN l (xR l k m s) = gnS l (xR l k m s) := by
        obtain ⟨g, a, b, hg, ea, eb, _, f1, f2⟩ := xR_gn (l := l) (k := k) (n := m) (w := s) hkl (by omega)
        rw [f1, f2]
        have ea' : (m : Int) = g * a := by rw [ea]; exact Int.natCast_mul _ _
        have eb' : (s : Int) = g * b := by rw [eb]; exact Int.natCast_mul _ _
        rw [ea'] at hm
        rw [eb', hst] at hs
        have hg' : (g : Int) ≠ 0 := by omega
        apply Int.eq_of_mul_eq_mul_left hg'
        have x1 : (g : Int) * (b * nK l k + a * (oS l k).no) = (g * b) * nK l k + (g * a) * (oS l k).no := by rw [Int.mul_add, ← Int.mul_assoc, ← Int.mul_assoc]
        have x2 : (g : Int) * (b * sK l k - a * (oS l k).so) = (g * b) * sK l k - (g * a) * (oS l k).so := by rw [Int.mul_sub, ← Int.mul_assoc, ← Int.mul_assoc]
        rw [x1, x2, hm, hs]
        rw [Int.add_mul, Int.add_mul, Int.sub_mul, Int.sub_mul, Int.mul_comm (sK l k) (oS l k).no, Int.mul_comm (nK l k) (oS l k).no, Int.mul_comm (sK l k) (oS l k).so, Int.mul_comm (nK l k) (oS l k).so]
        omega
      generalize oS l k = st at hAs hst q1 q2 n1 n2
      generalize sK l k = S at *
      generalize nK l k = N at *
      simp only [hm, hs, hst] at c3
      conv => whnf
      refine VDraw.go [] (by kernel_rfl) (by kernel_rfl) ?_
      conv => whnf
      repeat' (first | ((first | refine zs1 ?_ | refine zs2 ?_ | refine zs3 ?_ | refine zs4 ?_ | refine zs5 ?_); conv => whnf) | ((first | apply zi1 | apply zi2 | apply zi3 | apply zi4 | apply zi5) <;> intro _ <;> conv => whnf) | (refine VAny.ix encI_len k rfl rfl hAa ?_; conv => whnf) | (refine VAny.ix encT_len j rfl rfl hAs ?_; conv => whnf))
      refine VDraw.go [(0, 3)] (by kernel_rfl) (by kernel_rfl) ?_
      conv => whnf
      repeat' (first | ((first | refine zs1 ?_ | refine zs2 ?_ | refine zs3 ?_ | refine zs4 ?_ | refine zs5 ?_); conv => whnf) | ((first | apply zi1 | apply zi2 | apply zi3 | apply zi4 | apply zi5) <;> intro _ <;> conv => whnf) | (refine VCall.intro (c1 _) ?_; conv => whnf) | (refine VCall.intro (c2 _) ?_; conv => whnf))
      · have c5 := c4 (by omega)
        rw [← hgn] at c5
        rw [if_pos (by omega)] at hRk
        subst hRk
        generalize gnN l (xR l k m s) = G at c5
        conv => whnf
        repeat' (first | ((first | refine zs1 ?_ | refine zs2 ?_ | refine zs3 ?_ | refine zs4 ?_ | refine zs5 ?_); conv => whnf) | ((first | apply zi1 | apply zi2 | apply zi3 | apply zi4 | apply zi5) <;> intro _ <;> conv => whnf) | (refine VCall.intro (c3 _) ?_; conv => whnf) | (refine VCall.intro (c5 _) ?_; conv => whnf))
        all_goals first | (exfalso; omega) | skip
        exact VOut.same rfl
      · refine LEnd.intro (k + 1) ⟨by omega, by rw [hRk, if_neg (by omega)], by rw [n1, n2]; omega⟩ (by omega) ?_
        conv => whnf
        refine Retell.turn ⟨[0,1], 3, [], []⟩ (TurnOk.mk' _ _ [] [] (OutOk.lift _) rfl (by decide) zb trivial trivial rfl) zv zm
      · exfalso; omega
    · have hkl : k = (ordL l).length := by omega
      subst hkl
      rw [Nat.sub_self, evGo] at hRk
      subst hRk
      have c1 := fun h => vc_made0 l (ordL l).length h o (Nat.le_refl _)
      conv => whnf
      repeat' (first | ((first | refine zs1 ?_ | refine zs2 ?_ | refine zs3 ?_ | refine zs4 ?_ | refine zs5 ?_ | refine zs6 [] ?_); conv => whnf) | ((first | apply zi1 | apply zi2 | apply zi3 | apply zi4 | apply zi5) <;> intro _ <;> conv => whnf) | (refine VCall.intro (c1 _) ?_; conv => whnf))
      exact VOut.same rfl
end Go.Proofs.Ytmpjpjfkbmlmfaa

open Go.Vm
namespace Go.Proofs.Ytmpjpjfkbmlmfaa
set_option maxRecDepth 20000
set_option maxHeartbeats 4000000

def mxGo (l : Lnd) (g : Int) : Nat → Nat → Exc
  | k, 0 => xK l k
  | k, d + 1 => if g - nK l k ≤ 0 then xK l k else if g - nK l k < (oS l k).no then xR l k (g - nK l k).toNat (oS l k).no.toNat else mxGo l g (k + 1) d
def mxX (l : Lnd) (g : Int) : Exc := mxGo l g 0 (ordL l).length
def allN (l : Lnd) : Int := nK l (ordL l).length
theorem vc_lacks (l : Lnd) (g : Int) (k : Nat) (h : Hp) (o : Ok l) (hk : k ≤ (ordL l).length) (hg : -20000 ≤ g ∧ g ≤ 20000) :
    VC Try.prog 57 [I k, .fp [DI g], .fp [.pt (encN l)], .fp [.sl 1 (ordL l).length ((ordL l).flatMap encI)]] h (I (g - nK l k)) h := by
  have c1 := fun h => vc_givenK l k h o
  have c2 := fun h => vc_gains l (xK l k) h o (xK_ok o k)
  have e1 : gnN l (xK l k) = nK l k := rfl
  have e2 : gnS l (xK l k) = sK l k := rfl
  rw [e1, e2] at c2
  have hbd := nK_bd o k
  have hsub : ((ordL l).drop (Int.toNat 0)).take ((k : Int) - 0).toNat = (ordL l).take k := by simp
  have hn := o.n
  have hol := ord_len l
  generalize sK l k = S at *
  generalize nK l k = N at *
  refine VC.body Try.func57 rfl Try.ntmps57 Try.call57 (h.grows_refl) rfl ?_; conv => whnf
  repeat' (first | ((first | refine zs1 ?_ | refine zs2 ?_ | refine zs3 ?_ | refine zs4 ?_ | refine zs5 ?_); conv => whnf) | ((first | apply zi1 | apply zi2 | apply zi3 | apply zi4 | apply zi5) <;> intro _ <;> conv => whnf))
  refine VDraw.go [(0, 5), (1, 5), (2, 5), (0, 6), (1, 6), (0, 7)] (by kernel_rfl) (by kernel_rfl) ?_
  conv => whnf
  repeat' (first | ((first | refine zs1 ?_ | refine zs2 ?_ | refine zs3 ?_ | refine zs4 ?_ | refine zs5 ?_); conv => whnf) | ((first | apply zi1 | apply zi2 | apply zi3 | apply zi4 | apply zi5) <;> intro _ <;> conv => whnf))
  refine VAny.sub encI_len rfl (by omega) ?_
  rw [hsub]
  conv => whnf
  repeat' (first | ((first | refine zs1 ?_ | refine zs2 ?_ | refine zs3 ?_ | refine zs4 ?_ | refine zs5 ?_); conv => whnf) | ((first | apply zi1 | apply zi2 | apply zi3 | apply zi4 | apply zi5) <;> intro _ <;> conv => whnf) | (refine VCall.intro (c1 _) ?_; conv => whnf) | (refine VCall.intro (c2 _) ?_; conv => whnf))
  exact VOut.same rfl
theorem vc_Most_no (l : Lnd) (g : Int) (h : Hp) (hn : l.ss.length ≤ 4000000) (hv : l.vs.length ≤ 4000000) (h0 : chk l ≠ 0) : VC Try.prog 18 [vL l, I g] h (.tuple [.agg [I 0, .nilslice], I (chk l)]) h := by
  refine VC.body Try.func18 rfl Try.ntmps18 Try.call18 (h.grows_refl) rfl ?_; conv => whnf
  repeat' (first | ((first | refine zs1 ?_ | refine zs2 ?_ | refine zs3 ?_ | refine zs4 ?_ | refine zs5 ?_ | refine zs6 [] ?_); conv => whnf) | ((first | apply zi1 | apply zi2 | apply zi3 | apply zi4 | apply zi5) <;> intro _ <;> conv => whnf) | (refine VCall.intro (vc_opened_no l _ hn hv h0) ?_; conv => whnf))
  all_goals first | exact VOut.same rfl | omega
theorem vc_rMost_no (l : Lnd) (g : Int) (h : Hp) (hn : l.ss.length ≤ 4000000) (hv : l.vs.length ≤ 4000000) (h0 : chk l ≠ 0) : VC Try.prog 19 [vL l, I g] h (.tuple [.agg [I 0, .nilslice], I (chk l)]) h := by
  refine VC.body Try.func19 rfl Try.ntmps19 Try.call19 (h.grows_refl) rfl ?_; conv => whnf
  repeat' (first | ((first | refine zs1 ?_ | refine zs2 ?_ | refine zs3 ?_ | refine zs4 ?_ | refine zs5 ?_ | refine zs6 [] ?_); conv => whnf) | ((first | apply zi1 | apply zi2 | apply zi3 | apply zi4 | apply zi5) <;> intro _ <;> conv => whnf) | (refine VCall.intro (vc_rcheck l _ hn hv) ?_; conv => whnf))
  all_goals first | exact VOut.same rfl | omega
def mxV (l : Lnd) (g : Int) : V := .tuple (if g ≤ allN l then [vX (mxX l g), I 0] else [.agg [I 0, .nilslice], I 7])
theorem vc_Most_ok (l : Lnd) (g : Int) (h : Hp) (o : Ok l) : VC Try.prog 18 [vL l, I g] h (mxV l g) h := by
  obtain ⟨R, hR⟩ : ∃ R, R = mxX l g := ⟨_, rfl⟩
  unfold mxV
  rw [← hR]
  unfold mxX at hR
  have hn := o.n
  have hol := ord_len l
  have c1 := fun h => vc_givenK l (ordL l).length h o
  rw [List.take_of_length_le (Nat.le_refl _)] at c1
  have c2 := fun h => vc_gains l (xK l (ordL l).length) h o (xK_ok o _)
  have e1 : gnN l (xK l (ordL l).length) = allN l := rfl
  have e2 : gnS l (xK l (ordL l).length) = sK l (ordL l).length := rfl
  have hb0 : -16000 ≤ allN l ∧ allN l ≤ 16000 := (nK_bd o _).1
  rw [e1, e2] at c2
  generalize allN l = A at c2 hb0 ⊢
  generalize sK l (ordL l).length = SA at c2
  refine VC.body Try.func18 rfl Try.ntmps18 Try.call18 (h.grows_refl) rfl ?_; conv => whnf
  repeat' (first | ((first | refine zs1 ?_ | refine zs2 ?_ | refine zs3 ?_ | refine zs4 ?_ | refine zs5 ?_); conv => whnf) | ((first | apply zi1 | apply zi2 | apply zi3 | apply zi4 | apply zi5) <;> intro _ <;> conv => whnf) | (refine VCall.intro (vc_opened_ok l _ o) ?_; conv => whnf) | (refine VCall.intro (vc_order l _ o) ?_; conv => whnf))
  refine VDraw.go [(0, 3)] (by kernel_rfl) (by kernel_rfl) ?_
  conv => whnf
  repeat' (first | ((first | refine zs1 ?_ | refine zs2 ?_ | refine zs3 ?_ | refine zs4 ?_ | refine zs5 ?_); conv => whnf) | ((first | apply zi1 | apply zi2 | apply zi3 | apply zi4 | apply zi5) <;> intro _ <;> conv => whnf) | (refine VCall.intro (c1 _) ?_; conv => whnf) | (refine VCall.intro (c2 _) ?_; conv => whnf))
  · rename_i h1
    rw [if_neg (by omega)]
    exact VOut.same rfl
  · rename_i h1
    rw [if_pos (by omega)]
    refine VCode.lp (fun k : Nat => [(4, .ptr (.loc 0) 0), (6, .fp [.pt (encN l)]), (8, .fp [.sl 1 (ordL l).length ((ordL l).flatMap encI)]), (10, .func (.func 57) [] [.fp [DI (max g (-16000))], .fp [.pt (encN l)], .fp [.sl 1 (ordL l).length ((ordL l).flatMap encI)]]), (39, ints (ordL l)), (40, I (ordL l).length), (41, I k)]) (fun _ => [.flat true [DI 0, .nilslice]]) (fun k => k ≤ (ordL l).length ∧ R = mxGo l g k ((ordL l).length - k)) (fun k => (ordL l).length - k) 0 ⟨Nat.zero_le _, hR⟩ ?_ ?_
    · conv => whnf
      refine Retell.turn ⟨[2], 6, [(1, [DI (max g (-16000))]), (3, [.pt (encN l)]), (4, [.sl 1 (ordL l).length ((ordL l).flatMap encI)])], []⟩ (TurnOk.mk' _ _ [(1, [DI (max g (-16000))]), (3, [.pt (encN l)]), (4, [.sl 1 (ordL l).length ((ordL l).flatMap encI)])] [] (OutOk.lift _) rfl (by decide) zb zf trivial rfl) zv zm
    · rintro k ⟨hk, hRk⟩
      conv => whnf
      refine VIte.dec (fun h3 => ?_) (fun h3 => ?_)
      · have hkl : k < (ordL l).length := by omega
        obtain ⟨j, A'⟩ := at_k hkl
        have hsok := o.ss _ (List.mem_of_getElem? A'.st)
        rw [show (ordL l).length - k = ((ordL l).length - (k + 1)) + 1 by omega, mxGo] at hRk
        have hbd := nK_bd o k
        have q1 := hsok.no
        have c3 := fun h => vc_givenK l k h o
        have c4 := fun h => vc_lacks l (max g (-16000)) k h o hk (by omega)
        obtain ⟨s, hs⟩ : ∃ s : Nat, (s : Int) = (oS l k).no := ⟨(oS l k).no.toNat, by omega⟩
        rw [← hs, Int.toNat_natCast] at hRk
        have c5 := fun (m : Nat) h => vc_givenC l k j m s h o A' (by omega) (by omega)
        have hAs := A'.st
        have hAa := A'.at_
        have hsub : ((ordL l).drop (Int.toNat 0)).take ((k : Int) - 0).toNat = (ordL l).take k := by simp
        generalize oS l k = st at hAs hs q1
        generalize nK l k = N at *
        conv => whnf
        repeat' (first | ((first | refine zs1 ?_ | refine zs2 ?_ | refine zs3 ?_ | refine zs4 ?_ | refine zs5 ?_); conv => whnf) | ((first | apply zi1 | apply zi2 | apply zi3 | apply zi4 | apply zi5) <;> intro _ <;> conv => whnf) | (refine VAny.ix encI_len k rfl rfl hAa ?_; conv => whnf))
        refine VDraw.go [(0, 10), (4, 10), (7, 10)] (by kernel_rfl) (by kernel_rfl) ?_
        conv => whnf
        repeat' (first | ((first | refine zs1 ?_ | refine zs2 ?_ | refine zs3 ?_ | refine zs4 ?_ | refine zs5 ?_); conv => whnf) | ((first | apply zi1 | apply zi2 | apply zi3 | apply zi4 | apply zi5) <;> intro _ <;> conv => whnf) | (refine VAny.ix encT_len j rfl rfl hAs ?_; conv => whnf) | (refine VCall.intro (c4 _) ?_; conv => whnf))
        · rename_i h5
          rw [if_pos (by omega)] at hRk
          subst hRk
          refine VDraw.go [(0, 3)] (by kernel_rfl) (by kernel_rfl) ?_
          conv => whnf
          repeat' (first | ((first | refine zs1 ?_ | refine zs2 ?_ | refine zs3 ?_ | refine zs4 ?_ | refine zs5 ?_); conv => whnf) | ((first | apply zi1 | apply zi2 | apply zi3 | apply zi4 | apply zi5) <;> intro _ <;> conv => whnf))
          refine VAny.sub encI_len rfl (by omega) ?_
          rw [hsub]
          conv => whnf
          repeat' (first | ((first | refine zs1 ?_ | refine zs2 ?_ | refine zs3 ?_ | refine zs4 ?_ | refine zs5 ?_); conv => whnf) | ((first | apply zi1 | apply zi2 | apply zi3 | apply zi4 | apply zi5) <;> intro _ <;> conv => whnf) | (refine VCall.intro (c3 _) ?_; conv => whnf))
          exact VOut.same rfl
        · rename_i h5 h6
          obtain ⟨m, hm⟩ : ∃ m : Nat, (m : Int) = max g (-16000) - N := ⟨(max g (-16000) - N).toNat, by omega⟩
          rw [if_neg (by omega), if_pos (by omega), show (g - N).toNat = m by omega] at hRk
          subst hRk
          have c6 := fun h => c5 m h (by omega)
          simp only [hm, hs] at c6
          refine VDraw.go [(0, 3), (3, 7)] (by kernel_rfl) (by kernel_rfl) ?_
          conv => whnf
          repeat' (first | ((first | refine zs1 ?_ | refine zs2 ?_ | refine zs3 ?_ | refine zs4 ?_ | refine zs5 ?_); conv => whnf) | ((first | apply zi1 | apply zi2 | apply zi3 | apply zi4 | apply zi5) <;> intro _ <;> conv => whnf))
          refine VAny.sub encI_len rfl (by omega) ?_
          rw [hsub]
          conv => whnf
          repeat' (first | ((first | refine zs1 ?_ | refine zs2 ?_ | refine zs3 ?_ | refine zs4 ?_ | refine zs5 ?_); conv => whnf) | ((first | apply zi1 | apply zi2 | apply zi3 | apply zi4 | apply zi5) <;> intro _ <;> conv => whnf) | (refine VCall.intro (c6 _) ?_; conv => whnf))
          exact VOut.same rfl
        · rename_i h5 h6
          rw [if_neg (by omega), if_neg (by omega)] at hRk
          refine LEnd.intro (k + 1) ⟨by omega, hRk⟩ (by omega) ?_
          conv => whnf
          refine Retell.turn ⟨[0], 2, [], []⟩ (TurnOk.mk' _ _ [] [] (OutOk.lift _) rfl (by decide) zb trivial trivial rfl) zv zm
      · have hkl : k = (ordL l).length := by omega
        subst hkl
        rw [Nat.sub_self, mxGo] at hRk
        subst hRk
        conv => whnf
        repeat' (first | ((first | refine zs1 ?_ | refine zs2 ?_ | refine zs3 ?_ | refine zs4 ?_ | refine zs5 ?_ | refine zs6 [] ?_); conv => whnf) | ((first | apply zi1 | apply zi2 | apply zi3 | apply zi4 | apply zi5) <;> intro _ <;> conv => whnf) | (refine VCall.intro (c1 _) ?_; conv => whnf))
        exact VOut.same rfl
end Go.Proofs.Ytmpjpjfkbmlmfaa

open Go.Vm
namespace Go.Proofs.Ytmpjpjfkbmlmfaa
set_option maxRecDepth 20000
set_option maxHeartbeats 4000000

theorem mul_w {w g : Int} (hw : 1 ≤ w ∧ w ≤ 2000) {A : Int} (hA : -A ≤ g ∧ g ≤ A) : -(A * 2000) ≤ g * w ∧ g * w ≤ A * 2000 := by
  obtain ⟨n, rfl⟩ : ∃ n : Nat, w = n := ⟨w.toNat, by omega⟩
  have h0 : 0 ≤ A := by omega
  have h1 : g * n ≤ A * n := Int.mul_le_mul_of_nonneg_right hA.2 (by omega)
  have h2 : -A * n ≤ g * n := Int.mul_le_mul_of_nonneg_right hA.1 (by omega)
  have h3 : A * n ≤ A * 2000 := Int.mul_le_mul_of_nonneg_left hw.2 h0
  have h4 : -A * n = -(A * n) := Int.neg_mul _ _
  omega
theorem vc_better0 (l : Lnd) (b : Exc) (g : Int) (h : Hp) (o : Ok l) (ob : XOk l b) (hg : -20000 ≤ g ∧ g ≤ 20000) :
    VC Try.prog 60 [vL l, .agg [I 0, .nilslice], vX b, I g] h (if gnN l b < g * b.w then .agg [I 0, .nilslice] else vX b) h := by
  have c1 := fun h => vc_rgains l b h o ob
  have hb := gn_b o ob
  have hm := mul_w ob.w hg
  generalize gnN l b = N at *
  generalize gnS l b = S at *
  refine VC.body Try.func60 rfl Try.ntmps60 Try.call60 (h.grows_refl) rfl ?_; conv => whnf
  repeat' (first | ((first | refine zs1 ?_ | refine zs2 ?_ | refine zs3 ?_ | refine zs4 ?_ | refine zs5 ?_ | refine zs6 [] ?_); conv => whnf) | ((first | apply zi1 | apply zi2 | apply zi3 | apply zi4 | apply zi5) <;> intro _ <;> conv => whnf) | (refine VCall.intro (c1 _) ?_; conv => whnf))
  · rename_i h1
    rw [if_pos h1]
    exact VOut.same rfl
  · rename_i h1
    rw [if_neg h1]
    exact VOut.same rfl
theorem vc_betterA (l : Lnd) (a b : Exc) (g : Int) (h : Hp) (o : Ok l) (oa : XOk l a) (ob : XOk l b) (hg : -20000 ≤ g ∧ g ≤ 20000) :
    VC Try.prog 60 [vL l, vX a, vX b, I g] h (vX (if gnN l b < g * b.w then a else if gnS l a * b.w < gnS l b * a.w then b else a)) h := by
  have c1 := fun h => vc_rgains l b h o ob
  have c2 := fun h => vc_rgains l a h o oa
  have hb := gn_b o ob
  have ha := gn_b o oa
  have hm := mul_w ob.w hg
  have hm1 := mul_w ob.w ha.2
  have hm2 := mul_w oa.w hb.2
  have haw := oa.w
  generalize gnN l b = N at *
  generalize gnS l b = S at *
  generalize gnN l a = N' at *
  generalize gnS l a = S' at *
  refine VC.body Try.func60 rfl Try.ntmps60 Try.call60 (h.grows_refl) rfl ?_; conv => whnf
  repeat' (first | ((first | refine zs1 ?_ | refine zs2 ?_ | refine zs3 ?_ | refine zs4 ?_ | refine zs5 ?_ | refine zs6 [] ?_); conv => whnf) | ((first | apply zi1 | apply zi2 | apply zi3 | apply zi4 | apply zi5) <;> intro _ <;> conv => whnf) | (refine VCall.intro (c1 _) ?_; conv => whnf) | (refine VCall.intro (c2 _) ?_; conv => whnf))
  · rename_i h1
    rw [if_pos h1]
    exact VOut.same rfl
  · exfalso; omega
  · rename_i h1 h2 h3
    rw [if_neg h1, if_pos h3]
    exact VOut.same rfl
  · rename_i h1 h2 h3
    rw [if_neg h1, if_neg h3]
    exact VOut.same rfl
end Go.Proofs.Ytmpjpjfkbmlmfaa

open Go.Vm
namespace Go.Proofs.Ytmpjpjfkbmlmfaa
set_option maxRecDepth 20000
set_option maxHeartbeats 4000000

def bX : Option Exc → List D
  | none => [DI 0, .nilslice]
  | some x => encX x
def MxI (l : Lnd) (g G : Int) (R : Exc) : Nat × Option Exc → Prop
  | (k, none) => k ≤ (ordL l).length ∧ R = mxGo l g k ((ordL l).length - k)
  | (k, some B) => k ≤ (ordL l).length + 1 ∧ B = R ∧ XOk l R ∧ (k ≤ (ordL l).length → G ≤ nK l k ∧ R.w * sK l k ≤ gnS l R)
theorem cut_gain {l : Lnd} {k m w : Nat} {G : Int} (hk : k < (ordL l).length) (hw : (w : Int) = (oS l k).no) (hw0 : 0 < w) (hm : (m : Int) = G - nK l k) : gnN l (xR l k m w) = G * (xR l k m w).w := by
  obtain ⟨g, a, b, hg, ea, eb, e0, f1, f2⟩ := xR_gn (l := l) (k := k) (n := m) (w := w) hk hw0
  rw [f1, e0]
  show _ = G * (b : Int)
  have ea' : (m : Int) = g * a := by rw [ea]; exact Int.natCast_mul _ _
  have eb' : (w : Int) = g * b := by rw [eb]; exact Int.natCast_mul _ _
  rw [ea'] at hm
  rw [eb'] at hw
  have hg' : (g : Int) ≠ 0 := by omega
  apply Int.eq_of_mul_eq_mul_left hg'
  have x1 : (g : Int) * (b * nK l k + a * (oS l k).no) = (g * b) * nK l k + (g * a) * (oS l k).no := by rw [Int.mul_add, ← Int.mul_assoc, ← Int.mul_assoc]
  have x2 : (g : Int) * (G * b) = G * (g * b) := by rw [Int.mul_left_comm]
  rw [x1, x2, hm, hw, Int.sub_mul, Int.mul_comm (oS l k).no (nK l k)]
  omega
theorem cut_loss {l : Lnd} {k m w : Nat} (hk : k < (ordL l).length) (hso : 1 ≤ (oS l k).so) (hw0 : 0 < w) (hm : m ≤ w) : (xR l k m w).w * sK l (k + 1) ≤ gnS l (xR l k m w) := by
  obtain ⟨g, a, b, hg, ea, eb, e0, f1, f2⟩ := xR_gn (l := l) (k := k) (n := m) (w := w) hk hw0
  obtain ⟨n1, n2⟩ := nK_succ hk
  rw [f2, e0, n2]
  show (b : Int) * _ ≤ _
  have hab : a ≤ b := by
    rw [ea, eb] at hm
    exact Nat.le_of_mul_le_mul_left hm hg
  have : (a : Int) * (oS l k).so ≤ b * (oS l k).so := Int.mul_le_mul_of_nonneg_right (by omega) (by omega)
  rw [Int.mul_sub]
  omega
theorem vc_rMost_ok (l : Lnd) (g : Int) (h : Hp) (o : Ok l) : VC Try.prog 19 [vL l, I g] h (mxV l g) h := by
  obtain ⟨R, hR⟩ : ∃ R, R = mxX l g := ⟨_, rfl⟩
  obtain ⟨G, hG⟩ : ∃ G, G = if g < -20000 then -20000 else g := ⟨_, rfl⟩
  unfold mxV
  rw [← hR]
  unfold mxX at hR
  have hn := o.n
  have hol := ord_len l
  have c1 := fun h => vc_made0 l (ordL l).length h o (Nat.le_refl _)
  have c2 := fun h => vc_rgains l (xK l (ordL l).length) h o (xK_ok o _)
  have e1 : gnN l (xK l (ordL l).length) = allN l := rfl
  have e2 : gnS l (xK l (ordL l).length) = sK l (ordL l).length := rfl
  have e3 : allN l = nK l (ordL l).length := rfl
  have hb0 : -16000 ≤ allN l ∧ allN l ≤ 16000 := (nK_bd o _).1
  rw [e1, e2] at c2
  generalize allN l = A at c2 hb0 e3 ⊢
  generalize sK l (ordL l).length = SA at c2
  have hGg : (g < -20000 ∧ G = -20000) ∨ (-20000 ≤ g ∧ G = g) := by
    rw [hG]; split <;> omega
  clear hG
  refine VC.body Try.func19 rfl Try.ntmps19 Try.call19 (h.grows_refl) rfl ?_; conv => whnf
  repeat' (first | ((first | refine zs1 ?_ | refine zs2 ?_ | refine zs3 ?_ | refine zs4 ?_ | refine zs5 ?_); conv => whnf) | ((first | apply zi1 | apply zi2 | apply zi3 | apply zi4 | apply zi5) <;> intro _ <;> conv => whnf) | (refine VCall.intro (vc_rcheck_ok l _ o) ?_; conv => whnf) | (refine VCall.intro (vc_rorder l _ o) ?_; conv => whnf))
  all_goals (
    refine VDraw.go [(0, 4)] (by kernel_rfl) (by kernel_rfl) ?_
    conv => whnf
    repeat' (first | ((first | refine zs1 ?_ | refine zs2 ?_ | refine zs3 ?_ | refine zs4 ?_ | refine zs5 ?_); conv => whnf) | ((first | apply zi1 | apply zi2 | apply zi3 | apply zi4 | apply zi5) <;> intro _ <;> conv => whnf) | (refine VCall.intro (c1 _) ?_; conv => whnf) | (refine VCall.intro (c2 _) ?_; conv => whnf)))
  · exfalso; omega
  · obtain rfl : G = -20000 := by omega
    rw [if_pos (by omega)]
    refine VCode.lp (fun y : Nat × Option Exc => [(1, I (-20000)), (2, .ptr (.loc 0) 0), (4, .ptr (.loc 1) 0), (5, I 0), (7, ints (ordL l)), (10, .ptr (.loc 2) 0), (11, I y.1)]) (fun y => [.flat true (encN l), .flat true [DI 0, .nilslice], .flat true (bX y.2)]) (MxI l g (-20000) R) (fun y => (ordL l).length + 1 - y.1) (0, none) ⟨Nat.zero_le _, hR⟩ ?_ ?_
    · conv => whnf
      refine Retell.turn ⟨[0,1,2], 3, [], []⟩ (TurnOk.mk' _ _ [] [] (OutOk.lift _) rfl (by decide) zb trivial trivial rfl) zv zm
    · rintro ⟨k, B⟩ hI
      cases B with
      | none =>
        obtain ⟨hk, hRk⟩ := hI
        have cm := fun h => vc_made0 l k h o hk
        have cb := fun h => vc_better0 l (xK l k) (-20000) h o (xK_ok o k) (by omega)
        have cg := fun h => vc_rgains l (xK l k) h o (xK_ok o k)
        have f1 : gnN l (xK l k) = nK l k := rfl
        have f2 : gnS l (xK l k) = sK l k := rfl
        have f3 : (xK l k).w = 1 := rfl
        rw [f1, f3] at cb
        rw [f1, f2] at cg
        have hbd := nK_bd o k
        rcases Nat.lt_or_ge k (ordL l).length with hkl | hkl
        · obtain ⟨j, A'⟩ := at_k hkl
          have hsok := o.ss _ (List.mem_of_getElem? A'.st)
          have q1 := hsok.no
          have q2 := hsok.so
          obtain ⟨n1, n2⟩ := nK_succ hkl
          rw [show (ordL l).length - k = ((ordL l).length - (k + 1)) + 1 by omega, mxGo] at hRk
          obtain ⟨s, hs⟩ : ∃ s : Nat, (s : Int) = (oS l k).no := ⟨(oS l k).no.toNat, by omega⟩
          rw [← hs, Int.toNat_natCast] at hRk
          have hAs := A'.st
          have hAa := A'.at_
          by_cases h5 : nK l k < (-20000) * 1
          · obtain ⟨m, hm⟩ : ∃ m : Nat, (m : Int) = (-20000) - nK l k := ⟨((-20000) - nK l k).toNat, by omega⟩
            rw [if_pos h5] at cb
            have c6 := fun (hms : m < s) h => vc_madeR l k m s h o hk (by omega) (by omega) (by omega)
            have c7 := fun (hms : m < s) h => vc_better0 l (xR l k m s) (-20000) h o (xR_ok o k (by omega) (by omega) (by omega)) (by omega)
            have p1 := fun (hms : m < s) => cut_gain (G := (-20000)) hkl hs (by omega) hm
            have p2 := fun (hms : m < s) => cut_loss (m := m) (w := s) hkl q2.1 (by omega) (by omega)
            have p3 := fun (hms : m < s) => xR_ok (k := k) (n := m) (w := s) o (by omega) (by omega) (by omega)
            simp only [hm, hs] at c6
            generalize oS l k = st at hAs hs q1 q2 n1 n2 c6
            generalize nK l k = N at *
            generalize sK l k = S at *
            conv => whnf
            repeat (first | ((first | refine zs1 ?_ | refine zs2 ?_ | refine zs3 ?_ | refine zs4 ?_ | refine zs5 ?_ | refine zs6 [] ?_); conv => whnf))
            refine VIte.dec (fun h3 => ?_) (fun h3 => by omega)
            conv => whnf
            repeat' (first | ((first | refine zs1 ?_ | refine zs2 ?_ | refine zs3 ?_ | refine zs4 ?_ | refine zs5 ?_); conv => whnf) | ((first | apply zi1 | apply zi2 | apply zi3 | apply zi4 | apply zi5) <;> intro _ <;> conv => whnf) | (refine VCall.intro (cm _) ?_; conv => whnf) | (refine VCall.intro (cb _) ?_; conv => whnf) | (refine VCall.intro (cg _) ?_; conv => whnf) | (refine VAny.ix encI_len k rfl rfl hAa ?_; conv => whnf) | (refine VAny.ix encT_len j rfl rfl hAs ?_; conv => whnf))
            · refine VDraw.go [] (by kernel_rfl) (by kernel_rfl) ?_
              conv => whnf
              repeat' (first | ((first | refine zs1 ?_ | refine zs2 ?_ | refine zs3 ?_ | refine zs4 ?_ | refine zs5 ?_); conv => whnf) | ((first | apply zi1 | apply zi2 | apply zi3 | apply zi4 | apply zi5) <;> intro _ <;> conv => whnf) | (refine VAny.ix encI_len k rfl rfl hAa ?_; conv => whnf) | (refine VAny.ix encT_len j rfl rfl hAs ?_; conv => whnf))
              · rename_i h7
                obtain hms : m < s := by omega
                rw [if_neg (by omega), if_pos (by omega), show (g - N).toNat = m by omega] at hRk
                rw [← hRk] at c6 c7 p1 p2 p3
                have c6 := c6 hms
                have c7 := c7 hms
                have p1 := p1 hms
                have p2 := p2 hms
                have p3 := p3 hms
                rw [if_neg (by omega)] at c7
                refine VDraw.go [(0, 8), (1, 8)] (by kernel_rfl) (by kernel_rfl) ?_
                conv => whnf
                repeat' (first | ((first | refine zs1 ?_ | refine zs2 ?_ | refine zs3 ?_ | refine zs4 ?_ | refine zs5 ?_); conv => whnf) | ((first | apply zi1 | apply zi2 | apply zi3 | apply zi4 | apply zi5) <;> intro _ <;> conv => whnf) | (refine VCall.intro (c6 _) ?_; conv => whnf) | (refine VCall.intro (c7 _) ?_; conv => whnf))
                refine LEnd.intro (k + 1, some R) ⟨by omega, rfl, p3, fun _ => ⟨by rw [n1]; omega, p2⟩⟩ (by dsimp only; omega) ?_
                conv => whnf
                refine Retell.turn ⟨[0,1,2], 4, [], []⟩ (TurnOk.mk' _ _ [] [] (OutOk.lift _) rfl (by decide) zb trivial trivial rfl) zv zm
              · rename_i h7
                rw [if_neg (by omega), if_neg (by omega)] at hRk
                refine LEnd.intro (k + 1, none) ⟨by omega, hRk⟩ (by dsimp only; omega) ?_
                conv => whnf
                refine Retell.turn ⟨[0,1,2], 4, [], []⟩ (TurnOk.mk' _ _ [] [] (OutOk.lift _) rfl (by decide) zb trivial trivial rfl) zv zm
              all_goals (exfalso; omega)
            · exfalso; rename_i h7; exact h7 (by dsimp only; omega)
          · rw [if_neg h5] at cb
            have ho := xK_ok o k
            generalize oS l k = st at hAs hs q1 q2 n1 n2
            generalize nK l k = N at *
            generalize sK l k = S at *
            rw [if_pos (by omega)] at hRk
            rw [← hRk] at cm cb cg f1 f2 f3 ho
            conv => whnf
            repeat (first | ((first | refine zs1 ?_ | refine zs2 ?_ | refine zs3 ?_ | refine zs4 ?_ | refine zs5 ?_ | refine zs6 [] ?_); conv => whnf))
            refine VIte.dec (fun h3 => ?_) (fun h3 => by omega)
            conv => whnf
            repeat' (first | ((first | refine zs1 ?_ | refine zs2 ?_ | refine zs3 ?_ | refine zs4 ?_ | refine zs5 ?_); conv => whnf) | ((first | apply zi1 | apply zi2 | apply zi3 | apply zi4 | apply zi5) <;> intro _ <;> conv => whnf) | (refine VCall.intro (cm _) ?_; conv => whnf) | (refine VCall.intro (cb _) ?_; conv => whnf) | (refine VCall.intro (cg _) ?_; conv => whnf))
            · refine VDraw.go [] (by kernel_rfl) (by kernel_rfl) ?_
              conv => whnf
              repeat' (first | ((first | refine zs1 ?_ | refine zs2 ?_ | refine zs3 ?_ | refine zs4 ?_ | refine zs5 ?_); conv => whnf) | ((first | apply zi1 | apply zi2 | apply zi3 | apply zi4 | apply zi5) <;> intro _ <;> conv => whnf) | (refine VAny.ix encI_len k rfl rfl hAa ?_; conv => whnf) | (refine VAny.ix encT_len j rfl rfl hAs ?_; conv => whnf))
              all_goals first | (exfalso; omega) | skip
              refine LEnd.intro (k + 1, some R) ⟨by omega, rfl, ho, fun _ => ⟨by rw [n1]; omega, by rw [f3, n2, f2]; omega⟩⟩ (by dsimp only; omega) ?_
              conv => whnf
              refine Retell.turn ⟨[0,1,2], 4, [], []⟩ (TurnOk.mk' _ _ [] [] (OutOk.lift _) rfl (by decide) zb trivial trivial rfl) zv zm
            · exfalso; rename_i h7; exact h7 (by dsimp only; omega)
        · have hkk : k = (ordL l).length := by omega
          have ho := xK_ok o k
          rw [show (ordL l).length - k = 0 by omega, mxGo] at hRk
          rw [hkk, ← e3, ← hkk] at cb
          rw [if_neg (by omega)] at cb
          rw [← hRk] at cm cb ho
          conv => whnf
          repeat (first | ((first | refine zs1 ?_ | refine zs2 ?_ | refine zs3 ?_ | refine zs4 ?_ | refine zs5 ?_ | refine zs6 [] ?_); conv => whnf))
          refine VIte.dec (fun h3 => ?_) (fun h3 => by omega)
          conv => whnf
          repeat' (first | ((first | refine zs1 ?_ | refine zs2 ?_ | refine zs3 ?_ | refine zs4 ?_ | refine zs5 ?_); conv => whnf) | ((first | apply zi1 | apply zi2 | apply zi3 | apply zi4 | apply zi5) <;> intro _ <;> conv => whnf) | (refine VCall.intro (cm _) ?_; conv => whnf) | (refine VCall.intro (cb _) ?_; conv => whnf))
          · exfalso; rename_i h7; dsimp only at h7; omega
          · refine LEnd.intro (k + 1, some R) ⟨by omega, rfl, ho, fun hh => absurd hh (by omega)⟩ (by dsimp only; omega) ?_
            conv => whnf
            refine Retell.turn ⟨[0,1,2], 4, [], []⟩ (TurnOk.mk' _ _ [] [] (OutOk.lift _) rfl (by decide) zb trivial trivial rfl) zv zm
      | some B =>
        obtain ⟨hk, rfl, oR, hI⟩ := hI
        rcases Nat.lt_or_ge (ordL l).length k with hkl | hkl
        · conv => whnf
          repeat (first | ((first | refine zs1 ?_ | refine zs2 ?_ | refine zs3 ?_ | refine zs4 ?_ | refine zs5 ?_ | refine zs6 [] ?_); conv => whnf))
          refine VIte.dec (fun h3 => by exfalso; dsimp only at h3; omega) (fun h3 => ?_)
          conv => whnf
          repeat' (first | ((first | refine zs1 ?_ | refine zs2 ?_ | refine zs3 ?_ | refine zs4 ?_ | refine zs5 ?_ | refine zs6 [] ?_); conv => whnf) | ((first | apply zi1 | apply zi2 | apply zi3 | apply zi4 | apply zi5) <;> intro _ <;> conv => whnf))
          exact VOut.same rfl
        · obtain ⟨hI1, hI2⟩ := hI hkl
          have cm := fun h => vc_made0 l k h o hkl
          have cb := fun h => vc_betterA l B (xK l k) (-20000) h o oR (xK_ok o k) (by omega)
          have cg := fun h => vc_rgains l (xK l k) h o (xK_ok o k)
          have f1 : gnN l (xK l k) = nK l k := rfl
          have f2 : gnS l (xK l k) = sK l k := rfl
          have f3 : (xK l k).w = 1 := rfl
          rw [f1, f2, f3, if_neg (by omega), if_neg (by rw [Int.mul_comm] at hI2; omega)] at cb
          rw [f1, f2] at cg
          have hbd := nK_bd o k
          rcases Nat.lt_or_ge k (ordL l).length with hkl | hkl
          · obtain ⟨j, A'⟩ := at_k hkl
            have hsok := o.ss _ (List.mem_of_getElem? A'.st)
            have q1 := hsok.no
            have q2 := hsok.so
            obtain ⟨n1, n2⟩ := nK_succ hkl
            have hAs := A'.st
            have hAa := A'.at_
            have hw := oR.w
            have hmono : B.w * sK l (k + 1) ≤ B.w * sK l k := Int.mul_le_mul_of_nonneg_left (by omega) (by omega)
            generalize oS l k = st at hAs q1 q2 n1 n2
            generalize nK l k = N at *
            conv => whnf
            repeat (first | ((first | refine zs1 ?_ | refine zs2 ?_ | refine zs3 ?_ | refine zs4 ?_ | refine zs5 ?_ | refine zs6 [] ?_); conv => whnf))
            refine VIte.dec (fun h3 => ?_) (fun h3 => by omega)
            conv => whnf
            repeat' (first | ((first | refine zs1 ?_ | refine zs2 ?_ | refine zs3 ?_ | refine zs4 ?_ | refine zs5 ?_); conv => whnf) | ((first | apply zi1 | apply zi2 | apply zi3 | apply zi4 | apply zi5) <;> intro _ <;> conv => whnf) | (refine VCall.intro (cm _) ?_; conv => whnf) | (refine VCall.intro (cb _) ?_; conv => whnf) | (refine VCall.intro (cg _) ?_; conv => whnf))
            · refine VDraw.go [] (by kernel_rfl) (by kernel_rfl) ?_
              conv => whnf
              repeat' (first | ((first | refine zs1 ?_ | refine zs2 ?_ | refine zs3 ?_ | refine zs4 ?_ | refine zs5 ?_); conv => whnf) | ((first | apply zi1 | apply zi2 | apply zi3 | apply zi4 | apply zi5) <;> intro _ <;> conv => whnf) | (refine VAny.ix encI_len k rfl rfl hAa ?_; conv => whnf) | (refine VAny.ix encT_len j rfl rfl hAs ?_; conv => whnf))
              all_goals first | (exfalso; omega) | skip
              refine LEnd.intro (k + 1, some B) ⟨by omega, rfl, oR, fun _ => ⟨by rw [n1]; omega, by omega⟩⟩ (by dsimp only; omega) ?_
              conv => whnf
              refine Retell.turn ⟨[0,1,2], 4, [], []⟩ (TurnOk.mk' _ _ [] [] (OutOk.lift _) rfl (by decide) zb trivial trivial rfl) zv zm
            · exfalso; rename_i h7; exact h7 (by dsimp only; omega)
          · conv => whnf
            repeat (first | ((first | refine zs1 ?_ | refine zs2 ?_ | refine zs3 ?_ | refine zs4 ?_ | refine zs5 ?_ | refine zs6 [] ?_); conv => whnf))
            refine VIte.dec (fun h3 => ?_) (fun h3 => by omega)
            conv => whnf
            repeat' (first | ((first | refine zs1 ?_ | refine zs2 ?_ | refine zs3 ?_ | refine zs4 ?_ | refine zs5 ?_); conv => whnf) | ((first | apply zi1 | apply zi2 | apply zi3 | apply zi4 | apply zi5) <;> intro _ <;> conv => whnf) | (refine VCall.intro (cm _) ?_; conv => whnf) | (refine VCall.intro (cb _) ?_; conv => whnf))
            · exfalso; rename_i h7; dsimp only at h7; omega
            · refine LEnd.intro (k + 1, some B) ⟨by omega, rfl, oR, fun hh => absurd hh (by omega)⟩ (by dsimp only; omega) ?_
              conv => whnf
              refine Retell.turn ⟨[0,1,2], 4, [], []⟩ (TurnOk.mk' _ _ [] [] (OutOk.lift _) rfl (by decide) zb trivial trivial rfl) zv zm
  · rename_i h1 h2
    rw [if_neg (by omega)]
    exact VOut.same rfl
  · obtain rfl : G = g := by omega
    rw [if_pos (by omega)]
    refine VCode.lp (fun y : Nat × Option Exc => [(1, I G), (2, .ptr (.loc 0) 0), (4, .ptr (.loc 1) 0), (5, I 0), (7, ints (ordL l)), (10, .ptr (.loc 2) 0), (11, I y.1)]) (fun y => [.flat true (encN l), .flat true [DI 0, .nilslice], .flat true (bX y.2)]) (MxI l G G R) (fun y => (ordL l).length + 1 - y.1) (0, none) ⟨Nat.zero_le _, hR⟩ ?_ ?_
    · conv => whnf
      refine Retell.turn ⟨[0,1,2], 3, [], []⟩ (TurnOk.mk' _ _ [] [] (OutOk.lift _) rfl (by decide) zb trivial trivial rfl) zv zm
    · rintro ⟨k, B⟩ hI
      cases B with
      | none =>
        obtain ⟨hk, hRk⟩ := hI
        have cm := fun h => vc_made0 l k h o hk
        have cb := fun h => vc_better0 l (xK l k) G h o (xK_ok o k) (by omega)
        have cg := fun h => vc_rgains l (xK l k) h o (xK_ok o k)
        have f1 : gnN l (xK l k) = nK l k := rfl
        have f2 : gnS l (xK l k) = sK l k := rfl
        have f3 : (xK l k).w = 1 := rfl
        rw [f1, f3] at cb
        rw [f1, f2] at cg
        have hbd := nK_bd o k
        rcases Nat.lt_or_ge k (ordL l).length with hkl | hkl
        · obtain ⟨j, A'⟩ := at_k hkl
          have hsok := o.ss _ (List.mem_of_getElem? A'.st)
          have q1 := hsok.no
          have q2 := hsok.so
          obtain ⟨n1, n2⟩ := nK_succ hkl
          rw [show (ordL l).length - k = ((ordL l).length - (k + 1)) + 1 by omega, mxGo] at hRk
          obtain ⟨s, hs⟩ : ∃ s : Nat, (s : Int) = (oS l k).no := ⟨(oS l k).no.toNat, by omega⟩
          rw [← hs, Int.toNat_natCast] at hRk
          have hAs := A'.st
          have hAa := A'.at_
          by_cases h5 : nK l k < G * 1
          · obtain ⟨m, hm⟩ : ∃ m : Nat, (m : Int) = G - nK l k := ⟨(G - nK l k).toNat, by omega⟩
            rw [if_pos h5] at cb
            have c6 := fun (hms : m < s) h => vc_madeR l k m s h o hk (by omega) (by omega) (by omega)
            have c7 := fun (hms : m < s) h => vc_better0 l (xR l k m s) G h o (xR_ok o k (by omega) (by omega) (by omega)) (by omega)
            have p1 := fun (hms : m < s) => cut_gain (G := G) hkl hs (by omega) hm
            have p2 := fun (hms : m < s) => cut_loss (m := m) (w := s) hkl q2.1 (by omega) (by omega)
            have p3 := fun (hms : m < s) => xR_ok (k := k) (n := m) (w := s) o (by omega) (by omega) (by omega)
            simp only [hm, hs] at c6
            generalize oS l k = st at hAs hs q1 q2 n1 n2 c6
            generalize nK l k = N at *
            generalize sK l k = S at *
            conv => whnf
            repeat (first | ((first | refine zs1 ?_ | refine zs2 ?_ | refine zs3 ?_ | refine zs4 ?_ | refine zs5 ?_ | refine zs6 [] ?_); conv => whnf))
            refine VIte.dec (fun h3 => ?_) (fun h3 => by omega)
            conv => whnf
            repeat' (first | ((first | refine zs1 ?_ | refine zs2 ?_ | refine zs3 ?_ | refine zs4 ?_ | refine zs5 ?_); conv => whnf) | ((first | apply zi1 | apply zi2 | apply zi3 | apply zi4 | apply zi5) <;> intro _ <;> conv => whnf) | (refine VCall.intro (cm _) ?_; conv => whnf) | (refine VCall.intro (cb _) ?_; conv => whnf) | (refine VCall.intro (cg _) ?_; conv => whnf) | (refine VAny.ix encI_len k rfl rfl hAa ?_; conv => whnf) | (refine VAny.ix encT_len j rfl rfl hAs ?_; conv => whnf))
            · refine VDraw.go [] (by kernel_rfl) (by kernel_rfl) ?_
              conv => whnf
              repeat' (first | ((first | refine zs1 ?_ | refine zs2 ?_ | refine zs3 ?_ | refine zs4 ?_ | refine zs5 ?_); conv => whnf) | ((first | apply zi1 | apply zi2 | apply zi3 | apply zi4 | apply zi5) <;> intro _ <;> conv => whnf) | (refine VAny.ix encI_len k rfl rfl hAa ?_; conv => whnf) | (refine VAny.ix encT_len j rfl rfl hAs ?_; conv => whnf))
              · rename_i h7
                obtain hms : m < s := by omega
                rw [if_neg (by omega), if_pos (by omega), show (G - N).toNat = m by omega] at hRk
                rw [← hRk] at c6 c7 p1 p2 p3
                have c6 := c6 hms
                have c7 := c7 hms
                have p1 := p1 hms
                have p2 := p2 hms
                have p3 := p3 hms
                rw [if_neg (by omega)] at c7
                refine VDraw.go [(0, 8), (1, 8)] (by kernel_rfl) (by kernel_rfl) ?_
                conv => whnf
                repeat' (first | ((first | refine zs1 ?_ | refine zs2 ?_ | refine zs3 ?_ | refine zs4 ?_ | refine zs5 ?_); conv => whnf) | ((first | apply zi1 | apply zi2 | apply zi3 | apply zi4 | apply zi5) <;> intro _ <;> conv => whnf) | (refine VCall.intro (c6 _) ?_; conv => whnf) | (refine VCall.intro (c7 _) ?_; conv => whnf))
                refine LEnd.intro (k + 1, some R) ⟨by omega, rfl, p3, fun _ => ⟨by rw [n1]; omega, p2⟩⟩ (by dsimp only; omega) ?_
                conv => whnf
                refine Retell.turn ⟨[0,1,2], 4, [], []⟩ (TurnOk.mk' _ _ [] [] (OutOk.lift _) rfl (by decide) zb trivial trivial rfl) zv zm
              · rename_i h7
                rw [if_neg (by omega), if_neg (by omega)] at hRk
                refine LEnd.intro (k + 1, none) ⟨by omega, hRk⟩ (by dsimp only; omega) ?_
                conv => whnf
                refine Retell.turn ⟨[0,1,2], 4, [], []⟩ (TurnOk.mk' _ _ [] [] (OutOk.lift _) rfl (by decide) zb trivial trivial rfl) zv zm
              all_goals (exfalso; omega)
            · exfalso; rename_i h7; exact h7 (by dsimp only; omega)
          · rw [if_neg h5] at cb
            have ho := xK_ok o k
            generalize oS l k = st at hAs hs q1 q2 n1 n2
            generalize nK l k = N at *
            generalize sK l k = S at *
            rw [if_pos (by omega)] at hRk
            rw [← hRk] at cm cb cg f1 f2 f3 ho
            conv => whnf
            repeat (first | ((first | refine zs1 ?_ | refine zs2 ?_ | refine zs3 ?_ | refine zs4 ?_ | refine zs5 ?_ | refine zs6 [] ?_); conv => whnf))
            refine VIte.dec (fun h3 => ?_) (fun h3 => by omega)
            conv => whnf
            repeat' (first | ((first | refine zs1 ?_ | refine zs2 ?_ | refine zs3 ?_ | refine zs4 ?_ | refine zs5 ?_); conv => whnf) | ((first | apply zi1 | apply zi2 | apply zi3 | apply zi4 | apply zi5) <;> intro _ <;> conv => whnf) | (refine VCall.intro (cm _) ?_; conv => whnf) | (refine VCall.intro (cb _) ?_; conv => whnf) | (refine VCall.intro (cg _) ?_; conv => whnf))
            · refine VDraw.go [] (by kernel_rfl) (by kernel_rfl) ?_
              conv => whnf
              repeat' (first | ((first | refine zs1 ?_ | refine zs2 ?_ | refine zs3 ?_ | refine zs4 ?_ | refine zs5 ?_); conv => whnf) | ((first | apply zi1 | apply zi2 | apply zi3 | apply zi4 | apply zi5) <;> intro _ <;> conv => whnf) | (refine VAny.ix encI_len k rfl rfl hAa ?_; conv => whnf) | (refine VAny.ix encT_len j rfl rfl hAs ?_; conv => whnf))
              all_goals first | (exfalso; omega) | skip
              refine LEnd.intro (k + 1, some R) ⟨by omega, rfl, ho, fun _ => ⟨by rw [n1]; omega, by rw [f3, n2, f2]; omega⟩⟩ (by dsimp only; omega) ?_
              conv => whnf
              refine Retell.turn ⟨[0,1,2], 4, [], []⟩ (TurnOk.mk' _ _ [] [] (OutOk.lift _) rfl (by decide) zb trivial trivial rfl) zv zm
            · exfalso; rename_i h7; exact h7 (by dsimp only; omega)
        · have hkk : k = (ordL l).length := by omega
          have ho := xK_ok o k
          rw [show (ordL l).length - k = 0 by omega, mxGo] at hRk
          rw [hkk, ← e3, ← hkk] at cb
          rw [if_neg (by omega)] at cb
          rw [← hRk] at cm cb ho
          conv => whnf
          repeat (first | ((first | refine zs1 ?_ | refine zs2 ?_ | refine zs3 ?_ | refine zs4 ?_ | refine zs5 ?_ | refine zs6 [] ?_); conv => whnf))
          refine VIte.dec (fun h3 => ?_) (fun h3 => by omega)
          conv => whnf
          repeat' (first | ((first | refine zs1 ?_ | refine zs2 ?_ | refine zs3 ?_ | refine zs4 ?_ | refine zs5 ?_); conv => whnf) | ((first | apply zi1 | apply zi2 | apply zi3 | apply zi4 | apply zi5) <;> intro _ <;> conv => whnf) | (refine VCall.intro (cm _) ?_; conv => whnf) | (refine VCall.intro (cb _) ?_; conv => whnf))
          · exfalso; rename_i h7; dsimp only at h7; omega
          · refine LEnd.intro (k + 1, some R) ⟨by omega, rfl, ho, fun hh => absurd hh (by omega)⟩ (by dsimp only; omega) ?_
            conv => whnf
            refine Retell.turn ⟨[0,1,2], 4, [], []⟩ (TurnOk.mk' _ _ [] [] (OutOk.lift _) rfl (by decide) zb trivial trivial rfl) zv zm
      | some B =>
        obtain ⟨hk, rfl, oR, hI⟩ := hI
        rcases Nat.lt_or_ge (ordL l).length k with hkl | hkl
        · conv => whnf
          repeat (first | ((first | refine zs1 ?_ | refine zs2 ?_ | refine zs3 ?_ | refine zs4 ?_ | refine zs5 ?_ | refine zs6 [] ?_); conv => whnf))
          refine VIte.dec (fun h3 => by exfalso; dsimp only at h3; omega) (fun h3 => ?_)
          conv => whnf
          repeat' (first | ((first | refine zs1 ?_ | refine zs2 ?_ | refine zs3 ?_ | refine zs4 ?_ | refine zs5 ?_ | refine zs6 [] ?_); conv => whnf) | ((first | apply zi1 | apply zi2 | apply zi3 | apply zi4 | apply zi5) <;> intro _ <;> conv => whnf))
          exact VOut.same rfl
        · obtain ⟨hI1, hI2⟩ := hI hkl
          have cm := fun h => vc_made0 l k h o hkl
          have cb := fun h => vc_betterA l B (xK l k) G h o oR (xK_ok o k) (by omega)
          have cg := fun h => vc_rgains l (xK l k) h o (xK_ok o k)
          have f1 : gnN l (xK l k) = nK l k := rfl
          have f2 : gnS l (xK l k) = sK l k := rfl
          have f3 : (xK l k).w = 1 := rfl
          rw [f1, f2, f3, if_neg (by omega), if_neg (by rw [Int.mul_comm] at hI2; omega)] at cb
          rw [f1, f2] at cg
          have hbd := nK_bd o k
          rcases Nat.lt_or_ge k (ordL l).length with hkl | hkl
          · obtain ⟨j, A'⟩ := at_k hkl
            have hsok := o.ss _ (List.mem_of_getElem? A'.st)
            have q1 := hsok.no
            have q2 := hsok.so
            obtain ⟨n1, n2⟩ := nK_succ hkl
            have hAs := A'.st
            have hAa := A'.at_
            have hw := oR.w
            have hmono : B.w * sK l (k + 1) ≤ B.w * sK l k := Int.mul_le_mul_of_nonneg_left (by omega) (by omega)
            generalize oS l k = st at hAs q1 q2 n1 n2
            generalize nK l k = N at *
            conv => whnf
            repeat (first | ((first | refine zs1 ?_ | refine zs2 ?_ | refine zs3 ?_ | refine zs4 ?_ | refine zs5 ?_ | refine zs6 [] ?_); conv => whnf))
            refine VIte.dec (fun h3 => ?_) (fun h3 => by omega)
            conv => whnf
            repeat' (first | ((first | refine zs1 ?_ | refine zs2 ?_ | refine zs3 ?_ | refine zs4 ?_ | refine zs5 ?_); conv => whnf) | ((first | apply zi1 | apply zi2 | apply zi3 | apply zi4 | apply zi5) <;> intro _ <;> conv => whnf) | (refine VCall.intro (cm _) ?_; conv => whnf) | (refine VCall.intro (cb _) ?_; conv => whnf) | (refine VCall.intro (cg _) ?_; conv => whnf))
            · refine VDraw.go [] (by kernel_rfl) (by kernel_rfl) ?_
              conv => whnf
              repeat' (first | ((first | refine zs1 ?_ | refine zs2 ?_ | refine zs3 ?_ | refine zs4 ?_ | refine zs5 ?_); conv => whnf) | ((first | apply zi1 | apply zi2 | apply zi3 | apply zi4 | apply zi5) <;> intro _ <;> conv => whnf) | (refine VAny.ix encI_len k rfl rfl hAa ?_; conv => whnf) | (refine VAny.ix encT_len j rfl rfl hAs ?_; conv => whnf))
              all_goals first | (exfalso; omega) | skip
              refine LEnd.intro (k + 1, some B) ⟨by omega, rfl, oR, fun _ => ⟨by rw [n1]; omega, by omega⟩⟩ (by dsimp only; omega) ?_
              conv => whnf
              refine Retell.turn ⟨[0,1,2], 4, [], []⟩ (TurnOk.mk' _ _ [] [] (OutOk.lift _) rfl (by decide) zb trivial trivial rfl) zv zm
            · exfalso; rename_i h7; exact h7 (by dsimp only; omega)
          · conv => whnf
            repeat (first | ((first | refine zs1 ?_ | refine zs2 ?_ | refine zs3 ?_ | refine zs4 ?_ | refine zs5 ?_ | refine zs6 [] ?_); conv => whnf))
            refine VIte.dec (fun h3 => ?_) (fun h3 => by omega)
            conv => whnf
            repeat' (first | ((first | refine zs1 ?_ | refine zs2 ?_ | refine zs3 ?_ | refine zs4 ?_ | refine zs5 ?_); conv => whnf) | ((first | apply zi1 | apply zi2 | apply zi3 | apply zi4 | apply zi5) <;> intro _ <;> conv => whnf) | (refine VCall.intro (cm _) ?_; conv => whnf) | (refine VCall.intro (cb _) ?_; conv => whnf))
            · exfalso; rename_i h7; dsimp only at h7; omega
            · refine LEnd.intro (k + 1, some B) ⟨by omega, rfl, oR, fun hh => absurd hh (by omega)⟩ (by dsimp only; omega) ?_
              conv => whnf
              refine Retell.turn ⟨[0,1,2], 4, [], []⟩ (TurnOk.mk' _ _ [] [] (OutOk.lift _) rfl (by decide) zb trivial trivial rfl) zv zm
end Go.Proofs.Ytmpjpjfkbmlmfaa

open Go.Vm
namespace Go.Proofs.Ytmpjpjfkbmlmfaa
set_option maxRecDepth 20000
set_option maxHeartbeats 4000000

theorem vc_Best_no (l : Lnd) (x : Exc) (h : Hp) (hn : l.ss.length ≤ 4000000) (hv : l.vs.length ≤ 4000000) (hp : x.ps.length ≤ 4000000) (h0 : askE l x ≠ 0) : VC Try.prog 29 [vL l, vX x] h (.tuple [B false, I (askE l x)]) h := by
  refine VC.body Try.func29 rfl Try.ntmps29 Try.call29 (h.grows_refl) rfl ?_; conv => whnf
  repeat' (first | ((first | refine zs1 ?_ | refine zs2 ?_ | refine zs3 ?_ | refine zs4 ?_ | refine zs5 ?_ | refine zs6 [] ?_); conv => whnf) | ((first | apply zi1 | apply zi2 | apply zi3 | apply zi4 | apply zi5) <;> intro _ <;> conv => whnf) | (refine VCall.intro (vc_asked_no l x _ hn hv hp h0) ?_; conv => whnf))
  all_goals first | exact VOut.same rfl | omega
theorem vc_Waste_no (l : Lnd) (x : Exc) (h : Hp) (hn : l.ss.length ≤ 4000000) (hv : l.vs.length ≤ 4000000) (hp : x.ps.length ≤ 4000000) (h0 : askE l x ≠ 0) : VC Try.prog 32 [vL l, vX x] h (.tuple [I 0, I 0, I (askE l x)]) h := by
  refine VC.body Try.func32 rfl Try.ntmps32 Try.call32 (h.grows_refl) rfl ?_; conv => whnf
  repeat' (first | ((first | refine zs1 ?_ | refine zs2 ?_ | refine zs3 ?_ | refine zs4 ?_ | refine zs5 ?_ | refine zs6 [] ?_); conv => whnf) | ((first | apply zi1 | apply zi2 | apply zi3 | apply zi4 | apply zi5) <;> intro _ <;> conv => whnf) | (refine VCall.intro (vc_asked_no l x _ hn hv hp h0) ?_; conv => whnf))
  all_goals first | exact VOut.same rfl | omega
theorem vc_Best_ok (l : Lnd) (x : Exc) (h : Hp) (o : Ok l) (ox : XOk l x) : VC Try.prog 29 [vL l, vX x] h (.tuple [B (alB l x && (wst l x).isNone), I 0]) h := by
  have cw := fun h => vc_waste l x h o ox
  have ca := fun h => vc_allowed l x h o ox
  cases hA : alB l x <;> cases hW : wst l x <;> rw [hA] at ca <;> rw [hW] at cw
  all_goals (
    refine VC.body Try.func29 rfl Try.ntmps29 Try.call29 (h.grows_refl) rfl ?_; conv => whnf
    repeat' (first | ((first | refine zs1 ?_ | refine zs2 ?_ | refine zs3 ?_ | refine zs4 ?_ | refine zs5 ?_ | refine zs6 [] ?_); conv => whnf) | ((first | apply zi1 | apply zi2 | apply zi3 | apply zi4 | apply zi5) <;> intro _ <;> conv => whnf) | (refine VCall.intro (vc_asked_ok l x _ o ox) ?_; conv => whnf) | (refine VCall.intro (ca _) ?_; conv => whnf) | (refine VCall.intro (cw _) ?_; conv => whnf))
    exact VOut.same rfl)
def wsV (l : Lnd) (x : Exc) : V := bif alB l x then (match wst l x with
  | some (i, k) => .tuple [I i, I k, I 0]
  | none => .tuple [I 0, I 0, I 7]) else .tuple [I 0, I 0, I 9]
theorem vc_Waste_ok (l : Lnd) (x : Exc) (h : Hp) (o : Ok l) (ox : XOk l x) : VC Try.prog 32 [vL l, vX x] h (wsV l x) h := by
  have cw := fun h => vc_waste l x h o ox
  have ca := fun h => vc_allowed l x h o ox
  unfold wsV
  cases hA : alB l x <;> cases hW : wst l x <;> rw [hA] at ca <;> rw [hW] at cw
  all_goals (
    refine VC.body Try.func32 rfl Try.ntmps32 Try.call32 (h.grows_refl) rfl ?_; conv => whnf
    repeat' (first | ((first | refine zs1 ?_ | refine zs2 ?_ | refine zs3 ?_ | refine zs4 ?_ | refine zs5 ?_ | refine zs6 [] ?_); conv => whnf) | ((first | apply zi1 | apply zi2 | apply zi3 | apply zi4 | apply zi5) <;> intro _ <;> conv => whnf) | (refine VCall.intro (vc_asked_ok l x _ o ox) ?_; conv => whnf) | (refine VCall.intro (ca _) ?_; conv => whnf) | (refine VCall.intro (cw _) ?_; conv => whnf))
    exact VOut.same rfl)
/-! The reference -/
theorem vc_rBest_no (l : Lnd) (x : Exc) (h : Hp) (hn : l.ss.length ≤ 4000000) (hv : l.vs.length ≤ 4000000) (hp : x.ps.length ≤ 4000000) (h0 : askE l x ≠ 0) : VC Try.prog 80 [vL l, vX x] h (.tuple [B false, I (askE l x)]) h := by
  refine VC.body Try.func80 rfl Try.ntmps80 Try.call80 (h.grows_refl) rfl ?_; conv => whnf
  repeat' (first | ((first | refine zs1 ?_ | refine zs2 ?_ | refine zs3 ?_ | refine zs4 ?_ | refine zs5 ?_ | refine zs6 [] ?_); conv => whnf) | ((first | apply zi1 | apply zi2 | apply zi3 | apply zi4 | apply zi5) <;> intro _ <;> conv => whnf) | (refine VCall.intro (vc_rAsked l x _ hn hv hp) ?_; conv => whnf))
  all_goals first | exact VOut.same rfl | omega
theorem vc_rWaste_no (l : Lnd) (x : Exc) (h : Hp) (hn : l.ss.length ≤ 4000000) (hv : l.vs.length ≤ 4000000) (hp : x.ps.length ≤ 4000000) (h0 : askE l x ≠ 0) : VC Try.prog 81 [vL l, vX x] h (.tuple [I 0, I 0, I (askE l x)]) h := by
  refine VC.body Try.func81 rfl Try.ntmps81 Try.call81 (h.grows_refl) rfl ?_; conv => whnf
  repeat' (first | ((first | refine zs1 ?_ | refine zs2 ?_ | refine zs3 ?_ | refine zs4 ?_ | refine zs5 ?_ | refine zs6 [] ?_); conv => whnf) | ((first | apply zi1 | apply zi2 | apply zi3 | apply zi4 | apply zi5) <;> intro _ <;> conv => whnf) | (refine VCall.intro (vc_rAsked l x _ hn hv hp) ?_; conv => whnf))
  all_goals first | exact VOut.same rfl | omega
def wstT (w : Option (Nat × Nat)) : V := match w with
  | some (i, k) => .tuple [I i, I k]
  | none => .tuple [I (-1), I (-1)]
theorem vc_rBest_okA (cw : ∀ (l : Lnd) (x : Exc) (h : Hp) (o : Ok l) (ox : XOk l x), VC Try.prog 91 [vL l, vX x] h (wstT (wst l x)) h) (l : Lnd) (x : Exc) (h : Hp) (o : Ok l) (ox : XOk l x) : VC Try.prog 80 [vL l, vX x] h (.tuple [B (alB l x && (wst l x).isNone), I 0]) h := by
  have cw := fun h => cw l x h o ox
  have ca := fun h => vc_barred l x h o ox
  rcases hW : wst l x with _ | ⟨i, k⟩ <;> cases hA : alB l x <;> rw [hA] at ca <;> rw [hW] at cw
  all_goals (
    unfold wstT at cw
    dsimp only at cw
    refine VC.body Try.func80 rfl Try.ntmps80 Try.call80 (h.grows_refl) rfl ?_; conv => whnf
    repeat' (first | ((first | refine zs1 ?_ | refine zs2 ?_ | refine zs3 ?_ | refine zs4 ?_ | refine zs5 ?_ | refine zs6 [] ?_); conv => whnf) | ((first | apply zi1 | apply zi2 | apply zi3 | apply zi4 | apply zi5) <;> intro _ <;> conv => whnf) | (refine VCall.intro (vc_rAsked_ok l x _ o ox) ?_; conv => whnf) | (refine VCall.intro (ca _) ?_; conv => whnf) | (refine VCall.intro (cw _) ?_; conv => whnf))
    all_goals first | exact VOut.same rfl | (exfalso; omega) | (refine VOut.dec ?_; first | (simp only [decide_eq_true_eq]; omega) | (simp; omega) | (simp; done)))
end Go.Proofs.Ytmpjpjfkbmlmfaa

open Go.Vm
namespace Go.Proofs.Ytmpjpjfkbmlmfaa
set_option maxRecDepth 20000
set_option maxHeartbeats 4000000

def wsI (q : Nat → Nat → Bool) (n i : Nat) : Option Nat → Option (Nat × Nat)
  | some k => some (i, k)
  | none => wsO q n (i + 1) (n - (i + 1))
theorem wsO_in {q : Nat → Nat → Bool} {n i : Nat} (h : i < n) : wsO q n i (n - i) = wsI q n i (wsR (q i) 0 (n - 0)) := by
  rw [show n - i = (n - (i + 1)) + 1 by omega, wsO, Nat.sub_zero]
  cases wsR (q i) 0 n <;> rfl
theorem wsI_in {q : Nat → Nat → Bool} {n i k : Nat} (h : k < n) : wsI q n i (wsR (q i) k (n - k)) = if q i k then some (i, k) else wsI q n i (wsR (q i) (k + 1) (n - (k + 1))) := by
  rw [show n - k = (n - (k + 1)) + 1 by omega, wsR]
  cases q i k <;> rfl
theorem vc_rwaste (l : Lnd) (x : Exc) (h : Hp) (o : Ok l) (ox : XOk l x) : VC Try.prog 91 [vL l, vX x] h (wstT (wst l x)) h := by
  obtain ⟨R, hR⟩ : ∃ R, R = wst l x := ⟨_, rfl⟩
  rw [← hR]
  unfold wst at hR
  have hn := o.n
  have hl := ox.len
  have hw := ox.w
  refine VC.body Try.func91 rfl Try.ntmps91 Try.call91 (h.grows_refl) rfl ?_; conv => whnf
  repeat (first | ((first | refine zs1 ?_ | refine zs2 ?_ | refine zs3 ?_ | refine zs4 ?_ | refine zs5 ?_ | refine zs6 [] ?_); conv => whnf))
  refine VCode.lp (fun i : Nat => [(2, .ptr (.loc 0) 0), (3, .ptr (.loc 1) 0), (4, I 0), (5, I 0), (6, I i)]) (fun _ => [.flat true (encN l), .flat true (encX x)]) (fun i => i ≤ l.ss.length ∧ R = wsO (wsB l x) l.ss.length i (l.ss.length - i)) (fun i => l.ss.length - i) 0 ⟨Nat.zero_le _, hR⟩ ?_ ?_
  · conv => whnf
    refine Retell.turn ⟨[0,1], 2, [], []⟩ (TurnOk.mk' _ _ [] [] (OutOk.lift _) rfl (by decide) zb trivial trivial rfl) zv zm
  · rintro i ⟨hi, hRi⟩
    conv => whnf
    repeat (first | ((first | refine zs1 ?_ | refine zs2 ?_ | refine zs3 ?_ | refine zs4 ?_ | refine zs5 ?_ | refine zs6 [] ?_); conv => whnf))
    refine VIte.dec (fun h3 => ?_) (fun h3 => ?_)
    · have hil : i < l.ss.length := by omega
      rw [wsO_in hil] at hRi
      have hs : l.ss[i]? = some l.ss[i] := List.getElem?_eq_getElem (by omega)
      have hp : x.ps[i]? = some x.ps[i] := List.getElem?_eq_getElem (by omega)
      have q1 := o.ss _ (List.getElem_mem hil)
      have b1 := ox.ps _ (List.getElem_mem (by omega : i < x.ps.length))
      have es := sAt_eq hs
      have ep := pAt_eq hp
      generalize l.ss[i] = s at hs q1 es
      generalize x.ps[i] = p at hp b1 ep
      conv => whnf
      repeat (first | ((first | refine zs1 ?_ | refine zs2 ?_ | refine zs3 ?_ | refine zs4 ?_ | refine zs5 ?_ | refine zs6 [] ?_); conv => whnf))
      refine VCode.lp (fun k : Nat => [(2, .ptr (.loc 0) 0), (3, .ptr (.loc 1) 0), (4, I 0), (5, I 0), (6, I i), (7, I k)]) (fun _ => [.flat true (encN l), .flat true (encX x)]) (fun k => k ≤ l.ss.length ∧ R = wsI (wsB l x) l.ss.length i (wsR (wsB l x i) k (l.ss.length - k))) (fun k => l.ss.length - k) 0 ⟨Nat.zero_le _, hRi⟩ ?_ ?_
      · conv => whnf
        refine Retell.turn ⟨[0,1], 2, [], []⟩ (TurnOk.mk' _ _ [] [] (OutOk.lift _) rfl (by decide) zb trivial trivial rfl) zv zm
      · rintro k ⟨hk, hRk⟩
        conv => whnf
        repeat (first | ((first | refine zs1 ?_ | refine zs2 ?_ | refine zs3 ?_ | refine zs4 ?_ | refine zs5 ?_ | refine zs6 [] ?_); conv => whnf))
        refine VIte.dec (fun h4 => ?_) (fun h4 => ?_)
        · have hkl : k < l.ss.length := by omega
          have ht : l.ss[k]? = some l.ss[k] := List.getElem?_eq_getElem (by omega)
          have hr : x.ps[k]? = some x.ps[k] := List.getElem?_eq_getElem (by omega)
          have q2 := o.ss _ (List.getElem_mem hkl)
          have b2 := ox.ps _ (List.getElem_mem (by omega : k < x.ps.length))
          rw [wsI_in hkl] at hRk
          unfold wsB at hRk
          have et := sAt_eq ht
          have er := pAt_eq hr
          have hq : (isFree (sAt l i) && (isFree (sAt l k) && (decide (pAt x i < x.w ∧ 0 < pAt x k) && fst2 (sAt l i) (sAt l k)))) = (decide (s.we = -1 ∧ l.ss[k].we = -1 ∧ p ≠ x.w ∧ x.ps[k] ≠ 0) && fst2 s l.ss[k]) := by
            rw [es, et, ep, er]
            unfold isFree
            rw [← Bool.and_assoc, ← Bool.and_assoc, ← Bool.decide_and, ← Bool.decide_and]
            congr 1
            rw [decide_eq_decide]
            omega
          rw [hq] at hRk
          have cf := fun h => vc_first s l.ss[k] h q1.no q1.so q2.no q2.so
          generalize l.ss[k] = t at ht q2 et hRk cf
          generalize x.ps[k] = r at hr b2 er hRk
          generalize fst2 s t = F at hRk cf
          clear es ep et er
          have fin : (¬ (s.we = -1 ∧ t.we = -1 ∧ p ≠ x.w ∧ r ≠ 0) ∨ F = false) → R = wsI (wsB l x) l.ss.length i (wsR (wsB l x i) (k + 1) (l.ss.length - (k + 1))) := by
            rintro (hh | hh)
            · rw [decide_eq_false hh] at hRk; exact hRk
            · rw [hh, Bool.and_false] at hRk; exact hRk
          have fin2 : (s.we = -1 ∧ t.we = -1 ∧ p ≠ x.w ∧ r ≠ 0) → F = true → R = some (i, k) := by
            intro hh hF
            rw [decide_eq_true hh, hF] at hRk; exact hRk
          conv => whnf
          refine VDraw.go [] (by kernel_rfl) (by kernel_rfl) ?_
          conv => whnf
          cases F
          all_goals (
            repeat' (first | ((first | refine zs1 ?_ | refine zs2 ?_ | refine zs3 ?_ | refine zs4 ?_ | refine zs5 ?_); conv => whnf) | ((first | apply zi1 | apply zi2 | apply zi3 | apply zi4 | apply zi5) <;> intro _ <;> conv => whnf) | (refine VAny.ix encT_len i rfl rfl hs ?_; conv => whnf) | (refine VAny.ix encT_len k rfl rfl ht ?_; conv => whnf) | (refine VAny.ix encI_len i rfl rfl hp ?_; conv => whnf) | (refine VAny.ix encI_len k rfl rfl hr ?_; conv => whnf) | (refine VCall.intro (cf _) ?_; conv => whnf)))
          all_goals first
            | (refine LEnd.intro (k + 1) ⟨by omega, fin (by first | exact .inr rfl | (left; omega))⟩ (by omega) ?_
               conv => whnf
               refine Retell.turn ⟨[0,1], 2, [], []⟩ (TurnOk.mk' _ _ [] [] (OutOk.lift _) rfl (by decide) zb trivial trivial rfl) zv zm)
            | (rw [fin2 (by omega) rfl]
               exact VOut.same rfl)
        · have hkk : k = l.ss.length := by omega
          rw [hkk, Nat.sub_self] at hRk
          conv => whnf
          repeat' (first | ((first | refine zs1 ?_ | refine zs2 ?_ | refine zs3 ?_ | refine zs4 ?_ | refine zs5 ?_ | refine zs6 [] ?_); conv => whnf) | ((first | apply zi1 | apply zi2 | apply zi3 | apply zi4 | apply zi5) <;> intro _ <;> conv => whnf))
          refine LEnd.intro (i + 1) ⟨by omega, hRk⟩ (by omega) ?_
          conv => whnf
          refine Retell.turn ⟨[0,1], 2, [], []⟩ (TurnOk.mk' _ _ [] [] (OutOk.lift _) rfl (by decide) zb trivial trivial rfl) zv zm
    · have hii : i = l.ss.length := by omega
      rw [hii, Nat.sub_self] at hRi
      rw [hRi]
      conv => whnf
      repeat' (first | ((first | refine zs1 ?_ | refine zs2 ?_ | refine zs3 ?_ | refine zs4 ?_ | refine zs5 ?_ | refine zs6 [] ?_); conv => whnf) | ((first | apply zi1 | apply zi2 | apply zi3 | apply zi4 | apply zi5) <;> intro _ <;> conv => whnf))
      exact VOut.same rfl
theorem vc_rBest_ok (l : Lnd) (x : Exc) (h : Hp) (o : Ok l) (ox : XOk l x) : VC Try.prog 80 [vL l, vX x] h (.tuple [B (alB l x && (wst l x).isNone), I 0]) h := vc_rBest_okA vc_rwaste l x h o ox
theorem vc_rWaste_ok (l : Lnd) (x : Exc) (h : Hp) (o : Ok l) (ox : XOk l x) : VC Try.prog 81 [vL l, vX x] h (wsV l x) h := by
  have cw := fun h => vc_rwaste l x h o ox
  have ca := fun h => vc_barred l x h o ox
  unfold wsV
  rcases hW : wst l x with _ | ⟨i, k⟩ <;> cases hA : alB l x <;> rw [hA] at ca <;> rw [hW] at cw
  all_goals (
    unfold wstT at cw
    dsimp only at cw
    refine VC.body Try.func81 rfl Try.ntmps81 Try.call81 (h.grows_refl) rfl ?_; conv => whnf
    repeat' (first | ((first | refine zs1 ?_ | refine zs2 ?_ | refine zs3 ?_ | refine zs4 ?_ | refine zs5 ?_ | refine zs6 [] ?_); conv => whnf) | ((first | apply zi1 | apply zi2 | apply zi3 | apply zi4 | apply zi5) <;> intro _ <;> conv => whnf) | (refine VCall.intro (vc_rAsked_ok l x _ o ox) ?_; conv => whnf) | (refine VCall.intro (ca _) ?_; conv => whnf) | (refine VCall.intro (cw _) ?_; conv => whnf))
    all_goals first | exact VOut.same rfl | (exfalso; omega))
end Go.Proofs.Ytmpjpjfkbmlmfaa

open Go.Vm
namespace Go.Proofs.Ytmpjpjfkbmlmfaa
set_option maxRecDepth 20000
set_option maxHeartbeats 4000000

theorem vc_rHolds_go (l : Lnd) (x : Exc) (a b : Int) (h : Hp) (o : Ok l) (ox : XOk l x) (ha : 1 ≤ a ∧ a ≤ 2000) (hb : 1 ≤ b ∧ b ≤ 2000) (hal : alB l x = true) : VC Try.prog 82 [vL l, vX x, I a, I b] h (.tuple [B (hlGo x.w a b l.ss x.ps), I 0]) h := by
  obtain ⟨R, hR⟩ : ∃ R, R = hlGo x.w a b l.ss x.ps := ⟨_, rfl⟩
  rw [← hR]
  have hn := o.n
  have hl := ox.len
  have hw := ox.w
  have ca := fun h => vc_barred l x h o ox
  rw [hal] at ca
  refine VC.body Try.func82 rfl Try.ntmps82 Try.call82 (h.grows_refl) rfl ?_; conv => whnf
  repeat' (first | ((first | refine zs1 ?_ | refine zs2 ?_ | refine zs3 ?_ | refine zs4 ?_ | refine zs5 ?_ | refine zs6 [] ?_); conv => whnf) | ((first | apply zi1 | apply zi2 | apply zi3 | apply zi4 | apply zi5) <;> intro _ <;> conv => whnf) | (refine VCall.intro (vc_rAsked_ok l x _ o ox) ?_; conv => whnf) | (refine VCall.intro (vc_beside _ _ _ _) ?_; conv => whnf) | (refine VCall.intro (ca _) ?_; conv => whnf))
  all_goals try (exfalso; omega)
  refine VCode.lp (fun k : Nat => [(2, I a), (3, I b), (4, .ptr (.loc 0) 0), (5, .ptr (.loc 1) 0), (8, B false), (9, I 0), (11, I k)]) (fun _ => [.flat true (encN l), .flat true (encX x)]) (fun k => k ≤ l.ss.length ∧ R = hlGo x.w a b (l.ss.drop k) (x.ps.drop k)) (fun k => l.ss.length - k) 0 ⟨Nat.zero_le _, hR⟩ ?_ ?_
  · conv => whnf
    refine Retell.turn ⟨[0,1], 2, [], []⟩ (TurnOk.mk' _ _ [] [] (OutOk.lift _) rfl (by decide) zb trivial trivial rfl) zv zm
  · rintro k ⟨hk, hRk⟩
    conv => whnf
    repeat (first | ((first | refine zs1 ?_ | refine zs2 ?_ | refine zs3 ?_ | refine zs4 ?_ | refine zs5 ?_ | refine zs6 [] ?_); conv => whnf))
    refine VIte.dec (fun h3 => ?_) (fun h3 => ?_)
    · have hkl : k < l.ss.length := by omega
      have hs : l.ss[k]? = some l.ss[k] := List.getElem?_eq_getElem (by omega)
      have hp : x.ps[k]? = some x.ps[k] := List.getElem?_eq_getElem (by omega)
      have q1 := o.ss _ (List.getElem_mem hkl)
      have q2 := ox.ps _ (List.getElem_mem (by omega : k < x.ps.length))
      rw [hlGo_at hs hp] at hRk
      unfold bdP isFree at hRk
      generalize l.ss[k] = s at hs hRk q1
      generalize x.ps[k] = p at hp hRk q2
      have q3 := q1.no
      have q4 := q1.so
      have m1 := mul_le (a := s.no) (b := a) (A := 1000) (B := 2000) (by omega) (by omega)
      have m2 := mul_le (a := s.so) (b := b) (A := 1000) (B := 2000) (by omega) (by omega)
      generalize hM : s.no * a = M at hRk m1
      generalize hN : s.so * b = N at hRk m2
      have f1 : (¬ (s.we = -1 ∧ ((N < M ∧ p ≠ x.w) ∨ (M < N ∧ p ≠ 0)))) → R = hlGo x.w a b (l.ss.drop (k + 1)) (x.ps.drop (k + 1)) := by
        intro hh
        rw [← Bool.decide_and, decide_eq_false (by omega)] at hRk; exact hRk
      have f2 : (s.we = -1 ∧ ((N < M ∧ p ≠ x.w) ∨ (M < N ∧ p ≠ 0))) → R = false := by
        intro hh
        rw [← Bool.decide_and, decide_eq_true (by omega)] at hRk; exact hRk
      clear hRk
      conv => whnf
      repeat' (first | ((first | refine zs1 ?_ | refine zs2 ?_ | refine zs3 ?_ | refine zs4 ?_ | refine zs5 ?_); conv => whnf) | ((first | apply zi1 | apply zi2 | apply zi3 | apply zi4 | apply zi5) <;> intro _ <;> conv => whnf) | (refine VAny.ix encT_len k rfl rfl hs ?_; conv => whnf))
      · refine LEnd.intro (k + 1) ⟨by omega, f1 (by omega)⟩ (by omega) ?_
        conv => whnf
        refine Retell.turn ⟨[0,1], 3, [], []⟩ (TurnOk.mk' _ _ [] [] (OutOk.lift _) rfl (by decide) zb trivial trivial rfl) zv zm
      · refine VDraw.go [] (by kernel_rfl) (by kernel_rfl) ?_
        conv => whnf
        repeat' (first | ((first | refine zs1 ?_ | refine zs2 ?_ | refine zs3 ?_ | refine zs4 ?_ | refine zs5 ?_); conv => whnf) | ((first | apply zi1 | apply zi2 | apply zi3 | apply zi4 | apply zi5) <;> intro _ <;> conv => whnf) | (refine VAny.ix encI_len k rfl rfl hp ?_; conv => whnf))
        all_goals (try rw [hM] at *) <;> (try rw [hN] at *)
        all_goals first
          | (refine LEnd.intro (k + 1) ⟨by omega, f1 (by omega)⟩ (by omega) ?_
             conv => whnf
             refine Retell.turn ⟨[0,1], 3, [], []⟩ (TurnOk.mk' _ _ [] [] (OutOk.lift _) rfl (by decide) zb trivial trivial rfl) zv zm)
          | (rw [f2 (by omega)]
             exact VOut.same rfl)
          | (exfalso; omega)
    · rw [show k = l.ss.length by omega, hlGo_end] at hRk
      rw [hRk]
      conv => whnf
      repeat' (first | ((first | refine zs1 ?_ | refine zs2 ?_ | refine zs3 ?_ | refine zs4 ?_ | refine zs5 ?_ | refine zs6 [] ?_); conv => whnf) | ((first | apply zi1 | apply zi2 | apply zi3 | apply zi4 | apply zi5) <;> intro _ <;> conv => whnf))
      exact VOut.same rfl
theorem vc_rHolds (l : Lnd) (x : Exc) (a b : Int) (h : Hp) (hn : l.ss.length ≤ 4000000) (hv : l.vs.length ≤ 4000000) (hp : x.ps.length ≤ 4000000) : VC Try.prog 82 [vL l, vX x, I a, I b] h (.tuple [B (hlB l x a b), I (hlE l x a b)]) h := by
  by_cases h0 : askE l x = 0
  · obtain ⟨o, ox⟩ := ask_ok.1 h0
    by_cases hab : (1 ≤ a ∧ a ≤ 2000) ∧ (1 ≤ b ∧ b ≤ 2000)
    · have e : hlE l x a b = 0 := hlE_ok.2 ⟨h0, hab⟩
      rw [hlB_eq l x a b e, e]
      cases hal : alB l x
      · have ca := fun h => vc_barred l x h o ox
        rw [hal] at ca
        rw [Bool.false_and]
        refine VC.body Try.func82 rfl Try.ntmps82 Try.call82 (h.grows_refl) rfl ?_; conv => whnf
        repeat' (first | ((first | refine zs1 ?_ | refine zs2 ?_ | refine zs3 ?_ | refine zs4 ?_ | refine zs5 ?_ | refine zs6 [] ?_); conv => whnf) | ((first | apply zi1 | apply zi2 | apply zi3 | apply zi4 | apply zi5) <;> intro _ <;> conv => whnf) | (refine VCall.intro (vc_rAsked_ok l x _ o ox) ?_; conv => whnf) | (refine VCall.intro (vc_beside _ _ _ _) ?_; conv => whnf) | (refine VCall.intro (ca _) ?_; conv => whnf))
        all_goals first | exact VOut.same rfl | (exfalso; omega)
      · rw [Bool.true_and]
        exact vc_rHolds_go l x a b h o ox hab.1 hab.2 hal
    · have e : hlE l x a b = 4 := by unfold hlE; rw [if_neg (by omega), if_pos (by omega)]
      have e2 : hlB l x a b = false := by unfold hlB; rw [e]; rfl
      rw [e, e2]
      refine VC.body Try.func82 rfl Try.ntmps82 Try.call82 (h.grows_refl) rfl ?_; conv => whnf
      repeat' (first | ((first | refine zs1 ?_ | refine zs2 ?_ | refine zs3 ?_ | refine zs4 ?_ | refine zs5 ?_ | refine zs6 [] ?_); conv => whnf) | ((first | apply zi1 | apply zi2 | apply zi3 | apply zi4 | apply zi5) <;> intro _ <;> conv => whnf) | (refine VCall.intro (vc_rAsked_ok l x _ o ox) ?_; conv => whnf) | (refine VCall.intro (vc_beside _ _ _ _) ?_; conv => whnf))
      all_goals first | exact VOut.same rfl | (exfalso; omega)
  · have e : hlE l x a b = askE l x := by unfold hlE; rw [if_pos h0]
    have e2 : hlB l x a b = false := by unfold hlB; rw [e, decide_eq_false h0]; rfl
    rw [e, e2]
    refine VC.body Try.func82 rfl Try.ntmps82 Try.call82 (h.grows_refl) rfl ?_; conv => whnf
    repeat' (first | ((first | refine zs1 ?_ | refine zs2 ?_ | refine zs3 ?_ | refine zs4 ?_ | refine zs5 ?_ | refine zs6 [] ?_); conv => whnf) | ((first | apply zi1 | apply zi2 | apply zi3 | apply zi4 | apply zi5) <;> intro _ <;> conv => whnf) | (refine VCall.intro (vc_rAsked l x _ hn hv hp) ?_; conv => whnf))
    all_goals first | exact VOut.same rfl | (exfalso; omega)
end Go.Proofs.Ytmpjpjfkbmlmfaa

open Go.Vm
namespace Go.Proofs.Ytmpjpjfkbmlmfaa
set_option maxRecDepth 20000
set_option maxHeartbeats 4000000

def three : Lnd := ⟨[⟨0, 10, 30, -1⟩, ⟨1, 40, 20, -1⟩, ⟨1, 20, 20, -1⟩], []⟩
def threeW : Lnd := ⟨[⟨0, 10, 30, 0⟩, ⟨1, 40, 20, -1⟩, ⟨1, 20, 20, -1⟩], [0]⟩
theorem three_ok : Ok three := chk_ok.1 (by decide)
theorem threeW_ok : Ok threeW := chk_ok.1 (by decide)
theorem three_ord : ordL three = [1, 2, 0] := by decide
theorem three_al : alB three ⟨1, [1, 0, 0]⟩ = true := by decide
theorem three_wst : wst three ⟨1, [1, 0, 0]⟩ = some (1, 0) := by decide
theorem three_gn : gnN three ⟨1, [0, 1, 0]⟩ = 30 ∧ gnS three ⟨1, [0, 1, 0]⟩ = 10 := by decide
theorem three_hl : hlB three ⟨1, [0, 1, 0]⟩ 1 1 = true := by decide
theorem three_even : evX three = ⟨3, [0, 2, 0]⟩ := by decide
theorem three_m30 : mxX three 30 = ⟨1, [0, 1, 0]⟩ := by decide
theorem three_m40 : mxX three 40 = ⟨2, [0, 2, 1]⟩ := by decide
theorem three_all : allN three = 60 := by decide
theorem threeW_even : evX threeW = ⟨1, [1, 0, 0]⟩ := by decide
end Go.Proofs.Ytmpjpjfkbmlmfaa

open Go.Vm
namespace Go.Proofs.Ytmpjpjfkbmlmfaa
set_option maxRecDepth 20000
set_option maxHeartbeats 4000000

theorem vc_is (x : Exc) (w : Int) (ps : List Int) (h : Hp) (h1 : x.ps.length ≤ 4000000) (h2 : ps.length ≤ 4000000) : VC Try.prog 50 [vX x, I w, ints ps] h (B (decide (x.w = w) && decide (x.ps = ps))) h := by
  have ce := fun h => vc_equalI x.ps ps h h1 h2
  generalize decide (x.ps = ps) = E at ce ⊢
  refine VC.body Try.func50 rfl Try.ntmps50 Try.call50 (h.grows_refl) rfl ?_; conv => whnf
  repeat' (first | ((first | refine zs1 ?_ | refine zs2 ?_ | refine zs3 ?_ | refine zs4 ?_ | refine zs5 ?_ | refine zs6 [] ?_); conv => whnf) | ((first | apply zi1 | apply zi2 | apply zi3 | apply zi4 | apply zi5) <;> intro _ <;> conv => whnf) | (refine VCall.intro (ce _) ?_; conv => whnf))
  · rename_i h3
    rw [decide_eq_true h3, Bool.true_and]
    exact VOut.same rfl
  · rename_i h3
    rw [decide_eq_false h3, Bool.false_and]
    exact VOut.same rfl
theorem vc_Three (h : Hp) : VC Try.prog 48 [] h (.agg [strs three.ss, .nilslice]) h := by
  refine VC.body Try.func48 rfl Try.ntmps48 Try.call48 (h.grows_refl) rfl ?_; conv => whnf
  repeat' (first | ((first | refine zs1 ?_ | refine zs2 ?_ | refine zs3 ?_ | refine zs4 ?_ | refine zs5 ?_ | refine zs6 [] ?_); conv => whnf) | ((first | apply zi1 | apply zi2 | apply zi3 | apply zi4 | apply zi5) <;> intro _ <;> conv => whnf))
  refine VOut.data 2 [(1, three.ss.flatMap encT)] [] rfl zf (by exact FmAll.nil) zv
theorem VOut.ownL {h : Hp} {loc : List Blk} {esz n : Nat} {ds : List D} (j L : Nat) (hL : Nat.ble loc.length L = true) (hj : loc[j]? = some (.flat true ds)) : VOut h ⟨h.lift, loc⟩ (.agg [.gl (.loc j) esz n, .nilslice]) (.agg [.gl h.fresh esz n, .nilslice]) (h.push (.flat true ds)) := by
  refine VOut.upd [] [.flat true ds] [j] L hL (by intro p hp; cases hp) (by simp) rfl ?_ ?_ rfl
  · intro k b hk
    cases k with
    | zero => rw [List.getElem?_cons_zero, Option.some.injEq] at hk; subst hk; exact ⟨j, rfl, hj⟩
    | succ k => simp at hk
  · intro σ x hx
    have : (V.agg [.gl h.fresh esz n, .nilslice]).ren (backR h.loc.length [j] L) = .agg [.gl (.loc j) esz n, .nilslice] := by simp [V.ren, V.rens, backR, Hp.fresh]
    rw [this]; exact hx
theorem vc_ThreeO (h : Hp) : VC Try.prog 48 [] h (.agg [.gl h.fresh 4 3, .nilslice]) (h.push (.flat true (three.ss.flatMap encT))) := by
  refine VC.body Try.func48 rfl Try.ntmps48 Try.call48 (h.grows_push _) rfl ?_
  conv => whnf
  repeat' (first | ((first | refine zs1 ?_ | refine zs2 ?_ | refine zs3 ?_ | refine zs4 ?_ | refine zs5 ?_ | refine zs6 [] ?_); conv => whnf) | ((first | apply zi1 | apply zi2 | apply zi3 | apply zi4 | apply zi5) <;> intro _ <;> conv => whnf))
  exact VOut.ownL 1 2 rfl rfl
end Go.Proofs.Ytmpjpjfkbmlmfaa

open Go.Vm
namespace Go.Proofs.Ytmpjpjfkbmlmfaa
set_option maxRecDepth 20000
set_option maxHeartbeats 4000000

def d100 : List D := [DI 1, DI 0, DI 0]
def d120 : List D := [DI 1, DI 2, DI 0]
def d020 : List D := [DI 0, DI 2, DI 0]
def d0 : List D := [DI 0]
def d021 : List D := [DI 0, DI 2, DI 1]
def d010 : List D := [DI 0, DI 1, DI 0]
theorem vc_awake (h : Hp) : VC Try.prog 12 [] h (B true) h := by
  have c15 := fun h => vc_Order_ok three h three_ok
  rw [three_ord] at c15
  have c32 := fun h => vc_Waste_ok three ⟨1, [1, 0, 0]⟩ h three_ok ⟨by decide, by decide, by decide⟩
  have e32 : wsV three ⟨1, [1, 0, 0]⟩ = .tuple [I 1, I 0, I 0] := by unfold wsV; rw [three_al, three_wst]; rfl
  rw [e32] at c32
  have c26 := fun h => vc_Gains_ok three ⟨1, [0, 1, 0]⟩ h three_ok ⟨by decide, by decide, by decide⟩
  rw [three_gn.1, three_gn.2] at c26
  have c34 := fun h => vc_Holds three ⟨1, [0, 1, 0]⟩ 1 1 h (by decide) (by decide) (by decide)
  have e34 : hlE three ⟨1, [0, 1, 0]⟩ 1 1 = 0 := by decide
  rw [three_hl, e34] at c34
  have c21 := fun h => vc_Even_ok three h three_ok
  rw [three_even] at c21
  have c17 := fun h => eqI [1, 2, 0] h (by decide)
  have c50 := fun h => vc_is ⟨3, [0, 2, 0]⟩ 3 [0, 2, 0] h (by decide) (by decide)
  have c30 := fun h => vc_Most_ok three 30 h three_ok
  have c40 := fun h => vc_Most_ok three 40 h three_ok
  have c61 := fun h => vc_Most_ok three 61 h three_ok
  unfold mxV at c30 c40 c61
  rw [three_all, if_pos (by decide), three_m30] at c30
  rw [three_all, if_pos (by decide), three_m40] at c40
  rw [three_all, if_neg (by decide)] at c61
  have cW := fun h => vc_Even_ok threeW h threeW_ok
  rw [threeW_even] at cW
  have k1 := fun h => vc_is ⟨1, [0, 1, 0]⟩ 1 [0, 1, 0] h (by decide) (by decide)
  have k2 := fun h => vc_is ⟨2, [0, 2, 1]⟩ 2 [0, 2, 1] h (by decide) (by decide)
  have k3 := fun h => vc_is ⟨1, [1, 0, 0]⟩ 1 [1, 0, 0] h (by decide) (by decide)
  refine VC.body Try.func12 rfl Try.ntmps12 Try.call12 (h.grows_refl) rfl ?_; conv => whnf
  repeat' (first | ((first | refine zs1 ?_ | refine zs2 ?_ | refine zs3 ?_ | refine zs4 ?_ | refine zs5 ?_ | refine zs6 [] ?_); conv => whnf) | ((first | apply zi1 | apply zi2 | apply zi3 | apply zi4 | apply zi5) <;> intro _ <;> conv => whnf) | (refine VCall.intro (vc_Three _) ?_; conv => whnf) | (refine VCall.intro (VC.give (args' := [vL three]) (loc' := []) [] [] (OutOk.lift _) zb zf (by exact FmAll.nil) rfl zv (c15 _)) ?_; conv => whnf))
  refine VCall.intro (VC.give (args' := [vL three, vX ⟨1, [1, 0, 0]⟩]) (loc' := [.dead]) [(0, d100)] [] (OutOk.lift _) zb zf (by exact FmAll.nil) rfl zv (c32 _)) ?_
  conv => whnf
  repeat' (first | ((first | refine zs1 ?_ | refine zs2 ?_ | refine zs3 ?_ | refine zs4 ?_ | refine zs5 ?_ | refine zs6 [] ?_); conv => whnf) | ((first | apply zi1 | apply zi2 | apply zi3 | apply zi4 | apply zi5) <;> intro _ <;> conv => whnf) | (refine VCall.intro (vc_Three _) ?_; conv => whnf))
  refine VCall.intro (VC.give (args' := [vL three, vX ⟨1, [0, 1, 0]⟩]) (loc' := [.dead, .dead]) [(1, d010)] [] (OutOk.lift _) zb zf (by exact FmAll.nil) rfl zv (c26 _)) ?_
  conv => whnf
  repeat' (first | ((first | refine zs1 ?_ | refine zs2 ?_ | refine zs3 ?_ | refine zs4 ?_ | refine zs5 ?_ | refine zs6 [] ?_); conv => whnf) | ((first | apply zi1 | apply zi2 | apply zi3 | apply zi4 | apply zi5) <;> intro _ <;> conv => whnf) | (refine VCall.intro (vc_Three _) ?_; conv => whnf))
  refine VCall.intro (VC.give (args' := [vL three, vX ⟨1, [0, 1, 0]⟩, I 1, I 1]) (loc' := [.dead, .dead, .dead]) [(2, d010)] [] (OutOk.lift _) zb zf (by exact FmAll.nil) rfl zv (c34 _)) ?_
  conv => whnf
  repeat' (first | ((first | refine zs1 ?_ | refine zs2 ?_ | refine zs3 ?_ | refine zs4 ?_ | refine zs5 ?_ | refine zs6 [] ?_); conv => whnf) | ((first | apply zi1 | apply zi2 | apply zi3 | apply zi4 | apply zi5) <;> intro _ <;> conv => whnf) | (refine VCall.intro (vc_Three _) ?_; conv => whnf))
  refine VCall.intro (VC.give (args' := [vL three]) (loc' := [.dead, .dead, .dead]) [] [] (OutOk.lift _) zb zf (by exact FmAll.nil) rfl zv (c21 _)) ?_
  conv => whnf
  repeat' (first | ((first | refine zs1 ?_ | refine zs2 ?_ | refine zs3 ?_ | refine zs4 ?_ | refine zs5 ?_ | refine zs6 [] ?_); conv => whnf) | ((first | apply zi1 | apply zi2 | apply zi3 | apply zi4 | apply zi5) <;> intro _ <;> conv => whnf))
  refine VCall.intro (VC.give (args' := [ints [1, 2, 0], ints [1, 2, 0]]) (loc' := [.dead, .dead, .dead, .flat true (encX ⟨3, [0, 2, 0]⟩), .dead]) [(4, d120)] [] (OutOk.lift _) zb zf (by exact FmAll.nil) rfl zv (c17 _)) ?_
  conv => whnf
  repeat' (first | ((first | refine zs1 ?_ | refine zs2 ?_ | refine zs3 ?_ | refine zs4 ?_ | refine zs5 ?_ | refine zs6 [] ?_); conv => whnf) | ((first | apply zi1 | apply zi2 | apply zi3 | apply zi4 | apply zi5) <;> intro _ <;> conv => whnf))
  refine VCall.intro (VC.give (args' := [vX ⟨3, [0, 2, 0]⟩, I 3, ints [0, 2, 0]]) (loc' := [.dead, .dead, .dead, .flat true (encX ⟨3, [0, 2, 0]⟩), .dead, .dead]) [(5, d020)] [] (OutOk.lift _) zb zf (by exact FmAll.nil) rfl zv (c50 _)) ?_
  conv => whnf
  repeat' (first | ((first | refine zs1 ?_ | refine zs2 ?_ | refine zs3 ?_ | refine zs4 ?_ | refine zs5 ?_ | refine zs6 [] ?_); conv => whnf) | ((first | apply zi1 | apply zi2 | apply zi3 | apply zi4 | apply zi5) <;> intro _ <;> conv => whnf) | (refine VCall.intro (vc_Three _) ?_; conv => whnf))
  refine VCall.intro (VC.give (args' := [vL three, I 30]) (loc' := [.dead, .dead, .dead, .flat true (encX ⟨3, [0, 2, 0]⟩), .dead, .dead]) [] [] (OutOk.lift _) zb zf (by exact FmAll.nil) rfl zv (c30 _)) ?_
  conv => whnf
  repeat' (first | ((first | refine zs1 ?_ | refine zs2 ?_ | refine zs3 ?_ | refine zs4 ?_ | refine zs5 ?_ | refine zs6 [] ?_); conv => whnf) | ((first | apply zi1 | apply zi2 | apply zi3 | apply zi4 | apply zi5) <;> intro _ <;> conv => whnf) | (refine VCall.intro (vc_Three _) ?_; conv => whnf))
  refine VCall.intro (VC.give (args' := [vL three, I 40]) (loc' := [.dead, .dead, .dead, .flat true (encX ⟨3, [0, 2, 0]⟩), .dead, .dead, .flat true (encX ⟨1, [0, 1, 0]⟩)]) [] [] (OutOk.lift _) zb zf (by exact FmAll.nil) rfl zv (c40 _)) ?_
  conv => whnf
  repeat' (first | ((first | refine zs1 ?_ | refine zs2 ?_ | refine zs3 ?_ | refine zs4 ?_ | refine zs5 ?_ | refine zs6 [] ?_); conv => whnf) | ((first | apply zi1 | apply zi2 | apply zi3 | apply zi4 | apply zi5) <;> intro _ <;> conv => whnf) | (refine VCall.intro (vc_Three _) ?_; conv => whnf))
  refine VCall.intro (VC.give (args' := [vL three, I 61]) (loc' := [.dead, .dead, .dead, .flat true (encX ⟨3, [0, 2, 0]⟩), .dead, .dead, .flat true (encX ⟨1, [0, 1, 0]⟩), .flat true (encX ⟨2, [0, 2, 1]⟩)]) [] [] (OutOk.lift _) zb zf (by exact FmAll.nil) rfl zv (c61 _)) ?_
  conv => whnf
  repeat' (first | ((first | refine zs1 ?_ | refine zs2 ?_ | refine zs3 ?_ | refine zs4 ?_ | refine zs5 ?_ | refine zs6 [] ?_); conv => whnf) | ((first | apply zi1 | apply zi2 | apply zi3 | apply zi4 | apply zi5) <;> intro _ <;> conv => whnf) | (refine VCall.intro (vc_ThreeO _) ?_; conv => whnf))
  refine VCall.intro (VC.give (args' := [vL threeW]) (loc' := [.dead, .dead, .dead, .flat true (encX ⟨3, [0, 2, 0]⟩), .dead, .dead, .flat true (encX ⟨1, [0, 1, 0]⟩), .flat true (encX ⟨2, [0, 2, 1]⟩), .dead, .dead, .dead]) [(8, threeW.ss.flatMap encT), (10, d0)] [] (OutOk.lift _) zb zf (by exact FmAll.nil) rfl zv (cW _)) ?_
  conv => whnf
  repeat' (first | ((first | refine zs1 ?_ | refine zs2 ?_ | refine zs3 ?_ | refine zs4 ?_ | refine zs5 ?_ | refine zs6 [] ?_); conv => whnf) | ((first | apply zi1 | apply zi2 | apply zi3 | apply zi4 | apply zi5) <;> intro _ <;> conv => whnf))
  refine VCall.intro (VC.give (args' := [vX ⟨1, [0, 1, 0]⟩, I 1, ints [0, 1, 0]]) (loc' := [.dead, .dead, .dead, .flat true (encX ⟨3, [0, 2, 0]⟩), .dead, .dead, .flat true (encX ⟨1, [0, 1, 0]⟩), .flat true (encX ⟨2, [0, 2, 1]⟩), .dead, .dead, .dead, .flat true (encX ⟨1, [1, 0, 0]⟩), .dead]) [(12, d010)] [] (OutOk.lift _) zb zf (by exact FmAll.nil) rfl zv (k1 _)) ?_
  conv => whnf
  repeat' (first | ((first | refine zs1 ?_ | refine zs2 ?_ | refine zs3 ?_ | refine zs4 ?_ | refine zs5 ?_ | refine zs6 [] ?_); conv => whnf) | ((first | apply zi1 | apply zi2 | apply zi3 | apply zi4 | apply zi5) <;> intro _ <;> conv => whnf))
  refine VCall.intro (VC.give (args' := [vX ⟨2, [0, 2, 1]⟩, I 2, ints [0, 2, 1]]) (loc' := [.dead, .dead, .dead, .flat true (encX ⟨3, [0, 2, 0]⟩), .dead, .dead, .flat true (encX ⟨1, [0, 1, 0]⟩), .flat true (encX ⟨2, [0, 2, 1]⟩), .dead, .dead, .dead, .flat true (encX ⟨1, [1, 0, 0]⟩), .dead, .dead]) [(13, d021)] [] (OutOk.lift _) zb zf (by exact FmAll.nil) rfl zv (k2 _)) ?_
  conv => whnf
  repeat' (first | ((first | refine zs1 ?_ | refine zs2 ?_ | refine zs3 ?_ | refine zs4 ?_ | refine zs5 ?_ | refine zs6 [] ?_); conv => whnf) | ((first | apply zi1 | apply zi2 | apply zi3 | apply zi4 | apply zi5) <;> intro _ <;> conv => whnf))
  refine VCall.intro (VC.give (args' := [vX ⟨1, [1, 0, 0]⟩, I 1, ints [1, 0, 0]]) (loc' := [.dead, .dead, .dead, .flat true (encX ⟨3, [0, 2, 0]⟩), .dead, .dead, .flat true (encX ⟨1, [0, 1, 0]⟩), .flat true (encX ⟨2, [0, 2, 1]⟩), .dead, .dead, .dead, .flat true (encX ⟨1, [1, 0, 0]⟩), .dead, .dead, .dead]) [(14, d100)] [] (OutOk.lift _) zb zf (by exact FmAll.nil) rfl zv (k3 _)) ?_
  conv => whnf
  repeat' (first | ((first | refine zs1 ?_ | refine zs2 ?_ | refine zs3 ?_ | refine zs4 ?_ | refine zs5 ?_ | refine zs6 [] ?_); conv => whnf) | ((first | apply zi1 | apply zi2 | apply zi3 | apply zi4 | apply zi5) <;> intro _ <;> conv => whnf))
  exact VOut.same rfl
end Go.Proofs.Ytmpjpjfkbmlmfaa

open Go.Vm
namespace Go.Proofs.Ytmpjpjfkbmlmfaa

theorem vc_BarterExchanges (l : Lnd) (x : Exc) (h : Hp) : VC Try.prog 8 [vL l, vX x] h (B true) h := vc_BarterExchangesA l x h vc_awake
end Go.Proofs.Ytmpjpjfkbmlmfaa

open Go.Vm
namespace Go.Proofs.Ytmpjpjfkbmlmfaa
open Go.ChangeShapes Go.WideShapes Go.ChangeAt Go.RowKit
def dN (l : Lnd) : D := .agg (encN l)
def dX (x : Exc) : D := .agg (encX x)
theorem ownKn : ownKnob Try.prog.godebug = none := by kernel_rfl
theorem laidOut : laidOutB Try.prog = true := by kernel_rfl
end Go.Proofs.Ytmpjpjfkbmlmfaa

open Go.Vm
namespace Go.Proofs.Ytmpjpjfkbmlmfaa
set_option maxRecDepth 20000
set_option maxHeartbeats 4000000

theorem vc_long0 (l : Lnd) (h : Hp) : VC Try.prog 11 [vL l, .agg [I 0, .nilslice]] h (B (decide (20 < l.ss.length ∨ 11 < l.vs.length))) h := by
  refine VC.body Try.func11 rfl Try.ntmps11 Try.call11 (h.grows_refl) rfl ?_; conv => whnf
  repeat' (first | ((first | refine zs1 ?_ | refine zs2 ?_ | refine zs3 ?_ | refine zs4 ?_ | refine zs5 ?_ | refine zs6 [] ?_); conv => whnf) | ((first | apply zi1 | apply zi2 | apply zi3 | apply zi4 | apply zi5) <;> intro _ <;> conv => whnf))
  all_goals (refine VOut.dec ?_; first | (simp only [decide_eq_true_eq]; omega) | (simp; omega) | (simp; done))
theorem evGo_ok {l : Lnd} (o : Ok l) : ∀ (d k : Nat), k + d = (ordL l).length → 0 ≤ sK l k - nK l k → XOk l (evGo l k d)
  | 0, k, _, _ => xK_ok o k
  | d + 1, k, hk, h0 => by
    have hkl : k < (ordL l).length := by omega
    obtain ⟨j, A⟩ := at_k hkl
    have hsok := o.ss _ (List.mem_of_getElem? A.st)
    have q1 := hsok.no
    have q2 := hsok.so
    obtain ⟨n1, n2⟩ := nK_succ hkl
    have hst : stepK l k = (oS l k).no + (oS l k).so := rfl
    rw [evGo]
    split
    · rename_i h1
      exact xR_ok o k (by omega) (by omega) (by omega)
    · rename_i h1
      exact evGo_ok o d (k + 1) (by omega) (by omega)
theorem evX_ok {l : Lnd} (o : Ok l) : XOk l (evX l) := evGo_ok o _ 0 (by omega) (less0 o)
theorem mxGo_ok {l : Lnd} (o : Ok l) (g : Int) : ∀ (d k : Nat), k + d = (ordL l).length → XOk l (mxGo l g k d)
  | 0, k, _ => xK_ok o k
  | d + 1, k, hk => by
    have hkl : k < (ordL l).length := by omega
    obtain ⟨j, A⟩ := at_k hkl
    have hsok := o.ss _ (List.mem_of_getElem? A.st)
    have q1 := hsok.no
    rw [mxGo]
    split
    · exact xK_ok o k
    · split
      · exact xR_ok o k (by omega) (by omega) (by omega)
      · exact mxGo_ok o g d (k + 1) (by omega)
theorem mxX_ok {l : Lnd} (o : Ok l) (g : Int) : XOk l (mxX l g) := mxGo_ok o g _ 0 (by omega)
theorem vc_BarterOrders (l : Lnd) (g : Int) (h : Hp) : VC Try.prog 3 [vL l, I g] h (B true) h := by
  have c0 := fun h => vc_long0 l h
  have cA := vc_awake
  by_cases hl : 20 < l.ss.length ∨ 11 < l.vs.length
  · rw [decide_eq_true hl] at c0
    refine VC.body Try.func3 rfl Try.ntmps3 Try.call3 (h.grows_refl) rfl ?_; conv => whnf
    repeat' (first | ((first | refine zs1 ?_ | refine zs2 ?_ | refine zs3 ?_ | refine zs4 ?_ | refine zs5 ?_ | refine zs6 [] ?_); conv => whnf) | ((first | apply zi1 | apply zi2 | apply zi3 | apply zi4 | apply zi5) <;> intro _ <;> conv => whnf) | (refine VCall.intro (c0 _) ?_; conv => whnf) | (refine VCall.intro (cA _) ?_; conv => whnf))
    exact VOut.same rfl
  · rw [decide_eq_false hl] at c0
    have hn : l.ss.length ≤ 4000000 := by omega
    have hv : l.vs.length ≤ 4000000 := by omega
    have c1 := fun h => vc_CloneLand l h hn hv
    have c2 := fun h => vc_Land l h hn hv
    have e1 := fun h => vc_equal l h hn hv
    by_cases hk : chk l = 0
    · have o := chk_ok.1 hk
      have hol := ord_len l
      have d1 := fun h => vc_Order_ok l h o
      have d2 := fun h => vc_rOrder_ok l h o
      have d3 := fun h => eqI (ordL l) h (by omega)
      have f1 := fun h => vc_Even_ok l h o
      have f2 := fun h => vc_rEven_ok l h o
      have f3 := fun h => vc_alike (evX l) h (by have := (evX_ok o).len; omega)
      by_cases hg : g ≤ allN l
      · have m1 := fun h => vc_Most_ok l g h o
        have m2 := fun h => vc_rMost_ok l g h o
        unfold mxV at m1 m2
        rw [if_pos hg] at m1 m2
        have m3 := fun h => vc_alike (mxX l g) h (by have := (mxX_ok o g).len; omega)
        refine VC.body Try.func3 rfl Try.ntmps3 Try.call3 (h.grows_refl) rfl ?_; conv => whnf
        repeat' (first | ((first | refine zs1 ?_ | refine zs2 ?_ | refine zs3 ?_ | refine zs4 ?_ | refine zs5 ?_); conv => whnf) | ((first | apply zi1 | apply zi2 | apply zi3 | apply zi4 | apply zi5) <;> intro _ <;> conv => whnf) | (refine VCall.intro (c0 _) ?_; conv => whnf))
        refine VDraw.go [(1, 2)] (by kernel_rfl) (by kernel_rfl) ?_
        conv => whnf
        repeat' (first | ((first | refine zs1 ?_ | refine zs2 ?_ | refine zs3 ?_ | refine zs4 ?_ | refine zs5 ?_); conv => whnf) | ((first | apply zi1 | apply zi2 | apply zi3 | apply zi4 | apply zi5) <;> intro _ <;> conv => whnf) | (refine VCall.intro (c1 _) ?_; conv => whnf) | (refine VCall.intro (c2 _) ?_; conv => whnf))
        repeat' (first | ((first | refine zs1 ?_ | refine zs2 ?_ | refine zs3 ?_ | refine zs4 ?_ | refine zs5 ?_ | refine zs6 [] ?_); conv => whnf) | ((first | apply zi1 | apply zi2 | apply zi3 | apply zi4 | apply zi5) <;> intro _ <;> conv => whnf) | (refine VCall.intro (d1 _) ?_; conv => whnf) | (refine VCall.intro (d2 _) ?_; conv => whnf) | (refine VCall.intro (d3 _) ?_; conv => whnf) | (refine VCall.intro (m1 _) ?_; conv => whnf) | (refine VCall.intro (m2 _) ?_; conv => whnf) | (refine VCall.intro (m3 _) ?_; conv => whnf) | (refine VCall.intro (f1 _) ?_; conv => whnf) | (refine VCall.intro (f2 _) ?_; conv => whnf) | (refine VCall.intro (f3 _) ?_; conv => whnf) | (refine VCall.intro (e1 _) ?_; conv => whnf) | (refine VCall.intro (cA _) ?_; conv => whnf))
        all_goals first | exact VOut.same rfl | (rename_i hz; exact absurd rfl hz)
      · have m1 := fun h => vc_Most_ok l g h o
        have m2 := fun h => vc_rMost_ok l g h o
        unfold mxV at m1 m2
        rw [if_neg hg] at m1 m2
        have m3 := fun h => vc_alikeNo h
        refine VC.body Try.func3 rfl Try.ntmps3 Try.call3 (h.grows_refl) rfl ?_; conv => whnf
        repeat' (first | ((first | refine zs1 ?_ | refine zs2 ?_ | refine zs3 ?_ | refine zs4 ?_ | refine zs5 ?_); conv => whnf) | ((first | apply zi1 | apply zi2 | apply zi3 | apply zi4 | apply zi5) <;> intro _ <;> conv => whnf) | (refine VCall.intro (c0 _) ?_; conv => whnf))
        refine VDraw.go [(1, 2)] (by kernel_rfl) (by kernel_rfl) ?_
        conv => whnf
        repeat' (first | ((first | refine zs1 ?_ | refine zs2 ?_ | refine zs3 ?_ | refine zs4 ?_ | refine zs5 ?_); conv => whnf) | ((first | apply zi1 | apply zi2 | apply zi3 | apply zi4 | apply zi5) <;> intro _ <;> conv => whnf) | (refine VCall.intro (c1 _) ?_; conv => whnf) | (refine VCall.intro (c2 _) ?_; conv => whnf))
        repeat' (first | ((first | refine zs1 ?_ | refine zs2 ?_ | refine zs3 ?_ | refine zs4 ?_ | refine zs5 ?_ | refine zs6 [] ?_); conv => whnf) | ((first | apply zi1 | apply zi2 | apply zi3 | apply zi4 | apply zi5) <;> intro _ <;> conv => whnf) | (refine VCall.intro (d1 _) ?_; conv => whnf) | (refine VCall.intro (d2 _) ?_; conv => whnf) | (refine VCall.intro (d3 _) ?_; conv => whnf) | (refine VCall.intro (m1 _) ?_; conv => whnf) | (refine VCall.intro (m2 _) ?_; conv => whnf) | (refine VCall.intro (m3 _) ?_; conv => whnf) | (refine VCall.intro (f1 _) ?_; conv => whnf) | (refine VCall.intro (f2 _) ?_; conv => whnf) | (refine VCall.intro (f3 _) ?_; conv => whnf) | (refine VCall.intro (e1 _) ?_; conv => whnf) | (refine VCall.intro (cA _) ?_; conv => whnf))
        all_goals first | exact VOut.same rfl | (rename_i hz; exact absurd rfl hz)
    · have d1 := fun h => vc_Order_no l h hn hv hk
      have d2 := fun h => vc_rOrder_no l h hn hv hk
      have d3 := fun h => vc_equalNil h
      have m1 := fun h => vc_Most_no l g h hn hv hk
      have m2 := fun h => vc_rMost_no l g h hn hv hk
      have f1 := fun h => vc_Even_no l h hn hv hk
      have f2 := fun h => vc_rEven_no l h hn hv hk
      have m3 := fun h => vc_alikeNo h
      refine VC.body Try.func3 rfl Try.ntmps3 Try.call3 (h.grows_refl) rfl ?_; conv => whnf
      repeat' (first | ((first | refine zs1 ?_ | refine zs2 ?_ | refine zs3 ?_ | refine zs4 ?_ | refine zs5 ?_); conv => whnf) | ((first | apply zi1 | apply zi2 | apply zi3 | apply zi4 | apply zi5) <;> intro _ <;> conv => whnf) | (refine VCall.intro (c0 _) ?_; conv => whnf))
      refine VDraw.go [(1, 2)] (by kernel_rfl) (by kernel_rfl) ?_
      conv => whnf
      repeat' (first | ((first | refine zs1 ?_ | refine zs2 ?_ | refine zs3 ?_ | refine zs4 ?_ | refine zs5 ?_); conv => whnf) | ((first | apply zi1 | apply zi2 | apply zi3 | apply zi4 | apply zi5) <;> intro _ <;> conv => whnf) | (refine VCall.intro (c1 _) ?_; conv => whnf) | (refine VCall.intro (c2 _) ?_; conv => whnf))
      repeat' (first | ((first | refine zs1 ?_ | refine zs2 ?_ | refine zs3 ?_ | refine zs4 ?_ | refine zs5 ?_ | refine zs6 [] ?_); conv => whnf) | ((first | apply zi1 | apply zi2 | apply zi3 | apply zi4 | apply zi5) <;> intro _ <;> conv => whnf) | (refine VCall.intro (d1 _) ?_; conv => whnf) | (refine VCall.intro (d2 _) ?_; conv => whnf) | (refine VCall.intro (d3 _) ?_; conv => whnf) | (refine VCall.intro (m1 _) ?_; conv => whnf) | (refine VCall.intro (m2 _) ?_; conv => whnf) | (refine VCall.intro (m3 _) ?_; conv => whnf) | (refine VCall.intro (f1 _) ?_; conv => whnf) | (refine VCall.intro (f2 _) ?_; conv => whnf) | (refine VCall.intro (e1 _) ?_; conv => whnf) | (refine VCall.intro (cA _) ?_; conv => whnf))
      all_goals first | exact VOut.same rfl | (rename_i hz; exact absurd rfl hz)
end Go.Proofs.Ytmpjpjfkbmlmfaa

open Go.Vm
namespace Go.Proofs.Ytmpjpjfkbmlmfaa
set_option maxRecDepth 20000
set_option maxHeartbeats 1000000

/-! Prices, plainly. -/

theorem alGo_iff {w : Int} : ∀ {ss : List Str} {ps : List Int}, ss.length = ps.length → (alGo w ss ps = true ↔ ∀ (i : Nat) s p, ss[i]? = some s → ps[i]? = some p → isFree s = true ∨ p = w * (1 - s.ow))
  | [], [], _ => by simp [alGo]
  | [], _ :: _, h => by cases h
  | _ :: _, [], h => by cases h
  | s :: ss, p :: ps, h => by
    have ih := alGo_iff (w := w) (ss := ss) (ps := ps) (by simpa using h)
    rw [alGo, Bool.and_eq_true, ih, Bool.or_eq_true, decide_eq_true_eq]
    constructor
    · rintro ⟨h1, h2⟩ i s' p' hs hp
      cases i with
      | zero => simp at hs hp; subst hs hp; exact h1
      | succ i => exact h2 i s' p' (by simpa using hs) (by simpa using hp)
    · intro hh
      exact ⟨hh 0 s p rfl rfl, fun i s' p' hs hp => hh (i + 1) s' p' (by simpa using hs) (by simpa using hp)⟩
theorem hlGo_iff {w a b : Int} : ∀ {ss : List Str} {ps : List Int}, ss.length = ps.length → (hlGo w a b ss ps = true ↔ ∀ (i : Nat) s p, ss[i]? = some s → ps[i]? = some p → bdP w a b s p = false)
  | [], [], _ => by simp [hlGo]
  | [], _ :: _, h => by cases h
  | _ :: _, [], h => by cases h
  | s :: ss, p :: ps, h => by
    have ih := hlGo_iff (w := w) (a := a) (b := b) (ss := ss) (ps := ps) (by simpa using h)
    rw [hlGo, Bool.and_eq_true, ih, Bool.not_eq_true']
    constructor
    · rintro ⟨h1, h2⟩ i s' p' hs hp
      cases i with
      | zero => simp at hs hp; subst hs hp; exact h1
      | succ i => exact h2 i s' p' (by simpa using hs) (by simpa using hp)
    · intro hh
      exact ⟨hh 0 s p rfl rfl, fun i s' p' hs hp => hh (i + 1) s' p' (by simpa using hs) (by simpa using hp)⟩
theorem bdP_iff {w a b : Int} {s : Str} {p : Int} : bdP w a b s p = false ↔ (isFree s = true → (0 < s.no * a - s.so * b → w ≤ p) ∧ (s.no * a - s.so * b < 0 → p ≤ 0)) := by
  unfold bdP
  cases isFree s
  · simp
  · simp only [Bool.true_and, decide_eq_false_iff_not, true_imp_iff]; omega
theorem wsR_iff {q : Nat → Bool} : ∀ (d k : Nat), (wsR q k d = none ↔ ∀ j, k ≤ j → j < k + d → q j = false)
  | 0, k => by simp only [wsR, true_iff]; omega
  | d + 1, k => by
    rw [wsR]
    split
    · rename_i h
      constructor
      · intro h2; cases h2
      · intro h2; rw [h2 k (by omega) (by omega)] at h; cases h
    · rename_i h
      rw [wsR_iff d (k + 1)]
      constructor
      · intro h2 j h3 h4
        rcases Nat.eq_or_lt_of_le h3 with rfl | h5
        · simpa using h
        · exact h2 j h5 (by omega)
      · intro h2 j h3 h4; exact h2 j (by omega) (by omega)
theorem wsR_some {q : Nat → Bool} {m : Nat} : ∀ (d k : Nat), wsR q k d = some m → q m = true ∧ m < k + d
  | 0, k, h => by cases h
  | d + 1, k, h => by
    rw [wsR] at h
    split at h
    · rename_i h1; cases h; exact ⟨h1, by omega⟩
    · have := wsR_some d (k + 1) h; exact ⟨this.1, by omega⟩
theorem wsO_iff {q : Nat → Nat → Bool} {n : Nat} : ∀ (d i : Nat), (wsO q n i d = none ↔ ∀ j, i ≤ j → j < i + d → ∀ k, k < n → q j k = false)
  | 0, i => by simp only [wsO, true_iff]; omega
  | d + 1, i => by
    rw [wsO]
    split
    · rename_i k hk
      obtain ⟨h1, h2⟩ := wsR_some _ _ hk
      constructor
      · intro h2; cases h2
      · intro h3; rw [h3 i (by omega) (by omega) k (by omega)] at h1; cases h1
    · rename_i hk
      rw [wsR_iff] at hk
      rw [wsO_iff d (i + 1)]
      constructor
      · intro h2 j h3 h4 k h5
        rcases Nat.eq_or_lt_of_le h3 with rfl | h6
        · exact hk k (by omega) (by omega)
        · exact h2 j h6 (by omega) k h5
      · intro h2 j h3 h4 k h5; exact h2 j (by omega) (by omega) k h5
structure Bst (l : Lnd) (x : Exc) : Prop where
  ok : XOk l x
  al : ∀ (i : Nat) (s : Str) (p : Int), l.ss[i]? = some s → x.ps[i]? = some p → isFree s = true ∨ p = x.w * (1 - s.ow)
  no : ∀ (i k : Nat) (s t : Str) (p q : Int), l.ss[i]? = some s → l.ss[k]? = some t → x.ps[i]? = some p → x.ps[k]? = some q → isFree s = true → isFree t = true → p < x.w → 0 < q → s.no * t.so ≤ s.so * t.no
structure Prc (l : Lnd) (x : Exc) (a b : Int) : Prop where
  ok : XOk l x
  al : ∀ (i : Nat) (s : Str) (p : Int), l.ss[i]? = some s → x.ps[i]? = some p → isFree s = true ∨ p = x.w * (1 - s.ow)
  pr : ∀ (i : Nat) (s : Str) (p : Int), l.ss[i]? = some s → x.ps[i]? = some p → isFree s = true → (0 < s.no * a - s.so * b → x.w ≤ p) ∧ (s.no * a - s.so * b < 0 → p ≤ 0)
theorem best_iff {l : Lnd} {x : Exc} (ox : XOk l x) : (alB l x && (wst l x).isNone) = true ↔ Bst l x := by
  have hlen : l.ss.length = x.ps.length := ox.len.symm
  rw [Bool.and_eq_true, Option.isNone_iff_eq_none]
  unfold alB wst
  rw [alGo_iff hlen, wsO_iff]
  constructor
  · rintro ⟨h1, h2⟩
    refine ⟨ox, h1, fun i k s t p q hs ht hp hq fs ft h3 h4 => ?_⟩
    have hi := (List.getElem?_eq_some_iff.1 hs).1
    have hk := (List.getElem?_eq_some_iff.1 ht).1
    have := h2 i (Nat.zero_le _) (by omega) k hk
    unfold wsB at this
    rw [sAt_eq hs, sAt_eq ht, pAt_eq hp, pAt_eq hq, fs, ft, decide_eq_true (p := p < x.w ∧ 0 < q) ⟨h3, h4⟩] at this
    simp only [Bool.true_and] at this
    unfold fst2 at this
    rw [decide_eq_false_iff_not] at this
    omega
  · rintro ⟨_, h1, h2⟩
    refine ⟨h1, fun i _ hi k hk => ?_⟩
    have hi : i < l.ss.length := by omega
    have hs : l.ss[i]? = some l.ss[i] := List.getElem?_eq_getElem hi
    have ht : l.ss[k]? = some l.ss[k] := List.getElem?_eq_getElem hk
    have hp : x.ps[i]? = some (x.ps[i]'(by omega)) := List.getElem?_eq_getElem _
    have hq : x.ps[k]? = some (x.ps[k]'(by omega)) := List.getElem?_eq_getElem _
    unfold wsB
    rw [sAt_eq hs, sAt_eq ht, pAt_eq hp, pAt_eq hq]
    cases fs : isFree l.ss[i]
    · rfl
    · cases ft : isFree l.ss[k]
      · rfl
      · rw [Bool.true_and, Bool.true_and, Bool.and_eq_false_iff, decide_eq_false_iff_not]
        by_cases h3 : x.ps[i]'(by omega) < x.w ∧ 0 < x.ps[k]'(by omega)
        · have := h2 i k _ _ _ _ hs ht hp hq fs ft h3.1 h3.2
          refine .inr ?_
          unfold fst2
          rw [decide_eq_false_iff_not]; omega
        · exact .inl h3
theorem prc_iff {l : Lnd} {x : Exc} {a b : Int} (ox : XOk l x) : (alB l x && hlGo x.w a b l.ss x.ps) = true ↔ Prc l x a b := by
  have hlen : l.ss.length = x.ps.length := ox.len.symm
  rw [Bool.and_eq_true]
  unfold alB
  rw [alGo_iff hlen, hlGo_iff hlen]
  constructor
  · rintro ⟨h1, h2⟩
    exact ⟨ox, h1, fun i s p hs hp => bdP_iff.1 (h2 i s p hs hp)⟩
  · rintro ⟨_, h1, h2⟩
    exact ⟨h1, fun i s p hs hp => bdP_iff.2 (h2 i s p hs hp)⟩
theorem Prc.best {l : Lnd} {x : Exc} {a b : Int} (o : Ok l) (h : Prc l x a b) (ha : 1 ≤ a) (hb : 1 ≤ b) : Bst l x := by
  refine ⟨h.ok, h.al, fun i k s t p q hs ht hp hq fs ft h3 h4 => ?_⟩
  have os := o.ss s (List.mem_of_getElem? hs)
  have ot := o.ss t (List.mem_of_getElem? ht)
  obtain ⟨p1, p2⟩ := h.pr i s p hs hp fs
  obtain ⟨q1, q2⟩ := h.pr k t q ht hq ft
  have e1 : s.no * a ≤ s.so * b := by omega
  have e2 : t.so * b ≤ t.no * a := by omega
  have s1 := os.so; have t1 := ot.so
  have f1 : s.no * a * t.so ≤ s.so * b * t.so := Int.mul_le_mul_of_nonneg_right e1 (by omega)
  have f2 : t.so * b * s.so ≤ t.no * a * s.so := Int.mul_le_mul_of_nonneg_right e2 (by omega)
  have g1 : s.no * a * t.so = a * (s.no * t.so) := by rw [Int.mul_comm s.no a, Int.mul_assoc]
  have g2 : s.so * b * t.so = t.so * b * s.so := by rw [Int.mul_comm (s.so * b), Int.mul_comm s.so b, Int.mul_assoc]
  have g3 : t.no * a * s.so = a * (s.so * t.no) := by rw [Int.mul_comm t.no a, Int.mul_assoc, Int.mul_comm t.no]
  refine Int.le_of_mul_le_mul_left (a := a) ?_ (by omega)
  omega
end Go.Proofs.Ytmpjpjfkbmlmfaa

open Go.Vm
namespace Go.Proofs.Ytmpjpjfkbmlmfaa
set_option maxRecDepth 20000
set_option maxHeartbeats 1000000

/-! The order is one, and prices hold for exchanges by order. -/

theorem posS_hi {q : Int → Bool} {out : List Int} : ∀ (m j : Nat), posS q out m ≤ j → j < m → q (out.getD j 0) = true
  | 0, j, _, h => by omega
  | m + 1, j, h1, h2 => by
    rw [posS] at h1
    split at h1
    · rename_i h3
      rcases Nat.eq_or_lt_of_le (Nat.le_of_lt_succ h2) with rfl | h4
      · exact h3
      · exact posS_hi m j h1 h4
    · omega
theorem posS_lo {q : Int → Bool} {out : List Int} : ∀ (m : Nat), 0 < posS q out m → q (out.getD (posS q out m - 1) 0) = false
  | 0, h => by simp [posS] at h
  | m + 1, h => by
    rw [posS] at h ⊢
    split
    · rename_i h1; rw [if_pos h1] at h; exact posS_lo m h
    · rename_i h1; simpa using h1
theorem insS_sorted {q : Int → Int → Bool} {out : List Int} {x : Int} (hT : ∀ y ∈ out, ∀ z ∈ out, q x y = false → q y z = false → q x z = false) (hA : ∀ y ∈ out, q x y = true → q y x = false) (h : out.Pairwise fun a b => q b a = false) : (insS (q x) out x).Pairwise fun a b => q b a = false := by
  have hp := posS_le (q x) out out.length
  have hhi := posS_hi (q := q x) (out := out) out.length
  have hlo := posS_lo (q := q x) (out := out) out.length
  unfold insS
  generalize posS (q x) out out.length = p at *
  have h2 := h
  rw [List.pairwise_iff_getElem] at h
  have htk : ∀ a ∈ out.take p, q x a = false := by
    intro a ha
    obtain ⟨i, hi, rfl⟩ := List.mem_take_iff_getElem.1 ha
    have hip : i < p := by omega
    have hlast := hlo (by omega)
    rw [List.getD_eq_getElem?_getD, List.getElem?_eq_getElem (show p - 1 < out.length by omega), Option.getD_some] at hlast
    rcases Nat.eq_or_lt_of_le (show i ≤ p - 1 by omega) with rfl | hlt
    · exact hlast
    · exact hT _ (List.getElem_mem _) _ (List.getElem_mem _) hlast (h i (p - 1) (by omega) (by omega) hlt)
  have hdp : ∀ b ∈ out.drop p, q b x = false := by
    intro b hb
    obtain ⟨i, hi, rfl⟩ := List.mem_drop_iff_getElem.1 hb
    have := hhi (i + p) (by omega) (by omega)
    rw [List.getD_eq_getElem?_getD, List.getElem?_eq_getElem (show i + p < out.length by omega), Option.getD_some] at this
    have e : p + i = i + p := Nat.add_comm _ _
    simp only [e]
    exact hA _ (List.getElem_mem _) this
  rw [List.pairwise_append, List.pairwise_cons]
  rw [← List.take_append_drop p out, List.pairwise_append] at h2
  refine ⟨h2.1, ⟨hdp, h2.2.1⟩, fun a ha b hb => ?_⟩
  rcases List.mem_cons.1 hb with rfl | hb
  · exact htk a ha
  · exact h2.2.2 a ha b hb
theorem isGo_sorted {q : Int → Int → Bool} {l : List Int} (hT : ∀ x ∈ l, ∀ y ∈ l, ∀ z ∈ l, q x y = false → q y z = false → q x z = false) (hA : ∀ x ∈ l, ∀ y ∈ l, q x y = true → q y x = false) : ∀ {m : Nat}, m ≤ l.length → (isGo q l m).Pairwise fun a b => q b a = false
  | 0, _ => List.Pairwise.nil
  | m + 1, hm => by
    have hx : l.getD m 0 ∈ l := by
      rw [List.getD_eq_getElem?_getD, List.getElem?_eq_getElem (show m < l.length by omega), Option.getD_some]; exact List.getElem_mem _
    rw [isGo]
    exact insS_sorted (fun y hy z hz => hT _ hx y (isGo_mem (by omega) y hy) z (isGo_mem (by omega) z hz)) (fun y hy => hA _ hx y (isGo_mem (by omega) y hy)) (isGo_sorted hT hA (by omega))
theorem cross {a b c d e f : Int} (hd : 1 ≤ d) (h1 : a * d ≤ b * c) (h2 : c * f ≤ d * e) (hb : 0 ≤ b) (hf : 0 ≤ f) : a * f ≤ b * e := by
  have x1 : a * d * f ≤ b * c * f := Int.mul_le_mul_of_nonneg_right h1 hf
  have x2 : b * (c * f) ≤ b * (d * e) := Int.mul_le_mul_of_nonneg_left h2 hb
  refine Int.le_of_mul_le_mul_left (a := d) ?_ (by omega)
  have y1 : d * (a * f) = a * d * f := by rw [Int.mul_comm a d, Int.mul_assoc]
  have y2 : d * (b * e) = b * (d * e) := by rw [Int.mul_left_comm]
  have y3 : b * c * f = b * (c * f) := Int.mul_assoc _ _ _
  omega
theorem sAt_ok {l : Lnd} (o : Ok l) {j : Nat} (h : j < l.ss.length) : Sok l.vs (sAt l j) := by
  have hs : l.ss[j]? = some l.ss[j] := List.getElem?_eq_getElem h
  rw [sAt_eq hs]; exact o.ss _ (List.getElem_mem h)
theorem fr_ok {l : Lnd} (o : Ok l) {x : Int} (h : x ∈ frL l l.ss.length) : (1 ≤ (sAt l x.toNat).no ∧ (sAt l x.toNat).no ≤ 1000) ∧ 1 ≤ (sAt l x.toNat).so ∧ (sAt l x.toNat).so ≤ 1000 := by
  obtain ⟨j, hj, rfl, _⟩ := mem_selS.1 h
  have := sAt_ok o hj
  exact ⟨this.no, this.so⟩
theorem ord_sorted {l : Lnd} (o : Ok l) : (ordL l).Pairwise fun a b => ahB l b a = false := by
  refine isGo_sorted (fun x hx y hy z hz h1 h2 => ?_) (fun x hx y hy h => ?_) (Nat.le_refl _)
  · have a := fr_ok o hx
    have b := fr_ok o hy
    have c := fr_ok o hz
    unfold ahB fst2 at *
    simp only [decide_eq_false_iff_not, Int.not_lt] at *
    exact cross b.2.1 h1 h2 (by omega) (by omega)
  · unfold ahB fst2 at *
    simp only [decide_eq_false_iff_not, decide_eq_true_eq, Int.not_lt] at *
    have e1 : (sAt l y.toNat).no * (sAt l x.toNat).so = (sAt l x.toNat).so * (sAt l y.toNat).no := Int.mul_comm _ _
    have e2 : (sAt l y.toNat).so * (sAt l x.toNat).no = (sAt l x.toNat).no * (sAt l y.toNat).so := Int.mul_comm _ _
    omega
theorem ord_le {l : Lnd} (o : Ok l) {i k : Nat} (hik : i ≤ k) (hk : k < (ordL l).length) : (oS l k).no * (oS l i).so ≤ (oS l k).so * (oS l i).no := by
  rcases Nat.eq_or_lt_of_le hik with rfl | h
  · rw [Int.mul_comm]; exact Int.le_refl _
  · have := List.pairwise_iff_getElem.1 (ord_sorted o) i k (by omega) hk h
    unfold oS
    rw [List.getD_eq_getElem?_getD, List.getElem?_eq_getElem hk, List.getD_eq_getElem?_getD, List.getElem?_eq_getElem (show i < (ordL l).length by omega), Option.getD_some, Option.getD_some]
    unfold ahB fst2 at this
    rw [decide_eq_false_iff_not] at this
    omega
theorem mem_insS_len {l : Lnd} {j : Nat} (hj : j < l.ss.length) (hf : freeQ l j = true) : (j : Int) ∈ ordL l := by
  have h : (j : Int) ∈ frL l l.ss.length := mem_selS.2 ⟨j, hj, rfl, hf⟩
  suffices H : ∀ (L : List Int) (q : Int → Int → Bool) (m : Nat), m ≤ L.length → ∀ y, y ∈ L.take m → y ∈ isGo q L m by
    exact H _ _ _ (Nat.le_refl _) _ (by rw [List.take_length]; exact h)
  intro L q m
  induction m with
  | zero => intro _ y hy; simp at hy
  | succ m ih =>
    intro hm y hy
    rw [isGo, insS_mem]
    rw [List.take_add_one, List.getElem?_eq_getElem (show m < L.length by omega), List.mem_append] at hy
    rcases hy with hy | hy
    · exact .inr (ih (by omega) y hy)
    · left
      simp at hy
      rw [hy, List.getD_eq_getElem?_getD, List.getElem?_eq_getElem (show m < L.length by omega), Option.getD_some]
end Go.Proofs.Ytmpjpjfkbmlmfaa

open Go.Vm
namespace Go.Proofs.Ytmpjpjfkbmlmfaa
set_option maxRecDepth 20000
set_option maxHeartbeats 1000000

theorem cut_mem {l : Lnd} {k : Nat} {i : Nat} (h : (i : Int) = cutC l k) : ∃ m, k = m ∧ m < (ordL l).length ∧ (ordL l)[m]? = some (i : Int) := by
  unfold cutC at h
  rcases Nat.lt_or_ge k (ordL l).length with hk | hk
  · refine ⟨k, rfl, hk, ?_⟩
    rw [List.getD_eq_getElem?_getD, List.getElem?_eq_getElem hk, Option.getD_some] at h
    rw [List.getElem?_eq_getElem hk, h]
  · rw [List.getD_eq_getElem?_getD, List.getElem?_eq_none hk, Option.getD_none] at h
    omega
theorem oS_at {l : Lnd} {m i : Nat} {s : Str} (h : (ordL l)[m]? = some (i : Int)) (hs : l.ss[i]? = some s) : oS l m = s := by
  unfold oS
  rw [List.getD_eq_getElem?_getD, h, Option.getD_some, Int.toNat_natCast, sAt_eq hs]
theorem ord_of {l : Lnd} {i : Nat} {s : Str} (hs : l.ss[i]? = some s) (hf : isFree s = true) : ∃ m, m < (ordL l).length ∧ (ordL l)[m]? = some (i : Int) := by
  have hi := (List.getElem?_eq_some_iff.1 hs).1
  have := mem_insS_len (l := l) hi (by unfold freeQ; rw [sAt_eq hs]; exact hf)
  obtain ⟨m, hm, e⟩ := List.getElem_of_mem this
  exact ⟨m, hm, by rw [List.getElem?_eq_getElem hm, e]⟩
theorem mem_free {l : Lnd} {i : Nat} {s : Str} (h : (i : Int) ∈ ordL l) (hs : l.ss[i]? = some s) : isFree s = true := by
  obtain ⟨j, h1, h2, h3⟩ := ord_mem h
  have : i = j := by omega
  subst this
  unfold freeQ at h3
  rw [sAt_eq hs] at h3; exact h3
theorem exL_get {l : Lnd} {f : List Int} {c n w : Int} {i : Nat} {s : Str} {p : Int} (hs : l.ss[i]? = some s) (hp : (exL l f c n w)[i]? = some p) : p = prt l f c n w i := by
  rw [exL_at (List.getElem?_eq_some_iff.1 hs).1] at hp
  exact (Option.some.inj hp).symm
theorem xC_al {l : Lnd} {k : Nat} {n w : Int} (i : Nat) (s : Str) (p : Int) (hs : l.ss[i]? = some s) (hp : (xC l k n w).ps[i]? = some p) : isFree s = true ∨ p = w * (1 - s.ow) := by
  have hp := exL_get hs hp
  unfold prt at hp
  cases hf : isFree s
  · right
    have h1 : ¬ ((i : Int) = cutC l k) := by
      intro h
      obtain ⟨m, _, h2, h3⟩ := cut_mem h
      rw [mem_free (List.mem_of_getElem? h3) hs] at hf; cases hf
    have h2 : ¬ ((i : Int) ∈ (ordL l).take k) := by
      intro h
      rw [mem_free (List.mem_of_mem_take h) hs] at hf; cases hf
    have h3 : freeQ l i = false := by unfold freeQ; rw [sAt_eq hs]; exact hf
    rw [if_neg h1, if_neg h2, h3, cond_false, sAt_eq hs] at hp
    rw [hp, Int.mul_comm]
  · exact .inl rfl
theorem mem_take_at {l : Lnd} {k i : Nat} (h : (i : Int) ∈ (ordL l).take k) : ∃ m, m < k ∧ m < (ordL l).length ∧ (ordL l)[m]? = some (i : Int) := by
  obtain ⟨m, hm, e⟩ := List.mem_take_iff_getElem.1 h
  exact ⟨m, by omega, by omega, by rw [List.getElem?_eq_getElem (by omega), e]⟩
theorem xC_prc {l : Lnd} (o : Ok l) {k : Nat} (hk : k < (ordL l).length) {n w : Int} (hn : 0 ≤ n ∧ n ≤ w) (hw : 1 ≤ w ∧ w ≤ 2000) : Prc l (xC l k n w) (oS l k).so (oS l k).no := by
  refine ⟨xC_ok o k hn hw, xC_al, fun i s p hs hp hf => ?_⟩
  have hp := exL_get hs hp
  have hw0 : (xC l k n w).w = w := rfl
  rw [hw0]
  unfold prt at hp
  split at hp
  · rename_i h
    obtain ⟨m, rfl, h2, h3⟩ := cut_mem h
    rw [oS_at h3 hs]
    have : s.no * s.so = s.so * s.no := Int.mul_comm _ _
    omega
  · rename_i hc
    split at hp
    · rename_i h
      obtain ⟨m, hm, h2, h3⟩ := mem_take_at h
      have := ord_le o (show m ≤ k by omega) hk
      rw [oS_at h3 hs] at this
      have e1 : s.no * (oS l k).so = (oS l k).so * s.no := Int.mul_comm _ _
      have e2 : s.so * (oS l k).no = (oS l k).no * s.so := Int.mul_comm _ _
      omega
    · rename_i h
      have h3 : freeQ l i = true := by unfold freeQ; rw [sAt_eq hs]; exact hf
      rw [h3, cond_true] at hp
      obtain ⟨m, hm, h4⟩ := ord_of hs hf
      have hkm : k ≤ m := by
        rcases Nat.lt_or_ge m k with h5 | h5
        · exact absurd (List.mem_take_iff_getElem.2 ⟨m, by omega, by have := List.getElem?_eq_some_iff.1 h4; exact this.2⟩) h
        · exact h5
      have := ord_le o hkm hm
      rw [oS_at h4 hs] at this
      omega
theorem xK_al {l : Lnd} {k : Nat} (i : Nat) (s : Str) (p : Int) (hs : l.ss[i]? = some s) (hp : (xK l k).ps[i]? = some p) : isFree s = true ∨ p = 1 * (1 - s.ow) := by
  refine xC_al (l := l) (k := k) (n := 0) (w := 1) i s p hs ?_
  show (exL l _ (cutC l k) 0 1)[i]? = some p
  rw [xC_zero]; exact hp
theorem xK_prc {l : Lnd} (o : Ok l) (k : Nat) : ∃ a b, (1 ≤ a ∧ a ≤ 1001) ∧ (1 ≤ b ∧ b ≤ 1001) ∧ Prc l (xK l k) a b := by
  rcases Nat.lt_or_ge k (ordL l).length with hk | hk
  · have h := xC_prc o hk (n := 0) (w := 1) (by omega) (by omega)
    have e : xC l k 0 1 = xK l k := by unfold xC xK; rw [xC_zero]
    rw [e] at h
    obtain ⟨j, A⟩ := at_k hk
    have hs := o.ss _ (List.mem_of_getElem? A.st)
    exact ⟨_, _, ⟨hs.so.1, by have := hs.so; omega⟩, ⟨hs.no.1, by have := hs.no; omega⟩, h⟩
  · refine ⟨1001, 1, by decide, by decide, xK_ok o k, fun i s p hs hp => xK_al i s p hs hp, fun i s p hs hp hf => ?_⟩
    have hp := exL_get hs hp
    obtain ⟨m, hm, h4⟩ := ord_of hs hf
    have hin : (i : Int) ∈ (ordL l).take k := by
      rw [List.take_of_length_le hk]; exact List.mem_of_getElem? h4
    have h1 : ¬ ((i : Int) = -1) := by omega
    unfold prt at hp
    rw [if_neg h1, if_pos hin] at hp
    have := o.ss s (List.mem_of_getElem? hs)
    have h2 := this.no
    have h3 := this.so
    have e : (xK l k).w = 1 := rfl
    rw [e]
    omega
end Go.Proofs.Ytmpjpjfkbmlmfaa

open Go.Vm
namespace Go.Proofs.Ytmpjpjfkbmlmfaa
set_option maxRecDepth 20000
set_option maxHeartbeats 1000000
structure MxS (l : Lnd) (g : Int) (x : Exc) : Prop where
  prc : ∃ a b, (1 ≤ a ∧ a ≤ 1001) ∧ (1 ≤ b ∧ b ≤ 1001) ∧ Prc l x a b
  ge : g * x.w ≤ gnN l x
  eq : gnN l x = g * x.w ∨ x = xK l 0
theorem MxS.k {l : Lnd} {g : Int} (o : Ok l) {k : Nat} (h0 : k = 0 ∨ nK l k ≤ g) (h1 : g ≤ nK l k) : MxS l g (xK l k) := by
  have e : (xK l k).w = 1 := rfl
  have e2 : gnN l (xK l k) = nK l k := rfl
  refine ⟨xK_prc o k, by rw [e, e2]; omega, ?_⟩
  rcases h0 with rfl | h0
  · exact .inr rfl
  · left; rw [e, e2]; omega
/-! A price for what is best. -/
def prN (a : Spn) (w : Int) (s : Str) (p : Int) : Spn := bif isFree s && decide (p < w ∧ 0 < s.no * a.hi - s.so * a.lo) then ⟨s.no, s.so⟩ else a
def prGo (w : Int) : Spn → List Str → List Int → Spn
  | a, s :: ss, p :: ps => prGo w (prN a w s p) ss ps
  | a, _, _ => a
def prX (l : Lnd) (x : Exc) : Spn := prGo x.w ⟨1, 1001⟩ l.ss x.ps
structure PrI (l : Lnd) (x : Exc) (k : Nat) (a : Spn) : Prop where
  lo : 1 ≤ a.lo ∧ a.lo ≤ 1000
  hi : 1 ≤ a.hi ∧ a.hi ≤ 1001
  src : a = ⟨1, 1001⟩ ∨ ∃ (i : Nat) (s : Str) (p : Int), i < k ∧ l.ss[i]? = some s ∧ x.ps[i]? = some p ∧ isFree s = true ∧ p < x.w ∧ a = ⟨s.no, s.so⟩
  top : ∀ (i : Nat) (s : Str) (p : Int), i < k → l.ss[i]? = some s → x.ps[i]? = some p → isFree s = true → p < x.w → s.no * a.hi ≤ s.so * a.lo
theorem PrI.step {l : Lnd} {x : Exc} {k : Nat} {a : Spn} (h : PrI l x k a) (o : Ok l) {s : Str} {p : Int} (hs : l.ss[k]? = some s) (hp : x.ps[k]? = some p) : PrI l x (k + 1) (prN a x.w s p) := by
  have os := o.ss s (List.mem_of_getElem? hs)
  obtain ⟨h1, h2, h3, h4⟩ := h
  unfold prN
  cases hc : (isFree s && decide (p < x.w ∧ 0 < s.no * a.hi - s.so * a.lo))
  · rw [cond_false]
    refine ⟨h1, h2, ?_, ?_⟩
    · rcases h3 with h | ⟨i, s', p', hi, r⟩
      · exact .inl h
      · exact .inr ⟨i, s', p', by omega, r⟩
    · intro i s' p' hi e1 e2 f g
      rcases Nat.eq_or_lt_of_le (Nat.le_of_lt_succ hi) with rfl | h
      · rw [hs] at e1; cases e1
        rw [hp] at e2; cases e2
        rw [f, Bool.true_and, decide_eq_false_iff_not] at hc
        omega
      · exact h4 i s' p' h e1 e2 f g
  · rw [cond_true]
    rw [Bool.and_eq_true, decide_eq_true_eq] at hc
    refine ⟨os.no, ⟨os.so.1, by show s.so ≤ 1001; have := os.so; omega⟩, .inr ⟨k, s, p, by omega, hs, hp, hc.1, hc.2.1, rfl⟩, ?_⟩
    intro i s' p' hi e1 e2 f g
    show s'.no * s.so ≤ s'.so * s.no
    rcases Nat.eq_or_lt_of_le (Nat.le_of_lt_succ hi) with rfl | h
    · rw [hs] at e1; cases e1
      rw [Int.mul_comm]; exact Int.le_refl _
    · have os' := o.ss s' (List.mem_of_getElem? e1)
      have := h4 i s' p' h e1 e2 f g
      have e : a.lo * s.so ≤ a.hi * s.no := by
        have x1 : s.so * a.lo = a.lo * s.so := Int.mul_comm _ _
        have x2 : s.no * a.hi = a.hi * s.no := Int.mul_comm _ _
        omega
      exact cross h2.1 this e (by have := os'.so; omega) (by have := os.so; omega)
theorem prGo_at {w : Int} {a : Spn} {ss : List Str} {ps : List Int} {k : Nat} {s : Str} {p : Int} (hs : ss[k]? = some s) (hp : ps[k]? = some p) : prGo w a (ss.drop k) (ps.drop k) = prGo w (prN a w s p) (ss.drop (k + 1)) (ps.drop (k + 1)) := by
  obtain ⟨h1, rfl⟩ := List.getElem?_eq_some_iff.1 hs
  obtain ⟨h2, rfl⟩ := List.getElem?_eq_some_iff.1 hp
  rw [List.drop_eq_getElem_cons h1, List.drop_eq_getElem_cons h2, prGo]
theorem prGo_end (w : Int) (a : Spn) (ss : List Str) (ps : List Int) : prGo w a (ss.drop ss.length) (ps.drop ss.length) = a := by
  rw [List.drop_of_length_le (Nat.le_refl _)]
  cases ps.drop ss.length <;> rfl
theorem prX_inv {l : Lnd} {x : Exc} (o : Ok l) (ox : XOk l x) : ∃ a, prX l x = a ∧ PrI l x l.ss.length a := by
  suffices H : ∀ (d k : Nat) (a : Spn), k + d = l.ss.length → PrI l x k a → PrI l x l.ss.length (prGo x.w a (l.ss.drop k) (x.ps.drop k)) by
    refine ⟨_, rfl, H l.ss.length 0 ⟨1, 1001⟩ (by omega) ⟨by decide, by decide, .inl rfl, fun i s p h => by omega⟩⟩
  intro d
  induction d with
  | zero =>
    intro k a hk h
    have : k = l.ss.length := by omega
    rw [this] at h ⊢
    rw [prGo_end]; exact h
  | succ d ih =>
    intro k a hk h
    have hs : l.ss[k]? = some (l.ss[k]'(by omega)) := List.getElem?_eq_getElem _
    have hp : x.ps[k]? = some (x.ps[k]'(by have := ox.len; omega)) := List.getElem?_eq_getElem _
    rw [prGo_at hs hp]
    exact ih (k + 1) _ (by omega) (h.step o hs hp)
theorem Bst.price {l : Lnd} {x : Exc} (h : Bst l x) (o : Ok l) : (1 ≤ (prX l x).hi ∧ (prX l x).hi ≤ 1001) ∧ (1 ≤ (prX l x).lo ∧ (prX l x).lo ≤ 1001) ∧ Prc l x (prX l x).hi (prX l x).lo := by
  obtain ⟨a, e, I⟩ := prX_inv o h.ok
  rw [e]
  refine ⟨I.hi, by have := I.lo; omega, h.ok, h.al, fun i s p hs hp hf => ⟨fun hm => ?_, fun hm => ?_⟩⟩
  · rcases Int.lt_or_le p x.w with hlt | hle
    · have := I.top i s p (List.getElem?_eq_some_iff.1 hs).1 hs hp hf hlt
      omega
    · exact hle
  · rcases Int.lt_or_le 0 p with hlt | hle
    · exfalso
      rcases I.src with rfl | ⟨k, t, q, hk, e1, e2, e3, e4, rfl⟩
      · have os := o.ss s (List.mem_of_getElem? hs)
        have := os.no; have := os.so
        simp only at hm
        omega
      · have := h.no k i t s q p e1 hs e2 hp e3 hf e4 hlt
        have x1 : s.no * t.so = t.so * s.no := Int.mul_comm _ _
        have x2 : s.so * t.no = t.no * s.so := Int.mul_comm _ _
        simp only at hm
        omega
    · exact hle
end Go.Proofs.Ytmpjpjfkbmlmfaa

open Go.Vm
namespace Go.Vm
theorem Hp.set_set (h : Hp) (i : Id) (b c : Blk) : (h.set i b).set i c = h.set i c := by
  cases i with
  | out i =>
    obtain ⟨o, l⟩ := h
    simp only [Hp.set]
    congr 1
    funext j
    split <;> rfl
  | loc k => simp [Hp.set]
theorem VMem.st2 {P : Program} {t : TypeId} {i : Id} {off : Nat} {v v1 v2 : V} {ti : TI} {h : Hp} {b b1 b2 : Blk} {K : V → Hp → Prop} (hTt : tiOf P t = some ti) (hp : v.parts = some [v1, v2]) (hl : ti.size = 2) (hb : h.get i = some b) (hw1 : b.wr1 off v1 = some b1) (hw2 : b1.wr1 (off + 1) v2 = some b2) (hK : K .undef (h.set i b2)) :
    VMem P (opStore t) [.ptr i off, v] h K := by
  refine VMem.intro (does_store (cs := [v1, v2]) (tiOf_ok P) hTt hp (by simp [hl]) ?_) hK
  have hn : h.get i ≠ none := by rw [hb]; simp
  have h2 : (h.set i b1).get i = some b1 := (Hp.get_set h i _ _ hn).trans (if_pos rfl)
  simp only [Hp.wrN, Hp.wr1, hb, hw1, h2, hw2, Hp.set_set]
end Go.Vm
namespace Go.Proofs.Ytmpjpjfkbmlmfaa
set_option maxRecDepth 20000
set_option maxHeartbeats 4000000

structure PJ (o : Vm.Id → Option Blk) (a : Spn) (g : Hp) : Prop where
  o : g.outer = o
  b0 : g.get (.loc 0) = some (.flat true [DI a.lo, DI a.hi])
  b1 : g.get (.loc 1) = some .mark
theorem outer_fix1 {o : Vm.Id → Option Blk} {iy i1 : Vm.Id} {b0 b b1 : Blk} (h : o iy = some b) (n1 : iy ≠ i1) : outW (outW (outW o iy b0) i1 b1) iy b = outW o i1 b1 := by
  funext j
  unfold outW
  by_cases e : j = iy
  · subst e; rw [if_pos rfl, if_neg n1, h]
  · rw [if_neg e, if_neg e]
theorem PrI.bd {l : Lnd} {x : Exc} {k : Nat} {a : Spn} (h : PrI l x k a) : (0 ≤ a.lo ∧ a.lo ≤ 4000) ∧ 0 ≤ a.hi ∧ a.hi ≤ 4000 := by
  have := h.lo; have := h.hi; omega
theorem vc_Price_no (l : Lnd) (x : Exc) (h : Hp) (hn : l.ss.length ≤ 4000000) (hv : l.vs.length ≤ 4000000) (hp : x.ps.length ≤ 4000000) (h0 : askE l x ≠ 0) : VC Try.prog 33 [vL l, vX x] h (.tuple [I 0, I 0, I (askE l x)]) h := by
  have c := fun h => vc_Best_no l x h hn hv hp h0
  refine VC.body Try.func33 rfl Try.ntmps33 Try.call33 (h.grows_refl) rfl ?_; conv => whnf
  repeat' (first | ((first | refine zs1 ?_ | refine zs2 ?_ | refine zs3 ?_ | refine zs4 ?_ | refine zs5 ?_ | refine zs6 [] ?_); conv => whnf) | ((first | apply zi1 | apply zi2 | apply zi3 | apply zi4 | apply zi5) <;> intro _ <;> conv => whnf) | (refine VCall.intro (c _) ?_; conv => whnf))
  all_goals first | exact VOut.same rfl | (exfalso; omega)
theorem vc_Price_bad (l : Lnd) (x : Exc) (h : Hp) (o : Ok l) (ox : XOk l x) (hb : (alB l x && (wst l x).isNone) = false) : VC Try.prog 33 [vL l, vX x] h (.tuple [I 0, I 0, I 9]) h := by
  have c := fun h => vc_Best_ok l x h o ox
  rw [hb] at c
  refine VC.body Try.func33 rfl Try.ntmps33 Try.call33 (h.grows_refl) rfl ?_; conv => whnf
  repeat' (first | ((first | refine zs1 ?_ | refine zs2 ?_ | refine zs3 ?_ | refine zs4 ?_ | refine zs5 ?_ | refine zs6 [] ?_); conv => whnf) | ((first | apply zi1 | apply zi2 | apply zi3 | apply zi4 | apply zi5) <;> intro _ <;> conv => whnf) | (refine VCall.intro (c _) ?_; conv => whnf))
  all_goals first | exact VOut.same rfl | (rename_i hz; exact absurd rfl hz)
theorem vc_Price_ok (l : Lnd) (x : Exc) (h : Hp) (o : Ok l) (ox : XOk l x) (hb : (alB l x && (wst l x).isNone) = true) : VC Try.prog 33 [vL l, vX x] h (.tuple [I (prX l x).hi, I (prX l x).lo, I 0]) h := by
  have c := fun h => vc_Best_ok l x h o ox
  rw [hb] at c
  have hn := o.n
  have hl := ox.len
  have hw := ox.w
  obtain ⟨R, hR⟩ : ∃ R, R = prX l x := ⟨_, rfl⟩
  rw [← hR]
  have hR0 : R = prGo x.w ⟨1, 1001⟩ (l.ss.drop 0) (x.ps.drop 0) := hR
  have hI0 : PrI l x 0 ⟨1, 1001⟩ := ⟨by decide, by decide, .inl rfl, fun i s p h => by omega⟩
  clear hR
  refine VC.body Try.func33 rfl Try.ntmps33 Try.call33 (h.grows_refl) rfl ?_; conv => whnf
  repeat' (first | ((first | refine zs1 ?_ | refine zs2 ?_ | refine zs3 ?_ | refine zs4 ?_ | refine zs5 ?_); conv => whnf) | ((first | apply zi1 | apply zi2 | apply zi3 | apply zi4 | apply zi5) <;> intro _ <;> conv => whnf) | (refine VCall.intro (c _) ?_; conv => whnf))
  refine VCall.intro (VC.give (args' := [.fp (encN l)]) (loc' := [.flat true (encN l), .flat true (encX x), .flat true [DI 1, DI 1001], .dead]) [(3, encN l)] [] (OutOk.lift _) zb zf (by exact FmAll.nil) rfl zv (vc_free l _)) ?_
  conv => whnf
  repeat (first | ((first | refine zs1 ?_ | refine zs2 ?_ | refine zs3 ?_ | refine zs4 ?_ | refine zs5 ?_ | refine zs6 [] ?_); conv => whnf))
  refine VCode.tell [(3, .fp (encX x)), (8, .ptr (.loc 0) 0), (29, vFree l)] [.flat true [DI 1, DI 1001]] (marks' := []) ?_ ?_
  · conv => whnf
    refine Retell.turn ⟨[2], 4, [(1, encX x)], []⟩ (TurnOk.mk' _ _ [(1, encX x)] [] (OutOk.lift _) rfl (by decide) zb zf trivial rfl) zv zm
  · conv => whnf
    refine VCode.iterN l.ss.length (frY l) (fun k g => ∃ a, PJ h.lift a g ∧ R = prGo x.w a (l.ss.drop k) (x.ps.drop k) ∧ PrI l x k a) (fun _ _ => False) _ (.loc 2) rfl (iter_free l o) rfl rfl ⟨⟨1, 1001⟩, ⟨rfl, rfl, rfl⟩, hR0, hI0⟩ ?_ ?_ ?_ ?_
    · rintro k g hk hy ⟨a, hJ, hRk, hI⟩
      have hs : l.ss[k]? = some l.ss[k] := List.getElem?_eq_getElem hk
      have hp : x.ps[k]? = some x.ps[k] := List.getElem?_eq_getElem (by omega)
      rw [frY_eq hs] at hy
      rw [prGo_at hs hp] at hRk
      have hI2 := hI.step o hs hp
      refine ⟨_, ?_, hRk, hI2⟩
      cases hf : isFree l.ss[k]
      · unfold prN; rw [hf, Bool.false_and, cond_false]; exact hJ
      · rw [hf] at hy; cases hy
    · rintro k g vs hk hy ⟨a, hJ, hRk, hI⟩ hlp
      have hs : l.ss[k]? = some l.ss[k] := List.getElem?_eq_getElem hk
      have hp : x.ps[k]? = some x.ps[k] := List.getElem?_eq_getElem (by omega)
      have q1 := o.ss _ (List.getElem_mem (by omega : k < l.ss.length))
      have hI2 := hI.step o hs hp
      have hbd := hI.bd
      rw [frY_eq hs] at hy
      rw [prGo_at hs hp] at hRk
      generalize l.ss[k] = s at hs hy hRk q1 hI2
      generalize x.ps[k] = p at hp hRk hI2
      have q3 := q1.no
      have q4 := q1.so
      have ca := fun h => vc_ahead s.no s.so a.lo a.hi h (by omega) (by omega) hbd.1 hbd.2
      cases hf : isFree s
      · rw [hf] at hy; cases hy
      · rw [hf] at hy
        cases hy
        obtain ⟨j0, j1, j2⟩ := hJ
        have n0 : g.get (.loc 0) ≠ none := by rw [j1]; simp
        by_cases hc : p < x.w ∧ 0 < s.no * a.hi - s.so * a.lo
        · have hpr : prN a x.w s p = ⟨s.no, s.so⟩ := by unfold prN; rw [hf, decide_eq_true hc]; rfl
          rw [hpr] at hRk hI2
          refine Rnd.go hlp (g.set (.loc 0) (.flat true [DI s.no, DI s.so])) ((Hp.get_set g _ _ _ n0).trans ((if_neg (by decide)).trans hlp)) ?_ ⟨⟨s.no, s.so⟩, ⟨j0, (Hp.get_set g _ _ _ n0).trans (if_pos rfl), (Hp.get_set g _ _ _ n0).trans ((if_neg (by decide)).trans j2)⟩, hRk, hI2⟩
          refine VRound.vy' hlp rfl rfl rfl (g.grows_set _ _) fun l0 => ?_
          refine VRound.tell [(3, .fp (encX x)), (8, .ptr (.out (.loc 0)) 0), (30, I k), (31, aggT s)] ?_ ?_
          · conv => whnf
            refine Retell.turn ⟨[], 0, [], []⟩ (TurnOk.mk' _ _ [] [] (OutOk.lift _) rfl (by decide) zb trivial trivial rfl) zv zm
          · conv => whnf
            repeat (first | ((first | refine zs1 ?_ | refine zs2 ?_ | refine zs3 ?_ | refine zs4 ?_ | refine zs5 ?_ | refine zs6 [] ?_); conv => whnf))
            refine VBegin.intro (get_out hlp _) rfl ?_
            conv => whnf
            repeat' (first | ((first | refine zs1 ?_ | refine zs2 ?_ | refine zs3 ?_ | refine zs4 ?_ | refine zs5 ?_); conv => whnf) | ((first | apply zi1 | apply zi2 | apply zi3 | apply zi4 | apply zi5) <;> intro _ <;> conv => whnf) | (refine VCall.intro (vc_worth s _) ?_; conv => whnf))
            refine VDraw.go [] (by kernel_rfl) (by kernel_rfl) ?_
            conv => whnf
            repeat' (first | ((first | refine zs1 ?_ | refine zs2 ?_ | refine zs3 ?_ | refine zs4 ?_ | refine zs5 ?_); conv => whnf) | ((first | apply zi1 | apply zi2 | apply zi3 | apply zi4 | apply zi5) <;> intro _ <;> conv => whnf) | (refine VAny.ix encI_len k rfl rfl hp ?_; conv => whnf) | (refine VLd.recd (enc := encS) (l := [a]) encS_len 0 rfl rfl rfl (get_outNe (by decide) (get_out j1 _)) rfl rfl ?_; conv => whnf) | (refine VCall.intro (ca _) ?_; conv => whnf) | (refine VMem.st2 rfl rfl rfl (get_outNe (by decide) (get_out j1 _)) rfl rfl ?_; conv => whnf))
            all_goals try (exfalso; omega)
            refine RFin.on (get_outNe (by decide) (outW_get _ _ _ _)) (VOut.liftS ?_ (g.grows_set _ _))
            rw [lift_set n0]
            exact outer_fix1 (get_out hlp []) (by decide)
        · have hpr : prN a x.w s p = a := by unfold prN; rw [hf, decide_eq_false hc]; rfl
          rw [hpr] at hRk hI2
          left
          refine ⟨g, VRound.vy' hlp rfl rfl rfl g.grows_refl fun l0 => ?_, ⟨a, ⟨j0, j1, j2⟩, hRk, hI2⟩, hlp⟩
          refine VRound.tell [(3, .fp (encX x)), (8, .ptr (.out (.loc 0)) 0), (30, I k), (31, aggT s)] ?_ ?_
          · conv => whnf
            refine Retell.turn ⟨[], 0, [], []⟩ (TurnOk.mk' _ _ [] [] (OutOk.lift _) rfl (by decide) zb trivial trivial rfl) zv zm
          · conv => whnf
            repeat (first | ((first | refine zs1 ?_ | refine zs2 ?_ | refine zs3 ?_ | refine zs4 ?_ | refine zs5 ?_ | refine zs6 [] ?_); conv => whnf))
            refine VBegin.intro (get_out hlp _) rfl ?_
            conv => whnf
            repeat' (first | ((first | refine zs1 ?_ | refine zs2 ?_ | refine zs3 ?_ | refine zs4 ?_ | refine zs5 ?_); conv => whnf) | ((first | apply zi1 | apply zi2 | apply zi3 | apply zi4 | apply zi5) <;> intro _ <;> conv => whnf) | (refine VCall.intro (vc_worth s _) ?_; conv => whnf))
            refine VDraw.go [] (by kernel_rfl) (by kernel_rfl) ?_
            conv => whnf
            repeat' (first | ((first | refine zs1 ?_ | refine zs2 ?_ | refine zs3 ?_ | refine zs4 ?_ | refine zs5 ?_); conv => whnf) | ((first | apply zi1 | apply zi2 | apply zi3 | apply zi4 | apply zi5) <;> intro _ <;> conv => whnf) | (refine VAny.ix encI_len k rfl rfl hp ?_; conv => whnf) | (refine VLd.recd (enc := encS) (l := [a]) encS_len 0 rfl rfl rfl (get_outNe (by decide) (get_out j1 _)) rfl rfl ?_; conv => whnf) | (refine VCall.intro (ca _) ?_; conv => whnf))
            all_goals try (exfalso; omega)
            all_goals exact RFin.on (outW_get _ _ _ _) (VOut.back (get_out hlp []) rfl)
    · rintro g ⟨a, ⟨j0, j1, j2⟩, hRk, hI⟩ hlp
      rw [prGo_end] at hRk
      subst hRk
      obtain ⟨go, gl⟩ := g
      dsimp only at j0
      subst j0
      have j1 : gl[0]? = some _ := j1
      have j2 : gl[1]? = some _ := j2
      have l0 := (List.getElem?_eq_some_iff.1 j1).1
      have key : ∀ (x : Nat) (A : Blk), x ≠ 2 → (gl.set 2 A)[x]? = gl[x]? := fun x A hx => List.getElem?_set_ne (Ne.symm hx)
      refine Told.mk [(8, .ptr (.loc 0) 0)] [.flat true [DI R.lo, DI R.hi]] (marks' := []) ?_ ?_
      · conv => whnf
        refine Retell.turn ⟨[0], gl.length, [], []⟩ (TurnOk.mk' _ _ [] [] (OutOk.lift _) (Nat.ble_eq_true_of_le (by simp)) (by decide)
          (BTos.flat (blt_of l0) ((key 0 _ (by omega)).trans j1) rfl BTos.nil) trivial trivial rfl) zv
          (MkTo.drop (show 1 ∉ ([0] : List Nat) by decide) ((key 1 _ (by omega)).trans j2) MkTo.nil)
      · conv => whnf
        repeat' (first | ((first | refine zs1 ?_ | refine zs2 ?_ | refine zs3 ?_ | refine zs4 ?_ | refine zs5 ?_ | refine zs6 [] ?_); conv => whnf) | ((first | apply zi1 | apply zi2 | apply zi3 | apply zi4 | apply zi5) <;> intro _ <;> conv => whnf))
        exact VOut.same rfl
    · rintro e g _ hF
      exact hF.elim
end Go.Proofs.Ytmpjpjfkbmlmfaa

open Go.Vm
namespace Go.Proofs.Ytmpjpjfkbmlmfaa
set_option maxRecDepth 20000
set_option maxHeartbeats 4000000

theorem wsV_al {l : Lnd} {x : Exc} (h : (alB l x && (wst l x).isNone) = true) : wsV l x = .tuple [I 0, I 0, I 7] := by
  rw [Bool.and_eq_true, Option.isNone_iff_eq_none] at h
  unfold wsV
  rw [h.1, h.2]; rfl
theorem vc_BarterPrices (l : Lnd) (x : Exc) (a b : Int) (h : Hp) : VC Try.prog 49 [vL l, vX x, I a, I b] h (B true) h := by
  have c0 := fun h => vc_long l x h
  have cA := vc_awake
  by_cases hl : 20 < l.ss.length ∨ 11 < l.vs.length ∨ 20 < x.ps.length
  · rw [decide_eq_true hl] at c0
    refine VC.body Try.func49 rfl Try.ntmps49 Try.call49 (h.grows_refl) rfl ?_; conv => whnf
    repeat' (first | ((first | refine zs1 ?_ | refine zs2 ?_ | refine zs3 ?_ | refine zs4 ?_ | refine zs5 ?_ | refine zs6 [] ?_); conv => whnf) | ((first | apply zi1 | apply zi2 | apply zi3 | apply zi4 | apply zi5) <;> intro _ <;> conv => whnf) | (refine VCall.intro (c0 _) ?_; conv => whnf) | (refine VCall.intro (cA _) ?_; conv => whnf))
    exact VOut.same rfl
  · rw [decide_eq_false hl] at c0
    have hn : l.ss.length ≤ 4000000 := by omega
    have hv : l.vs.length ≤ 4000000 := by omega
    have hp : x.ps.length ≤ 4000000 := by omega
    have c1 := fun h => vc_CloneLand l h hn hv
    have c2 := fun h => vc_Land l h hn hv
    have c3 := fun h => vc_cloneI x.ps h hp
    have c4 := fun h => vc_exchange x h hp
    have e1 := fun h => vc_equal l h hn hv
    have e2 := fun h => eqI x.ps h hp
    have h1 := fun h => vc_Holds l x a b h hn hv hp
    have h2 := fun h => vc_rHolds l x a b h hn hv hp
    generalize hlB l x a b = HB at h1 h2
    generalize hlE l x a b = HE at h1 h2
    by_cases ha : askE l x = 0
    · obtain ⟨o, ox⟩ := ask_ok.1 ha
      have f1 := fun h => vc_Best_ok l x h o ox
      have f2 := fun h => vc_rBest_ok l x h o ox
      have f3 := fun h => vc_Waste_ok l x h o ox
      have f4 := fun h => vc_rWaste_ok l x h o ox
      cases hb : (alB l x && (wst l x).isNone)
      · have f5 := fun h => vc_Price_bad l x h o ox hb
        rw [hb] at f1 f2
        obtain ⟨W1, W2, W3, hW⟩ : ∃ p q r : Int, wsV l x = .tuple [I p, I q, I r] := by
          unfold wsV
          cases alB l x
          · exact ⟨_, _, _, rfl⟩
          · rw [cond_true]
            cases wst l x with
            | none => exact ⟨_, _, _, rfl⟩
            | some w => exact ⟨_, _, _, rfl⟩
        rw [hW] at f3 f4
        refine VC.body Try.func49 rfl Try.ntmps49 Try.call49 (h.grows_refl) rfl ?_; conv => whnf
        repeat' (first | ((first | refine zs1 ?_ | refine zs2 ?_ | refine zs3 ?_ | refine zs4 ?_ | refine zs5 ?_); conv => whnf) | ((first | apply zi1 | apply zi2 | apply zi3 | apply zi4 | apply zi5) <;> intro _ <;> conv => whnf) | (refine VCall.intro (c0 _) ?_; conv => whnf))
        refine VDraw.go [(1, 3), (1, 5), (3, 6), (1, 8), (6, 8), (3, 9), (1, 10), (6, 10), (9, 10), (3, 11), (3, 16)] (by kernel_rfl) (by kernel_rfl) ?_
        conv => whnf
        repeat' (first | ((first | refine zs1 ?_ | refine zs2 ?_ | refine zs3 ?_ | refine zs4 ?_ | refine zs5 ?_); conv => whnf) | ((first | apply zi1 | apply zi2 | apply zi3 | apply zi4 | apply zi5) <;> intro _ <;> conv => whnf) | (refine VCall.intro (c1 _) ?_; conv => whnf) | (refine VCall.intro (c2 _) ?_; conv => whnf) | (refine VCall.intro (c3 _) ?_; conv => whnf) | (refine VCall.intro (c4 _) ?_; conv => whnf))
        repeat' (first | ((first | refine zs1 ?_ | refine zs2 ?_ | refine zs3 ?_ | refine zs4 ?_ | refine zs5 ?_ | refine zs6 [] ?_); conv => whnf) | ((first | apply zi1 | apply zi2 | apply zi3 | apply zi4 | apply zi5) <;> intro _ <;> conv => whnf) | (refine VCall.intro (f1 _) ?_; conv => whnf) | (refine VCall.intro (f2 _) ?_; conv => whnf) | (refine VCall.intro (f3 _) ?_; conv => whnf) | (refine VCall.intro (f4 _) ?_; conv => whnf) | (refine VCall.intro (f5 _) ?_; conv => whnf) | (refine VCall.intro (h1 _) ?_; conv => whnf) | (refine VCall.intro (h2 _) ?_; conv => whnf) | (refine VCall.intro (e1 _) ?_; conv => whnf) | (refine VCall.intro (e2 _) ?_; conv => whnf) | (refine VCall.intro (cA _) ?_; conv => whnf))
        all_goals first | exact VOut.same rfl | (rename_i hz; exact absurd rfl hz)
      · have f5 := fun h => vc_Price_ok l x h o ox hb
        obtain ⟨pa, pb, PR⟩ := ((best_iff ox).1 hb).price o
        have g1 := fun h => vc_rHolds l x (prX l x).hi (prX l x).lo h hn hv hp
        have e34 : hlE l x (prX l x).hi (prX l x).lo = 0 := hlE_ok.2 ⟨ha, by omega, by omega⟩
        rw [hlB_eq _ _ _ _ e34, (prc_iff ox).2 PR, e34] at g1
        rw [wsV_al hb] at f3 f4
        rw [hb] at f1 f2
        generalize (prX l x).hi = p at *
        generalize (prX l x).lo = q at *
        refine VC.body Try.func49 rfl Try.ntmps49 Try.call49 (h.grows_refl) rfl ?_; conv => whnf
        repeat' (first | ((first | refine zs1 ?_ | refine zs2 ?_ | refine zs3 ?_ | refine zs4 ?_ | refine zs5 ?_); conv => whnf) | ((first | apply zi1 | apply zi2 | apply zi3 | apply zi4 | apply zi5) <;> intro _ <;> conv => whnf) | (refine VCall.intro (c0 _) ?_; conv => whnf))
        refine VDraw.go [(1, 3), (1, 5), (3, 6), (1, 8), (6, 8), (3, 9), (1, 10), (6, 10), (9, 10), (3, 11), (3, 16)] (by kernel_rfl) (by kernel_rfl) ?_
        conv => whnf
        repeat' (first | ((first | refine zs1 ?_ | refine zs2 ?_ | refine zs3 ?_ | refine zs4 ?_ | refine zs5 ?_); conv => whnf) | ((first | apply zi1 | apply zi2 | apply zi3 | apply zi4 | apply zi5) <;> intro _ <;> conv => whnf) | (refine VCall.intro (c1 _) ?_; conv => whnf) | (refine VCall.intro (c2 _) ?_; conv => whnf) | (refine VCall.intro (c3 _) ?_; conv => whnf) | (refine VCall.intro (c4 _) ?_; conv => whnf))
        repeat' (first | ((first | refine zs1 ?_ | refine zs2 ?_ | refine zs3 ?_ | refine zs4 ?_ | refine zs5 ?_ | refine zs6 [] ?_); conv => whnf) | ((first | apply zi1 | apply zi2 | apply zi3 | apply zi4 | apply zi5) <;> intro _ <;> conv => whnf) | (refine VCall.intro (f1 _) ?_; conv => whnf) | (refine VCall.intro (f2 _) ?_; conv => whnf) | (refine VCall.intro (f3 _) ?_; conv => whnf) | (refine VCall.intro (f4 _) ?_; conv => whnf) | (refine VCall.intro (f5 _) ?_; conv => whnf) | (refine VCall.intro (g1 _) ?_; conv => whnf) | (refine VCall.intro (h1 _) ?_; conv => whnf) | (refine VCall.intro (h2 _) ?_; conv => whnf) | (refine VCall.intro (e1 _) ?_; conv => whnf) | (refine VCall.intro (e2 _) ?_; conv => whnf) | (refine VCall.intro (cA _) ?_; conv => whnf))
        all_goals first | exact VOut.same rfl | (rename_i hz; exact absurd rfl hz)
    · have f1 := fun h => vc_Best_no l x h hn hv hp ha
      have f2 := fun h => vc_rBest_no l x h hn hv hp ha
      have f3 := fun h => vc_Waste_no l x h hn hv hp ha
      have f4 := fun h => vc_rWaste_no l x h hn hv hp ha
      have f5 := fun h => vc_Price_no l x h hn hv hp ha
      generalize askE l x = E at *
      refine VC.body Try.func49 rfl Try.ntmps49 Try.call49 (h.grows_refl) rfl ?_; conv => whnf
      repeat' (first | ((first | refine zs1 ?_ | refine zs2 ?_ | refine zs3 ?_ | refine zs4 ?_ | refine zs5 ?_); conv => whnf) | ((first | apply zi1 | apply zi2 | apply zi3 | apply zi4 | apply zi5) <;> intro _ <;> conv => whnf) | (refine VCall.intro (c0 _) ?_; conv => whnf))
      refine VDraw.go [(1, 3), (1, 5), (3, 6), (1, 8), (6, 8), (3, 9), (1, 10), (6, 10), (9, 10), (3, 11), (3, 16)] (by kernel_rfl) (by kernel_rfl) ?_
      conv => whnf
      repeat' (first | ((first | refine zs1 ?_ | refine zs2 ?_ | refine zs3 ?_ | refine zs4 ?_ | refine zs5 ?_); conv => whnf) | ((first | apply zi1 | apply zi2 | apply zi3 | apply zi4 | apply zi5) <;> intro _ <;> conv => whnf) | (refine VCall.intro (c1 _) ?_; conv => whnf) | (refine VCall.intro (c2 _) ?_; conv => whnf) | (refine VCall.intro (c3 _) ?_; conv => whnf) | (refine VCall.intro (c4 _) ?_; conv => whnf))
      repeat' (first | ((first | refine zs1 ?_ | refine zs2 ?_ | refine zs3 ?_ | refine zs4 ?_ | refine zs5 ?_ | refine zs6 [] ?_); conv => whnf) | ((first | apply zi1 | apply zi2 | apply zi3 | apply zi4 | apply zi5) <;> intro _ <;> conv => whnf) | (refine VCall.intro (f1 _) ?_; conv => whnf) | (refine VCall.intro (f2 _) ?_; conv => whnf) | (refine VCall.intro (f3 _) ?_; conv => whnf) | (refine VCall.intro (f4 _) ?_; conv => whnf) | (refine VCall.intro (f5 _) ?_; conv => whnf) | (refine VCall.intro (h1 _) ?_; conv => whnf) | (refine VCall.intro (h2 _) ?_; conv => whnf) | (refine VCall.intro (e1 _) ?_; conv => whnf) | (refine VCall.intro (e2 _) ?_; conv => whnf) | (refine VCall.intro (cA _) ?_; conv => whnf))
      all_goals first | exact VOut.same rfl | (rename_i hz; exact absurd rfl hz) | (exfalso; omega)
end Go.Proofs.Ytmpjpjfkbmlmfaa

open Go.Vm
namespace Go.Proofs.Ytmpjpjfkbmlmfaa
set_option maxRecDepth 20000
set_option maxHeartbeats 4000000
section
variable {outer : Vm.Id → Option Blk} {loc : List Blk} {A B C : List D} {ss : List Str} {vs ps : List Int} {p q r n1 n2 n3 : Nat} {w : Int}
theorem own8 (hA : loc[p]? = some (.flat true A)) (hB : loc[q]? = some (.flat true B)) (hC : loc[r]? = some (.flat true C)) (eA : A = ss.flatMap encT) (eB : B = vs.flatMap encI) (eC : C = ps.flatMap encI) (l1 : ss.length = n1) (l2 : vs.length = n2) (l3 : ps.length = n3) (d1 : Nat.beq p q = false) (d2 : Nat.beq p r = false) (d3 : Nat.beq q r = false) :
    VC Try.prog 8 [.agg [.gl (.loc p) 4 n1, .gl (.loc q) 1 n2], .agg [I w, .gl (.loc r) 1 n3]] ⟨outer, loc⟩ (.s (.bool true)) ⟨outer, loc⟩ := by
  subst eA eB eC l1 l2 l3
  have f1 : assoc [(p, ss.flatMap encT), (q, vs.flatMap encI), (r, ps.flatMap encI)] p = some (ss.flatMap encT) := by simp [assoc]
  have f2 : assoc [(p, ss.flatMap encT), (q, vs.flatMap encI), (r, ps.flatMap encI)] q = some (vs.flatMap encI) := by simp [assoc, d1]
  have f3 : assoc [(p, ss.flatMap encT), (q, vs.flatMap encI), (r, ps.flatMap encI)] r = some (ps.flatMap encI) := by simp [assoc, d2, d3]
  exact VC.lend1 [dN ⟨ss, vs⟩, dX ⟨w, ps⟩] [(p, ss.flatMap encT), (q, vs.flatMap encI), (r, ps.flatMap encI)] [] (FzAll.flat hA (FzAll.flat hB (FzAll.flat hC FzAll.nil))) trivial
    (VTos.cons (VTo.agg (VTos.cons (VTo.fsGl f1 (flat_len encT_len _)) (VTos.cons (VTo.fsGl f2 (flat_len encI_len _)) VTos.nil))) (VTos.cons (VTo.agg (VTos.cons (VTo.sc rfl) (VTos.cons (VTo.fsGl f3 (flat_len encI_len _)) VTos.nil))) VTos.nil)) (vc_BarterExchanges ⟨ss, vs⟩ ⟨w, ps⟩ Hp.bare)
theorem own49 {a b : Int} (hA : loc[p]? = some (.flat true A)) (hB : loc[q]? = some (.flat true B)) (hC : loc[r]? = some (.flat true C)) (eA : A = ss.flatMap encT) (eB : B = vs.flatMap encI) (eC : C = ps.flatMap encI) (l1 : ss.length = n1) (l2 : vs.length = n2) (l3 : ps.length = n3) (d1 : Nat.beq p q = false) (d2 : Nat.beq p r = false) (d3 : Nat.beq q r = false) :
    VC Try.prog 49 [.agg [.gl (.loc p) 4 n1, .gl (.loc q) 1 n2], .agg [I w, .gl (.loc r) 1 n3], I a, I b] ⟨outer, loc⟩ (.s (.bool true)) ⟨outer, loc⟩ := by
  subst eA eB eC l1 l2 l3
  have f1 : assoc [(p, ss.flatMap encT), (q, vs.flatMap encI), (r, ps.flatMap encI)] p = some (ss.flatMap encT) := by simp [assoc]
  have f2 : assoc [(p, ss.flatMap encT), (q, vs.flatMap encI), (r, ps.flatMap encI)] q = some (vs.flatMap encI) := by simp [assoc, d1]
  have f3 : assoc [(p, ss.flatMap encT), (q, vs.flatMap encI), (r, ps.flatMap encI)] r = some (ps.flatMap encI) := by simp [assoc, d2, d3]
  exact VC.lend1 [dN ⟨ss, vs⟩, dX ⟨w, ps⟩, DI a, DI b] [(p, ss.flatMap encT), (q, vs.flatMap encI), (r, ps.flatMap encI)] [] (FzAll.flat hA (FzAll.flat hB (FzAll.flat hC FzAll.nil))) trivial
    (VTos.cons (VTo.agg (VTos.cons (VTo.fsGl f1 (flat_len encT_len _)) (VTos.cons (VTo.fsGl f2 (flat_len encI_len _)) VTos.nil))) (VTos.cons (VTo.agg (VTos.cons (VTo.sc rfl) (VTos.cons (VTo.fsGl f3 (flat_len encI_len _)) VTos.nil))) (VTos.cons (VTo.sc rfl) (VTos.cons (VTo.sc rfl) VTos.nil)))) (vc_BarterPrices ⟨ss, vs⟩ ⟨w, ps⟩ a b Hp.bare)
theorem own3 {a : Int} (hA : loc[p]? = some (.flat true A)) (hB : loc[q]? = some (.flat true B)) (eA : A = ss.flatMap encT) (eB : B = vs.flatMap encI) (l1 : ss.length = n1) (l2 : vs.length = n2) (d1 : Nat.beq p q = false) :
    VC Try.prog 3 [.agg [.gl (.loc p) 4 n1, .gl (.loc q) 1 n2], I a] ⟨outer, loc⟩ (.s (.bool true)) ⟨outer, loc⟩ := by
  subst eA eB l1 l2
  have f1 : assoc [(p, ss.flatMap encT), (q, vs.flatMap encI)] p = some (ss.flatMap encT) := by simp [assoc]
  have f2 : assoc [(p, ss.flatMap encT), (q, vs.flatMap encI)] q = some (vs.flatMap encI) := by simp [assoc, d1]
  exact VC.lend1 [dN ⟨ss, vs⟩, DI a] [(p, ss.flatMap encT), (q, vs.flatMap encI)] [] (FzAll.flat hA (FzAll.flat hB FzAll.nil)) trivial
    (VTos.cons (VTo.agg (VTos.cons (VTo.fsGl f1 (flat_len encT_len _)) (VTos.cons (VTo.fsGl f2 (flat_len encI_len _)) VTos.nil))) (VTos.cons (VTo.sc rfl) VTos.nil)) (vc_BarterOrders ⟨ss, vs⟩ a Hp.bare)
theorem own38 {e : Int} (hA : loc[p]? = some (.flat true A)) (hB : loc[q]? = some (.flat true B)) (eA : A = ss.flatMap encT) (eB : B = vs.flatMap encI) (l1 : ss.length = n1) (l2 : vs.length = n2) (d1 : Nat.beq p q = false) (h1 : ss.length ≤ 4000000) (h2 : vs.length ≤ 4000000) (he : chk ⟨ss, vs⟩ = e) :
    VC Try.prog 38 [.agg [.gl (.loc p) 4 n1, .gl (.loc q) 1 n2]] ⟨outer, loc⟩ (.s (.int .i64 e)) ⟨outer, loc⟩ := by
  subst eA eB l1 l2 he
  have f1 : assoc [(p, ss.flatMap encT), (q, vs.flatMap encI)] p = some (ss.flatMap encT) := by simp [assoc]
  have f2 : assoc [(p, ss.flatMap encT), (q, vs.flatMap encI)] q = some (vs.flatMap encI) := by simp [assoc, d1]
  exact VC.lend1 [dN ⟨ss, vs⟩] [(p, ss.flatMap encT), (q, vs.flatMap encI)] [] (FzAll.flat hA (FzAll.flat hB FzAll.nil)) trivial
    (VTos.cons (VTo.agg (VTos.cons (VTo.fsGl f1 (flat_len encT_len _)) (VTos.cons (VTo.fsGl f2 (flat_len encI_len _)) VTos.nil))) VTos.nil) (vc_check ⟨ss, vs⟩ Hp.bare h1 h2)
theorem nil8 (hA : loc[p]? = some (.flat true A)) (hC : loc[r]? = some (.flat true C)) (eA : A = ss.flatMap encT) (eC : C = ps.flatMap encI) (l1 : ss.length = n1) (l3 : ps.length = n3) (d2 : Nat.beq p r = false) :
    VC Try.prog 8 [.agg [.gl (.loc p) 4 n1, .nilslice], .agg [I w, .gl (.loc r) 1 n3]] ⟨outer, loc⟩ (.s (.bool true)) ⟨outer, loc⟩ := by
  subst eA eC l1 l3
  have f1 : assoc [(p, ss.flatMap encT), (r, ps.flatMap encI)] p = some (ss.flatMap encT) := by simp [assoc]
  have f3 : assoc [(p, ss.flatMap encT), (r, ps.flatMap encI)] r = some (ps.flatMap encI) := by simp [assoc, d2]
  exact VC.lend1 [dN ⟨ss, []⟩, dX ⟨w, ps⟩] [(p, ss.flatMap encT), (r, ps.flatMap encI)] [] (FzAll.flat hA (FzAll.flat hC FzAll.nil)) trivial
    (VTos.cons (VTo.agg (VTos.cons (VTo.fsGl f1 (flat_len encT_len _)) (VTos.cons (VTo.fsNil (by decide)) VTos.nil))) (VTos.cons (VTo.agg (VTos.cons (VTo.sc rfl) (VTos.cons (VTo.fsGl f3 (flat_len encI_len _)) VTos.nil))) VTos.nil)) (vc_BarterExchanges ⟨ss, []⟩ ⟨w, ps⟩ Hp.bare)
theorem nil49 {a b : Int} (hA : loc[p]? = some (.flat true A)) (hC : loc[r]? = some (.flat true C)) (eA : A = ss.flatMap encT) (eC : C = ps.flatMap encI) (l1 : ss.length = n1) (l3 : ps.length = n3) (d2 : Nat.beq p r = false) :
    VC Try.prog 49 [.agg [.gl (.loc p) 4 n1, .nilslice], .agg [I w, .gl (.loc r) 1 n3], I a, I b] ⟨outer, loc⟩ (.s (.bool true)) ⟨outer, loc⟩ := by
  subst eA eC l1 l3
  have f1 : assoc [(p, ss.flatMap encT), (r, ps.flatMap encI)] p = some (ss.flatMap encT) := by simp [assoc]
  have f3 : assoc [(p, ss.flatMap encT), (r, ps.flatMap encI)] r = some (ps.flatMap encI) := by simp [assoc, d2]
  exact VC.lend1 [dN ⟨ss, []⟩, dX ⟨w, ps⟩, DI a, DI b] [(p, ss.flatMap encT), (r, ps.flatMap encI)] [] (FzAll.flat hA (FzAll.flat hC FzAll.nil)) trivial
    (VTos.cons (VTo.agg (VTos.cons (VTo.fsGl f1 (flat_len encT_len _)) (VTos.cons (VTo.fsNil (by decide)) VTos.nil))) (VTos.cons (VTo.agg (VTos.cons (VTo.sc rfl) (VTos.cons (VTo.fsGl f3 (flat_len encI_len _)) VTos.nil))) (VTos.cons (VTo.sc rfl) (VTos.cons (VTo.sc rfl) VTos.nil)))) (vc_BarterPrices ⟨ss, []⟩ ⟨w, ps⟩ a b Hp.bare)
theorem nil3 {a : Int} (hA : loc[p]? = some (.flat true A)) (eA : A = ss.flatMap encT) (l1 : ss.length = n1) :
    VC Try.prog 3 [.agg [.gl (.loc p) 4 n1, .nilslice], I a] ⟨outer, loc⟩ (.s (.bool true)) ⟨outer, loc⟩ := by
  subst eA l1
  have f1 : assoc [(p, ss.flatMap encT)] p = some (ss.flatMap encT) := by simp [assoc]
  exact VC.lend1 [dN ⟨ss, []⟩, DI a] [(p, ss.flatMap encT)] [] (FzAll.flat hA FzAll.nil) trivial
    (VTos.cons (VTo.agg (VTos.cons (VTo.fsGl f1 (flat_len encT_len _)) (VTos.cons (VTo.fsNil (by decide)) VTos.nil))) (VTos.cons (VTo.sc rfl) VTos.nil)) (vc_BarterOrders ⟨ss, []⟩ a Hp.bare)
theorem nil38 {e : Int} (hA : loc[p]? = some (.flat true A)) (eA : A = ss.flatMap encT) (l1 : ss.length = n1) (h1 : ss.length ≤ 4000000) (he : chk ⟨ss, []⟩ = e) :
    VC Try.prog 38 [.agg [.gl (.loc p) 4 n1, .nilslice]] ⟨outer, loc⟩ (.s (.int .i64 e)) ⟨outer, loc⟩ := by
  subst eA l1 he
  have f1 : assoc [(p, ss.flatMap encT)] p = some (ss.flatMap encT) := by simp [assoc]
  exact VC.lend1 [dN ⟨ss, []⟩] [(p, ss.flatMap encT)] [] (FzAll.flat hA FzAll.nil) trivial
    (VTos.cons (VTo.agg (VTos.cons (VTo.fsGl f1 (flat_len encT_len _)) (VTos.cons (VTo.fsNil (by decide)) VTos.nil))) VTos.nil) (vc_check ⟨ss, []⟩ Hp.bare h1 (Nat.zero_le _))
theorem non8 : VC Try.prog 8 [.agg [.nilslice, .nilslice], .agg [I 0, .nilslice]] ⟨outer, loc⟩ (.s (.bool true)) ⟨outer, loc⟩ :=
  VC.lend1 [dN ⟨[], []⟩, dX ⟨0, []⟩] [] [] trivial trivial zv (vc_BarterExchanges ⟨[], []⟩ ⟨0, []⟩ Hp.bare)
theorem non49 : VC Try.prog 49 [.agg [.nilslice, .nilslice], .agg [I 0, .nilslice], I 0, I 0] ⟨outer, loc⟩ (.s (.bool true)) ⟨outer, loc⟩ :=
  VC.lend1 [dN ⟨[], []⟩, dX ⟨0, []⟩, DI 0, DI 0] [] [] trivial trivial zv (vc_BarterPrices ⟨[], []⟩ ⟨0, []⟩ 0 0 Hp.bare)
theorem non3 : VC Try.prog 3 [.agg [.nilslice, .nilslice], I 0] ⟨outer, loc⟩ (.s (.bool true)) ⟨outer, loc⟩ :=
  VC.lend1 [dN ⟨[], []⟩, DI 0] [] [] trivial trivial zv (vc_BarterOrders ⟨[], []⟩ 0 Hp.bare)
end
/-! Told from their cells. -/
def iOf : D → Int
  | .s (.int _ n) => n
  | _ => 0
def unI (l : List D) : List Int := l.map iOf
def unT : List D → List Str
  | a :: b :: c :: d :: r => ⟨iOf a, iOf b, iOf c, iOf d⟩ :: unT r
  | _ => []
section
variable {outer : Vm.Id → Option Blk} {loc : List Blk} {A B C : List D} {p q r n1 n2 n3 : Nat} {w : Int}
theorem own8u (hA : loc[p]? = some (.flat true A)) (hB : loc[q]? = some (.flat true B)) (hC : loc[r]? = some (.flat true C)) (eA : A = (unT A).flatMap encT) (eB : B = (unI B).flatMap encI) (eC : C = (unI C).flatMap encI) (l1 : (unT A).length = n1) (l2 : (unI B).length = n2) (l3 : (unI C).length = n3) (d1 : Nat.beq p q = false) (d2 : Nat.beq p r = false) (d3 : Nat.beq q r = false) :
    VC Try.prog 8 [.agg [.gl (.loc p) 4 n1, .gl (.loc q) 1 n2], .agg [I w, .gl (.loc r) 1 n3]] ⟨outer, loc⟩ (.s (.bool true)) ⟨outer, loc⟩ := own8 hA hB hC eA eB eC l1 l2 l3 d1 d2 d3
theorem own49u {a b : Int} (hA : loc[p]? = some (.flat true A)) (hB : loc[q]? = some (.flat true B)) (hC : loc[r]? = some (.flat true C)) (eA : A = (unT A).flatMap encT) (eB : B = (unI B).flatMap encI) (eC : C = (unI C).flatMap encI) (l1 : (unT A).length = n1) (l2 : (unI B).length = n2) (l3 : (unI C).length = n3) (d1 : Nat.beq p q = false) (d2 : Nat.beq p r = false) (d3 : Nat.beq q r = false) :
    VC Try.prog 49 [.agg [.gl (.loc p) 4 n1, .gl (.loc q) 1 n2], .agg [I w, .gl (.loc r) 1 n3], I a, I b] ⟨outer, loc⟩ (.s (.bool true)) ⟨outer, loc⟩ := own49 hA hB hC eA eB eC l1 l2 l3 d1 d2 d3
theorem own3u {a : Int} (hA : loc[p]? = some (.flat true A)) (hB : loc[q]? = some (.flat true B)) (eA : A = (unT A).flatMap encT) (eB : B = (unI B).flatMap encI) (l1 : (unT A).length = n1) (l2 : (unI B).length = n2) (d1 : Nat.beq p q = false) :
    VC Try.prog 3 [.agg [.gl (.loc p) 4 n1, .gl (.loc q) 1 n2], I a] ⟨outer, loc⟩ (.s (.bool true)) ⟨outer, loc⟩ := own3 hA hB eA eB l1 l2 d1
theorem nil8u (hA : loc[p]? = some (.flat true A)) (hC : loc[r]? = some (.flat true C)) (eA : A = (unT A).flatMap encT) (eC : C = (unI C).flatMap encI) (l1 : (unT A).length = n1) (l3 : (unI C).length = n3) (d2 : Nat.beq p r = false) :
    VC Try.prog 8 [.agg [.gl (.loc p) 4 n1, .nilslice], .agg [I w, .gl (.loc r) 1 n3]] ⟨outer, loc⟩ (.s (.bool true)) ⟨outer, loc⟩ := nil8 hA hC eA eC l1 l3 d2
theorem nil49u {a b : Int} (hA : loc[p]? = some (.flat true A)) (hC : loc[r]? = some (.flat true C)) (eA : A = (unT A).flatMap encT) (eC : C = (unI C).flatMap encI) (l1 : (unT A).length = n1) (l3 : (unI C).length = n3) (d2 : Nat.beq p r = false) :
    VC Try.prog 49 [.agg [.gl (.loc p) 4 n1, .nilslice], .agg [I w, .gl (.loc r) 1 n3], I a, I b] ⟨outer, loc⟩ (.s (.bool true)) ⟨outer, loc⟩ := nil49 hA hC eA eC l1 l3 d2
theorem nil3u {a : Int} (hA : loc[p]? = some (.flat true A)) (eA : A = (unT A).flatMap encT) (l1 : (unT A).length = n1) :
    VC Try.prog 3 [.agg [.gl (.loc p) 4 n1, .nilslice], I a] ⟨outer, loc⟩ (.s (.bool true)) ⟨outer, loc⟩ := nil3 hA eA l1
end
end Go.Proofs.Ytmpjpjfkbmlmfaa

open Go.Vm
namespace Go.Proofs.Ytmpjpjfkbmlmfaa
set_option maxRecDepth 100000
set_option maxHeartbeats 8000000

def smV : List Int := [-2, -1, 0, 1, 2, 3, 10, 20, 30, 40, 60, 61, 999, 1000, 1001, 1999, 2000, 2001, 9223372036854775807, -9223372036854775808]
theorem tmodb {a k : Int} (ha : 0 ≤ a) (hk : 0 < k) : 0 ≤ a.tmod k ∧ a.tmod k < k := by
  rw [Int.tmod_eq_emod_of_nonneg ha]
  exact ⟨Int.emod_nonneg _ (by omega), Int.emod_lt_of_pos _ hk⟩
theorem tdiv_bd {a k : Int} (ha : 0 ≤ a) (hk : 0 < k) : 0 ≤ a.tdiv k ∧ a.tdiv k ≤ a := by
  rw [Int.tdiv_eq_ediv_of_nonneg ha]
  exact ⟨Int.ediv_nonneg ha (by omega), Int.ediv_le_self _ ha⟩
def sC (i : Nat) : Str := ⟨(i : Int).tmod 2, 1000 - 40 * i, 1000 - (7 * (i : Int) * i).tmod 900, -1⟩
def ssC (n : Nat) : List Str := (List.range n).map sC
def vsC (n : Nat) : List Int := (List.range n).map fun i : Nat => (i : Int).tmod 2
def psC (n : Nat) : List Int := (List.range n).map fun i : Nat => 2000 - 100 * (i : Int)
theorem ssC_len (n : Nat) : (ssC n).length = n := by simp [ssC]
theorem vsC_len (n : Nat) : (vsC n).length = n := by simp [vsC]
theorem psC_len (n : Nat) : (psC n).length = n := by simp [psC]
theorem ssC_succ (n : Nat) : ssC (n + 1) = ssC n ++ [sC n] := by simp [ssC, List.range_succ]
theorem vsC_succ (n : Nat) : vsC (n + 1) = vsC n ++ [(n : Int).tmod 2] := by simp [vsC, List.range_succ]
theorem psC_succ (n : Nat) : psC (n + 1) = psC n ++ [2000 - 100 * (n : Int)] := by simp [psC, List.range_succ]
theorem chkC : ∀ n, n < 19 → (chk ⟨ssC n, vsC (min n 9)⟩ = 0 ↔ 0 < n ∧ n < 9) := by decide +kernel
theorem chkN : ∀ n, n < 19 → (chk ⟨ssC n, []⟩ = 0 ↔ 0 < n ∧ n < 17) := by decide +kernel
theorem vc_BarterSmall (h : Hp) : VC Try.prog 10 [] h (B true) h := by
  refine VC.bodyC 2 Try.func10 rfl Try.ntmps10 Try.call10 (h.grows_refl) rfl ?_; conv => whnf
  repeat' (first | ((first | refine zs1 ?_ | refine zs2 ?_ | refine zs3 ?_ | refine zs4 ?_ | refine zs5 ?_ | refine zs6 [] ?_); conv => whnf) | ((first | apply zi1 | apply zi2 | apply zi3 | apply zi4 | apply zi5) <;> intro _ <;> conv => whnf))
  refine VCode.lp (fun k : Nat => [(20, ints smV), (21, I 20), (22, I k)]) (fun _ => []) (fun k => k ≤ 20) (fun k => 20 - k) 0 (Nat.zero_le _) ?_ ?_
  · conv => whnf
    refine Retell.turn ⟨[], 1, [(0, smV.flatMap encI)], []⟩ (TurnOk.mk' _ _ [(0, smV.flatMap encI)] [] (OutOk.lift _) rfl (by decide) zb zf trivial rfl) zv zm
  · intro k hk
    conv => whnf
    refine VIte.dec (fun h3 => ?_) (fun h3 => ?_)
    · have hkl : k < smV.length := by show k < 20; omega
      have hv : smV[k]? = some smV[k] := List.getElem?_eq_getElem hkl
      generalize smV[k] = v at hv
      conv => whnf
      repeat' (first | ((first | refine zs1 ?_ | refine zs2 ?_ | refine zs3 ?_ | refine zs4 ?_ | refine zs5 ?_ | refine zs6 [] ?_); conv => whnf) | ((first | apply zi1 | apply zi2 | apply zi3 | apply zi4 | apply zi5) <;> intro _ <;> conv => whnf) | (refine VAny.ix encI_len k rfl rfl hv ?_; conv => whnf))
      refine VCode.lp (fun i : Nat => [(2, I v), (20, ints smV), (21, I 20), (22, I k), (26, I i)]) (fun _ => []) (fun i => i ≤ 15) (fun i => 15 - i) 0 (Nat.zero_le _) ?_ ?_
      · conv => whnf
        refine Retell.turn ⟨[], 0, [], []⟩ (TurnOk.mk' _ _ [] [] (OutOk.lift _) rfl (by decide) zb trivial trivial rfl) zv zm
      · intro i hi
        conv => whnf
        refine VIte.dec (fun h4 => ?_) (fun h4 => ?_)
        · conv => whnf
          repeat' (first | ((first | refine zs1 ?_ | refine zs2 ?_ | refine zs3 ?_ | refine zs4 ?_ | refine zs5 ?_); conv => whnf) | ((first | apply zi1 | apply zi2 | apply zi3 | apply zi4 | apply zi5) <;> intro _ <;> conv => whnf) | (refine VCall.intro (vc_ThreeO _) ?_; conv => whnf))
          · rename_i h5 h6
            obtain rfl : i = 3 := by omega
            refine VDraw.go [] (by kernel_rfl) (by kernel_rfl) ?_
            conv => whnf
            repeat' (first | ((first | refine zs1 ?_ | refine zs2 ?_ | refine zs3 ?_ | refine zs4 ?_ | refine zs5 ?_); conv => whnf) | ((first | apply zi1 | apply zi2 | apply zi3 | apply zi4 | apply zi5) <;> intro _ <;> conv => whnf) | (refine VCall.intro (own8u rfl rfl rfl rfl rfl rfl rfl rfl rfl rfl rfl rfl) ?_; conv => whnf) | (refine VCall.intro (own49u rfl rfl rfl rfl rfl rfl rfl rfl rfl rfl rfl rfl) ?_; conv => whnf) | (refine VCall.intro (own3u rfl rfl rfl rfl rfl rfl rfl) ?_; conv => whnf))
            refine LEnd.intro 4 (by omega) (by omega) ?_
            conv => whnf
            refine Retell.turn ⟨[], 10, [], []⟩ (TurnOk.mk' _ _ [] [] (OutOk.lift _) rfl (by decide) zb trivial trivial rfl) zv zm
          · rename_i h5 h6
            refine VDraw.go [] (by kernel_rfl) (by kernel_rfl) ?_
            conv => whnf
            repeat' (first | ((first | refine zs1 ?_ | refine zs2 ?_ | refine zs3 ?_ | refine zs4 ?_ | refine zs5 ?_); conv => whnf) | ((first | apply zi1 | apply zi2 | apply zi3 | apply zi4 | apply zi5) <;> intro _ <;> conv => whnf))
            obtain ⟨j, hj⟩ : ∃ j, j = i + 1 := ⟨_, rfl⟩
            have h15 : i = 0 ∨ i = 1 ∨ i = 2 ∨ i = 3 ∨ i = 4 ∨ i = 5 ∨ i = 6 ∨ i = 7 ∨ i = 8 ∨ i = 9 ∨ i = 10 ∨ i = 11 ∨ i = 12 ∨ i = 13 ∨ i = 14 := by omega
            rcases h15 with rfl | rfl | rfl | rfl | rfl | rfl | rfl | rfl | rfl | rfl | rfl | rfl | rfl | rfl | rfl
            all_goals try (first | exact absurd h5 (by decide) | exact absurd rfl h6)
            all_goals (
              repeat' (first | ((first | refine zs1 ?_ | refine zs2 ?_ | refine zs3 ?_ | refine zs4 ?_ | refine zs5 ?_); conv => whnf) | ((first | apply zi1 | apply zi2 | apply zi3 | apply zi4 | apply zi5) <;> intro _ <;> conv => whnf) | (refine VCall.intro (own8u rfl rfl rfl rfl rfl rfl rfl rfl rfl rfl rfl rfl) ?_; conv => whnf) | (refine VCall.intro (own49u rfl rfl rfl rfl rfl rfl rfl rfl rfl rfl rfl rfl) ?_; conv => whnf) | (refine VCall.intro (own3u rfl rfl rfl rfl rfl rfl rfl) ?_; conv => whnf))
              refine LEnd.intro j (by omega) (by omega) ?_
              conv => whnf
              refine Retell.turn ⟨[], 10, [], []⟩ (TurnOk.mk' _ _ [] [] (OutOk.lift _) rfl (by decide) zb trivial trivial rfl) zv zm)
          · rename_i h5 h6
            obtain rfl : i = 3 := by omega
            exact absurd rfl h5
          · rename_i h5 h6
            refine VDraw.go [] (by kernel_rfl) (by kernel_rfl) ?_
            conv => whnf
            repeat' (first | ((first | refine zs1 ?_ | refine zs2 ?_ | refine zs3 ?_ | refine zs4 ?_ | refine zs5 ?_); conv => whnf) | ((first | apply zi1 | apply zi2 | apply zi3 | apply zi4 | apply zi5) <;> intro _ <;> conv => whnf))
            obtain ⟨j, hj⟩ : ∃ j, j = i + 1 := ⟨_, rfl⟩
            have h15 : i = 0 ∨ i = 1 ∨ i = 2 ∨ i = 3 ∨ i = 4 ∨ i = 5 ∨ i = 6 ∨ i = 7 ∨ i = 8 ∨ i = 9 ∨ i = 10 ∨ i = 11 ∨ i = 12 ∨ i = 13 ∨ i = 14 := by omega
            rcases h15 with rfl | rfl | rfl | rfl | rfl | rfl | rfl | rfl | rfl | rfl | rfl | rfl | rfl | rfl | rfl
            all_goals try (exact absurd (by decide) h5)
            all_goals (
              repeat' (first | ((first | refine zs1 ?_ | refine zs2 ?_ | refine zs3 ?_ | refine zs4 ?_ | refine zs5 ?_); conv => whnf) | ((first | apply zi1 | apply zi2 | apply zi3 | apply zi4 | apply zi5) <;> intro _ <;> conv => whnf) | (refine VCall.intro (nil8u rfl rfl rfl rfl rfl rfl rfl) ?_; conv => whnf) | (refine VCall.intro (nil49u rfl rfl rfl rfl rfl rfl rfl) ?_; conv => whnf) | (refine VCall.intro (nil3u rfl rfl rfl) ?_; conv => whnf))
              refine LEnd.intro j (by omega) (by omega) ?_
              conv => whnf
              refine Retell.turn ⟨[], 9, [], []⟩ (TurnOk.mk' _ _ [] [] (OutOk.lift _) rfl (by decide) zb trivial trivial rfl) zv zm)
        · conv => whnf
          repeat' (first | ((first | refine zs1 ?_ | refine zs2 ?_ | refine zs3 ?_ | refine zs4 ?_ | refine zs5 ?_ | refine zs6 [] ?_); conv => whnf) | ((first | apply zi1 | apply zi2 | apply zi3 | apply zi4 | apply zi5) <;> intro _ <;> conv => whnf))
          refine LEnd.intro (k + 1) (by omega) (by omega) ?_
          conv => whnf
          refine Retell.turn ⟨[], 0, [], []⟩ (TurnOk.mk' _ _ [] [] (OutOk.lift _) rfl (by decide) zb trivial trivial rfl) zv zm
    · conv => whnf
      repeat (first | ((first | refine zs1 ?_ | refine zs2 ?_ | refine zs3 ?_ | refine zs4 ?_ | refine zs5 ?_ | refine zs6 [] ?_); conv => whnf))
      refine VCut.at' 1 [] [] ?_ ?_
      · conv => whnf
        refine Retell.turn ⟨[], 0, [], []⟩ (TurnOk.mk' _ _ [] [] (OutOk.lift _) rfl (by decide) zb trivial trivial rfl) zv zm
      · conv => whnf
        repeat' (first | ((first | refine zs1 ?_ | refine zs2 ?_ | refine zs3 ?_ | refine zs4 ?_ | refine zs5 ?_ | refine zs6 [] ?_); conv => whnf) | ((first | apply zi1 | apply zi2 | apply zi3 | apply zi4 | apply zi5) <;> intro _ <;> conv => whnf))
        refine VCode.lp (fun n : Nat => [(128, I n)]) (fun _ => []) (fun n => n ≤ 6000) (fun n => 6000 - n) 0 (Nat.zero_le _) ?_ ?_
        · conv => whnf
          refine Retell.turn ⟨[], 0, [], []⟩ (TurnOk.mk' _ _ [] [] (OutOk.lift _) rfl (by decide) zb trivial trivial rfl) zv zm
        · intro n hn
          conv => whnf
          refine VIte.dec (fun h4 => ?_) (fun h4 => ?_)
          · have hn0 : (0 : Int) ≤ n := by omega
            obtain ⟨w, hw⟩ : ∃ w, w = 1 + (n : Int).tmod 2 := ⟨_, rfl⟩
            have hwb : 1 ≤ w ∧ w ≤ 2 := by have := tmodb (a := (n : Int)) (k := 2) hn0 (by omega); omega
            have hw2 := tmodb (a := (n : Int)) (k := 2) hn0 (by omega)
            conv => whnf
            repeat' (first | ((first | refine zs1 ?_ | refine zs2 ?_ | refine zs3 ?_ | refine zs4 ?_ | refine zs5 ?_); conv => whnf) | ((first | apply zi1 | apply zi2 | apply zi3 | apply zi4 | apply zi5) <;> intro _ <;> conv => whnf))
            rw [← hw]
            repeat' (first | ((first | refine zs1 ?_ | refine zs2 ?_ | refine zs3 ?_ | refine zs4 ?_ | refine zs5 ?_); conv => whnf) | ((first | apply zi1 | apply zi2 | apply zi3 | apply zi4 | apply zi5) <;> intro _ <;> conv => whnf))
            refine VCode.lp (fun y : Nat × (List Str × List Int) => [(10, I n), (11, .ptr (.loc 1) 0), (12, .ptr (.loc 2) 0), (128, I n), (137, I y.1)]) (fun y => [.flat true ([0, 1].flatMap encI), .cells true [.gl (.loc 3) 4 y.1, .gl (.loc 0) 1 2], .cells true [I w, .gl (.loc 4) 1 y.1], .flat true (y.2.1.flatMap encT), .flat true (y.2.2.flatMap encI)]) (fun y => y.1 ≤ 3 ∧ y.2.1.length = y.1 ∧ y.2.2.length = y.1) (fun y => 3 - y.1) (0, ([], [])) ⟨Nat.zero_le _, rfl, rfl⟩ ?_ ?_
            · conv => whnf
              refine Retell.turn ⟨[0,1,2,3,4], 3, [], []⟩ (TurnOk.mk' _ _ [] [] (OutOk.lift _) rfl (by decide) zb trivial trivial rfl) zv zm
            · rintro ⟨i, ss, ps⟩ ⟨hi, hs, hp⟩
              dsimp only at hi hs hp
              conv => whnf
              refine VIte.dec (fun h5 => ?_) (fun h5 => ?_)
              · obtain ⟨K, hK, bK⟩ : ∃ K, IntKind.i64.wrap ((n : Int).tdiv (1 + 7 * (i : Int))) = K ∧ 0 ≤ K ∧ K ≤ 6000 := ⟨_, rfl, by have := tdiv_bd (a := (n : Int)) (k := 1 + 7 * (i : Int)) hn0 (by omega); rw [wrap_i64 (by omega)]; omega⟩
                obtain ⟨K2, hK2, bK2⟩ : ∃ J, IntKind.i64.wrap (K.tdiv 2) = J ∧ 0 ≤ J ∧ J ≤ 6000 := ⟨_, rfl, by have := tdiv_bd (a := K) (k := 2) bK.1 (by omega); rw [wrap_i64 (by omega)]; omega⟩
                obtain ⟨K6, hK6, bK6⟩ : ∃ J, IntKind.i64.wrap (K.tdiv 6) = J ∧ 0 ≤ J ∧ J ≤ 6000 := ⟨_, rfl, by have := tdiv_bd (a := K) (k := 6) bK.1 (by omega); rw [wrap_i64 (by omega)]; omega⟩
                obtain ⟨O, hO, bO⟩ : ∃ J, K.tmod 2 = J ∧ 0 ≤ J ∧ J < 2 := ⟨_, rfl, tmodb bK.1 (by omega)⟩
                obtain ⟨A, hA, bA⟩ : ∃ J, K2.tmod 3 = J ∧ 0 ≤ J ∧ J < 3 := ⟨_, rfl, tmodb bK2.1 (by omega)⟩
                obtain ⟨B', hB, bB⟩ : ∃ J, K6.tmod 3 = J ∧ 0 ≤ J ∧ J < 3 := ⟨_, rfl, tmodb bK6.1 (by omega)⟩
                obtain ⟨M, hM, bM⟩ : ∃ K, IntKind.i64.wrap ((n : Int).tdiv (5 + (i : Int))) = K ∧ 0 ≤ K ∧ K ≤ 6000 := ⟨_, rfl, by have := tdiv_bd (a := (n : Int)) (k := 5 + (i : Int)) hn0 (by omega); rw [wrap_i64 (by omega)]; omega⟩
                obtain ⟨R, hR, bR⟩ : ∃ K, IntKind.i64.wrap ((n : Int).tdiv (3 + 2 * (i : Int))) = K ∧ 0 ≤ K ∧ K ≤ 6000 := ⟨_, rfl, by have := tdiv_bd (a := (n : Int)) (k := 3 + 2 * (i : Int)) hn0 (by omega); rw [wrap_i64 (by omega)]; omega⟩
                obtain ⟨P, hP, bP⟩ : ∃ J, R.tmod (w + 1) = J ∧ 0 ≤ J ∧ J < w + 1 := ⟨_, rfl, tmodb bR.1 (by omega)⟩
                have qa := tmodb (a := (n : Int)) (k := 5) hn0 (by omega)
                have z1 : ((1 + 7 * (i : Int)) != 0) = true := by rw [bne_iff_ne]; omega
                have z2 : ((5 + (i : Int)) != 0) = true := by rw [bne_iff_ne]; omega
                have z3 : ((3 + 2 * (i : Int)) != 0) = true := by rw [bne_iff_ne]; omega
                have z4 : ((w + 1) != 0) = true := by rw [bne_iff_ne]; omega
                have hat : (ps ++ [P])[i]? = some P := by rw [List.getElem?_append_right (by omega), hp, Nat.sub_self]; rfl
                have hset : ∀ v, (ps ++ [P]).set i v = ps ++ [v] := fun v => by rw [List.set_append_right _ _ (by omega), hp, Nat.sub_self]; rfl
                have hmw : 0 ≤ w * (1 - O) ∧ w * (1 - O) ≤ 2 := by
                  have : O = 0 ∨ O = 1 := by omega
                  rcases this with h | h <;> rw [h] <;> omega
                dsimp only
                conv => whnf
                repeat' (first | ((first | refine zs1 ?_ | refine zs2 ?_ | refine zs3 ?_ | refine zs4 ?_ | refine zs5 ?_); conv => whnf) | ((first | apply zi1 | apply zi2 | apply zi3 | apply zi4 | apply zi5) <;> intro _ <;> conv => whnf))
                simp only [hK, hK2, hK6, hO, hA, hB, hM, hR, hP]
                repeat' (first | ((first | refine zs1 ?_ | refine zs2 ?_ | refine zs3 ?_ | refine zs4 ?_ | refine zs5 ?_); conv => whnf) | ((first | apply zi1 | apply zi2 | apply zi3 | apply zi4 | apply zi5) <;> intro _ <;> conv => whnf))
                simp only [hK, hK2, hK6, hO, hA, hB, hM, hR, hP]
                repeat' (first | ((first | refine zs1 ?_ | refine zs2 ?_ | refine zs3 ?_ | refine zs4 ?_ | refine zs5 ?_); conv => whnf) | ((first | apply zi1 | apply zi2 | apply zi3 | apply zi4 | apply zi5) <;> intro _ <;> conv => whnf))
                · refine VDraw.go [(4, 6), (4, 13)] (by kernel_rfl) (by kernel_rfl) ?_
                  conv => whnf
                  repeat' (first | ((first | refine zs1 ?_ | refine zs2 ?_ | refine zs3 ?_ | refine zs4 ?_ | refine zs5 ?_); conv => whnf) | ((first | apply zi1 | apply zi2 | apply zi3 | apply zi4 | apply zi5) <;> intro _ <;> conv => whnf))
                  refine VMem.app1 (l := ss) ⟨O, 1 + A, 1 + B', O⟩ encT_len rfl rfl rfl hs.symm rfl (by omega) ?_
                  conv => whnf
                  repeat' (first | ((first | refine zs1 ?_ | refine zs2 ?_ | refine zs3 ?_ | refine zs4 ?_ | refine zs5 ?_); conv => whnf) | ((first | apply zi1 | apply zi2 | apply zi3 | apply zi4 | apply zi5) <;> intro _ <;> conv => whnf))
                  simp only [hK, hK2, hK6, hO, hA, hB, hM, hR, hP]
                  repeat' (first | ((first | refine zs1 ?_ | refine zs2 ?_ | refine zs3 ?_ | refine zs4 ?_ | refine zs5 ?_); conv => whnf) | ((first | apply zi1 | apply zi2 | apply zi3 | apply zi4 | apply zi5) <;> intro _ <;> conv => whnf))
                  refine VMem.app1 (l := ps) P encI_len rfl rfl rfl hp.symm rfl (by omega) ?_
                  conv => whnf
                  repeat' (first | ((first | refine zs1 ?_ | refine zs2 ?_ | refine zs3 ?_ | refine zs4 ?_ | refine zs5 ?_); conv => whnf) | ((first | apply zi1 | apply zi2 | apply zi3 | apply zi4 | apply zi5) <;> intro _ <;> conv => whnf))
                  · refine VMem.setRec encI_len i 0 (w * (1 - O)) rfl rfl rfl hat (by decide) rfl (by simp only [Int.toNat_natCast, Nat.zero_add, Nat.mul_one, Nat.add_zero]) ?_
                    rw [hset]
                    conv => whnf
                    repeat' (first | ((first | refine zs1 ?_ | refine zs2 ?_ | refine zs3 ?_ | refine zs4 ?_ | refine zs5 ?_); conv => whnf) | ((first | apply zi1 | apply zi2 | apply zi3 | apply zi4 | apply zi5) <;> intro _ <;> conv => whnf))
                    refine LEnd.intro (i + 1, ss ++ [⟨O, 1 + A, 1 + B', O⟩], ps ++ [w * (1 - O)]) ⟨by dsimp only; omega, by dsimp only; rw [List.length_append, hs]; rfl, by dsimp only; rw [List.length_append, hp]; rfl⟩ (by dsimp only; omega) ?_
                    conv => whnf
                    refine Retell.turn ⟨[0,1,2,7,9], 10, [], []⟩ (TurnOk.mk' _ _ [] [] (OutOk.lift _) rfl (by decide) zb trivial trivial rfl) zv zm
                  all_goals (
                    refine LEnd.intro (i + 1, ss ++ [⟨O, 1 + A, 1 + B', O⟩], ps ++ [P]) ⟨by dsimp only; omega, by dsimp only; rw [List.length_append, hs]; rfl, by dsimp only; rw [List.length_append, hp]; rfl⟩ (by dsimp only; omega) ?_
                    conv => whnf
                    refine Retell.turn ⟨[0,1,2,7,9], 10, [], []⟩ (TurnOk.mk' _ _ [] [] (OutOk.lift _) rfl (by decide) zb trivial trivial rfl) zv zm)
                · refine VDraw.go [(4, 6), (4, 13)] (by kernel_rfl) (by kernel_rfl) ?_
                  conv => whnf
                  repeat' (first | ((first | refine zs1 ?_ | refine zs2 ?_ | refine zs3 ?_ | refine zs4 ?_ | refine zs5 ?_); conv => whnf) | ((first | apply zi1 | apply zi2 | apply zi3 | apply zi4 | apply zi5) <;> intro _ <;> conv => whnf))
                  refine VMem.app1 (l := ss) ⟨O, 1 + A, 1 + B', -1⟩ encT_len rfl rfl rfl hs.symm rfl (by omega) ?_
                  conv => whnf
                  repeat' (first | ((first | refine zs1 ?_ | refine zs2 ?_ | refine zs3 ?_ | refine zs4 ?_ | refine zs5 ?_); conv => whnf) | ((first | apply zi1 | apply zi2 | apply zi3 | apply zi4 | apply zi5) <;> intro _ <;> conv => whnf))
                  simp only [hK, hK2, hK6, hO, hA, hB, hM, hR, hP]
                  repeat' (first | ((first | refine zs1 ?_ | refine zs2 ?_ | refine zs3 ?_ | refine zs4 ?_ | refine zs5 ?_); conv => whnf) | ((first | apply zi1 | apply zi2 | apply zi3 | apply zi4 | apply zi5) <;> intro _ <;> conv => whnf))
                  refine VMem.app1 (l := ps) P encI_len rfl rfl rfl hp.symm rfl (by omega) ?_
                  conv => whnf
                  repeat' (first | ((first | refine zs1 ?_ | refine zs2 ?_ | refine zs3 ?_ | refine zs4 ?_ | refine zs5 ?_); conv => whnf) | ((first | apply zi1 | apply zi2 | apply zi3 | apply zi4 | apply zi5) <;> intro _ <;> conv => whnf))
                  refine LEnd.intro (i + 1, ss ++ [⟨O, 1 + A, 1 + B', -1⟩], ps ++ [P]) ⟨by dsimp only; omega, by dsimp only; rw [List.length_append, hs]; rfl, by dsimp only; rw [List.length_append, hp]; rfl⟩ (by dsimp only; omega) ?_
                  conv => whnf
                  refine Retell.turn ⟨[0,1,2,7,9], 10, [], []⟩ (TurnOk.mk' _ _ [] [] (OutOk.lift _) rfl (by decide) zb trivial trivial rfl) zv zm
              · have hi3 : i = 3 := by dsimp only at h5; omega
                subst hi3
                have k4 := tdiv_bd (a := (n : Int)) (k := 4) hn0 (by omega)
                have k12 := tdiv_bd (a := (n : Int)) (k := 12) hn0 (by omega)
                have w4 : IntKind.i64.wrap ((n : Int).tdiv 4) = (n : Int).tdiv 4 := wrap_i64 (by omega)
                have w12 : IntKind.i64.wrap ((n : Int).tdiv 12) = (n : Int).tdiv 12 := wrap_i64 (by omega)
                obtain ⟨a, ha, ba⟩ : ∃ J, ((n : Int).tdiv 4).tmod 3 = J ∧ 0 ≤ J ∧ J < 3 := ⟨_, rfl, tmodb k4.1 (by omega)⟩
                obtain ⟨b, hb, bb⟩ : ∃ J, ((n : Int).tdiv 12).tmod 3 = J ∧ 0 ≤ J ∧ J < 3 := ⟨_, rfl, tmodb k12.1 (by omega)⟩
                obtain ⟨g, hg, bg⟩ : ∃ J, (n : Int).tmod 9 = J ∧ 0 ≤ J ∧ J < 9 := ⟨_, rfl, tmodb hn0 (by omega)⟩
                have c8 := fun (outer : Vm.Id → Option Blk) (X : Blk) (Y : Blk) => own8 (outer := outer) (loc := [.flat true ([0, 1].flatMap encI), X, Y, .flat true (ss.flatMap encT), .flat true (ps.flatMap encI)]) (p := 3) (q := 0) (r := 4) (w := w) rfl rfl rfl rfl rfl rfl hs (show [0, 1].length = 2 from rfl) hp rfl rfl rfl
                dsimp only at c8 ⊢
                conv => whnf
                repeat' (first | ((first | refine zs1 ?_ | refine zs2 ?_ | refine zs3 ?_ | refine zs4 ?_ | refine zs5 ?_); conv => whnf) | ((first | apply zi1 | apply zi2 | apply zi3 | apply zi4 | apply zi5) <;> intro _ <;> conv => whnf) | (refine VCall.intro (own8 (ss := ss) (vs := [0, 1]) (ps := ps) rfl rfl rfl rfl rfl rfl hs rfl hp rfl rfl rfl) ?_; conv => whnf))
                simp only [w4, ha]
                repeat' (first | ((first | refine zs1 ?_ | refine zs2 ?_ | refine zs3 ?_ | refine zs4 ?_ | refine zs5 ?_); conv => whnf) | ((first | apply zi1 | apply zi2 | apply zi3 | apply zi4 | apply zi5) <;> intro _ <;> conv => whnf))
                simp only [w12, hb]
                repeat' (first | ((first | refine zs1 ?_ | refine zs2 ?_ | refine zs3 ?_ | refine zs4 ?_ | refine zs5 ?_); conv => whnf) | ((first | apply zi1 | apply zi2 | apply zi3 | apply zi4 | apply zi5) <;> intro _ <;> conv => whnf) | (refine VCall.intro (own49 (ss := ss) (vs := [0, 1]) (ps := ps) rfl rfl rfl rfl rfl rfl hs rfl hp rfl rfl rfl) ?_; conv => whnf))
                simp only [hg]
                repeat' (first | ((first | refine zs1 ?_ | refine zs2 ?_ | refine zs3 ?_ | refine zs4 ?_ | refine zs5 ?_); conv => whnf) | ((first | apply zi1 | apply zi2 | apply zi3 | apply zi4 | apply zi5) <;> intro _ <;> conv => whnf) | (refine VCall.intro (own3 (ss := ss) (vs := [0, 1]) rfl rfl rfl rfl hs rfl rfl) ?_; conv => whnf))
                refine LEnd.intro (n + 1) (by omega) (by omega) ?_
                conv => whnf
                refine Retell.turn ⟨[], 5, [], []⟩ (TurnOk.mk' _ _ [] [] (OutOk.lift _) rfl (by decide) zb trivial trivial rfl) zv zm
          · conv => whnf
            repeat' (first | ((first | refine zs1 ?_ | refine zs2 ?_ | refine zs3 ?_ | refine zs4 ?_ | refine zs5 ?_); conv => whnf) | ((first | apply zi1 | apply zi2 | apply zi3 | apply zi4 | apply zi5) <;> intro _ <;> conv => whnf))
            refine VCut.at' 99 [] [] ?_ ?_
            · conv => whnf
              refine Retell.turn ⟨[], 0, [], []⟩ (TurnOk.mk' _ _ [] [] (OutOk.lift _) rfl (by decide) zb trivial trivial rfl) zv zm
            · conv => whnf
              repeat' (first | ((first | refine zs1 ?_ | refine zs2 ?_ | refine zs3 ?_ | refine zs4 ?_ | refine zs5 ?_ | refine zs6 [] ?_); conv => whnf) | ((first | apply zi1 | apply zi2 | apply zi3 | apply zi4 | apply zi5) <;> intro _ <;> conv => whnf))
              refine VCode.lp (fun n : Nat => [(231, I n)]) (fun _ => []) (fun n => n ≤ 19) (fun n => 19 - n) 0 (Nat.zero_le _) ?_ ?_
              · conv => whnf
                refine Retell.turn ⟨[], 0, [], []⟩ (TurnOk.mk' _ _ [] [] (OutOk.lift _) rfl (by decide) zb trivial trivial rfl) zv zm
              · intro n hn
                conv => whnf
                refine VIte.dec (fun h4 => ?_) (fun h4 => ?_)
                · have hn18 : n ≤ 18 := by omega
                  conv => whnf
                  repeat' (first | ((first | refine zs1 ?_ | refine zs2 ?_ | refine zs3 ?_ | refine zs4 ?_ | refine zs5 ?_); conv => whnf) | ((first | apply zi1 | apply zi2 | apply zi3 | apply zi4 | apply zi5) <;> intro _ <;> conv => whnf))
                  refine VCode.lp (fun y : Nat × Nat => [(16, I n), (17, .ptr (.loc 0) 0), (18, .ptr (.loc 1) 0), (231, I n), (236, I n), (237, I y.1)]) (fun y => [.cells true [.gl (.loc 2) 4 y.1, .gl (.loc 3) 1 y.2], .cells true [I 2000, .gl (.loc 4) 1 y.1], .flat true ((ssC y.1).flatMap encT), .flat true ((vsC y.2).flatMap encI), .flat true ((psC y.1).flatMap encI)]) (fun y => y.1 ≤ n ∧ y.2 = min y.1 9) (fun y => n - y.1) (0, 0) ⟨Nat.zero_le _, rfl⟩ ?_ ?_
                  · conv => whnf
                    refine Retell.turn ⟨[0,1,2,3,4], 2, [], []⟩ (TurnOk.mk' _ _ [] [] (OutOk.lift _) rfl (by decide) zb trivial trivial rfl) zv zm
                  · rintro ⟨i, m⟩ ⟨hi, hm⟩
                    dsimp only at hi hm
                    conv => whnf
                    refine VIte.dec (fun h5 => ?_) (fun h5 => ?_)
                    · dsimp only at h5 ⊢
                      have b1 := tmodb (a := (i : Int)) (k := 2) (by omega) (by omega)
                      have b2 := mul_le (a := 7 * (i : Int)) (b := (i : Int)) (A := 126) (B := 18) (by omega) (by omega)
                      have b3 := tmodb (a := 7 * (i : Int) * i) (k := 900) b2.1 (by omega)
                      conv => whnf
                      repeat' (first | ((first | refine zs1 ?_ | refine zs2 ?_ | refine zs3 ?_ | refine zs4 ?_ | refine zs5 ?_); conv => whnf) | ((first | apply zi1 | apply zi2 | apply zi3 | apply zi4 | apply zi5) <;> intro _ <;> conv => whnf))
                      refine VMem.app1 (l := ssC i) (sC i) encT_len rfl rfl rfl (ssC_len i).symm rfl (by rw [ssC_len]; omega) ?_
                      rw [← ssC_succ]
                      conv => whnf
                      repeat' (first | ((first | refine zs1 ?_ | refine zs2 ?_ | refine zs3 ?_ | refine zs4 ?_ | refine zs5 ?_); conv => whnf) | ((first | apply zi1 | apply zi2 | apply zi3 | apply zi4 | apply zi5) <;> intro _ <;> conv => whnf))
                      refine VMem.app1 (l := psC i) (2000 - 100 * (i : Int)) encI_len rfl rfl rfl (psC_len i).symm rfl (by rw [psC_len]; omega) ?_
                      rw [← psC_succ]
                      conv => whnf
                      repeat' (first | ((first | refine zs1 ?_ | refine zs2 ?_ | refine zs3 ?_ | refine zs4 ?_ | refine zs5 ?_); conv => whnf) | ((first | apply zi1 | apply zi2 | apply zi3 | apply zi4 | apply zi5) <;> intro _ <;> conv => whnf))
                      · obtain rfl : m = i := by omega
                        refine VMem.app1 (l := vsC m) ((m : Int).tmod 2) encI_len rfl rfl rfl (vsC_len m).symm rfl (by rw [vsC_len]; omega) ?_
                        rw [← vsC_succ]
                        conv => whnf
                        repeat' (first | ((first | refine zs1 ?_ | refine zs2 ?_ | refine zs3 ?_ | refine zs4 ?_ | refine zs5 ?_); conv => whnf) | ((first | apply zi1 | apply zi2 | apply zi3 | apply zi4 | apply zi5) <;> intro _ <;> conv => whnf))
                        refine LEnd.intro (m + 1, m + 1) ⟨by dsimp only; omega, by dsimp only; omega⟩ (by dsimp only; omega) ?_
                        conv => whnf
                        refine Retell.turn ⟨[0,1,6,10,8], 11, [], []⟩ (TurnOk.mk' _ _ [] [] (OutOk.lift _) rfl (by decide) zb trivial trivial rfl) zv zm
                      · refine LEnd.intro (i + 1, m) ⟨by dsimp only; omega, by dsimp only; omega⟩ (by dsimp only; omega) ?_
                        conv => whnf
                        refine Retell.turn ⟨[0,1,6,3,8], 9, [], []⟩ (TurnOk.mk' _ _ [] [] (OutOk.lift _) rfl (by decide) zb trivial trivial rfl) zv zm
                    · have hin : i = n := by dsimp only at h5; omega
                      subst hin
                      have g1 := chkC i (by omega)
                      have g2 := chkN i (by omega)
                      rw [← hm] at g1
                      obtain ⟨e1, he1⟩ : ∃ e, chk ⟨ssC i, vsC m⟩ = e := ⟨_, rfl⟩
                      obtain ⟨e2, he2⟩ : ∃ e, chk ⟨ssC i, []⟩ = e := ⟨_, rfl⟩
                      rw [he1] at g1
                      rw [he2] at g2
                      have q1 : (e1 == 0) = decide (0 < i ∧ i < 9) := by rw [Bool.eq_iff_iff, beq_iff_eq, decide_eq_true_eq]; exact g1
                      have q2 : (e2 == 0) = decide (0 < i ∧ i < 17) := by rw [Bool.eq_iff_iff, beq_iff_eq, decide_eq_true_eq]; exact g2
                      dsimp only
                      conv => whnf
                      repeat' (first | ((first | refine zs1 ?_ | refine zs2 ?_ | refine zs3 ?_ | refine zs4 ?_ | refine zs5 ?_ | refine zs6 [] ?_); conv => whnf) | ((first | apply zi1 | apply zi2 | apply zi3 | apply zi4 | apply zi5) <;> intro _ <;> conv => whnf) | (refine VCall.intro (own8 (ss := ssC i) (vs := vsC m) (ps := psC i) rfl rfl rfl rfl rfl rfl (ssC_len i) (vsC_len m) (psC_len i) rfl rfl rfl) ?_; conv => whnf) | (refine VCall.intro (own49 (ss := ssC i) (vs := vsC m) (ps := psC i) rfl rfl rfl rfl rfl rfl (ssC_len i) (vsC_len m) (psC_len i) rfl rfl rfl) ?_; conv => whnf) | (refine VCall.intro (own3 (ss := ssC i) (vs := vsC m) rfl rfl rfl rfl (ssC_len i) (vsC_len m) rfl) ?_; conv => whnf) | (refine VCall.intro (own38 (ss := ssC i) (vs := vsC m) rfl rfl rfl rfl (ssC_len i) (vsC_len m) rfl (by rw [ssC_len]; omega) (by rw [vsC_len]; omega) he1) ?_; conv => whnf))
                      all_goals try (exfalso; rename_i hz; apply hz; rw [q1, Bool.eq_iff_iff, decide_eq_true_eq, decide_eq_true_eq]; omega)
                      all_goals try (exfalso; rename_i hz; apply hz; rw [q1]; exact decide_eq_false (by omega))
                      all_goals (
                        repeat' (first | ((first | refine zs1 ?_ | refine zs2 ?_ | refine zs3 ?_ | refine zs4 ?_ | refine zs5 ?_ | refine zs6 [] ?_); conv => whnf) | ((first | apply zi1 | apply zi2 | apply zi3 | apply zi4 | apply zi5) <;> intro _ <;> conv => whnf) | (refine VCall.intro (nil8 (ss := ssC i) (ps := psC i) rfl rfl rfl rfl (ssC_len i) (psC_len i) rfl) ?_; conv => whnf) | (refine VCall.intro (nil3 (ss := ssC i) rfl rfl (ssC_len i)) ?_; conv => whnf) | (refine VCall.intro (nil38 (ss := ssC i) rfl rfl (ssC_len i) (by rw [ssC_len]; omega) he2) ?_; conv => whnf)))
                      all_goals try (exfalso; rename_i hz; apply hz; rw [q2, Bool.eq_iff_iff, decide_eq_true_eq, decide_eq_true_eq]; omega)
                      all_goals try (exfalso; rename_i hz; apply hz; rw [q2]; exact decide_eq_false (by omega))
                      all_goals (
                        refine LEnd.intro (i + 1) (by omega) (by omega) ?_
                        conv => whnf
                        refine Retell.turn ⟨[], 5, [], []⟩ (TurnOk.mk' _ _ [] [] (OutOk.lift _) rfl (by decide) zb trivial trivial rfl) zv zm)
                · conv => whnf
                  repeat' (first | ((first | refine zs1 ?_ | refine zs2 ?_ | refine zs3 ?_ | refine zs4 ?_ | refine zs5 ?_ | refine zs6 [] ?_); conv => whnf) | ((first | apply zi1 | apply zi2 | apply zi3 | apply zi4 | apply zi5) <;> intro _ <;> conv => whnf) | (refine VCall.intro (non8) ?_; conv => whnf) | (refine VCall.intro (non49) ?_; conv => whnf) | (refine VCall.intro (non3) ?_; conv => whnf) | (refine VCall.intro (vc_awake _) ?_; conv => whnf))
                  exact VOut.same rfl
end Go.Proofs.Ytmpjpjfkbmlmfaa

open Go.Vm
namespace Go.Proofs.Ytmpjpjfkbmlmfaa
open Go.ChangeShapes Go.WideShapes Go.ChangeAt Go.RowKit

theorem open10p : OpenAll Try.prog Try.f10.params.toList (fun _ : Unit => []) := by
  rw [Try.params10]
  exact OpenAll.nil
set_option maxRecDepth 100000 in
theorem contract10 (H : Type) (enc : TypeId × Value → H) (W : World) (base : Nat) (args : Array Value) (ds gs : List (DataW H)) (before : List MemPlace)
    (hval : ∀ (j : Nat) t v, Try.f10.params[j]? = some t → args[j]? = some v → Value.okWide Try.prog W .any base t v)
    (hW : DataW.Whole enc Try.prog Try.f10.params.toList Rows.barterSmallSpec.vars false W args.toList ds gs before) :
    Calls Try.prog 10 args W fun e W' => ∃ v, e = .returned v ∧ Rows.barterSmallSpec.post enc Try.prog Try.f10 false true false false W args v W' := by
  refine contract_of_vc open10p (fun _ => vc_BarterSmall Hp.bare) laidOut ?_ (tb := 4) (by kernel_rfl) Try.underlying4 rfl ?_ hval hW
  · rw [Try.params10]
    intro t ht

    exact absurd ht (by simp)
  · intro H dd hl
    rw [Try.params10] at hl
    match dd, hl with
    | [], _ => rfl
set_option maxRecDepth 100000 in
theorem lifted10 (os : Os) (started : os.Started) (H : Type) (enc : TypeId × Value → H) :
    ReturnsInHanded {} Try.checked os 10 .any (Rows.barterSmallSpec.pre6 enc Try.prog Try.f10 Rows.barterSmallRow.domain false) (Rows.barterSmallSpec.post enc Try.prog Try.f10 false true false false) := by
  refine returnsInHanded_of_change (C := Try.checked) ownKn started (by kernel_rfl) Try.func10
    (ChangeSpec.witness6 (enc := enc) (C := Try.checked) false ⟨#[], #[], []⟩ 8 (by kernel_rfl) (by kernel_rfl) (by kernel_rfl) (by kernel_rfl)) ?_
  intro W base args ds gs before hval hW _ _
  exact contract10 H enc W base args ds gs before hval hW
theorem barterSmall_said : Rows.BarterSmallSaid :=
  OpenClaim.holds_of_wide 10 Try.f10 rfl rfl rfl rfl rfl rfl rfl ⟨rfl, rfl, rfl, rfl, rfl⟩ rfl rfl rfl rfl rfl (by kernel_rfl) Try.func10 (by kernel_rfl)
    (of_decide_eq_true (by kernel_rfl)) (by unfold Func.isWrapper; first | (rw [if_pos (by decide +kernel)]; kernel_rfl) | (rw [if_neg (by decide +kernel)]; exact ⟨rfl, rfl⟩))
    (fun os started H enc _ => lifted10 os started H enc)
end Go.Proofs.Ytmpjpjfkbmlmfaa

