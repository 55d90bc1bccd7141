/- Part 3 of the proof that PassageTurned holds: heads that go the other way are as many, other numbers and joined pastures change nothing. No condition. -/
import Derived.Test.YtoeendggmalcpaaTn2
set_option linter.unusedVariables false
set_option linter.unusedSimpArgs false
open Go.Vm
open Psg
namespace Go.Proofs.Ytoeendggmalcpaa
set_option maxRecDepth 20000
set_option maxHeartbeats 8000000
def bkL (ws : List Wy) (k : Nat) : List Wy := (ws.take k).map Wy.back ++ ws.drop k
theorem bkL_len (ws : List Wy) (k : Nat) (h : k ≤ ws.length) : (bkL ws k).length = ws.length := by
  unfold bkL; rw [List.length_append, List.length_map, List.length_take, List.length_drop]; omega
theorem bkL_at {ws : List Wy} {k : Nat} (h : k < ws.length) : (bkL ws k)[k]? = ws[k]? := by
  unfold bkL
  rw [List.getElem?_append_right (by rw [List.length_map, List.length_take]; omega), List.length_map, List.length_take, List.getElem?_drop]
  congr 1; omega
theorem bkL_set {ws : List Wy} {k : Nat} {w : Wy} (h : ws[k]? = some w) : (bkL ws k).set k w.back = bkL ws (k + 1) := by
  have hk := (List.getElem?_eq_some_iff.1 h).1
  unfold bkL
  rw [List.set_append, if_neg (by rw [List.length_map, List.length_take]; omega), List.length_map, List.length_take, show k - min k ws.length = 0 by omega, List.drop_eq_getElem_cons hk, List.set_cons_zero, List.take_add_one, h, List.map_append, List.append_assoc]
  rfl
theorem bkL_zero (ws : List Wy) : bkL ws 0 = ws := rfl
theorem bkL_end (ws : List Wy) : bkL ws ws.length = ws.map Wy.back := by unfold bkL; rw [List.take_length, List.drop_length, List.append_nil]
theorem nmW_take {N : Nt} {name idx : List Int} {j : Nat} {i : Int} {w : Wy} (h : idx[j]? = some i) (hw : N.ws[i.toNat]? = some w) : nmW N name (idx.take (j + 1)) = nmW N name (idx.take j) ++ [w.nam (nmU name)] := by
  unfold nmW
  rw [List.take_add_one, h, List.map_append]
  congr 1
  show [(N.ws.getD i.toNat wy0).nam _] = _
  rw [List.getD_eq_getElem?_getD, hw]; rfl
theorem nm_at {n : Nat} {name : List Int} (h : Prm n name) {q : Int} (hq : 0 ≤ q ∧ q < n) : name[q.toNat]? = some (nmU name q) := by
  have := h.len
  unfold nmU
  rw [List.getD_eq_getElem?_getD, List.getElem?_eq_getElem (by omega)]; rfl
theorem vc_Turned (ns ts : List Int) (h : Hp) : VC Try.prog 3 [bytes ns, bytes ts] h (B true) h := by
  have cM := fun (i : Vm.Id) (h : Hp) hd => vc_Made ns (0, 9) 7 14 i h (by decide) (by decide) (by decide) hd
  obtain ⟨n, hN, hn2, hn7, hd1, hwl⟩ := mdN_ok ns (0, 9) (p := 7) (w := 14) (by decide) (by decide)
  have hsm := mdN_small ns (0, 9) (p := 7) (w := 14) (by decide)
  generalize (mdS ns (0, 9) 7 14).1 = D1 at *
  generalize mdN ns (0, 9) 7 14 = N at *
  have hpn := hN.p
  have hn1 := hN.n1
  have cH := fun (i : Vm.Id) (h : Hp) hd => vc_Herded ns D1 N i h (by dsimp only at hd1; omega) hd
  have hH := hrN_ok ns D1 (n := n) (by omega)
  rw [← hpn] at hH
  obtain ⟨hx, hd2⟩ := hH
  generalize (hrN ns D1 N.p).2 = D2 at *
  generalize (hrN ns D1 N.p).1 = x at *
  have cP := fun (i : Vm.Id) (h : Hp) hd => vc_Pastures ns D2 N i h hN hn2 (by dsimp only at hd1; omega) hd
  obtain ⟨hO, _⟩ := past_ok ns D2 hN hn2
  generalize (paX ns D2 n).1 = D3 at *
  generalize paF ns D2 n = a at *
  generalize paT ns D2 n = b at *
  have al := hO.al
  have bl := hO.bl
  have hP := hO.ps
  have h0 := hO.pas
  have hab := nodup_two hP.smt.nd (by
    obtain ⟨_, _, _, _, _, _, q6⟩ := pas_ok h0
    exact List.nodup_iff_pairwise_ne.2 (q6.imp fun h e => by omega)) (fun x hx => hP.smt.inN x hx) hP.gin hP.dis
  have cS := fun (h2 : Hp) hh => vc_Shuffle ts (0, 9) n (.loc 0) h2 (by omega) (by decide) hh
  rw [← hpn] at cS
  have pS := shX_prm ts (0, 9) n
  generalize hSX : shX ts (0, 9) n = SX at cS pS
  obtain ⟨e1, name⟩ := SX
  dsimp only at cS pS
  obtain ⟨pN, pe⟩ := pS
  have cT := fun (h2 : Hp) hh => vc_Shuffle ts e1 N.ws.length (.loc 0) h2 (by omega) (by have pe' : e1.1 ≤ 0 + n := pe; omega) hh
  have pT := shX_prm ts e1 N.ws.length
  generalize hSX2 : shX ts e1 N.ws.length = SX at cT pT
  obtain ⟨e2, idx⟩ := SX
  dsimp only at cT pT
  obtain ⟨pI, pe2⟩ := pT
  have hil := pI.len
  have hnl := pN.len
  have hbk := back_ok hN hP h0
  have hnm := named_ok hN hP h0 pN pI
  have hjn := join_ok hN (by omega) (by omega) (fun w hw => (hsm w hw).1) hP h0
  rw [← hpn] at hjn
  obtain ⟨hg, hday⟩ := named_day hN hnm.ok hx pN pI
  have cO := fun h => vc_CloneNetO N h (by omega)
  have hfl0 : (N.ws.flatMap encWy).length = N.ws.length * 8 := flat_len encWy_len _
  have hat := fun {q : Int} hq => nm_at pN (q := q) hq
  have hxp := hx.p
  clear hSX hSX2 pe2 hd2 hd1
  refine VC.bodyC 5 Try.func3 rfl Try.ntmps3 Try.call3 (h.grows_refl) rfl ?_; conv => whnf
  repeat' (first | ((first | refine zs1 ?_ | refine zs2 ?_ | refine zs3 ?_ | refine zs4 ?_ | refine zs5 ?_); conv => whnf) | ((first | apply zi1 | apply zi2 | apply zi3 | apply zi4 | apply zi5) <;> intro _ <;> conv => whnf) | (refine VCall.intro (vc_Of _ _) ?_; conv => whnf) | (refine VCall.intro (cM _ _ rfl) ?_; conv => whnf) | (refine VCall.intro (cH _ _ rfl) ?_; conv => whnf) | (refine VCall.intro (cP _ _ rfl) ?_; conv => whnf))
  refine VCut.at' (outer := h.lift) (marks := []) 3 [(1, bytes ts), (6, .fp (encN N)), (7, .fp (encHd x)), (8, ints a), (9, ints b)] [] ?_ ?_
  · conv => whnf
    refine Retell.turn ⟨[], 3, [(1, encN N), (2, encHd x)], []⟩ (TurnOk.mk' _ _ [(1, encN N), (2, encHd x)] [] (OutOk.lift _) rfl (by decide) zb zf trivial rfl) zw zm
  conv => whnf
  repeat' (first | ((first | refine zs1 ?_ | refine zs2 ?_ | refine zs3 ?_ | refine zs4 ?_ | refine zs5 ?_); conv => whnf) | ((first | apply zi1 | apply zi2 | apply zi3 | apply zi4 | apply zi5) <;> intro _ <;> conv => whnf) | (refine VCall.intro (vc_Of _ _) ?_; conv => whnf) | (refine VCall.intro (cS _ rfl) ?_; conv => whnf))
  refine zs6 [(1, 3), (1, 5), (3, 6), (3, 10)] ?_
  conv => whnf
  repeat' (first | ((first | refine zs1 ?_ | refine zs2 ?_ | refine zs3 ?_ | refine zs4 ?_ | refine zs5 ?_); conv => whnf) | ((first | apply zi1 | apply zi2 | apply zi3 | apply zi4 | apply zi5) <;> intro _ <;> conv => whnf) | (refine VCall.intro (cO _) ?_; conv => whnf))
  refine VCut.at' (outer := h.lift) (marks := []) 1 [(6, .fp (encN N)), (7, .fp (encHd x)), (8, ints a), (9, ints b), (10, .ptr (.loc 0) 0), (11, ints name), (12, .ptr (.loc 1) 0), (13, .ptr (.loc 3) 0), (14, .ptr (.loc 4) 0)] [deckB ts e1, .cells true [I N.p, .gl (.loc 2) 8 N.ws.length], .flat true (N.ws.flatMap encWy), .flat true [DI N.p, .nilslice], .cells true [I N.p, .gl (.loc 5) 8 N.ws.length], .flat true (N.ws.flatMap encWy)] ?_ ?_
  · conv => whnf
    refine Retell.turn ⟨[0,3,1,4,5,2], 6, [], []⟩ (TurnOk.mk' _ _ [] [] (OutOk.lift _) rfl (by decide) zb trivial trivial rfl) zw zm
  conv => whnf
  repeat' (first | ((first | refine zs1 ?_ | refine zs2 ?_ | refine zs3 ?_ | refine zs4 ?_ | refine zs5 ?_); conv => whnf) | ((first | apply zi1 | apply zi2 | apply zi3 | apply zi4 | apply zi5) <;> intro _ <;> conv => whnf))
  refine VCode.lp (outer := h.lift) (marks := []) (fun k : Nat => [(6, .fp (encN N)), (7, .fp (encHd x)), (8, ints a), (9, ints b), (10, .ptr (.loc 0) 0), (11, ints name), (12, .ptr (.loc 1) 0), (13, .ptr (.loc 3) 0), (14, .ptr (.loc 4) 0), (73, I N.ws.length), (74, I k)]) (fun k => [deckB ts e1, .cells true [I N.p, .gl (.loc 2) 8 N.ws.length], .flat true ((bkL N.ws k).flatMap encWy), .flat true [DI N.p, .nilslice], .cells true [I N.p, .gl (.loc 5) 8 N.ws.length], .flat true (N.ws.flatMap encWy)]) (fun k => k ≤ N.ws.length) (fun k => N.ws.length - k) 0 (Nat.zero_le _) ?_ ?_
  · rw [bkL_zero]
    conv => whnf
    refine Retell.turn ⟨[0,1,2,3,4,5], 6, [], []⟩ (TurnOk.mk' _ _ [] [] (OutOk.lift _) rfl (by decide) zb trivial trivial rfl) zw zm
  · intro k hk
    have hvl := bkL_len N.ws k hk
    rcases Nat.lt_or_ge k N.ws.length with q1 | q1
    · have hw : N.ws[k]? = some N.ws[k] := List.getElem?_eq_getElem q1
      have hvw := bkL_at q1
      rw [hw] at hvw
      have hst := bkL_set hw
      generalize N.ws[k] = w at hw hvw hst
      generalize bkL N.ws k = vs at hvl hvw hst ⊢
      have hv1 : (vs.set k ⟨w.t, w.t, w.d, w.h, w.n, w.g, w.lo, w.hi⟩)[k]? = some ⟨w.t, w.t, w.d, w.h, w.n, w.g, w.lo, w.hi⟩ := List.getElem?_set_self (by omega)
      conv => whnf
      repeat' (first | ((first | refine zs1 ?_ | refine zs2 ?_ | refine zs3 ?_ | refine zs4 ?_ | refine zs5 ?_); conv => whnf) | ((first | apply zi1 | apply zi2 | apply zi3 | apply zi4 | apply zi5) <;> intro _ <;> conv => whnf))
      all_goals try (exfalso; omega)
      refine zs6 [(4, 20)] ?_
      conv => whnf
      repeat' (first | ((first | refine zs1 ?_ | refine zs2 ?_ | refine zs3 ?_ | refine zs4 ?_ | refine zs5 ?_); conv => whnf) | ((first | apply zi1 | apply zi2 | apply zi3 | apply zi4 | apply zi5) <;> intro _ <;> conv => whnf) | (refine VLd.recc encWy_len k 1 rfl rfl rfl hvw (by decide) rfl (by show (k : Int).toNat * 8 + 1 = k * 8 + 1; omega) ?_; conv => whnf) | (refine VLd.recc encWy_len k 0 rfl rfl rfl hvw (by decide) rfl (by show (k : Int).toNat * 8 + 0 = k * 8 + 0; omega) ?_; conv => whnf) | (refine VMem.setRec encWy_len k 0 ⟨w.t, w.t, w.d, w.h, w.n, w.g, w.lo, w.hi⟩ rfl rfl rfl hvw (by decide) rfl (by show (k : Int).toNat * 8 + 0 = k * 8 + 0; omega) ?_; conv => whnf) | (refine VMem.setRec encWy_len k 1 w.back rfl rfl rfl hv1 (by decide) rfl (by show (k : Int).toNat * 8 + 1 = k * 8 + 1; omega) ?_; conv => whnf))
      all_goals try (exfalso; omega)
      refine LEnd.intro (k + 1) (by omega) (by omega) ?_
      rw [← hst, show vs.set k w.back = (vs.set k ⟨w.t, w.t, w.d, w.h, w.n, w.g, w.lo, w.hi⟩).set k w.back by rw [List.set_set]]
      conv => whnf
      refine Retell.turn ⟨[0,1,2,3,4,5], 6, [], []⟩ (TurnOk.mk' _ _ [] [] (OutOk.lift _) rfl (by decide) zb trivial trivial rfl) zw zm
    · obtain rfl : k = N.ws.length := by omega
      rw [bkL_end]
      have hBe : encN ⟨N.p, N.ws.map Wy.back⟩ = [DI N.p, .sl 8 N.ws.length ((N.ws.map Wy.back).flatMap encWy)] := by
        show [DI N.p, .sl 8 (N.ws.map Wy.back).length _] = _
        rw [List.length_map]
      have hflB : ((N.ws.map Wy.back).flatMap encWy).length = N.ws.length * 8 := by rw [flat_len encWy_len, List.length_map]
      obtain ⟨BK, hBK⟩ : ∃ BK : Nt, BK = ⟨N.p, N.ws.map Wy.back⟩ := ⟨_, rfl⟩
      rw [← hBK] at hbk hBe
      conv => whnf
      repeat' (first | ((first | refine zs1 ?_ | refine zs2 ?_ | refine zs3 ?_ | refine zs4 ?_ | refine zs5 ?_); conv => whnf) | ((first | apply zi1 | apply zi2 | apply zi3 | apply zi4 | apply zi5) <;> intro _ <;> conv => whnf))
      all_goals try (exfalso; omega)
      refine VCut.at' (outer := h.lift) (marks := []) 1 [(6, .fp (encN N)), (7, .fp (encHd x)), (8, ints a), (9, ints b), (10, .ptr (.loc 0) 0), (11, ints name), (12, .fp (encN BK)), (13, .ptr (.loc 1) 0), (14, .ptr (.loc 2) 0)] [deckB ts e1, .flat true [DI N.p, .nilslice], .cells true [I N.p, .gl (.loc 3) 8 N.ws.length], .flat true (N.ws.flatMap encWy)] ?_ ?_
      · rw [hBe]
        conv => whnf
        refine Retell.turn ⟨[0,3,4,5], 6, [(1, [DI N.p, .sl 8 N.ws.length ((N.ws.map Wy.back).flatMap encWy)]), (2, (N.ws.map Wy.back).flatMap encWy)], []⟩ (TurnOk.mk' _ _ [(1, [DI N.p, .sl 8 N.ws.length ((N.ws.map Wy.back).flatMap encWy)]), (2, (N.ws.map Wy.back).flatMap encWy)] [] (OutOk.lift _) rfl (by decide) zb zr trivial rfl) zw zm
      clear hBe hflB hBK
      conv => whnf
      repeat' (first | ((first | refine zs1 ?_ | refine zs2 ?_ | refine zs3 ?_ | refine zs4 ?_ | refine zs5 ?_); conv => whnf) | ((first | apply zi1 | apply zi2 | apply zi3 | apply zi4 | apply zi5) <;> intro _ <;> conv => whnf) | (refine VCall.intro (cT _ rfl) ?_; conv => whnf))
      all_goals try (exfalso; omega)
      refine VCode.lp (outer := h.lift) (marks := []) (fun j : Nat => [(6, .fp (encN N)), (7, .fp (encHd x)), (8, ints a), (9, ints b), (11, ints name), (12, .fp (encN BK)), (13, .ptr (.loc 0) 0), (14, .ptr (.loc 1) 0), (104, ints idx), (105, I idx.length), (106, I j)]) (fun j => [.cells true [I N.p, .gl (.loc 3) 8 (nmW N name (idx.take j)).length], .cells true [I N.p, .gl (.loc 2) 8 N.ws.length], .flat true (N.ws.flatMap encWy), .flat true ((nmW N name (idx.take j)).flatMap encWy)]) (fun j => j ≤ idx.length) (fun j => idx.length - j) 0 (Nat.zero_le _) ?_ ?_
      · rw [show nmW N name (idx.take 0) = [] from rfl]
        conv => whnf
        refine Retell.turn ⟨[1,2,3,4], 4, [], []⟩ (TurnOk.mk' _ _ [] [] (OutOk.lift _) rfl (by decide) zb trivial trivial rfl) zw zm
      · intro j hj
        have hnwl : (nmW N name (idx.take j)).length = j := by unfold nmW; rw [List.length_map, List.length_take]; omega
        rcases Nat.lt_or_ge j idx.length with q2 | q2
        · have hx2 : idx[j]? = some idx[j] := List.getElem?_eq_getElem q2
          obtain ⟨i, hi, he⟩ := pI.mem.1 (List.mem_of_getElem? hx2)
          rw [he] at hx2
          have hw : N.ws[i]? = some N.ws[i] := List.getElem?_eq_getElem hi
          have hst := nmW_take (N := N) (name := name) hx2 (w := N.ws[i]) (by rw [Int.toNat_natCast]; exact hw)
          have hwo := hN.ws _ (List.mem_of_getElem? hw)
          generalize N.ws[i] = w at hw hst hwo
          have n1 := hat hwo.f
          have n2 := hat hwo.t
          have wf := hwo.f
          have wt := hwo.t
          generalize nmW N name (idx.take j) = W at hnwl hst ⊢
          have hne : w.nam (nmU name) = ⟨nmU name w.f, nmU name w.t, w.d, w.h, w.n, w.g, w.lo, w.hi⟩ := rfl
          rw [hne] at hst
          clear hne
          generalize nmU name w.f = uf at n1 hst
          generalize nmU name w.t = ut at n2 hst
          conv => whnf
          repeat' (first | ((first | refine zs1 ?_ | refine zs2 ?_ | refine zs3 ?_ | refine zs4 ?_ | refine zs5 ?_); conv => whnf) | ((first | apply zi1 | apply zi2 | apply zi3 | apply zi4 | apply zi5) <;> intro _ <;> conv => whnf) | (refine VAny.ix encI_len j rfl rfl hx2 ?_; conv => whnf) | (refine VAny.ix encWy_len i rfl rfl hw ?_; conv => whnf))
          all_goals try (exfalso; omega)
          refine zs6 [(9, 11)] ?_
          conv => whnf
          repeat' (first | ((first | refine zs1 ?_ | refine zs2 ?_ | refine zs3 ?_ | refine zs4 ?_ | refine zs5 ?_); conv => whnf) | ((first | apply zi1 | apply zi2 | apply zi3 | apply zi4 | apply zi5) <;> intro _ <;> conv => whnf) | (refine VAny.ix encI_len w.f.toNat (by omega) rfl n1 ?_; conv => whnf) | (refine VAny.ix encI_len w.t.toNat (by omega) rfl n2 ?_; conv => whnf))
          all_goals try (exfalso; omega)
          refine VMem.app1 (l := W) (⟨uf, ut, w.d, w.h, w.n, w.g, w.lo, w.hi⟩ : Wy) encWy_len rfl rfl rfl rfl rfl (by omega) ?_
          conv => whnf
          repeat' (first | ((first | refine zs1 ?_ | refine zs2 ?_ | refine zs3 ?_ | refine zs4 ?_ | refine zs5 ?_); conv => whnf) | ((first | apply zi1 | apply zi2 | apply zi3 | apply zi4 | apply zi5) <;> intro _ <;> conv => whnf))
          refine LEnd.intro (j + 1) (by omega) (by omega) ?_
          rw [hst, List.length_append]
          conv => whnf
          refine Retell.turn ⟨[0,1,2,6], 7, [], []⟩ (TurnOk.mk' _ _ [] [] (OutOk.lift _) rfl (by decide) zb trivial trivial rfl) zw zm
        · obtain rfl : j = idx.length := by omega
          rw [List.take_of_length_le (Nat.le_refl _)]
          have hNe : encN ⟨N.p, nmW N name idx⟩ = [DI N.p, .sl 8 (nmW N name idx).length ((nmW N name idx).flatMap encWy)] := rfl
          have hflN : ((nmW N name idx).flatMap encWy).length = (nmW N name idx).length * 8 := flat_len encWy_len _
          have hnll : (nmW N name idx).length = N.ws.length := by unfold nmW; rw [List.length_map]; exact hil
          generalize hNN : (⟨N.p, nmW N name idx⟩ : Nt) = NN at hnm hNe hday
          have hNNl : NN.ws.length = N.ws.length := by rw [← hNN]; exact hnll
          conv => whnf
          repeat' (first | ((first | refine zs1 ?_ | refine zs2 ?_ | refine zs3 ?_ | refine zs4 ?_ | refine zs5 ?_); conv => whnf) | ((first | apply zi1 | apply zi2 | apply zi3 | apply zi4 | apply zi5) <;> intro _ <;> conv => whnf))
          all_goals try (exfalso; omega)
          refine VCut.at' (outer := h.lift) (marks := []) 3 [(6, .fp (encN N)), (7, .fp (encHd x)), (8, ints a), (9, ints b), (11, ints name), (12, .fp (encN BK)), (13, .fp (encN NN)), (14, .ptr (.loc 0) 0)] [.cells true [I N.p, .gl (.loc 1) 8 N.ws.length], .flat true (N.ws.flatMap encWy)] ?_ ?_
          · rw [hNe]
            conv => whnf
            refine Retell.turn ⟨[1,2], 4, [(0, [DI N.p, .sl 8 (nmW N name idx).length ((nmW N name idx).flatMap encWy)]), (3, (nmW N name idx).flatMap encWy)], []⟩ (TurnOk.mk' _ _ [(0, [DI N.p, .sl 8 (nmW N name idx).length ((nmW N name idx).flatMap encWy)]), (3, (nmW N name idx).flatMap encWy)] [] (OutOk.lift _) rfl (by decide) zb zr trivial rfl) zw zm
          clear hNe hflN hNN hnll cT cO hfl0
          have hLS := fun p h => vc_Led N.p p 0 1000 0 0 0 0 h
          have hLG := fun p h => vc_Led p (N.p + 1) 0 1000 0 0 0 0 h
          conv => whnf
          repeat' (first | ((first | refine zs1 ?_ | refine zs2 ?_ | refine zs3 ?_ | refine zs4 ?_ | refine zs5 ?_); conv => whnf) | ((first | apply zi1 | apply zi2 | apply zi3 | apply zi4 | apply zi5) <;> intro _ <;> conv => whnf))
          all_goals try (exfalso; omega)
          refine VCode.lp (outer := h.lift) (marks := []) (fun j : Nat => [(6, .fp (encN N)), (7, .fp (encHd x)), (8, ints a), (9, ints b), (11, ints name), (12, .fp (encN BK)), (13, .fp (encN NN)), (14, .ptr (.loc 0) 0), (138, ints a), (139, I a.length), (140, I j)]) (fun j => [.cells true [I (N.p + 2), .gl (.loc 1) 8 (N.ws ++ (a.take j).map (jS N.p)).length], .flat true ((N.ws ++ (a.take j).map (jS N.p)).flatMap encWy)]) (fun j => j ≤ a.length) (fun j => a.length - j) 0 (Nat.zero_le _) ?_ ?_
          · rw [show N.ws ++ (a.take 0).map (jS N.p) = N.ws by simp]
            conv => whnf
            refine Retell.turn ⟨[0,1], 2, [], []⟩ (TurnOk.mk' _ _ [] [] (OutOk.lift _) rfl (by decide) zb trivial trivial rfl) zw zm
          · intro j hj
            have hll : (N.ws ++ (a.take j).map (jS N.p)).length ≤ 30 := by rw [List.length_append, List.length_map, List.length_take]; omega
            rcases Nat.lt_or_ge j a.length with q3 | q3
            · have hp := List.getElem?_eq_getElem q3
              have hst : N.ws ++ (a.take (j + 1)).map (jS N.p) = (N.ws ++ (a.take j).map (jS N.p)) ++ [jS N.p a[j]] := by rw [List.take_add_one, hp, List.map_append, List.append_assoc]; rfl
              have cL := hLS a[j]
              generalize a[j] = p at hp hst cL
              generalize N.ws ++ (a.take j).map (jS N.p) = L at hll hst ⊢
              conv => whnf
              repeat' (first | ((first | refine zs1 ?_ | refine zs2 ?_ | refine zs3 ?_ | refine zs4 ?_ | refine zs5 ?_); conv => whnf) | ((first | apply zi1 | apply zi2 | apply zi3 | apply zi4 | apply zi5) <;> intro _ <;> conv => whnf) | (refine VAny.ix encI_len j rfl rfl hp ?_; conv => whnf))
              all_goals try (exfalso; omega)
              refine zs6 [(1, 5)] ?_
              conv => whnf
              repeat' (first | ((first | refine zs1 ?_ | refine zs2 ?_ | refine zs3 ?_ | refine zs4 ?_ | refine zs5 ?_); conv => whnf) | ((first | apply zi1 | apply zi2 | apply zi3 | apply zi4 | apply zi5) <;> intro _ <;> conv => whnf) | (refine VCall.intro (cL _) ?_; conv => whnf))
              refine VMem.app1 (l := L) (jS N.p p) encWy_len rfl rfl rfl rfl rfl (by omega) ?_
              conv => whnf
              repeat' (first | ((first | refine zs1 ?_ | refine zs2 ?_ | refine zs3 ?_ | refine zs4 ?_ | refine zs5 ?_); conv => whnf) | ((first | apply zi1 | apply zi2 | apply zi3 | apply zi4 | apply zi5) <;> intro _ <;> conv => whnf))
              refine LEnd.intro (j + 1) (by omega) (by omega) ?_
              rw [hst, List.length_append]
              conv => whnf
              refine Retell.turn ⟨[0,3], 4, [], []⟩ (TurnOk.mk' _ _ [] [] (OutOk.lift _) rfl (by decide) zb trivial trivial rfl) zw zm
            · obtain rfl : j = a.length := by omega
              rw [List.take_of_length_le (Nat.le_refl _)] at hll ⊢
              have hbase : (N.ws ++ a.map (jS N.p)).length = N.ws.length + a.length := by rw [List.length_append, List.length_map]
              conv => whnf
              repeat' (first | ((first | refine zs1 ?_ | refine zs2 ?_ | refine zs3 ?_ | refine zs4 ?_ | refine zs5 ?_); conv => whnf) | ((first | apply zi1 | apply zi2 | apply zi3 | apply zi4 | apply zi5) <;> intro _ <;> conv => whnf))
              all_goals try (exfalso; omega)
              refine VCode.lp (outer := h.lift) (marks := []) (fun j : Nat => [(6, .fp (encN N)), (7, .fp (encHd x)), (8, ints a), (9, ints b), (11, ints name), (12, .fp (encN BK)), (13, .fp (encN NN)), (14, .ptr (.loc 0) 0), (154, ints b), (155, I b.length), (156, I j)]) (fun j => [.cells true [I (N.p + 2), .gl (.loc 1) 8 (N.ws ++ a.map (jS N.p) ++ (b.take j).map (jG N.p)).length], .flat true ((N.ws ++ a.map (jS N.p) ++ (b.take j).map (jG N.p)).flatMap encWy)]) (fun j => j ≤ b.length) (fun j => b.length - j) 0 (Nat.zero_le _) ?_ ?_
              · rw [show N.ws ++ a.map (jS N.p) ++ (b.take 0).map (jG N.p) = N.ws ++ a.map (jS N.p) by simp]
                conv => whnf
                refine Retell.turn ⟨[0,1], 2, [], []⟩ (TurnOk.mk' _ _ [] [] (OutOk.lift _) rfl (by decide) zb trivial trivial rfl) zw zm
              · intro j hj2
                have hl2 : (N.ws ++ a.map (jS N.p) ++ (b.take j).map (jG N.p)).length ≤ 30 := by rw [List.length_append, hbase, List.length_map, List.length_take]; omega
                rcases Nat.lt_or_ge j b.length with q4 | q4
                · have hp := List.getElem?_eq_getElem q4
                  have hst : N.ws ++ a.map (jS N.p) ++ (b.take (j + 1)).map (jG N.p) = (N.ws ++ a.map (jS N.p) ++ (b.take j).map (jG N.p)) ++ [jG N.p b[j]] := by rw [List.take_add_one, hp, List.map_append, ← List.append_assoc]; rfl
                  have cL := hLG b[j]
                  generalize b[j] = p at hp hst cL
                  generalize N.ws ++ a.map (jS N.p) ++ (b.take j).map (jG N.p) = L at hl2 hst ⊢
                  conv => whnf
                  repeat' (first | ((first | refine zs1 ?_ | refine zs2 ?_ | refine zs3 ?_ | refine zs4 ?_ | refine zs5 ?_); conv => whnf) | ((first | apply zi1 | apply zi2 | apply zi3 | apply zi4 | apply zi5) <;> intro _ <;> conv => whnf) | (refine VAny.ix encI_len j rfl rfl hp ?_; conv => whnf))
                  all_goals try (exfalso; omega)
                  refine zs6 [(1, 6)] ?_
                  conv => whnf
                  repeat' (first | ((first | refine zs1 ?_ | refine zs2 ?_ | refine zs3 ?_ | refine zs4 ?_ | refine zs5 ?_); conv => whnf) | ((first | apply zi1 | apply zi2 | apply zi3 | apply zi4 | apply zi5) <;> intro _ <;> conv => whnf) | (refine VCall.intro (cL _) ?_; conv => whnf))
                  refine VMem.app1 (l := L) (jG N.p p) encWy_len rfl rfl rfl rfl rfl (by omega) ?_
                  conv => whnf
                  repeat' (first | ((first | refine zs1 ?_ | refine zs2 ?_ | refine zs3 ?_ | refine zs4 ?_ | refine zs5 ?_); conv => whnf) | ((first | apply zi1 | apply zi2 | apply zi3 | apply zi4 | apply zi5) <;> intro _ <;> conv => whnf))
                  refine LEnd.intro (j + 1) (by omega) (by omega) ?_
                  rw [hst, List.length_append]
                  conv => whnf
                  refine Retell.turn ⟨[0,3], 4, [], []⟩ (TurnOk.mk' _ _ [] [] (OutOk.lift _) rfl (by decide) zb trivial trivial rfl) zw zm
                · obtain rfl : j = b.length := by omega
                  rw [List.take_of_length_le (Nat.le_refl _)] at hl2 ⊢
                  have hJe : encN ⟨N.p + 2, joinW N.p N.ws a b⟩ = [DI (N.p + 2), .sl 8 (N.ws ++ a.map (jS N.p) ++ b.map (jG N.p)).length ((N.ws ++ a.map (jS N.p) ++ b.map (jG N.p)).flatMap encWy)] := rfl
                  have hflJ : ((N.ws ++ a.map (jS N.p) ++ b.map (jG N.p)).flatMap encWy).length = (N.ws ++ a.map (jS N.p) ++ b.map (jG N.p)).length * 8 := flat_len encWy_len _
                  generalize hJN : (⟨N.p + 2, joinW N.p N.ws a b⟩ : Nt) = JN at hjn hJe
                  have hJl : JN.ws.length ≤ 30 := by rw [← hJN]; exact hl2
                  generalize N.ws ++ a.map (jS N.p) ++ b.map (jG N.p) = L at hJe hflJ hl2 ⊢
                  conv => whnf
                  repeat' (first | ((first | refine zs1 ?_ | refine zs2 ?_ | refine zs3 ?_ | refine zs4 ?_ | refine zs5 ?_); conv => whnf) | ((first | apply zi1 | apply zi2 | apply zi3 | apply zi4 | apply zi5) <;> intro _ <;> conv => whnf))
                  all_goals try (exfalso; omega)
                  refine VCut.at' (outer := h.lift) (marks := []) 5 [(6, .fp (encN N)), (7, .fp (encHd x)), (8, ints a), (9, ints b), (11, ints name), (12, .fp (encN BK)), (13, .fp (encN NN)), (14, .fp (encN JN))] [] ?_ ?_
                  · rw [hJe]
                    conv => whnf
                    refine Retell.turn ⟨[], 2, [(0, [DI (N.p + 2), .sl 8 L.length (L.flatMap encWy)]), (1, L.flatMap encWy)], []⟩ (TurnOk.mk' _ _ [(0, [DI (N.p + 2), .sl 8 L.length (L.flatMap encWy)]), (1, L.flatMap encWy)] [] (OutOk.lift _) rfl (by decide) zb zr trivial rfl) zw zm
                  clear hJe hflJ hJN hl2 hll hbase hLS hLG
                  have hN1 := hN
                  have hBl : BK.ws.length ≤ 24 := hbk.ok.len
                  have hua := fun (p : Int) (hp : p ∈ a) => hat (hP.smt.inN p hp)
                  have hub := fun (p : Int) (hp : p ∈ b) => hat (hP.gin p hp)
                  obtain ⟨_, _, _, a0, b0, _, _⟩ := pas_ok h0
                  conv => whnf
                  repeat' (first | ((first | refine zs1 ?_ | refine zs2 ?_ | refine zs3 ?_ | refine zs4 ?_ | refine zs5 ?_); conv => whnf) | ((first | apply zi1 | apply zi2 | apply zi3 | apply zi4 | apply zi5) <;> intro _ <;> conv => whnf))
                  all_goals try (exfalso; omega)
                  refine VCode.lp (outer := h.lift) (marks := []) (fun j : Nat => [(6, .fp (encN N)), (7, .fp (encHd x)), (8, ints a), (9, ints b), (11, ints name), (12, .fp (encN BK)), (13, .fp (encN NN)), (14, .fp (encN JN)), (23, .gl (.loc 0) 1 ((a.take j).map (nmU name)).length), (24, .nilslice), (171, ints a), (172, I a.length), (173, I j)]) (fun j => [.flat true (((a.take j).map (nmU name)).flatMap Vm.encI)]) (fun j => j ≤ a.length) (fun j => a.length - j) 0 (Nat.zero_le _) ?_ ?_
                  · rw [show (a.take 0).map (nmU name) = [] by simp]
                    conv => whnf
                    refine Retell.turn ⟨[0], 0, [], []⟩ (TurnOk.mk' _ _ [] [] (OutOk.lift _) rfl (by decide) zb trivial trivial rfl) zw zm
                  · intro j hj3
                    have hl3 : ((a.take j).map (nmU name)).length ≤ 30 := by rw [List.length_map, List.length_take]; omega
                    rcases Nat.lt_or_ge j a.length with q5 | q5
                    · have hp := List.getElem?_eq_getElem q5
                      have hst : (a.take (j + 1)).map (nmU name) = (a.take j).map (nmU name) ++ [nmU name a[j]] := by rw [List.take_add_one, hp, List.map_append]; rfl
                      have n1 := hua _ (List.mem_of_getElem? hp)
                      have hpr := hP.smt.inN _ (List.mem_of_getElem? hp)
                      generalize a[j] = p at hp hst n1 hpr
                      generalize (a.take j).map (nmU name) = L2 at hl3 hst ⊢
                      generalize nmU name p = up at n1 hst
                      conv => whnf
                      repeat' (first | ((first | refine zs1 ?_ | refine zs2 ?_ | refine zs3 ?_ | refine zs4 ?_ | refine zs5 ?_); conv => whnf) | ((first | apply zi1 | apply zi2 | apply zi3 | apply zi4 | apply zi5) <;> intro _ <;> conv => whnf) | (refine VAny.ix encI_len j rfl rfl hp ?_; conv => whnf) | (refine VAny.ix encI_len p.toNat (by omega) rfl n1 ?_; conv => whnf))
                      all_goals try (exfalso; omega)
                      refine VMem.app1 (l := L2) up encI_len rfl rfl rfl rfl rfl (by omega) ?_
                      conv => whnf
                      repeat' (first | ((first | refine zs1 ?_ | refine zs2 ?_ | refine zs3 ?_ | refine zs4 ?_ | refine zs5 ?_); conv => whnf) | ((first | apply zi1 | apply zi2 | apply zi3 | apply zi4 | apply zi5) <;> intro _ <;> conv => whnf))
                      refine LEnd.intro (j + 1) (by omega) (by omega) ?_
                      rw [hst, List.length_append]
                      conv => whnf
                      refine Retell.turn ⟨[2], 3, [], []⟩ (TurnOk.mk' _ _ [] [] (OutOk.lift _) rfl (by decide) zb trivial trivial rfl) zw zm
                    · obtain rfl : j = a.length := by omega
                      rw [List.take_of_length_le (Nat.le_refl _)] at hl3 ⊢
                      conv => whnf
                      repeat' (first | ((first | refine zs1 ?_ | refine zs2 ?_ | refine zs3 ?_ | refine zs4 ?_ | refine zs5 ?_); conv => whnf) | ((first | apply zi1 | apply zi2 | apply zi3 | apply zi4 | apply zi5) <;> intro _ <;> conv => whnf))
                      all_goals try (exfalso; omega)
                      refine VCode.lp (outer := h.lift) (marks := []) (fun j : Nat => [(6, .fp (encN N)), (7, .fp (encHd x)), (8, ints a), (9, ints b), (11, ints name), (12, .fp (encN BK)), (13, .fp (encN NN)), (14, .fp (encN JN)), (23, .gl (.loc 0) 1 (a.map (nmU name)).length), (24, .gl (.loc 1) 1 ((b.take j).map (nmU name)).length), (185, ints b), (186, I b.length), (187, I j)]) (fun j => [.flat true ((a.map (nmU name)).flatMap Vm.encI), .flat true (((b.take j).map (nmU name)).flatMap Vm.encI)]) (fun j => j ≤ b.length) (fun j => b.length - j) 0 (Nat.zero_le _) ?_ ?_
                      · rw [show (b.take 0).map (nmU name) = [] by simp]
                        conv => whnf
                        refine Retell.turn ⟨[0,1], 1, [], []⟩ (TurnOk.mk' _ _ [] [] (OutOk.lift _) rfl (by decide) zb trivial trivial rfl) zw zm
                      · intro j hj4
                        have hl4 : ((b.take j).map (nmU name)).length ≤ 30 := by rw [List.length_map, List.length_take]; omega
                        rcases Nat.lt_or_ge j b.length with q6 | q6
                        · have hp := List.getElem?_eq_getElem q6
                          have hst : (b.take (j + 1)).map (nmU name) = (b.take j).map (nmU name) ++ [nmU name b[j]] := by rw [List.take_add_one, hp, List.map_append]; rfl
                          have n1 := hub _ (List.mem_of_getElem? hp)
                          have hpr := hP.gin _ (List.mem_of_getElem? hp)
                          generalize b[j] = p at hp hst n1 hpr
                          generalize (b.take j).map (nmU name) = L2 at hl4 hst ⊢
                          generalize nmU name p = up at n1 hst
                          conv => whnf
                          repeat' (first | ((first | refine zs1 ?_ | refine zs2 ?_ | refine zs3 ?_ | refine zs4 ?_ | refine zs5 ?_); conv => whnf) | ((first | apply zi1 | apply zi2 | apply zi3 | apply zi4 | apply zi5) <;> intro _ <;> conv => whnf) | (refine VAny.ix encI_len j rfl rfl hp ?_; conv => whnf) | (refine VAny.ix encI_len p.toNat (by omega) rfl n1 ?_; conv => whnf))
                          all_goals try (exfalso; omega)
                          refine VMem.app1 (l := L2) up encI_len rfl rfl rfl rfl rfl (by omega) ?_
                          conv => whnf
                          repeat' (first | ((first | refine zs1 ?_ | refine zs2 ?_ | refine zs3 ?_ | refine zs4 ?_ | refine zs5 ?_); conv => whnf) | ((first | apply zi1 | apply zi2 | apply zi3 | apply zi4 | apply zi5) <;> intro _ <;> conv => whnf))
                          refine LEnd.intro (j + 1) (by omega) (by omega) ?_
                          rw [hst, List.length_append]
                          conv => whnf
                          refine Retell.turn ⟨[0,3], 4, [], []⟩ (TurnOk.mk' _ _ [] [] (OutOk.lift _) rfl (by decide) zb trivial trivial rfl) zw zm
                        · obtain rfl : j = b.length := by omega
                          rw [List.take_of_length_le (Nat.le_refl _)] at hl4 ⊢
                          have e1 : (srt (a.map (nmU name))).length = (a.map (nmU name)).length := srt_len _
                          have e2 : (srt (b.map (nmU name))).length = (b.map (nmU name)).length := srt_len _
                          have f1 : (a.map (nmU name)).length = a.length := List.length_map ..
                          have f2 : (b.map (nmU name)).length = b.length := List.length_map ..
                          have s1 := fun (hh : Hp) hb => vc_Sort (a.map (nmU name)).length (a.map (nmU name)) (.loc 0) hh hb (Nat.le_refl _) (by omega) (by omega) (srt (a.map (nmU name))) (by unfold Go.Vm.srtI srt; rw [List.take_length]; exact List.prefix_append _ _)
                          have s2 := fun (hh : Hp) hb => vc_Sort (b.map (nmU name)).length (b.map (nmU name)) (.loc 1) hh hb (Nat.le_refl _) (by omega) (by omega) (srt (b.map (nmU name))) (by unfold Go.Vm.srtI srt; rw [List.take_length]; exact List.prefix_append _ _)
                          generalize srt (a.map (nmU name)) = A2 at *
                          generalize srt (b.map (nmU name)) = B2 at *
                          generalize a.map (nmU name) = A1 at *
                          generalize b.map (nmU name) = B1 at *
                          conv => whnf
                          repeat' (first | ((first | refine zs1 ?_ | refine zs2 ?_ | refine zs3 ?_ | refine zs4 ?_ | refine zs5 ?_); conv => whnf) | ((first | apply zi1 | apply zi2 | apply zi3 | apply zi4 | apply zi5) <;> intro _ <;> conv => whnf) | (refine VCall.intro (s1 _ rfl) ?_; conv => whnf) | (refine VCall.intro (s2 _ rfl) ?_; conv => whnf))
                          all_goals try (exfalso; omega)
                          refine VCut.at' (outer := h.lift) (marks := []) 99 [(6, .fp (encN N)), (7, .fp (encHd x)), (8, ints a), (9, ints b), (11, ints name), (12, .fp (encN BK)), (13, .fp (encN NN)), (14, .fp (encN JN)), (23, ints A2), (24, ints B2)] [] ?_ ?_
                          · rw [← e1, ← e2]
                            conv => whnf
                            refine Retell.turn ⟨[], 2, [(0, A2.flatMap Vm.encI), (1, B2.flatMap Vm.encI)], []⟩ (TurnOk.mk' _ _ [(0, A2.flatMap Vm.encI), (1, B2.flatMap Vm.encI)] [] (OutOk.lift _) rfl (by decide) zb zf trivial rfl) zw zm
                          have hNl9 : NN.ws.length ≤ 24 := by omega
                          have hJl9 := hJl
                          have C1 := fun h => vc_Drive N a b h (by omega) (by omega) (by omega)
                          have C2 := fun h => vc_Drive BK b a h (by omega) (by omega) (by omega)
                          have C3 := fun h => vc_Drive NN A2 B2 h (by omega) (by omega) (by omega)
                          have C4 := fun h => vc_Drive JN [N.p] [N.p + 1] h (by omega) (by simp) (by simp)
                          unfold drvV at C1 C2 C3 C4
                          rw [if_pos h0] at C1
                          rw [if_pos hbk.pas, hbk.same] at C2
                          rw [if_pos hnm.pas, hnm.same] at C3
                          rw [if_pos hjn.pas, hjn.same] at C4
                          generalize (dvP BK b a).1 = H2 at C2
                          generalize (dvP NN A2 B2).1 = H3 at C3
                          generalize (dvP JN [N.p] [N.p + 1]).1 = H4 at C4
                          generalize dvP N a b = R1 at C1 C2 C3 C4
                          have E1 := fun h => vc_Earliest N x h (by omega)
                          have E2 := fun h => vc_Earliest NN ⟨nmU name x.p, x.d, x.s⟩ h (by omega)
                          unfold eaL at E1 E2
                          rw [if_pos (hN.hrd hx), hN.hrd hx, nok_nat hN] at E1
                          rw [if_pos (hnm.ok.hrd hg), hnm.ok.hrd hg, nok_nat hnm.ok] at E2
                          have F1 : ∀ k, k < n → ((List.range n).map (dyP N x))[k]? = some (dyP N x k) := fun k hk => by rw [List.getElem?_map, List.getElem?_range hk]; rfl
                          have F2 : ∀ k, k < n → ((List.range n).map (dyP NN ⟨nmU name x.p, x.d, x.s⟩))[k]? = some (dyP NN ⟨nmU name x.p, x.d, x.s⟩ k) := fun k hk => by rw [List.getElem?_map, List.getElem?_range hk]; rfl
                          have G1 : ((List.range n).map (dyP N x)).length = n := by simp
                          have G2 : ((List.range n).map (dyP NN ⟨nmU name x.p, x.d, x.s⟩)).length = n := by simp
                          generalize (List.range n).map (dyP N x) = LX at E1 F1 G1
                          generalize (List.range n).map (dyP NN ⟨nmU name x.p, x.d, x.s⟩) = LY at E2 F2 G2
                          have nx := hat hx.p
                          have hup := (nm_ok pN).up
                          clear s1 s2 e1 e2 f1 f2 hl3 hl4 hua hub hnm hbk hjn
                          conv => whnf
                          repeat' (first | ((first | refine zs1 ?_ | refine zs2 ?_ | refine zs3 ?_ | refine zs4 ?_ | refine zs5 ?_); conv => whnf) | ((first | apply zi1 | apply zi2 | apply zi3 | apply zi4 | apply zi5) <;> intro _ <;> first | (exfalso; omega) | contradiction | (conv => whnf)) | (refine VCall.intro (C1 _) ?_; conv => whnf) | (refine VCall.intro (C2 _) ?_; conv => whnf) | (refine VCall.intro (C3 _) ?_; conv => whnf))
                          refine VCall.intro (VC.give (args' := [vN JN, ints [N.p], ints [N.p + 1]]) (loc' := [.dead, .dead]) [(0, [DI N.p]), (1, [DI (N.p + 1)])] [] (OutOk.lift _) zb zf (by exact FmAll.nil) rfl zv (C4 _)) ?_
                          conv => whnf
                          repeat' (first | ((first | refine zs1 ?_ | refine zs2 ?_ | refine zs3 ?_ | refine zs4 ?_ | refine zs5 ?_); conv => whnf) | ((first | apply zi1 | apply zi2 | apply zi3 | apply zi4 | apply zi5) <;> intro _ <;> first | (exfalso; omega) | contradiction | (conv => whnf)) | (refine VCall.intro (E1 _) ?_; conv => whnf))
                          refine zs6 [] ?_
                          conv => whnf
                          repeat' (first | ((first | refine zs1 ?_ | refine zs2 ?_ | refine zs3 ?_ | refine zs4 ?_ | refine zs5 ?_); conv => whnf) | ((first | apply zi1 | apply zi2 | apply zi3 | apply zi4 | apply zi5) <;> intro _ <;> first | (exfalso; omega) | contradiction | (conv => whnf)) | (refine VAny.ix encI_len x.p.toNat (by omega) rfl nx ?_; conv => whnf) | (refine VCall.intro (E2 _) ?_; conv => whnf))
                          refine VCode.lp (outer := h.lift) (marks := []) (fun k : Nat => [(11, ints name), (41, ints LX), (42, ints LY), (310, ints LX), (311, I LX.length), (312, I k)]) (fun _ => []) (fun k => k ≤ n) (fun k => n - k) 0 (Nat.zero_le _) ?_ ?_
                          · conv => whnf
                            refine Retell.turn ⟨[], 2, [], []⟩ (TurnOk.mk' _ _ [] [] (OutOk.lift _) rfl (by decide) zb trivial trivial rfl) zw zm
                          · intro k hk9
                            rcases Nat.lt_or_ge k n with q9 | q9
                            · have h1 := F1 k q9
                              have nk := hat (q := (k : Int)) (by omega)
                              have hu := hup k (by omega) (by omega)
                              have h2 := F2 (nmU name k).toNat (by omega)
                              rw [hday k q9] at h2
                              rw [Int.toNat_natCast] at nk
                              generalize nmU name (k : Int) = uk at nk hu h2
                              generalize dyP N x k = d at h1 h2
                              conv => whnf
                              repeat' (first | ((first | refine zs1 ?_ | refine zs2 ?_ | refine zs3 ?_ | refine zs4 ?_ | refine zs5 ?_); conv => whnf) | ((first | apply zi1 | apply zi2 | apply zi3 | apply zi4 | apply zi5) <;> intro _ <;> first | (exfalso; omega) | contradiction | (conv => whnf)) | (refine VAny.ix encI_len k rfl rfl h1 ?_; conv => whnf) | (refine VAny.ix encI_len k rfl rfl nk ?_; conv => whnf) | (refine VAny.ix encI_len uk.toNat (by omega) rfl h2 ?_; conv => whnf))
                              all_goals try contradiction
                              all_goals try (exfalso; omega)
                              refine LEnd.intro (k + 1) (by omega) (by omega) ?_
                              conv => whnf
                              refine Retell.turn ⟨[], 0, [], []⟩ (TurnOk.mk' _ _ [] [] (OutOk.lift _) rfl (by decide) zb trivial trivial rfl) zw zm
                            · obtain rfl : k = n := by omega
                              conv => whnf
                              repeat' (first | ((first | refine zs1 ?_ | refine zs2 ?_ | refine zs3 ?_ | refine zs4 ?_ | refine zs5 ?_); conv => whnf) | ((first | apply zi1 | apply zi2 | apply zi3 | apply zi4 | apply zi5) <;> intro _ <;> first | (exfalso; omega) | contradiction | (conv => whnf)) | (refine VCall.intro (vc_awake _) ?_; conv => whnf))
                              all_goals try (exfalso; omega)
                              exact VOut.same rfl
end Go.Proofs.Ytoeendggmalcpaa

