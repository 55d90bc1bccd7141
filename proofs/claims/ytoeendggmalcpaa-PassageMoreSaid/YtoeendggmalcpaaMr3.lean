/- Part 3 of the proof that PassageMore holds: who is earlier or has more is nowhere later, and more ways never make less. No condition. -/
import Derived.Test.YtoeendggmalcpaaMr2
set_option linter.unusedVariables false
set_option linter.unusedSimpArgs false
open Go.Vm
open Psg
namespace Go.Vm
theorem Hp.set_twice (h : Hp) (i : Id) (a b : Blk) : (h.set i a).set i b = h.set i b := by
  cases i with
  | out i =>
    obtain ⟨o, l⟩ := h
    simp only [Hp.set]
    congr 1
    funext j
    by_cases e : j = i <;> simp [e]
  | loc k =>
    obtain ⟨o, l⟩ := h
    simp only [Hp.set, List.set_set]
theorem VMem.set2 {P : Program} {α : Type} {enc : α → List D} {m : Nat} (hm : ∀ a, (enc a).length = m) {t : TypeId} {i : Id} {off : Nat} {x0 x1 : S} {ti : TI} {h : Hp} {l : List α} {a : α} {K : V → Hp → Prop} (j c : Nat) (a1 a2 : α) (hTt : tiOf P t = some ti) (hl : Nat.beq 2 ti.size = true) (hb : h.get i = some (.flat true (l.flatMap enc)))
    (hj : l[j]? = some a) (hc : c + 1 < m) (h1 : (enc a).set c (.s x0) = enc a1) (h2 : (enc a1).set (c + 1) (.s x1) = enc a2) (ho : off = j * m + c) (hK : K .undef (h.set i (.flat true ((l.set j a2).flatMap enc)))) : VMem P (opStore t) [.ptr i off, .agg [.s x0, .s x1]] h K := by
  obtain ⟨hjl, _⟩ := List.getElem?_eq_some_iff.1 hj
  have hle : (j + 1) * m ≤ l.length * m := Nat.mul_le_mul_right _ hjl
  rw [Nat.add_mul] at hle
  have w1 : h.wr1 i off (.s x0) = some (h.set i (.flat true ((l.set j a1).flatMap enc))) := by
    unfold Hp.wr1
    rw [hb]
    have hlt : off < (l.flatMap enc).length := by rw [flat_len hm, ho]; omega
    simp only [Blk.wr1, hlt, if_true]
    rw [ho, flat_set hm hj (by omega) h1]
  have hb2 : (h.set i (.flat true ((l.set j a1).flatMap enc))).get i = some (.flat true ((l.set j a1).flatMap enc)) := by
    rw [Hp.get_set _ _ _ _ (by rw [hb]; simp)]; simp
  have hj2 : (l.set j a1)[j]? = some a1 := by rw [List.getElem?_set_self hjl]
  have w2 : (h.set i (.flat true ((l.set j a1).flatMap enc))).wr1 i (off + 1) (.s x1) = some (h.set i (.flat true ((l.set j a2).flatMap enc))) := by
    unfold Hp.wr1
    rw [hb2]
    have hlt : off + 1 < ((l.set j a1).flatMap enc).length := by rw [flat_len hm, List.length_set, ho]; omega
    simp only [Blk.wr1, hlt, if_true]
    rw [ho, Nat.add_assoc, flat_set hm hj2 hc h2, Hp.set_twice, List.set_set]
  refine VMem.store (cs := [.s x0, .s x1]) hTt rfl hl ?_ hK
  simp only [Hp.wrN, w1, w2]
end Go.Vm
namespace Go.Proofs.Ytoeendggmalcpaa
set_option maxRecDepth 20000
set_option maxHeartbeats 8000000
theorem vc_More (ns ts : List Int) (h : Hp) : VC Try.prog 6 [bytes ns, bytes ts] h (B true) h := by
  have cM := fun (i : Vm.Id) (h : Hp) hd => vc_Made ns (0, 9) 8 18 i h (by decide) (by decide) (by decide) hd
  obtain ⟨n, hN, hn2, _, hd1, hwl⟩ := mdN_ok ns (0, 9) (p := 8) (w := 18) (by decide) (by decide)
  have hsm := mdN_small ns (0, 9) (p := 8) (w := 18) (by decide)
  generalize (mdS ns (0, 9) 8 18).1 = D1 at *
  generalize mdN ns (0, 9) 8 18 = N at *
  have hpn := hN.p
  have hn1 := hN.n1
  have cH := fun (i : Vm.Id) (h : Hp) hd => vc_Herded ns D1 N i h (by dsimp only at hd1; omega) hd
  have hH := hrN_ok ns D1 (n := n) (by omega)
  rw [← hpn] at hH
  obtain ⟨hx, hd2⟩ := hH
  generalize (hrN ns D1 N.p).2 = D2 at *
  generalize (hrN ns D1 N.p).1 = x at *
  have cP := fun (i : Vm.Id) (h : Hp) hd => vc_Pastures ns D2 N i h hN hn2 (by dsimp only at hd1; omega) hd
  obtain ⟨hO, _⟩ := past_ok ns D2 hN hn2
  generalize (paX ns D2 n).1 = D3 at *
  generalize paF ns D2 n = a at *
  generalize paT ns D2 n = b at *
  have al := hO.al
  have bl := hO.bl
  have hP := hO.ps
  have h0 := hO.pas
  have hxd := hx.d
  have hxs := hx.s
  have u1 := dNx_bd ts (0, 9) 5
  have g1 := fun (h2 : Hp) hh => vc_draw ts (0, 9) 5 (.loc 0) h2 (by decide) hh
  generalize dNx ts (0, 9) 5 = z1 at u1 g1
  obtain ⟨v1, e1⟩ := z1
  dsimp only at u1 g1
  have u2 := dNx_bd ts e1 16
  have g2 := fun (h2 : Hp) hh => vc_draw ts e1 16 (.loc 0) h2 (by omega) hh
  generalize dNx ts e1 16 = z2 at u2 g2
  obtain ⟨v2, e2⟩ := z2
  dsimp only at u2 g2
  have hv2 : Pp v2 := ⟨u2.1, by omega⟩
  have hG : HOk n ⟨x.p, max 0 (x.d - v1), por x.s v2⟩ := ⟨hx.p, by dsimp only; omega, por_pp hxs hv2⟩
  have hSup : Sup x ⟨x.p, max 0 (x.d - v1), por x.s v2⟩ := ⟨rfl, by dsimp only; omega, has_or hxs hv2, por_pp hxs hv2⟩
  have cO := fun h => vc_CloneNetO N h (by omega)
  have hfl0 : (N.ws.flatMap encWy).length = N.ws.length * 8 := flat_len encWy_len _
  refine VC.bodyC 5 Try.func6 rfl Try.ntmps6 Try.call6 (h.grows_refl) rfl ?_; conv => whnf
  repeat' (first | ((first | refine zs1 ?_ | refine zs2 ?_ | refine zs3 ?_ | refine zs4 ?_ | refine zs5 ?_); conv => whnf) | ((first | apply zi1 | apply zi2 | apply zi3 | apply zi4 | apply zi5) <;> intro _ <;> conv => whnf) | (refine VCall.intro (vc_Of _ _) ?_; conv => whnf) | (refine VCall.intro (cM _ _ rfl) ?_; conv => whnf) | (refine VCall.intro (cH _ _ rfl) ?_; conv => whnf) | (refine VCall.intro (cP _ _ rfl) ?_; conv => whnf))
  refine VCut.at' (outer := h.lift) (marks := []) 3 [(1, bytes ts), (6, .fp (encN N)), (7, .fp (encHd x)), (8, ints a), (9, ints b)] [] ?_ ?_
  · conv => whnf
    refine Retell.turn ⟨[], 3, [(1, encN N), (2, encHd x)], []⟩ (TurnOk.mk' _ _ [(1, encN N), (2, encHd x)] [] (OutOk.lift _) rfl (by decide) zb zf trivial rfl) zw zm
  conv => whnf
  repeat' (first | ((first | refine zs1 ?_ | refine zs2 ?_ | refine zs3 ?_ | refine zs4 ?_ | refine zs5 ?_); conv => whnf) | ((first | apply zi1 | apply zi2 | apply zi3 | apply zi4 | apply zi5) <;> intro _ <;> conv => whnf) | (refine VCall.intro (vc_Of _ _) ?_; conv => whnf))
  refine zs6 [(0, 2)] ?_
  conv => whnf
  repeat' (first | ((first | refine zs1 ?_ | refine zs2 ?_ | refine zs3 ?_ | refine zs4 ?_ | refine zs5 ?_); conv => whnf) | ((first | apply zi1 | apply zi2 | apply zi3 | apply zi4 | apply zi5) <;> intro _ <;> conv => whnf) | (refine VCall.intro (cO _) ?_; conv => whnf))
  refine zs6 [(1, 3), (3, 7), (1, 9), (7, 9), (7, 12)] ?_
  conv => whnf
  repeat' (first | ((first | refine zs1 ?_ | refine zs2 ?_ | refine zs3 ?_ | refine zs4 ?_ | refine zs5 ?_); conv => whnf) | ((first | apply zi1 | apply zi2 | apply zi3 | apply zi4 | apply zi5) <;> intro _ <;> conv => whnf) | (refine VCall.intro (g1 _ rfl) ?_; conv => whnf) | (refine VCall.intro (g2 _ rfl) ?_; conv => whnf) | (refine zor hxs hv2 ?_; conv => whnf))
  generalize hgg : (⟨x.p, max 0 (x.d - v1), por x.s v2⟩ : Hd) = g at hG hSup
  have hge : encHd g = [DI x.p, DI (max 0 (x.d - v1)), DI (por x.s v2)] := by rw [← hgg]; rfl
  refine VCut.at' (outer := h.lift) (marks := []) 3 [(6, .fp (encN N)), (7, .fp (encHd x)), (8, ints a), (9, ints b), (10, .ptr (.loc 0) 0), (11, .fp (encHd g)), (12, .ptr (.loc 1) 0)] [deckB ts e2, .cells true [I N.p, .gl (.loc 2) 8 N.ws.length], .flat true (N.ws.flatMap encWy)] ?_ ?_
  · rw [hge]
    conv => whnf
    refine Retell.turn ⟨[0,3,1], 4, [(2, [DI x.p, DI (max 0 (x.d - v1)), DI (por x.s v2)])], []⟩ (TurnOk.mk' _ _ [(2, [DI x.p, DI (max 0 (x.d - v1)), DI (por x.s v2)])] [] (OutOk.lift _) rfl (by decide) zb zf trivial rfl) zw zm
  clear hge
  conv => whnf
  repeat' (first | ((first | refine zs1 ?_ | refine zs2 ?_ | refine zs3 ?_ | refine zs4 ?_ | refine zs5 ?_); conv => whnf) | ((first | apply zi1 | apply zi2 | apply zi3 | apply zi4 | apply zi5) <;> intro _ <;> conv => whnf))
  refine VCode.lp (outer := h.lift) (marks := []) (fun y : Nat × DS × List Wy => [(6, .fp (encN N)), (7, .fp (encHd x)), (8, ints a), (9, ints b), (10, .ptr (.loc 0) 0), (11, .fp (encHd g)), (12, .ptr (.loc 1) 0), (68, I N.ws.length), (69, I y.1)]) (fun y => [deckB ts y.2.1, .cells true [I N.p, .gl (.loc 2) 8 N.ws.length], .flat true (y.2.2.flatMap encWy)]) (fun y => y.1 ≤ N.ws.length ∧ y.2.1.1 ≤ 10 + 5 * y.1 ∧ WdI n N.ws y.1 y.2.2) (fun y => N.ws.length - y.1) (0, e2, N.ws) ⟨Nat.zero_le _, by dsimp only; omega, WdI.zero (fun w hw => ⟨hN.ws w hw, hN.ne w hw⟩)⟩ ?_ ?_
  · conv => whnf
    refine Retell.turn ⟨[0,1,2], 3, [], []⟩ (TurnOk.mk' _ _ [] [] (OutOk.lift _) rfl (by decide) zb trivial trivial rfl) zw zm
  · rintro ⟨k, f, vs⟩ ⟨k1, k2, k3⟩
    dsimp only at k1 k2 k3
    have hvl := k3.len
    rcases Nat.lt_or_ge k N.ws.length with q1 | q1
    · have hw : N.ws[k]? = some N.ws[k] := List.getElem?_eq_getElem q1
      have hvw : vs[k]? = some N.ws[k] := by rw [k3.rest k (Nat.le_refl _)]; exact hw
      have hwo := hN.ws _ (List.mem_of_getElem? hw)
      have hne := hN.ne _ (List.mem_of_getElem? hw)
      have hws := hsm _ (List.mem_of_getElem? hw)
      generalize N.ws[k] = w at *
      have hwh := hwo.h
      have hwlo := hwo.lo
      have hwn := hwo.n
      have yc := dNx_bd ts f 3
      have cC := fun (h2 : Hp) hh => vc_coin ts f 3 (.loc 0) h2 (by omega) hh
      generalize dNx ts f 3 = zc at yc cC
      obtain ⟨c, f0⟩ := zc
      dsimp only at yc cC
      by_cases hc : c = 0
      · rw [show (c == 0) = true by rw [hc]; rfl] at cC
        have y1 := dNx_bd ts f0 4
        have c1 := fun (h2 : Hp) hh => vc_draw ts f0 4 (.loc 0) h2 (by omega) hh
        generalize dNx ts f0 4 = z at y1 c1
        obtain ⟨s1, f1⟩ := z
        dsimp only at y1 c1
        have y2 := dNx_bd ts f1 4
        have c2 := fun (h2 : Hp) hh => vc_draw ts f1 4 (.loc 0) h2 (by omega) hh
        generalize dNx ts f1 4 = z at y2 c2
        obtain ⟨s2, f2⟩ := z
        dsimp only at y2 c2
        have y3 := dNx_bd ts f2 16
        have c3 := fun (h2 : Hp) hh => vc_draw ts f2 16 (.loc 0) h2 (by omega) hh
        generalize dNx ts f2 16 = z at y3 c3
        obtain ⟨s3, f3⟩ := z
        dsimp only at y3 c3
        have y4 := dNx_bd ts f3 4
        have c4 := fun (h2 : Hp) hh => vc_draw ts f3 4 (.loc 0) h2 (by omega) hh
        generalize dNx ts f3 4 = z at y4 c4
        obtain ⟨s4, f4⟩ := z
        dsimp only at y4 c4
        have hs3 : Pp s3 := ⟨y3.1, by omega⟩
        have hv1 : (vs.set k ⟨w.f, w.t, w.d, w.h, w.n, w.g, max 0 (w.lo - s1), w.hi + s2⟩)[k]? = some ⟨w.f, w.t, w.d, w.h, w.n, w.g, max 0 (w.lo - s1), w.hi + s2⟩ := List.getElem?_set_self (by omega)
        have hv2 : ((vs.set k ⟨w.f, w.t, w.d, w.h, w.n, w.g, max 0 (w.lo - s1), w.hi + s2⟩).set k ⟨w.f, w.t, w.d, w.h, pand w.n s3, w.g, max 0 (w.lo - s1), w.hi + s2⟩)[k]? = some ⟨w.f, w.t, w.d, w.h, pand w.n s3, w.g, max 0 (w.lo - s1), w.hi + s2⟩ := List.getElem?_set_self (by rw [List.length_set]; omega)
        have hW3 : WdW n w ⟨w.f, w.t, w.d, w.h + s4, pand w.n s3, w.g, max 0 (w.lo - s1), w.hi + s2⟩ := by
          refine ⟨⟨rfl, rfl, rfl, rfl, by dsimp only; omega, by dsimp only; omega, fun s hs h => sub_and hwn hs hs3 h⟩, by dsimp only; omega, ⟨hwo.f, hwo.t, hwo.d, by dsimp only; omega, pand_pp hwn hs3, hwo.g, by dsimp only; omega, by dsimp only; omega⟩, hne⟩
        conv => whnf
        repeat' (first | ((first | refine zs1 ?_ | refine zs2 ?_ | refine zs3 ?_ | refine zs4 ?_ | refine zs5 ?_); conv => whnf) | ((first | apply zi1 | apply zi2 | apply zi3 | apply zi4 | apply zi5) <;> intro _ <;> conv => whnf) | (refine VCall.intro (cC _ rfl) ?_; conv => whnf))
        all_goals try (exfalso; omega)
        refine zs6 [(5, 7), (7, 14), (5, 16), (14, 16)] ?_
        conv => whnf
        repeat' (first | ((first | refine zs1 ?_ | refine zs2 ?_ | refine zs3 ?_ | refine zs4 ?_ | refine zs5 ?_); conv => whnf) | ((first | apply zi1 | apply zi2 | apply zi3 | apply zi4 | apply zi5) <;> intro _ <;> conv => whnf) | (refine VLd.recc encWy_len k 6 rfl rfl rfl hvw (by decide) rfl (by show (k : Int).toNat * 8 + 6 = k * 8 + 6; omega) ?_; conv => whnf) | (refine VCall.intro (c1 _ rfl) ?_; conv => whnf) | (refine VLd.recc encWy_len k 7 rfl rfl rfl hvw (by decide) rfl (by show (k : Int).toNat * 8 + 6 + 1 = k * 8 + 7; omega) ?_; conv => whnf) | (refine VCall.intro (c2 _ rfl) ?_; conv => whnf) | (refine VMem.set2 encWy_len k 6 ⟨w.f, w.t, w.d, w.h, w.n, w.g, max 0 (w.lo - s1), w.hi⟩ ⟨w.f, w.t, w.d, w.h, w.n, w.g, max 0 (w.lo - s1), w.hi + s2⟩ rfl rfl rfl hvw (by decide) rfl rfl (by show (k : Int).toNat * 8 + 6 = k * 8 + 6; omega) ?_; conv => whnf))
        all_goals try (exfalso; omega)
        refine zs6 [(3, 5)] ?_
        conv => whnf
        repeat' (first | ((first | refine zs1 ?_ | refine zs2 ?_ | refine zs3 ?_ | refine zs4 ?_ | refine zs5 ?_); conv => whnf) | ((first | apply zi1 | apply zi2 | apply zi3 | apply zi4 | apply zi5) <;> intro _ <;> conv => whnf) | (refine VLd.recc encWy_len k 4 rfl rfl rfl hv1 (by decide) rfl (by show (k : Int).toNat * 8 + 4 = k * 8 + 4; omega) ?_; conv => whnf) | (refine VCall.intro (c3 _ rfl) ?_; conv => whnf) | (refine zand hwn hs3 ?_; conv => whnf) | (refine VMem.setRec encWy_len k 4 ⟨w.f, w.t, w.d, w.h, pand w.n s3, w.g, max 0 (w.lo - s1), w.hi + s2⟩ rfl rfl rfl hv1 (by decide) rfl (by show (k : Int).toNat * 8 + 4 = k * 8 + 4; omega) ?_; conv => whnf))
        all_goals try (exfalso; omega)
        refine zs6 [(3, 5)] ?_
        conv => whnf
        repeat' (first | ((first | refine zs1 ?_ | refine zs2 ?_ | refine zs3 ?_ | refine zs4 ?_ | refine zs5 ?_); conv => whnf) | ((first | apply zi1 | apply zi2 | apply zi3 | apply zi4 | apply zi5) <;> intro _ <;> conv => whnf) | (refine VLd.recc encWy_len k 3 rfl rfl rfl hv2 (by decide) rfl (by show (k : Int).toNat * 8 + 3 = k * 8 + 3; omega) ?_; conv => whnf) | (refine VCall.intro (c4 _ rfl) ?_; conv => whnf) | (refine VMem.setRec encWy_len k 3 ⟨w.f, w.t, w.d, w.h + s4, pand w.n s3, w.g, max 0 (w.lo - s1), w.hi + s2⟩ rfl rfl rfl hv2 (by decide) rfl (by show (k : Int).toNat * 8 + 3 = k * 8 + 3; omega) ?_; conv => whnf))
        all_goals try (exfalso; omega)
        refine LEnd.intro (k + 1, f4, ((vs.set k ⟨w.f, w.t, w.d, w.h, w.n, w.g, max 0 (w.lo - s1), w.hi + s2⟩).set k ⟨w.f, w.t, w.d, w.h, pand w.n s3, w.g, max 0 (w.lo - s1), w.hi + s2⟩).set k ⟨w.f, w.t, w.d, w.h + s4, pand w.n s3, w.g, max 0 (w.lo - s1), w.hi + s2⟩) ⟨by dsimp only; omega, by dsimp only; omega, by dsimp only; rw [List.set_set, List.set_set]; exact k3.put hw hW3⟩ (by dsimp only; omega) ?_
        conv => whnf
        refine Retell.turn ⟨[0,1,2], 3, [], []⟩ (TurnOk.mk' _ _ [] [] (OutOk.lift _) rfl (by decide) zb trivial trivial rfl) zw zm
      · rw [show (c == 0) = false by rw [beq_eq_false_iff_ne]; exact hc] at cC
        conv => whnf
        repeat' (first | ((first | refine zs1 ?_ | refine zs2 ?_ | refine zs3 ?_ | refine zs4 ?_ | refine zs5 ?_); conv => whnf) | ((first | apply zi1 | apply zi2 | apply zi3 | apply zi4 | apply zi5) <;> intro _ <;> conv => whnf) | (refine VCall.intro (cC _ rfl) ?_; conv => whnf))
        all_goals try (exfalso; omega)
        refine LEnd.intro (k + 1, f0, vs) ⟨by dsimp only; omega, by dsimp only; omega, k3.skip⟩ (by dsimp only; omega) ?_
        conv => whnf
        refine Retell.turn ⟨[0,1,2], 3, [], []⟩ (TurnOk.mk' _ _ [] [] (OutOk.lift _) rfl (by decide) zb trivial trivial rfl) zw zm
    · obtain rfl : k = N.ws.length := by omega
      have yA := dNx_bd ts f N.p
      have cA := fun (h2 : Hp) hh => vc_draw ts f N.p (.loc 0) h2 (by omega) hh
      generalize dNx ts f N.p = z at yA cA
      obtain ⟨a0, f0⟩ := z
      dsimp only at yA cA
      have y1 := dNx_bd ts f0 5
      have c1 := fun (h2 : Hp) hh => vc_draw ts f0 5 (.loc 0) h2 (by omega) hh
      generalize dNx ts f0 5 = z at y1 c1
      obtain ⟨s1, f1⟩ := z
      dsimp only at y1 c1
      have y2 := dNx_bd ts f1 9
      have c2 := fun (h2 : Hp) hh => vc_draw ts f1 9 (.loc 0) h2 (by omega) hh
      generalize dNx ts f1 9 = z at y2 c2
      obtain ⟨s2, f2⟩ := z
      dsimp only at y2 c2
      have y3 := dNx_bd ts f2 16
      have c3 := fun (h2 : Hp) hh => vc_draw ts f2 16 (.loc 0) h2 (by omega) hh
      generalize dNx ts f2 16 = z at y3 c3
      obtain ⟨s3, f3⟩ := z
      dsimp only at y3 c3
      have y4 := dNx_bd ts f3 16
      have c4 := fun (h2 : Hp) hh => vc_draw ts f3 16 (.loc 0) h2 (by omega) hh
      generalize dNx ts f3 16 = z at y4 c4
      obtain ⟨s4, f4⟩ := z
      dsimp only at y4 c4
      have y5 := dNx_bd ts f4 50
      have c5 := fun (h2 : Hp) hh => vc_draw ts f4 50 (.loc 0) h2 (by omega) hh
      generalize dNx ts f4 50 = z at y5 c5
      obtain ⟨s5, f5⟩ := z
      dsimp only at y5 c5
      have hmd : (a0 + 1).tmod N.p = if a0 + 1 < n then a0 + 1 else a0 + 1 - n := by
        rw [hpn, Int.tmod_eq_emod_of_nonneg (by omega)]
        split
        · exact Int.emod_eq_of_lt (by omega) (by omega)
        · rw [← Int.sub_emod_right]; exact Int.emod_eq_of_lt (by omega) (by omega)
      obtain ⟨a1, ha1⟩ : ∃ a1, a1 = (a0 + 1).tmod N.p := ⟨_, rfl⟩
      rw [← ha1] at hmd
      have hA : WOk n ⟨a0, a1, s1, s2, s3, s4, 0, s5⟩ ∧ (⟨a0, a1, s1, s2, s3, s4, 0, s5⟩ : Wy).f ≠ (⟨a0, a1, s1, s2, s3, s4, 0, s5⟩ : Wy).t := by
        have : (0 ≤ a1 ∧ a1 < n) ∧ a0 ≠ a1 := by rw [hmd]; split <;> omega
        exact ⟨⟨by dsimp only; omega, this.1, by dsimp only; omega, by dsimp only; omega, ⟨y3.1, by dsimp only; omega⟩, ⟨y4.1, by dsimp only; omega⟩, by dsimp only; omega, by dsimp only; omega⟩, this.2⟩
      have cL := fun h => vc_Led a0 a1 s1 s2 s3 s4 0 s5 h
      obtain ⟨wA, hwA⟩ : ∃ wA : Wy, wA = ⟨a0, a1, s1, s2, s3, s4, 0, s5⟩ := ⟨_, rfl⟩
      rw [← hwA] at cL hA
      have hM := mor_of (x := x) hN (by omega) k3 hA hG hSup
      have hWe : encN ⟨N.p, vs ++ [wA]⟩ = [DI N.p, .sl 8 (N.ws.length + 1) ((vs ++ [wA]).flatMap encWy)] := by
        show [DI N.p, .sl 8 (vs ++ [wA]).length _] = _
        rw [List.length_append, hvl]; rfl
      have hflW : ((vs ++ [wA]).flatMap encWy).length = (N.ws.length + 1) * 8 := by rw [flat_len encWy_len, List.length_append, hvl]; rfl
      have hneB : (N.p != 0) = true := by rw [bne_iff_ne]; omega
      conv => whnf
      repeat' (first | ((first | refine zs1 ?_ | refine zs2 ?_ | refine zs3 ?_ | refine zs4 ?_ | refine zs5 ?_); conv => whnf) | ((first | apply zi1 | apply zi2 | apply zi3 | apply zi4 | apply zi5) <;> intro _ <;> conv => whnf) | (refine VCall.intro (cA _ rfl) ?_; conv => whnf))
      all_goals try (exfalso; omega)
      refine zs6 [(1, 9), (6, 9), (1, 11), (6, 11), (1, 13), (6, 13), (1, 15), (6, 15), (1, 17), (6, 17), (1, 18)] ?_
      conv => whnf
      repeat' (first | ((first | refine zs1 ?_ | refine zs2 ?_ | refine zs3 ?_ | refine zs4 ?_ | refine zs5 ?_); conv => whnf) | ((first | apply zi1 | apply zi2 | apply zi3 | apply zi4 | apply zi5) <;> intro _ <;> conv => whnf) | (refine VNeed.intro hneB ?_; conv => whnf) | (refine VCall.intro (c1 _ rfl) ?_; conv => whnf) | (refine VCall.intro (c2 _ rfl) ?_; conv => whnf) | (refine VCall.intro (c3 _ rfl) ?_; conv => whnf) | (refine VCall.intro (c4 _ rfl) ?_; conv => whnf) | (refine VCall.intro (c5 _ rfl) ?_; conv => whnf))
      rw [← ha1]
      repeat' (first | ((first | refine zs1 ?_ | refine zs2 ?_ | refine zs3 ?_ | refine zs4 ?_ | refine zs5 ?_); conv => whnf) | ((first | apply zi1 | apply zi2 | apply zi3 | apply zi4 | apply zi5) <;> intro _ <;> conv => whnf) | (refine VCall.intro (cL _) ?_; conv => whnf))
      refine VMem.app1 (l := vs) wA encWy_len rfl rfl rfl hvl.symm rfl (by omega) ?_
      conv => whnf
      repeat' (first | ((first | refine zs1 ?_ | refine zs2 ?_ | refine zs3 ?_ | refine zs4 ?_ | refine zs5 ?_); conv => whnf) | ((first | apply zi1 | apply zi2 | apply zi3 | apply zi4 | apply zi5) <;> intro _ <;> conv => whnf))
      generalize hWW : (⟨N.p, vs ++ [wA]⟩ : Nt) = W at hM hWe
      refine VCut.at' (outer := h.lift) (marks := []) 7 [(6, .fp (encN N)), (7, .fp (encHd x)), (8, ints a), (9, ints b), (11, .fp (encHd g)), (12, .fp (encN W))] [] ?_ ?_
      · rw [hWe]
        conv => whnf
        refine Retell.turn ⟨[], 5, [(1, [DI N.p, .sl 8 (N.ws.length + 1) ((vs ++ [wA]).flatMap encWy)]), (4, (vs ++ [wA]).flatMap encWy)], []⟩ (TurnOk.mk' _ _ [(1, [DI N.p, .sl 8 (N.ws.length + 1) ((vs ++ [wA]).flatMap encWy)]), (4, (vs ++ [wA]).flatMap encWy)] [] (OutOk.lift _) rfl (by decide) zb zr trivial rfl) zw zm
      have hWp : W.p = N.p := by rw [← hWW]
      clear hWe hflW hWW cL c1 c2 c3 c4 c5 cA k3 hvl hfl0 cO hsm
      obtain ⟨okW, _, _, wid, less⟩ := hM
      have hWl := okW.len
      have E1 := fun h => vc_Earliest N x h (by omega)
      have E2 := fun h => vc_Earliest N g h (by omega)
      have E3 := fun h => vc_Earliest W x h (by omega)
      unfold eaL at E1 E2 E3
      rw [if_pos (hN.hrd hx), hN.hrd hx, nok_nat hN] at E1
      rw [if_pos (hN.hrd hG), hN.hrd hG, nok_nat hN] at E2
      rw [if_pos (okW.hrd hx), okW.hrd hx, nok_nat okW] at E3
      have F1 : ∀ k, k < n → ((List.range n).map (dyP N x))[k]? = some (dyP N x k) := fun k hk => by rw [List.getElem?_map, List.getElem?_range hk]; rfl
      have F2 : ∀ k, k < n → ((List.range n).map (dyP N g))[k]? = some (dyP N g k) := fun k hk => by rw [List.getElem?_map, List.getElem?_range hk]; rfl
      have F3 : ∀ k, k < n → ((List.range n).map (dyP W x))[k]? = some (dyP W x k) := fun k hk => by rw [List.getElem?_map, List.getElem?_range hk]; rfl
      have G1 : ((List.range n).map (dyP N x)).length = n := by simp
      have G2 : ((List.range n).map (dyP N g)).length = n := by simp
      have G3 : ((List.range n).map (dyP W x)).length = n := by simp
      generalize (List.range n).map (dyP N x) = LX at E1 F1 G1
      generalize (List.range n).map (dyP N g) = LY at E2 F2 G2
      generalize (List.range n).map (dyP W x) = LZ at E3 F3 G3
      have d1 := fun {k : Nat} hk h => dyP_sup hN hN hx hG (widl_refl _) hSup (k := k) hk h
      have d2 := fun {k : Nat} hk h => dyP_sup hN okW hx hx wid (sup_refl hx) (k := k) hk h
      obtain ⟨b1, b2⟩ := bd_all hN hx
      obtain ⟨b3, b4⟩ := bd_all okW hx
      have hrl := repH_len x n
      have hal := allP_len n
      have C1 := fun h => vc_Barred N (repH x n) (allP n) h (by omega) (by omega) (by omega)
      have C2 := fun h => vc_Barred W (repH x n) (allP n) h (by omega) (by omega) (by omega)
      unfold bdR at C1 C2
      rw [if_pos b1, b1, hrl] at C1
      rw [if_pos b3, b3, hrl] at C2
      have U1 := bdL_len N (repH x n) (allP n) n
      have U2 := bdL_len W (repH x n) (allP n) n
      generalize bdL N (repH x n) (allP n) n = U at C1 U1 b2
      generalize bdL W (repH x n) (allP n) n = Z at C2 U2 b4
      have C3 := fun h => vc_Drive N a b h (by omega) (by omega) (by omega)
      have C4 := fun h => vc_Drive W a b h (by omega) (by omega) (by omega)
      unfold drvV at C3 C4
      rw [if_pos h0] at C3
      rw [if_pos (pas_to okW hP h0)] at C4
      have hdl := drv_less hN okW hP less
      generalize dvP N a b = R1 at C3 hdl
      generalize dvP W a b = R2 at C4 hdl
      conv => whnf
      repeat' (first | ((first | refine zs1 ?_ | refine zs2 ?_ | refine zs3 ?_ | refine zs4 ?_ | refine zs5 ?_); conv => whnf) | ((first | apply zi1 | apply zi2 | apply zi3 | apply zi4 | apply zi5) <;> intro _ <;> first | (exfalso; omega) | contradiction | (conv => whnf)) | (refine VCall.intro (E1 _) ?_; conv => whnf) | (refine VCall.intro (E2 _) ?_; conv => whnf) | (refine VCall.intro (E3 _) ?_; conv => whnf))
      all_goals try contradiction
      all_goals try (exfalso; omega)
      refine VCode.lp (outer := h.lift) (marks := []) (fun k : Nat => [(6, .fp (encN N)), (7, .fp (encHd x)), (8, ints a), (9, ints b), (12, .fp (encN W)), (16, ints LX), (18, ints LY), (20, ints LZ), (22, .gl (.loc 0) 3 (repH x k).length), (23, .gl (.loc 1) 1 (allP k).length), (193, ints LX), (194, I LX.length), (195, I k)]) (fun k => [.flat true ((repH x k).flatMap encHd), .flat true ((allP k).flatMap Vm.encI)]) (fun k => k ≤ n) (fun k => n - k) 0 (Nat.zero_le _) ?_ ?_
      · rw [show repH x 0 = [] from rfl, show allP 0 = [] from rfl]
        conv => whnf
        refine Retell.turn ⟨[0,1], 0, [], []⟩ (TurnOk.mk' _ _ [] [] (OutOk.lift _) rfl (by decide) zb trivial trivial rfl) zw zm
      · intro k hk
        have kr := repH_len x k
        have ka := allP_len k
        rcases Nat.lt_or_ge k n with q1 | q1
        · have h1 := F1 k q1
          have h2 := F2 k q1
          have h3 := F3 k q1
          have d1 := fun h => d1 q1 h
          have d2 := fun h => d2 q1 h
          have sr := repH_succ x k
          have sa := allP_succ k
          generalize repH x k = RR at kr sr ⊢
          generalize allP k = AA at ka sa ⊢
          generalize dyP N x k = d at h1 d1 d2
          generalize dyP N g k = dy at h2 d1
          generalize dyP W x k = dz at h3 d2
          by_cases hd : d = -1
          · subst hd
            conv => whnf
            repeat' (first | ((first | refine zs1 ?_ | refine zs2 ?_ | refine zs3 ?_ | refine zs4 ?_ | refine zs5 ?_); conv => whnf) | ((first | apply zi1 | apply zi2 | apply zi3 | apply zi4 | apply zi5) <;> intro _ <;> first | (exfalso; omega) | contradiction | (conv => whnf)) | (refine VAny.ix encI_len k rfl rfl h1 ?_; conv => whnf))
            all_goals try contradiction
            all_goals try (exfalso; omega)
            refine VMem.app1 (l := RR) x encHd_len rfl rfl rfl rfl rfl (by omega) ?_
            conv => whnf
            repeat' (first | ((first | refine zs1 ?_ | refine zs2 ?_ | refine zs3 ?_ | refine zs4 ?_ | refine zs5 ?_); conv => whnf) | ((first | apply zi1 | apply zi2 | apply zi3 | apply zi4 | apply zi5) <;> intro _ <;> conv => whnf))
            refine VMem.app1 (l := AA) (k : Int) encI_len rfl rfl rfl rfl rfl (by omega) ?_
            conv => whnf
            repeat' (first | ((first | refine zs1 ?_ | refine zs2 ?_ | refine zs3 ?_ | refine zs4 ?_ | refine zs5 ?_); conv => whnf) | ((first | apply zi1 | apply zi2 | apply zi3 | apply zi4 | apply zi5) <;> intro _ <;> conv => whnf))
            refine LEnd.intro (k + 1) (by omega) (by omega) ?_
            rw [sr, sa, List.length_append, List.length_append]
            conv => whnf
            refine Retell.turn ⟨[3,5], 6, [], []⟩ (TurnOk.mk' _ _ [] [] (OutOk.lift _) rfl (by decide) zb trivial trivial rfl) zw zm
          · have d1 := d1 hd
            have d2 := d2 hd
            conv => whnf
            repeat' (first | ((first | refine zs1 ?_ | refine zs2 ?_ | refine zs3 ?_ | refine zs4 ?_ | refine zs5 ?_); conv => whnf) | ((first | apply zi1 | apply zi2 | apply zi3 | apply zi4 | apply zi5) <;> intro _ <;> first | (exfalso; omega) | contradiction | (conv => whnf)) | (refine VAny.ix encI_len k rfl rfl h1 ?_; conv => whnf) | (refine VAny.ix encI_len k rfl rfl h2 ?_; conv => whnf) | (refine VAny.ix encI_len k rfl rfl h3 ?_; conv => whnf))
            all_goals try contradiction
            all_goals try (exfalso; omega)
            refine VMem.app1 (l := RR) x encHd_len rfl rfl rfl rfl rfl (by omega) ?_
            conv => whnf
            repeat' (first | ((first | refine zs1 ?_ | refine zs2 ?_ | refine zs3 ?_ | refine zs4 ?_ | refine zs5 ?_); conv => whnf) | ((first | apply zi1 | apply zi2 | apply zi3 | apply zi4 | apply zi5) <;> intro _ <;> conv => whnf))
            refine VMem.app1 (l := AA) (k : Int) encI_len rfl rfl rfl rfl rfl (by omega) ?_
            conv => whnf
            repeat' (first | ((first | refine zs1 ?_ | refine zs2 ?_ | refine zs3 ?_ | refine zs4 ?_ | refine zs5 ?_); conv => whnf) | ((first | apply zi1 | apply zi2 | apply zi3 | apply zi4 | apply zi5) <;> intro _ <;> conv => whnf))
            refine LEnd.intro (k + 1) (by omega) (by omega) ?_
            rw [sr, sa, List.length_append, List.length_append]
            conv => whnf
            refine Retell.turn ⟨[3,5], 6, [], []⟩ (TurnOk.mk' _ _ [] [] (OutOk.lift _) rfl (by decide) zb trivial trivial rfl) zw zm
        · obtain rfl : k = n := by omega
          have hfl1 : ((repH x k).flatMap encHd).length = (repH x k).length * 3 := flat_len encHd_len _
          conv => whnf
          repeat' (first | ((first | refine zs1 ?_ | refine zs2 ?_ | refine zs3 ?_ | refine zs4 ?_ | refine zs5 ?_); conv => whnf) | ((first | apply zi1 | apply zi2 | apply zi3 | apply zi4 | apply zi5) <;> intro _ <;> conv => whnf))
          all_goals try (exfalso; omega)
          refine VCut.at' (outer := h.lift) (marks := []) 99 [(6, .fp (encN N)), (7, .fp (encHd x)), (8, ints a), (9, ints b), (12, .fp (encN W)), (16, ints LX), (22, hds (repH x k)), (23, ints (allP k))] [] ?_ ?_
          · conv => whnf
            refine Retell.turn ⟨[], 2, [(0, (repH x k).flatMap encHd), (1, (allP k).flatMap Vm.encI)], []⟩ (TurnOk.mk' _ _ [(0, (repH x k).flatMap encHd), (1, (allP k).flatMap Vm.encI)] [] (OutOk.lift _) rfl (by decide) zb zf trivial rfl) zw zm
          conv => whnf
          repeat' (first | ((first | refine zs1 ?_ | refine zs2 ?_ | refine zs3 ?_ | refine zs4 ?_ | refine zs5 ?_); conv => whnf) | ((first | apply zi1 | apply zi2 | apply zi3 | apply zi4 | apply zi5) <;> intro _ <;> first | (exfalso; omega) | contradiction | (conv => whnf)) | (refine VCall.intro (C1 _) ?_; conv => whnf) | (refine VCall.intro (C2 _) ?_; conv => whnf) | (refine VCall.intro (C3 _) ?_; conv => whnf) | (refine VCall.intro (C4 _) ?_; conv => whnf))
          all_goals try contradiction
          all_goals try (exfalso; omega)
          refine VCode.lp (outer := h.lift) (marks := []) (fun k : Nat => [(26, ints U), (27, ints Z), (290, ints LX), (291, I LX.length), (292, I k)]) (fun _ => []) (fun j => j ≤ k) (fun j => k - j) 0 (Nat.zero_le _) ?_ ?_
          · conv => whnf
            refine Retell.turn ⟨[], 0, [], []⟩ (TurnOk.mk' _ _ [] [] (OutOk.lift _) rfl (by decide) zb trivial trivial rfl) zw zm
          · intro j hj
            rcases Nat.lt_or_ge j k with q2 | q2
            · have h1 := F1 j q2
              have m1 := b2 j q2
              have m2 := b4 j q2
              have d2 := fun h => d2 q2 h
              generalize dyP N x j = d at h1 m1 d2
              generalize dyP W x j = dz at m2 d2
              have K1 := fun h => vc_ContI U (j : Int) h (by omega)
              have K2 := fun h => vc_ContI Z (j : Int) h (by omega)
              by_cases hd : d = -1
              · rw [decide_eq_true (m1.2 hd)] at K1
                subst hd
                by_cases hz : (j : Int) ∈ Z
                · rw [decide_eq_true hz] at K2
                  conv => whnf
                  repeat' (first | ((first | refine zs1 ?_ | refine zs2 ?_ | refine zs3 ?_ | refine zs4 ?_ | refine zs5 ?_); conv => whnf) | ((first | apply zi1 | apply zi2 | apply zi3 | apply zi4 | apply zi5) <;> intro _ <;> first | (exfalso; omega) | contradiction | (conv => whnf)) | (refine VAny.ix encI_len j rfl rfl h1 ?_; conv => whnf) | (refine VCall.intro (K1 _) ?_; conv => whnf) | (refine VCall.intro (K2 _) ?_; conv => whnf))
                  all_goals try contradiction
                  all_goals try (exfalso; omega)
                  refine LEnd.intro (j + 1) (by omega) (by omega) ?_
                  conv => whnf
                  refine Retell.turn ⟨[], 0, [], []⟩ (TurnOk.mk' _ _ [] [] (OutOk.lift _) rfl (by decide) zb trivial trivial rfl) zw zm
                · rw [decide_eq_false hz] at K2
                  conv => whnf
                  repeat' (first | ((first | refine zs1 ?_ | refine zs2 ?_ | refine zs3 ?_ | refine zs4 ?_ | refine zs5 ?_); conv => whnf) | ((first | apply zi1 | apply zi2 | apply zi3 | apply zi4 | apply zi5) <;> intro _ <;> first | (exfalso; omega) | contradiction | (conv => whnf)) | (refine VAny.ix encI_len j rfl rfl h1 ?_; conv => whnf) | (refine VCall.intro (K1 _) ?_; conv => whnf) | (refine VCall.intro (K2 _) ?_; conv => whnf))
                  all_goals try contradiction
                  all_goals try (exfalso; omega)
                  refine LEnd.intro (j + 1) (by omega) (by omega) ?_
                  conv => whnf
                  refine Retell.turn ⟨[], 0, [], []⟩ (TurnOk.mk' _ _ [] [] (OutOk.lift _) rfl (by decide) zb trivial trivial rfl) zw zm
              · rw [decide_eq_false (fun h => hd (m1.1 h))] at K1
                have hz : ¬ (j : Int) ∈ Z := fun h => (d2 hd).1 (m2.1 h)
                rw [decide_eq_false hz] at K2
                have hb9 : (d == -1) = false := by rw [beq_eq_false_iff_ne]; exact hd
                conv => whnf
                repeat' (first | ((first | refine zs1 ?_ | refine zs2 ?_ | refine zs3 ?_ | refine zs4 ?_ | refine zs5 ?_); conv => whnf) | ((first | apply zi1 | apply zi2 | apply zi3 | apply zi4 | apply zi5) <;> intro _ <;> first | (exfalso; omega) | contradiction | (conv => whnf)) | (refine VAny.ix encI_len j rfl rfl h1 ?_; conv => whnf) | (refine VCall.intro (K1 _) ?_; conv => whnf) | (refine VCall.intro (K2 _) ?_; conv => whnf))
                all_goals try contradiction
                all_goals try (exfalso; omega)
                all_goals try (rename_i hh; rw [hb9] at hh; exact absurd hh (by decide))
                refine LEnd.intro (j + 1) (by omega) (by omega) ?_
                conv => whnf
                refine Retell.turn ⟨[], 0, [], []⟩ (TurnOk.mk' _ _ [] [] (OutOk.lift _) rfl (by decide) zb trivial trivial rfl) zw zm
            · obtain rfl : j = k := by omega
              conv => whnf
              repeat' (first | ((first | refine zs1 ?_ | refine zs2 ?_ | refine zs3 ?_ | refine zs4 ?_ | refine zs5 ?_); conv => whnf) | ((first | apply zi1 | apply zi2 | apply zi3 | apply zi4 | apply zi5) <;> intro _ <;> conv => whnf) | (refine VCall.intro (vc_awake _) ?_; conv => whnf))
              all_goals try (exfalso; omega)
              exact VOut.same rfl
end Go.Proofs.Ytoeendggmalcpaa

