/- Part 2 of the proof that PassageDrives holds: what drives bring, the most, what cuts bar and which ways are narrow are as the reference says. No condition. -/
import Derived.Test.YtoeendggmalcpaaDv1
set_option linter.unusedVariables false
set_option linter.unusedSimpArgs false
open Go.Vm
open Psg
namespace Go.Proofs.Ytoeendggmalcpaa
set_option maxRecDepth 20000
set_option maxHeartbeats 4000000
theorem vc_Drives (N : Nt) (a b hs ps : List Int) (h : Hp) : VC Try.prog 7 [vN N, ints a, ints b, ints hs, ints ps] h (B true) h := by
  have cL := fun h => vc_long N [a, b, hs, ps] h (by simp)
  have hlg : lngB N [a, b, hs, ps] = false → N.ws.length ≤ 28 ∧ a.length ≤ 30 ∧ b.length ≤ 30 ∧ hs.length ≤ 30 ∧ ps.length ≤ 30 := by
    unfold lngB
    simp only [List.any_cons, List.any_nil, Bool.or_false, Bool.or_eq_false_iff, decide_eq_false_iff_not]
    omega
  generalize lngB N [a, b, hs, ps] = lb at cL hlg
  refine VC.bodyC 1 Try.func7 rfl Try.ntmps7 Try.call7 (h.grows_refl) rfl ?_; conv => whnf
  refine VCut.at' (outer := h.lift) (marks := []) 1 [(1, ints a), (2, ints b), (3, ints hs), (4, ints ps), (5, .fp (encN N))] [] ?_ ?_
  · conv => whnf
    refine Retell.turn ⟨[], 1, [(0, encN N)], []⟩ (TurnOk.mk' _ _ [(0, encN N)] [] (OutOk.lift _) rfl (by decide) zb zf trivial rfl) zw zm
  cases lb with
  | true =>
    conv => whnf
    repeat' (first | ((first | refine zs1 ?_ | refine zs2 ?_ | refine zs3 ?_ | refine zs4 ?_ | refine zs5 ?_); conv => whnf) | ((first | apply zi1 | apply zi2 | apply zi3 | apply zi4 | apply zi5) <;> intro _ <;> conv => whnf))
    refine VCall.intro (VC.give (args' := [vN N, intss [a, b, hs, ps]]) (loc' := [.dead]) [(0, [a, b, hs, ps].flatMap encL)] [] (OutOk.lift _) zb zf (by exact FmAll.nil) rfl zv (cL _)) ?_
    conv => whnf
    repeat' (first | ((first | refine zs1 ?_ | refine zs2 ?_ | refine zs3 ?_ | refine zs4 ?_ | refine zs5 ?_); conv => whnf) | ((first | apply zi1 | apply zi2 | apply zi3 | apply zi4 | apply zi5) <;> intro _ <;> conv => whnf) | (refine VCall.intro (vc_awake _) ?_; conv => whnf))
    all_goals try (exfalso; omega)
    exact VOut.same rfl
  | false =>
    obtain ⟨n28, l1, l2, l3, l4⟩ := hlg rfl
    apply suffices_
    · intro hrest
      by_cases q1 : 7 < N.p
      · by_cases q2 : N.p ≤ 10
        · conv => whnf
          repeat' (first | ((first | refine zs1 ?_ | refine zs2 ?_ | refine zs3 ?_ | refine zs4 ?_ | refine zs5 ?_); conv => whnf) | ((first | apply zi1 | apply zi2 | apply zi3 | apply zi4 | apply zi5) <;> intro _ <;> conv => whnf))
          refine VCall.intro (VC.give (args' := [vN N, intss [a, b, hs, ps]]) (loc' := [.dead]) [(0, [a, b, hs, ps].flatMap encL)] [] (OutOk.lift _) zb zf (by exact FmAll.nil) rfl zv (cL _)) ?_
          conv => whnf
          repeat' (first | ((first | refine zs1 ?_ | refine zs2 ?_ | refine zs3 ?_ | refine zs4 ?_ | refine zs5 ?_); conv => whnf) | ((first | apply zi1 | apply zi2 | apply zi3 | apply zi4 | apply zi5) <;> intro _ <;> conv => whnf) | (refine VCall.intro (vc_awake _) ?_; conv => whnf))
          all_goals try (exfalso; omega)
          exact VOut.same rfl
        · conv => whnf
          repeat' (first | ((first | refine zs1 ?_ | refine zs2 ?_ | refine zs3 ?_ | refine zs4 ?_ | refine zs5 ?_); conv => whnf) | ((first | apply zi1 | apply zi2 | apply zi3 | apply zi4 | apply zi5) <;> intro _ <;> conv => whnf))
          refine VCall.intro (VC.give (args' := [vN N, intss [a, b, hs, ps]]) (loc' := [.dead]) [(0, [a, b, hs, ps].flatMap encL)] [] (OutOk.lift _) zb zf (by exact FmAll.nil) rfl zv (cL _)) ?_
          conv => whnf
          repeat' (first | ((first | refine zs1 ?_ | refine zs2 ?_ | refine zs3 ?_ | refine zs4 ?_ | refine zs5 ?_); conv => whnf) | ((first | apply zi1 | apply zi2 | apply zi3 | apply zi4 | apply zi5) <;> intro _ <;> conv => whnf))
          all_goals try (exfalso; omega)
          refine VCut.at' (outer := h.lift) (marks := []) 1 [(1, ints a), (2, ints b), (3, ints hs), (4, ints ps), (5, .fp (encN N))] [] ?_ hrest.out
          conv => whnf
          refine Retell.turn ⟨[], 1, [], []⟩ (TurnOk.mk' _ _ [] [] (OutOk.lift _) rfl (by decide) zb trivial trivial rfl) zw zm
      · conv => whnf
        repeat' (first | ((first | refine zs1 ?_ | refine zs2 ?_ | refine zs3 ?_ | refine zs4 ?_ | refine zs5 ?_); conv => whnf) | ((first | apply zi1 | apply zi2 | apply zi3 | apply zi4 | apply zi5) <;> intro _ <;> conv => whnf))
        refine VCall.intro (VC.give (args' := [vN N, intss [a, b, hs, ps]]) (loc' := [.dead]) [(0, [a, b, hs, ps].flatMap encL)] [] (OutOk.lift _) zb zf (by exact FmAll.nil) rfl zv (cL _)) ?_
        conv => whnf
        repeat' (first | ((first | refine zs1 ?_ | refine zs2 ?_ | refine zs3 ?_ | refine zs4 ?_ | refine zs5 ?_); conv => whnf) | ((first | apply zi1 | apply zi2 | apply zi3 | apply zi4 | apply zi5) <;> intro _ <;> conv => whnf))
        all_goals try (exfalso; omega)
        refine VCut.at' (outer := h.lift) (marks := []) 1 [(1, ints a), (2, ints b), (3, ints hs), (4, ints ps), (5, .fp (encN N))] [] ?_ hrest.out
        conv => whnf
        refine Retell.turn ⟨[], 1, [], []⟩ (TurnOk.mk' _ _ [] [] (OutOk.lift _) rfl (by decide) zb trivial trivial rfl) zw zm
    · have c1 := fun h => vc_CloneNet N h (by omega)
      have c2 := fun h => vc_kcloneI a h (by omega)
      have c3 := fun h => vc_kcloneI b h (by omega)
      have c4 := fun h => vc_kcloneI hs h (by omega)
      have c5 := fun h => vc_kcloneI ps h (by omega)
      have c6 := fun h => vc_Net N h (by omega)
      have c7 := fun h => vc_Brings N a b hs h (by omega) (by omega) (by omega) (by omega)
      have c8 := fun h => vc_rBrings N a b hs h (by omega) (by omega) (by omega) (by omega)
      have c9 := fun h => vc_Bars N a b ps h (by omega) (by omega) (by omega) (by omega)
      have c10 := fun h => vc_rBars N a b ps h (by omega) (by omega) (by omega) (by omega)
      have c11 := fun h => vc_rMost N a b h (by omega) (by omega) (by omega)
      have c12 := fun h => vc_Drive N a b h (by omega) (by omega) (by omega)
      have c13 := fun h => vc_Cut N a b h (by omega) (by omega) (by omega)
      have c14 := fun h => vc_Narrow N a b h (by omega) (by omega) (by omega)
      have c15 := fun h => vc_rNarrow N a b h (by omega) (by omega) (by omega)
      have c18 := fun h => vc_equal N N h (by omega) (by omega)
      have c19 := fun h => vc_kequalI a a h (by omega) (by omega)
      have c20 := fun h => vc_kequalI b b h (by omega) (by omega)
      have c21 := fun h => vc_kequalI hs hs h (by omega) (by omega)
      have c22 := fun h => vc_kequalI ps ps h (by omega) (by omega)
      rw [decide_eq_true rfl] at c18 c19 c20 c21 c22
      generalize brgN N a b hs = R1 at c7 c8
      generalize brsN N a b ps = R2 at c9 c10
      conv => whnf
      refine zs6 [(1, 10), (3, 10), (5, 10), (7, 10), (9, 10)] ?_
      conv => whnf
      repeat' (first | ((first | refine zs1 ?_ | refine zs2 ?_ | refine zs3 ?_ | refine zs4 ?_ | refine zs5 ?_); conv => whnf) | ((first | apply zi1 | apply zi2 | apply zi3 | apply zi4 | apply zi5) <;> intro _ <;> conv => whnf) | (refine VCall.intro (c1 _) ?_; conv => whnf) | (refine VCall.intro (c2 _) ?_; conv => whnf) | (refine VCall.intro (c3 _) ?_; conv => whnf) | (refine VCall.intro (c4 _) ?_; conv => whnf) | (refine VCall.intro (c5 _) ?_; conv => whnf) | (refine VCall.intro (c6 _) ?_; conv => whnf))
      refine VCut.at' (outer := h.lift) (marks := []) 3 [(1, ints a), (2, ints b), (3, ints hs), (4, ints ps), (5, .fp (encN N)), (11, .fp (encN N)), (12, ints a), (13, ints b), (14, ints hs), (15, ints ps), (16, .fp (encN N))] [] ?_ ?_
      · conv => whnf
        refine Retell.turn ⟨[], 2, [(0, encN N), (1, encN N)], []⟩ (TurnOk.mk' _ _ [(0, encN N), (1, encN N)] [] (OutOk.lift _) rfl (by decide) zb zf trivial rfl) zw zm
      conv => whnf
      repeat' (first | ((first | refine zs1 ?_ | refine zs2 ?_ | refine zs3 ?_ | refine zs4 ?_ | refine zs5 ?_); conv => whnf) | ((first | apply zi1 | apply zi2 | apply zi3 | apply zi4 | apply zi5) <;> intro _ <;> conv => whnf) | (refine VCall.intro (c7 _) ?_; conv => whnf) | (refine VCall.intro (c8 _) ?_; conv => whnf))
      all_goals try contradiction
      all_goals try (exfalso; omega)
      refine VCut.at' (outer := h.lift) (marks := []) 3 [(1, ints a), (2, ints b), (3, ints hs), (4, ints ps), (5, .fp (encN N)), (11, .fp (encN N)), (12, ints a), (13, ints b), (14, ints hs), (15, ints ps), (16, .fp (encN N))] [] ?_ ?_
      · conv => whnf
        refine Retell.turn ⟨[], 0, [], []⟩ (TurnOk.mk' _ _ [] [] (OutOk.lift _) rfl (by decide) zb trivial trivial rfl) zw zm
      conv => whnf
      repeat' (first | ((first | refine zs1 ?_ | refine zs2 ?_ | refine zs3 ?_ | refine zs4 ?_ | refine zs5 ?_); conv => whnf) | ((first | apply zi1 | apply zi2 | apply zi3 | apply zi4 | apply zi5) <;> intro _ <;> conv => whnf) | (refine VCall.intro (c9 _) ?_; conv => whnf) | (refine VCall.intro (c10 _) ?_; conv => whnf))
      all_goals try contradiction
      all_goals try (exfalso; omega)
      refine VCut.at' (outer := h.lift) (marks := []) 4 [(1, ints a), (2, ints b), (3, ints hs), (4, ints ps), (5, .fp (encN N)), (11, .fp (encN N)), (12, ints a), (13, ints b), (14, ints hs), (15, ints ps), (16, .fp (encN N))] [] ?_ ?_
      · conv => whnf
        refine Retell.turn ⟨[], 0, [], []⟩ (TurnOk.mk' _ _ [] [] (OutOk.lift _) rfl (by decide) zb trivial trivial rfl) zw zm
      unfold mosN at c11
      unfold drvV at c12
      unfold cutV at c13
      unfold narV at c14 c15
      by_cases h0 : pas N a b = 0
      · obtain ⟨n, hN, hP, _, _, _, _⟩ := pas_ok h0
        have hn1 := hN.n1
        have hms := most_same h0
        have hbo := drv_both hN h0 hP
        have hD := dvP_ok hN hP
        have hl1 := hD.dr.bnd.len
        have hl2 := hD.mt.len
        have hl3 := narL_len N a b N.ws.length
        rw [if_pos h0] at c11 c12 c13 c14 c15
        rw [← hms] at c11
        have c16 := fun h => vc_rBrings N a b (dvP N a b).1 h (by omega) (by omega) (by omega) (by omega)
        have c17 := fun h => vc_rBars N a b (dvP N a b).2.2 h (by omega) (by omega) (by omega) (by omega)
        rw [hbo.1] at c16
        rw [hbo.2] at c17
        have c23 := fun h => vc_kequalI (narL N a b N.ws.length) (narL N a b N.ws.length) h (by omega) (by omega)
        rw [decide_eq_true rfl] at c23
        generalize narL N a b N.ws.length = Q at c14 c15 c23
        generalize dvP N a b = W at c11 c12 c13 c16 c17
        conv => whnf
        repeat' (first | ((first | refine zs1 ?_ | refine zs2 ?_ | refine zs3 ?_ | refine zs4 ?_ | refine zs5 ?_); conv => whnf) | ((first | apply zi1 | apply zi2 | apply zi3 | apply zi4 | apply zi5) <;> intro _ <;> conv => whnf) | (refine VCall.intro (c11 _) ?_; conv => whnf) | (refine VCall.intro (c12 _) ?_; conv => whnf) | (refine VCall.intro (c13 _) ?_; conv => whnf))
        all_goals try contradiction
        all_goals try (exfalso; omega)
        refine VCut.at' (outer := h.lift) (marks := []) 1 [(1, ints a), (2, ints b), (3, ints hs), (4, ints ps), (5, .fp (encN N)), (11, .fp (encN N)), (12, ints a), (13, ints b), (14, ints hs), (15, ints ps), (16, .fp (encN N)), (18, I 0), (21, I W.2.1), (22, ints W.1), (23, ints W.2.2)] [] ?_ ?_
        · conv => whnf
          refine Retell.turn ⟨[], 0, [], []⟩ (TurnOk.mk' _ _ [] [] (OutOk.lift _) rfl (by decide) zb trivial trivial rfl) zw zm
        conv => whnf
        repeat' (first | ((first | refine zs1 ?_ | refine zs2 ?_ | refine zs3 ?_ | refine zs4 ?_ | refine zs5 ?_); conv => whnf) | ((first | apply zi1 | apply zi2 | apply zi3 | apply zi4 | apply zi5) <;> intro _ <;> conv => whnf) | (refine VCall.intro (c16 _) ?_; conv => whnf) | (refine VCall.intro (c17 _) ?_; conv => whnf))
        all_goals try contradiction
        all_goals try (exfalso; omega)
        refine VCut.at' (outer := h.lift) (marks := []) 99 [(1, ints a), (2, ints b), (3, ints hs), (4, ints ps), (5, .fp (encN N)), (11, .fp (encN N)), (12, ints a), (13, ints b), (14, ints hs), (15, ints ps), (16, .fp (encN N))] [] ?_ ?_
        · conv => whnf
          refine Retell.turn ⟨[], 0, [], []⟩ (TurnOk.mk' _ _ [] [] (OutOk.lift _) rfl (by decide) zb trivial trivial rfl) zw zm
        conv => whnf
        repeat' (first | ((first | refine zs1 ?_ | refine zs2 ?_ | refine zs3 ?_ | refine zs4 ?_ | refine zs5 ?_); conv => whnf) | ((first | apply zi1 | apply zi2 | apply zi3 | apply zi4 | apply zi5) <;> intro _ <;> conv => whnf) | (refine VCall.intro (c14 _) ?_; conv => whnf) | (refine VCall.intro (c15 _) ?_; conv => whnf) | (refine VCall.intro (c18 _) ?_; conv => whnf) | (refine VCall.intro (c19 _) ?_; conv => whnf) | (refine VCall.intro (c20 _) ?_; conv => whnf) | (refine VCall.intro (c21 _) ?_; conv => whnf) | (refine VCall.intro (c22 _) ?_; conv => whnf) | (refine VCall.intro (c23 _) ?_; conv => whnf) | (refine VCall.intro (vc_awake _) ?_; conv => whnf))
        all_goals first | contradiction | (exfalso; omega) | exact VOut.same rfl
      · rw [if_neg h0] at c11 c12 c13 c14 c15
        have c23 := fun h => vc_kequalI [] [] h (by decide) (by decide)
        rw [decide_eq_true rfl] at c23
        generalize pas N a b = E at c11 c12 c13 c14 c15 h0
        conv => whnf
        repeat' (first | ((first | refine zs1 ?_ | refine zs2 ?_ | refine zs3 ?_ | refine zs4 ?_ | refine zs5 ?_); conv => whnf) | ((first | apply zi1 | apply zi2 | apply zi3 | apply zi4 | apply zi5) <;> intro _ <;> conv => whnf) | (refine VCall.intro (c11 _) ?_; conv => whnf) | (refine VCall.intro (c12 _) ?_; conv => whnf) | (refine VCall.intro (c13 _) ?_; conv => whnf))
        all_goals try contradiction
        all_goals try (exfalso; omega)
        refine VCut.at' (outer := h.lift) (marks := []) 1 [(1, ints a), (2, ints b), (3, ints hs), (4, ints ps), (5, .fp (encN N)), (11, .fp (encN N)), (12, ints a), (13, ints b), (14, ints hs), (15, ints ps), (16, .fp (encN N)), (18, I E), (21, I 0), (22, .nilslice), (23, .nilslice)] [] ?_ ?_
        · conv => whnf
          refine Retell.turn ⟨[], 0, [], []⟩ (TurnOk.mk' _ _ [] [] (OutOk.lift _) rfl (by decide) zb trivial trivial rfl) zw zm
        conv => whnf
        repeat' (first | ((first | refine zs1 ?_ | refine zs2 ?_ | refine zs3 ?_ | refine zs4 ?_ | refine zs5 ?_); conv => whnf) | ((first | apply zi1 | apply zi2 | apply zi3 | apply zi4 | apply zi5) <;> intro _ <;> conv => whnf))
        all_goals try contradiction
        all_goals try (exfalso; omega)
        refine VCut.at' (outer := h.lift) (marks := []) 2 [(1, ints a), (2, ints b), (3, ints hs), (4, ints ps), (5, .fp (encN N)), (11, .fp (encN N)), (12, ints a), (13, ints b), (14, ints hs), (15, ints ps), (16, .fp (encN N))] [] ?_ ?_
        · conv => whnf
          refine Retell.turn ⟨[], 0, [], []⟩ (TurnOk.mk' _ _ [] [] (OutOk.lift _) rfl (by decide) zb trivial trivial rfl) zw zm
        conv => whnf
        repeat' (first | ((first | refine zs1 ?_ | refine zs2 ?_ | refine zs3 ?_ | refine zs4 ?_ | refine zs5 ?_); conv => whnf) | ((first | apply zi1 | apply zi2 | apply zi3 | apply zi4 | apply zi5) <;> intro _ <;> conv => whnf) | (refine VCall.intro (c14 _) ?_; conv => whnf) | (refine VCall.intro (c15 _) ?_; conv => whnf))
        refine VCut.at' (outer := h.lift) (marks := []) 99 [(1, ints a), (2, ints b), (3, ints hs), (4, ints ps), (5, .fp (encN N)), (11, .fp (encN N)), (12, ints a), (13, ints b), (14, ints hs), (15, ints ps), (16, .fp (encN N)), (18, I E), (20, I E), (22, ints []), (23, ints [])] [] ?_ ?_
        · conv => whnf
          refine Retell.turn ⟨[], 0, [], []⟩ (TurnOk.mk' _ _ [] [] (OutOk.lift _) rfl (by decide) zb trivial trivial rfl) zw zm
        conv => whnf
        repeat' (first | ((first | refine zs1 ?_ | refine zs2 ?_ | refine zs3 ?_ | refine zs4 ?_ | refine zs5 ?_); conv => whnf) | ((first | apply zi1 | apply zi2 | apply zi3 | apply zi4 | apply zi5) <;> intro _ <;> conv => whnf) | (refine VCall.intro (c14 _) ?_; conv => whnf) | (refine VCall.intro (c15 _) ?_; conv => whnf) | (refine VCall.intro (c18 _) ?_; conv => whnf) | (refine VCall.intro (c19 _) ?_; conv => whnf) | (refine VCall.intro (c20 _) ?_; conv => whnf) | (refine VCall.intro (c21 _) ?_; conv => whnf) | (refine VCall.intro (c22 _) ?_; conv => whnf) | (refine VCall.intro (c23 _) ?_; conv => whnf) | (refine VCall.intro (vc_awake _) ?_; conv => whnf))
        all_goals first | contradiction | (exfalso; omega) | exact VOut.same rfl
end Go.Proofs.Ytoeendggmalcpaa

open Go.Vm
namespace Go.Proofs.Ytoeendggmalcpaa
open Go.ChangeShapes Go.WideShapes Go.ChangeAt Go.RowKit

theorem open7p : OpenAll Try.prog Try.f7.params.toList (fun x : Psg.Nt × List Int × List Int × List Int × List Int × Unit => [dN x.1, dints x.2.1, dints x.2.2.1, dints x.2.2.2.1, dints x.2.2.2.2.1]) := by
  rw [Try.params7]
  exact OpenAll.cons openN (OpenAll.cons openL (OpenAll.cons openL (OpenAll.cons openL (OpenAll.cons openL (OpenAll.nil)))))
set_option maxRecDepth 100000 in
theorem contract7 (H : Type) (enc : TypeId × Value → H) (W : World) (base : Nat) (args : Array Value) (ds gs : List (DataW H)) (before : List MemPlace)
    (hval : ∀ (j : Nat) t v, Try.f7.params[j]? = some t → args[j]? = some v → Value.okWide Try.prog W .any base t v)
    (hW : DataW.Whole enc Try.prog Try.f7.params.toList Rows.passageDrivesSpec.vars false W args.toList ds gs before) :
    Calls Try.prog 7 args W fun e W' => ∃ v, e = .returned v ∧ Rows.passageDrivesSpec.post enc Try.prog Try.f7 false true false false W args v W' := by
  refine contract_of_vc open7p (fun g => vc_Drives g.1 g.2.1 g.2.2.1 g.2.2.2.1 g.2.2.2.2.1 Hp.bare) laidOut ?_ (tb := 4) (by kernel_rfl) Try.underlying4 rfl ?_ hval hW
  · rw [Try.params7]
    intro t ht
    simp only [List.mem_cons, List.not_mem_nil, or_false] at ht
    rcases ht with rfl | rfl | rfl | rfl | rfl
    all_goals exact ⟨by kernel_rfl, of_decide_eq_true (by kernel_rfl)⟩
  · intro H dd hl
    rw [Try.params7] at hl
    match dd, hl with
    | [d0, d1, d2, d3, d4], _ => rfl
set_option maxRecDepth 100000 in
theorem lifted7 (os : Os) (started : os.Started) (H : Type) (enc : TypeId × Value → H) :
    ReturnsInHanded {} Try.checked os 7 .any (Rows.passageDrivesSpec.pre6 enc Try.prog Try.f7 Rows.passageDrivesRow.domain false) (Rows.passageDrivesSpec.post enc Try.prog Try.f7 false true false false) := by
  refine returnsInHanded_of_change (C := Try.checked) ownKn started (by kernel_rfl) Try.func7
    (ChangeSpec.witness6 (enc := enc) (C := Try.checked) false ⟨#[], #[.agg #[.int .i64 0, .slice none 0 0], .slice none 0 0, .slice none 0 0, .slice none 0 0, .slice none 0 0], []⟩ 8 (by kernel_rfl) (by kernel_rfl) (by kernel_rfl) (by kernel_rfl)) ?_
  intro W base args ds gs before hval hW _ _
  exact contract7 H enc W base args ds gs before hval hW
theorem passageDrives_said : Rows.PassageDrivesSaid :=
  OpenClaim.holds_of_wide 7 Try.f7 rfl rfl rfl rfl rfl rfl rfl ⟨rfl, rfl, rfl, rfl, rfl⟩ rfl rfl rfl rfl rfl (by kernel_rfl) Try.func7 (by kernel_rfl)
    (of_decide_eq_true (by kernel_rfl)) (by unfold Func.isWrapper; first | (rw [if_pos (by decide +kernel)]; kernel_rfl) | (rw [if_neg (by decide +kernel)]; exact ⟨rfl, rfl⟩))
    (fun os started H enc _ => lifted7 os started H enc)
end Go.Proofs.Ytoeendggmalcpaa

