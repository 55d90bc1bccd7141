/- Part 0 of the proof that a table that is changed does not hold, and no way is shorter than is told. No condition. -/
import Derived.Test.YtkbbfeljlepgoaaBc9
set_option linter.unusedVariables false
set_option linter.unusedSimpArgs false
open Go.Vm
open Riv
namespace Go.Proofs.Ytkbbfeljlepgoaa
set_option maxRecDepth 20000
set_option maxHeartbeats 4000000

def aggIx (n : Nat) (i : Int) (x : Option V) : PRes := match x with | some v => .need (decide (0 ≤ i ∧ i < n)) v | none => .no
theorem vc_cloneIP (l : List Int) (h : Hp) (hl : l.length ≤ 4000000) : VC Try.prog 34 [ints l] h (.gl h.fresh 1 l.length) (h.push (.flat true (l.flatMap Vm.encI))) := by
  refine VC.body Try.func34 rfl Try.ntmps34 Try.call34 (h.grows_push _) rfl ?_
  conv => whnf
  repeat' (first | ((first | refine zs1 ?_ | refine zs2 ?_ | refine zs3 ?_ | refine zs4 ?_ | refine zs5 ?_); conv => whnf) | ((first | apply zi1 | apply zi2 | apply zi3 | apply zi4 | apply zi5) <;> intro _ <;> conv => whnf))
  refine VMem.appNil Vm.encI_len rfl rfl rfl (by omega) ?_
  conv => whnf
  repeat' (first | ((first | refine zs1 ?_ | refine zs2 ?_ | refine zs3 ?_ | refine zs4 ?_ | refine zs5 ?_); conv => whnf) | ((first | apply zi1 | apply zi2 | apply zi3 | apply zi4 | apply zi5) <;> intro _ <;> conv => whnf))
  exact VOut.own1 0 1 rfl rfl
theorem vc_RiverProved (b1 b2 : List Int) (x : Int) (hx : 0 ≤ x ∧ x ≤ 255) (h : Hp) : VC Try.prog 10 [bytes b1, bytes b2, .s (.int .u8 x)] h (B true) h := by
  obtain ⟨W, H, eW, eH, hWw, hHh, hW4, o, _, _⟩ := madeX_ok (dealt b1) (d := ((0 : Nat), (9 : Int))) (w := 9) (h := 7) (by decide) (by decide)
  have c0 := vc_Of b1
  have c0' := vc_Of b2
  have c1 := fun i h hd => vc_Made b1 ((0 : Nat), (9 : Int)) 9 7 i h (by decide) (by decide) (by decide) hd
  unfold mdM at c1
  rw [eW, eH] at c1
  generalize (madeX (dNx b1) ((0 : Nat), (9 : Int)) 9 7).2 = c at *
  generalize (madeX (dNx b1) ((0 : Nat), (9 : Int)) 9 7).1 = dd at *
  clear eW eH
  have hm := MOk.le o
  have cA := vc_awake
  have ht : x.tmod 2 = x % 2 := Int.tmod_eq_emod_of_nonneg hx.1
  refine VC.bodyC 3 Try.func10 rfl Try.ntmps10 Try.call10 (h.grows_refl) rfl ?_
  conv => whnf
  repeat' (first | ((first | refine zs1 ?_ | refine zs2 ?_ | refine zs3 ?_ | refine zs4 ?_ | refine zs5 ?_); conv => whnf) | ((first | apply zi1 | apply zi2 | apply zi3 | apply zi4 | apply zi5) <;> intro _ <;> conv => whnf) | (refine VCall.intro (c0 _) ?_; conv => whnf) | (refine VCall.intro (c1 (.loc 0) _ rfl) ?_; conv => whnf) | (refine VCall.intro (c0' _) ?_; conv => whnf))
  refine VCut.at' (outer := h.lift) (marks := []) 1 [(2, .s (.int .u8 x)), (7, .fp [DI W, DI H, dints c]), (8, .ptr (.loc 0) 0)] [deckB b2 ((0 : Nat), (9 : Int))] ?_ ?_
  · conv => whnf
    refine Retell.turn ⟨[2], 9, [(1, [DI W, DI H, dints c])], []⟩ (TurnOk.mk' _ _ [(1, [DI W, DI H, dints c])] [] (OutOk.lift _) rfl (by decide) zb zf trivial rfl) zw zm
  conv => whnf
  repeat' (first | ((first | refine zs1 ?_ | refine zs2 ?_ | refine zs3 ?_ | refine zs4 ?_ | refine zs5 ?_); conv => whnf) | ((first | apply zi1 | apply zi2 | apply zi3 | apply zi4 | apply zi5) <;> intro _ <;> conv => whnf))
  obtain ⟨s, hs⟩ : ∃ s, s = 1 + x.tmod 2 := ⟨_, rfl⟩
  have hs12 : s = 1 ∨ s = 2 := by rw [hs, ht]; omega
  refine VCut.at' (outer := h.lift) (marks := []) 99 [(7, .fp [DI W, DI H, dints c]), (8, .ptr (.loc 0) 0), (9, I (1 + x.tmod 2))] [deckB b2 ((0 : Nat), (9 : Int))] ?_ ?_
  · conv => whnf
    refine Retell.turn ⟨[0], 9, [], []⟩ (TurnOk.mk' _ _ [] [] (OutOk.lift _) rfl (by decide) zb trivial trivial rfl) zw zm
  rw [← hs]
  have cF := kF o hs12
  have hF := bfsH o s
  have hFl := hF.len
  have cH := fun T hT => kH o hs12 T hT
  have hbd := bfs_bd o s
  have hsd := o.side
  have hkd := o.kind
  have hcl := o.len
  have hH1 := o.h
  have hW12 := o.w
  have cN := fun a b h ha hb => vc_next (mp W H c) W a b h (by omega) rfl ha hb (by omega)
  generalize hFe : bfs c W s = F at *
  clear hs ht o
  conv => whnf
  repeat' (first | ((first | refine zs1 ?_ | refine zs2 ?_ | refine zs3 ?_ | refine zs4 ?_ | refine zs5 ?_); conv => whnf) | ((first | apply zi1 | apply zi2 | apply zi3 | apply zi4 | apply zi5) <;> intro _ <;> first | (exfalso; omega) | contradiction | (conv => whnf)) | (refine VCall.intro (cF _) ?_; conv => whnf))
  refine VCode.lpC (outer := h.lift) (marks := []) 99 (fun y : Nat × Dk => [(7, .fp [DI W, DI H, dints c]), (8, .ptr (.loc 0) 0), (9, I s), (10, ints F), (43, I y.1)]) (fun y => [deckB b2 y.2]) (fun y => y.1 ≤ 6 ∧ y.2.1 ≤ 100 * y.1) (fun y => 6 - y.1) (0, ((0 : Nat), (9 : Int))) ⟨by decide, by decide⟩ ?_ ?_
  · conv => whnf
    refine Retell.turn ⟨[0], 9, [], []⟩ (TurnOk.mk' _ _ [] [] (OutOk.lift _) rfl (by decide) zb trivial trivial rfl) zw zm
  · rintro ⟨k, d⟩ ⟨hk, hd⟩
    dsimp only at hk hd
    rcases Nat.lt_or_ge k 6 with h3 | h3
    · have cC := fun h => vc_cloneIP F h (by omega)
      have n1 := (dealt b2).n d 3
      have n2 := (dealt b2).lo d 3
      have n3 := (dealt b2).hi d 3 (by decide)
      have g1 := fun (h2 : Hp) hg => vc_between b2 d 1 3 (.loc 0) h2 (by omega) (by omega) (by omega) hg
      rw [show (3 : Int) - 1 + 1 = 3 from rfl] at g1
      generalize dNx b2 d 3 = q1 at *
      obtain ⟨n, hn⟩ : ∃ n : Nat, 1 + q1.1 = n := ⟨(1 + q1.1).toNat, by omega⟩
      rw [hn] at g1
      conv => whnf
      repeat' (first | ((first | refine zs1 ?_ | refine zs2 ?_ | refine zs3 ?_ | refine zs4 ?_ | refine zs5 ?_); conv => whnf) | ((first | apply zi1 | apply zi2 | apply zi3 | apply zi4 | apply zi5) <;> intro _ <;> first | (exfalso; omega) | contradiction | (conv => whnf)) | (refine VCall.intro (cC _) ?_; conv => whnf) | (refine VCall.intro (g1 _ rfl) ?_; conv => whnf))
      refine VCode.lpC (outer := h.lift) (marks := []) 99 (fun z : Nat × Dk × List Int => [(7, .fp [DI W, DI H, dints c]), (8, .ptr (.loc 0) 0), (9, I s), (10, ints F), (43, I k), (12, .gl (.loc 1) 1 z.2.2.length), (48, I n), (49, I z.1)]) (fun z => [deckB b2 z.2.1, .flat true (z.2.2.flatMap Vm.encI)]) (fun z => z.1 ≤ n ∧ z.2.2.length = c.length ∧ z.2.1.1 ≤ 100 * k + 1 + 2 * z.1) (fun z => n - z.1) (0, q1.2, F) ⟨Nat.zero_le _, hFl, by dsimp only; omega⟩ ?_ ?_
      · conv => whnf
        refine Retell.turn ⟨[0,1], 9, [], []⟩ (TurnOk.mk' _ _ [] [] (OutOk.lift _) rfl (by decide) zb trivial trivial rfl) zw zm
      rintro ⟨j, e, T⟩ ⟨hj, hT, he⟩
      dsimp only at hj hT he
      have hcpos : 0 < c.length := by rw [hcl]; exact Nat.mul_pos (by omega) (by omega)
      rcases Nat.lt_or_ge j n with h4 | h4
      · have m1 := (dealt b2).n e (T.length : Int)
        have m2 := (dealt b2).lo e (T.length : Int)
        have m3 := (dealt b2).hi e (T.length : Int) (by omega)
        have f1 := fun (h2 : Hp) hg => vc_draw b2 e (T.length : Int) (.loc 0) h2 (by omega) hg
        generalize dNx b2 e (T.length : Int) = q2 at *
        have m4 := (dealt b2).n q2.2 14
        have m5 := (dealt b2).lo q2.2 14
        have m6 := (dealt b2).hi q2.2 14 (by decide)
        have f2 := fun (h2 : Hp) hg => vc_between b2 q2.2 (-1) 12 (.loc 0) h2 (by omega) (by omega) (by omega) hg
        rw [show (12 : Int) - (-1) + 1 = 14 from rfl] at f2
        generalize dNx b2 q2.2 14 = q3 at *
        obtain ⟨r, hr⟩ : ∃ r : Nat, q2.1 = r := ⟨q2.1.toNat, by omega⟩
        rw [hr] at f1
        have hgt := at0_get (l := T) (n := r) (by omega)
        conv => whnf
        repeat' (first | ((first | refine zs1 ?_ | refine zs2 ?_ | refine zs3 ?_ | refine zs4 ?_ | refine zs5 ?_); conv => whnf) | ((first | apply zi1 | apply zi2 | apply zi3 | apply zi4 | apply zi5) <;> intro _ <;> first | (exfalso; omega) | contradiction | (conv => whnf)) | (refine VCall.intro (f1 _ rfl) ?_; conv => whnf) | (refine VCall.intro (f2 _ rfl) ?_; conv => whnf) | (refine VMem.setRec Vm.encI_len r 0 (-1 + q3.1) rfl rfl rfl hgt (by decide) rfl (ofs _) ?_; conv => whnf))
        refine LEnd.intro (j + 1, q3.2, T.set r (-1 + q3.1)) ⟨by dsimp only; omega, by dsimp only; rw [List.length_set]; exact hT, by dsimp only; omega⟩ (by dsimp only; omega) ?_
        dsimp only
        rw [List.length_set]
        conv => whnf
        refine Retell.turn ⟨[0,1], 9, [], []⟩ (TurnOk.mk' _ _ [] [] (OutOk.lift _) rfl (by decide) zb trivial trivial rfl) zw zm
      · obtain rfl : j = n := by omega
        have cH := cH T hT Hp.bare
        have cE := vc_kequalI T F Hp.bare (by omega) (by omega)
        generalize decide (T = F) = q at *
        cases q
        all_goals (
          conv => whnf
          repeat' (first | ((first | refine zs1 ?_ | refine zs2 ?_ | refine zs3 ?_ | refine zs4 ?_ | refine zs5 ?_); conv => whnf) | ((first | apply zi1 | apply zi2 | apply zi3 | apply zi4 | apply zi5) <;> intro _ <;> first | (exfalso; omega) | contradiction | (conv => whnf)) | (refine VCall.intro (VC.lendS [dM (mp W H c), DI s, dints T] [(1, T.flatMap Vm.encI)] [] zf trivial zv cH) ?_; conv => whnf) | (refine VCall.intro (VC.lend1 [dints T, dints F] [(1, T.flatMap Vm.encI)] [] zf trivial zv cE) ?_; conv => whnf))
          refine LEnd.intro (k + 1, e) ⟨by dsimp only; omega, by dsimp only; omega⟩ (by dsimp only; omega) ?_
          conv => whnf
          refine Retell.turn ⟨[0], 9, [], []⟩ (TurnOk.mk' _ _ [] [] (OutOk.lift _) rfl (by decide) zb trivial trivial rfl) zw zm)
    · obtain rfl : k = 6 := by omega
      conv => whnf
      repeat' (first | ((first | refine zs1 ?_ | refine zs2 ?_ | refine zs3 ?_ | refine zs4 ?_ | refine zs5 ?_); conv => whnf) | ((first | apply zi1 | apply zi2 | apply zi3 | apply zi4 | apply zi5) <;> intro _ <;> first | (exfalso; omega) | contradiction | (conv => whnf)))
      have b0 : (700 : Nat) = 700 := rfl
      refine VCode.lpC (outer := h.lift) (marks := []) 99 (fun y : Nat × Dk => [(7, .fp [DI W, DI H, dints c]), (8, .ptr (.loc 0) 0), (9, I s), (10, ints F), (77, I y.1)]) (fun y => [deckB b2 y.2]) (fun y => y.1 ≤ 6 ∧ y.2.1 ≤ 700 + 100 * y.1) (fun y => 6 - y.1) (0, d) ⟨by dsimp only; omega, by dsimp only; omega⟩ ?_ ?_
      · conv => whnf
        refine Retell.turn ⟨[0], 9, [], []⟩ (TurnOk.mk' _ _ [] [] (OutOk.lift _) rfl (by decide) zb trivial trivial rfl) zw zm
      clear hd d
      rintro ⟨k, d⟩ ⟨hk, hd⟩
      dsimp only at hk hd
      rcases Nat.lt_or_ge k 6 with h3 | h3
      · have m1 := (dealt b2).n d (H : Int)
        have m2 := (dealt b2).lo d (H : Int)
        have m3 := (dealt b2).hi d (H : Int) (by omega)
        have f1 := fun (h2 : Hp) hg => vc_draw b2 d (H : Int) (.loc 0) h2 (by omega) hg
        generalize dNx b2 d (H : Int) = q2 at *
        obtain ⟨r, hr⟩ : ∃ r : Nat, q2.1 = r := ⟨q2.1.toNat, by omega⟩
        rw [hr] at f1
        have hp : (r : Int) * (W : Int) = ((r * W : Nat) : Int) := by rw [Int.natCast_mul]
        have hp2 : r * W ≤ 12 * 12 := Nat.mul_le_mul (by omega) (by omega)
        have hp3 : (r + 1) * W ≤ H * W := Nat.mul_le_mul_right W (by omega)
        rw [Nat.add_mul, Nat.one_mul, Nat.mul_comm H W, ← hcl] at hp3
        have hsd := hsd r (by omega)
        have hst : ∃ st : Nat, st < c.length ∧ at0 c st = s ∧ (if s = 2 then ((r * W : Nat) : Int) + ((W : Int) - 1) else ((r * W : Nat) : Int)) = st := by
          rcases hs12 with h1 | h1
          · exact ⟨r * W, by omega, by rw [h1]; exact hsd.1, by rw [if_neg (by omega)]⟩
          · exact ⟨r * W + W - 1, by omega, by rw [h1]; exact hsd.2, by rw [if_pos h1]; omega⟩
        obtain ⟨st, st1, st2, st3⟩ := hst
        have st4 := (hF.fit st st1).own st2
        generalize r * W = p at *
        conv => whnf
        repeat' (first | ((first | refine zs1 ?_ | refine zs2 ?_ | refine zs3 ?_ | refine zs4 ?_ | refine zs5 ?_); conv => whnf) | ((first | apply zi1 | apply zi2 | apply zi3 | apply zi4 | apply zi5) <;> intro _ <;> conv => whnf))
        all_goals try (exfalso; omega)
        refine zs6 [(3, 5)] ?_
        conv => whnf
        repeat' (first | ((first | refine zs1 ?_ | refine zs2 ?_ | refine zs3 ?_ | refine zs4 ?_ | refine zs5 ?_); conv => whnf) | ((first | apply zi1 | apply zi2 | apply zi3 | apply zi4 | apply zi5) <;> intro _ <;> conv => whnf) | (refine VCall.intro (f1 _ rfl) ?_; conv => whnf))
        all_goals (
          rw [hp]
          first | rw [if_pos (by assumption)] at st3 | rw [if_neg (by assumption)] at st3
          refine VCode.lpC (outer := h.lift) (marks := []) 99 (fun z : Nat × Nat × Dk => [(7, .fp [DI W, DI H, dints c]), (8, .ptr (.loc 0) 0), (9, I s), (10, ints F), (77, I k), (15, I z.2.1), (16, I z.1)]) (fun z => [deckB b2 z.2.2]) (fun z => 1 ≤ z.1 ∧ z.1 ≤ 13 ∧ z.2.1 < c.length ∧ Thr c s z.2.1 ∧ at0 F z.2.1 ≠ -1 ∧ at0 F z.2.1 ≤ (z.1 : Int) - 1 ∧ z.2.2.1 ≤ 701 + 100 * k + z.1) (fun z => 13 - z.1) (1, st, q2.2) ⟨Nat.le_refl 1, by dsimp only; omega, st1, .inr st2, by dsimp only; omega, by dsimp only; omega, by dsimp only; omega⟩ ?_ ?_
          · dsimp only
            conv => whnf
            rw [st3]
            refine Retell.turn ⟨[0], 9, [], []⟩ (TurnOk.mk' _ _ [] [] (OutOk.lift _) rfl (by decide) zb trivial trivial rfl) zw zm
          clear cH cF cA c0 c0' c1 hFe
          clear st4 st3 st2 st1 hsd hp3 hp2 f1 m1 m2 m3
          rintro ⟨i, a, e⟩ ⟨i1, i2, ha1, ha2, ha3, ha4, he⟩
          dsimp only at i1 i2 ha1 ha2 ha3 ha4 he ⊢
          rcases Nat.lt_or_ge i 13 with h5 | h5
          · have m4 := (dealt b2).n e 4
            have m5 := (dealt b2).lo e 4
            have m6 := (dealt b2).hi e 4 (by decide)
            have f3 := fun (h2 : Hp) hg => vc_draw b2 e 4 (.loc 0) h2 (by omega) hg
            generalize dNx b2 e 4 = q3 at *
            obtain ⟨q, hq⟩ : ∃ q : Nat, q3.1 = q := ⟨q3.1.toNat, by omega⟩
            rw [hq] at f3
            have hdl : ∃ δ : Int, vpart 1 false [I 1, I (-1), I W, I (0 - (W : Int))] (q * 1) = some (I δ) ∧ -12 ≤ δ ∧ δ ≤ 12 := by
              rcases (show q = 0 ∨ q = 1 ∨ q = 2 ∨ q = 3 by omega) with h9 | h9 | h9 | h9 <;> subst h9
              · exact ⟨1, rfl, by omega, by omega⟩
              · exact ⟨-1, rfl, by omega, by omega⟩
              · exact ⟨W, rfl, by omega, by omega⟩
              · exact ⟨0 - W, rfl, by omega, by omega⟩
            obtain ⟨δ, hd0, hd1, hd2⟩ := hdl
            by_cases hin : 0 ≤ (a : Int) + δ ∧ (a : Int) + δ < c.length
            · obtain ⟨b, hbe⟩ : ∃ b : Nat, (a : Int) + δ = b := ⟨((a : Int) + δ).toNat, by omega⟩
              have hb : b < c.length := by omega
              have cNb := fun h => cN a b h (by omega) (by omega)
              rw [← hbe] at cNb
              have xb := at0_get (l := c) (n := b) hb
              have yb := at0_get (l := F) (n := b) (by omega)
              have kdb := hkd b hb
              have tr := tried (a := a) (b := b) (k := (i : Int) - 1) hF ha1 hb
              by_cases hnb : Nb W a b
              · rw [decide_eq_true hnb] at cNb
                have tr := tr hnb ha2 ha3 ha4
                by_cases h1 : at0 c b = 1
                · generalize at0 c b = v at *
                  subst h1
                  conv => whnf
                  repeat' (first | ((first | refine zs1 ?_ | refine zs2 ?_ | refine zs3 ?_ | refine zs4 ?_ | refine zs5 ?_); conv => whnf) | ((first | apply zi1 | apply zi2 | apply zi3 | apply zi4 | apply zi5) <;> intro _ <;> conv => whnf))
                  all_goals try (exfalso; omega)
                  refine zs6 [(2, 8), (4, 8)] ?_
                  conv => whnf
                  repeat' (first | ((first | refine zs1 ?_ | refine zs2 ?_ | refine zs3 ?_ | refine zs4 ?_ | refine zs5 ?_); conv => whnf) | ((first | apply zi1 | apply zi2 | apply zi3 | apply zi4 | apply zi5) <;> intro _ <;> first | (exfalso; omega) | contradiction | (conv => whnf)) | (refine VCall.intro (f3 _ rfl) ?_; conv => whnf))
                  conv in vpure _ _ _ => (change aggIx 4 q (vpart 1 false [I 1, I (-1), I W, I (0 - (W : Int))] (q * 1)); rw [hd0])
                  conv => whnf
                  repeat' (first | ((first | refine zs1 ?_ | refine zs2 ?_ | refine zs3 ?_ | refine zs4 ?_ | refine zs5 ?_); conv => whnf) | ((first | apply zi1 | apply zi2 | apply zi3 | apply zi4 | apply zi5) <;> intro _ <;> first | (exfalso; omega) | contradiction | (conv => whnf)) | (refine VCall.intro (f3 _ rfl) ?_; conv => whnf) | (refine VCall.intro (cNb _) ?_; conv => whnf) | (refine VAny.ix Vm.encI_len b (by omega) rfl xb ?_; conv => whnf) | (refine VAny.ix Vm.encI_len b (by omega) (by omega) yb ?_; conv => whnf))
                  refine LEnd.intro (k + 1, q3.2) ⟨by dsimp only; omega, by dsimp only; omega⟩ (by dsimp only; omega) ?_
                  conv => whnf
                  refine Retell.turn ⟨[0], 9, [], []⟩ (TurnOk.mk' _ _ [] [] (OutOk.lift _) rfl (by decide) zb trivial trivial rfl) zw zm
                by_cases h2 : at0 c b = 2
                · generalize at0 c b = v at *
                  subst h2
                  conv => whnf
                  repeat' (first | ((first | refine zs1 ?_ | refine zs2 ?_ | refine zs3 ?_ | refine zs4 ?_ | refine zs5 ?_); conv => whnf) | ((first | apply zi1 | apply zi2 | apply zi3 | apply zi4 | apply zi5) <;> intro _ <;> conv => whnf))
                  all_goals try (exfalso; omega)
                  refine zs6 [(2, 8), (4, 8)] ?_
                  conv => whnf
                  repeat' (first | ((first | refine zs1 ?_ | refine zs2 ?_ | refine zs3 ?_ | refine zs4 ?_ | refine zs5 ?_); conv => whnf) | ((first | apply zi1 | apply zi2 | apply zi3 | apply zi4 | apply zi5) <;> intro _ <;> first | (exfalso; omega) | contradiction | (conv => whnf)) | (refine VCall.intro (f3 _ rfl) ?_; conv => whnf))
                  conv in vpure _ _ _ => (change aggIx 4 q (vpart 1 false [I 1, I (-1), I W, I (0 - (W : Int))] (q * 1)); rw [hd0])
                  conv => whnf
                  repeat' (first | ((first | refine zs1 ?_ | refine zs2 ?_ | refine zs3 ?_ | refine zs4 ?_ | refine zs5 ?_); conv => whnf) | ((first | apply zi1 | apply zi2 | apply zi3 | apply zi4 | apply zi5) <;> intro _ <;> first | (exfalso; omega) | contradiction | (conv => whnf)) | (refine VCall.intro (f3 _ rfl) ?_; conv => whnf) | (refine VCall.intro (cNb _) ?_; conv => whnf) | (refine VAny.ix Vm.encI_len b (by omega) rfl xb ?_; conv => whnf) | (refine VAny.ix Vm.encI_len b (by omega) (by omega) yb ?_; conv => whnf))
                  refine LEnd.intro (k + 1, q3.2) ⟨by dsimp only; omega, by dsimp only; omega⟩ (by dsimp only; omega) ?_
                  conv => whnf
                  refine Retell.turn ⟨[0], 9, [], []⟩ (TurnOk.mk' _ _ [] [] (OutOk.lift _) rfl (by decide) zb trivial trivial rfl) zw zm
                have tr := tr (by omega) (by unfold Opn; omega)
                obtain ⟨t1, t2⟩ := tr
                by_cases hc0 : at0 c b = 0
                · obtain ⟨v, hv⟩ : ∃ v, v = at0 c b := ⟨_, rfl⟩
                  obtain ⟨u, hu⟩ : ∃ u, u = at0 F b := ⟨_, rfl⟩
                  have hv0 : v = 0 := hv.trans hc0
                  have t1' : u ≠ -1 := by rw [hu]; exact t1
                  have t2' : u ≤ (i : Int) - 1 + 1 := by rw [hu]; exact t2
                  rw [← hv] at xb
                  rw [← hu] at yb
                  subst hv0
                  conv => whnf
                  repeat' (first | ((first | refine zs1 ?_ | refine zs2 ?_ | refine zs3 ?_ | refine zs4 ?_ | refine zs5 ?_); conv => whnf) | ((first | apply zi1 | apply zi2 | apply zi3 | apply zi4 | apply zi5) <;> intro _ <;> conv => whnf))
                  all_goals try (exfalso; omega)
                  refine zs6 [(2, 8), (4, 8)] ?_
                  conv => whnf
                  repeat' (first | ((first | refine zs1 ?_ | refine zs2 ?_ | refine zs3 ?_ | refine zs4 ?_ | refine zs5 ?_); conv => whnf) | ((first | apply zi1 | apply zi2 | apply zi3 | apply zi4 | apply zi5) <;> intro _ <;> first | (exfalso; omega) | contradiction | (conv => whnf)) | (refine VCall.intro (f3 _ rfl) ?_; conv => whnf))
                  conv in vpure _ _ _ => (change aggIx 4 q (vpart 1 false [I 1, I (-1), I W, I (0 - (W : Int))] (q * 1)); rw [hd0])
                  conv => whnf
                  repeat' (first | ((first | refine zs1 ?_ | refine zs2 ?_ | refine zs3 ?_ | refine zs4 ?_ | refine zs5 ?_); conv => whnf) | ((first | apply zi1 | apply zi2 | apply zi3 | apply zi4 | apply zi5) <;> intro _ <;> first | (exfalso; omega) | contradiction | (conv => whnf)) | (refine VCall.intro (f3 _ rfl) ?_; conv => whnf) | (refine VCall.intro (cNb _) ?_; conv => whnf) | (refine VAny.ix Vm.encI_len b (by omega) rfl xb ?_; conv => whnf) | (refine VAny.ix Vm.encI_len b (by omega) (by omega) yb ?_; conv => whnf))
                  refine LEnd.intro (i + 1, b, q3.2) ⟨by dsimp only; omega, by dsimp only; omega, hb, .inl hc0, t1, by dsimp only; omega, by dsimp only; omega⟩ (by dsimp only; omega) ?_
                  dsimp only
                  conv => whnf
                  rw [hbe]
                  refine Retell.turn ⟨[0], 9, [], []⟩ (TurnOk.mk' _ _ [] [] (OutOk.lift _) rfl (by decide) zb trivial trivial rfl) zw zm
                · have hc3 : at0 c b = 3 := by omega
                  obtain ⟨v, hv⟩ : ∃ v, v = at0 c b := ⟨_, rfl⟩
                  obtain ⟨u, hu⟩ : ∃ u, u = at0 F b := ⟨_, rfl⟩
                  have hv0 : v = 3 := hv.trans hc3
                  have t1' : u ≠ -1 := by rw [hu]; exact t1
                  have t2' : u ≤ (i : Int) - 1 + 1 := by rw [hu]; exact t2
                  rw [← hv] at xb
                  rw [← hu] at yb
                  subst hv0
                  conv => whnf
                  repeat' (first | ((first | refine zs1 ?_ | refine zs2 ?_ | refine zs3 ?_ | refine zs4 ?_ | refine zs5 ?_); conv => whnf) | ((first | apply zi1 | apply zi2 | apply zi3 | apply zi4 | apply zi5) <;> intro _ <;> conv => whnf))
                  all_goals try (exfalso; omega)
                  refine zs6 [(2, 8), (4, 8)] ?_
                  conv => whnf
                  repeat' (first | ((first | refine zs1 ?_ | refine zs2 ?_ | refine zs3 ?_ | refine zs4 ?_ | refine zs5 ?_); conv => whnf) | ((first | apply zi1 | apply zi2 | apply zi3 | apply zi4 | apply zi5) <;> intro _ <;> first | (exfalso; omega) | contradiction | (conv => whnf)) | (refine VCall.intro (f3 _ rfl) ?_; conv => whnf))
                  conv in vpure _ _ _ => (change aggIx 4 q (vpart 1 false [I 1, I (-1), I W, I (0 - (W : Int))] (q * 1)); rw [hd0])
                  conv => whnf
                  repeat' (first | ((first | refine zs1 ?_ | refine zs2 ?_ | refine zs3 ?_ | refine zs4 ?_ | refine zs5 ?_); conv => whnf) | ((first | apply zi1 | apply zi2 | apply zi3 | apply zi4 | apply zi5) <;> intro _ <;> first | (exfalso; omega) | contradiction | (conv => whnf)) | (refine VCall.intro (f3 _ rfl) ?_; conv => whnf) | (refine VCall.intro (cNb _) ?_; conv => whnf) | (refine VAny.ix Vm.encI_len b (by omega) rfl xb ?_; conv => whnf) | (refine VAny.ix Vm.encI_len b (by omega) (by omega) yb ?_; conv => whnf))
                  refine LEnd.intro (k + 1, q3.2) ⟨by dsimp only; omega, by dsimp only; omega⟩ (by dsimp only; omega) ?_
                  conv => whnf
                  refine Retell.turn ⟨[0], 9, [], []⟩ (TurnOk.mk' _ _ [] [] (OutOk.lift _) rfl (by decide) zb trivial trivial rfl) zw zm
              · rw [decide_eq_false hnb] at cNb
                conv => whnf
                repeat' (first | ((first | refine zs1 ?_ | refine zs2 ?_ | refine zs3 ?_ | refine zs4 ?_ | refine zs5 ?_); conv => whnf) | ((first | apply zi1 | apply zi2 | apply zi3 | apply zi4 | apply zi5) <;> intro _ <;> conv => whnf))
                all_goals try (exfalso; omega)
                refine zs6 [(2, 8), (4, 8)] ?_
                conv => whnf
                repeat' (first | ((first | refine zs1 ?_ | refine zs2 ?_ | refine zs3 ?_ | refine zs4 ?_ | refine zs5 ?_); conv => whnf) | ((first | apply zi1 | apply zi2 | apply zi3 | apply zi4 | apply zi5) <;> intro _ <;> first | (exfalso; omega) | contradiction | (conv => whnf)) | (refine VCall.intro (f3 _ rfl) ?_; conv => whnf))
                conv in vpure _ _ _ => (change aggIx 4 q (vpart 1 false [I 1, I (-1), I W, I (0 - (W : Int))] (q * 1)); rw [hd0])
                conv => whnf
                repeat' (first | ((first | refine zs1 ?_ | refine zs2 ?_ | refine zs3 ?_ | refine zs4 ?_ | refine zs5 ?_); conv => whnf) | ((first | apply zi1 | apply zi2 | apply zi3 | apply zi4 | apply zi5) <;> intro _ <;> first | (exfalso; omega) | contradiction | (conv => whnf)) | (refine VCall.intro (f3 _ rfl) ?_; conv => whnf) | (refine VCall.intro (cNb _) ?_; conv => whnf) | (refine VAny.ix Vm.encI_len b (by omega) rfl xb ?_; conv => whnf) | (refine VAny.ix Vm.encI_len b (by omega) (by omega) yb ?_; conv => whnf))
                refine LEnd.intro (k + 1, q3.2) ⟨by dsimp only; omega, by dsimp only; omega⟩ (by dsimp only; omega) ?_
                conv => whnf
                refine Retell.turn ⟨[0], 9, [], []⟩ (TurnOk.mk' _ _ [] [] (OutOk.lift _) rfl (by decide) zb trivial trivial rfl) zw zm
            · have hout : (a : Int) + δ < 0 ∨ (c.length : Int) ≤ (a : Int) + δ := by omega
              conv => whnf
              repeat' (first | ((first | refine zs1 ?_ | refine zs2 ?_ | refine zs3 ?_ | refine zs4 ?_ | refine zs5 ?_); conv => whnf) | ((first | apply zi1 | apply zi2 | apply zi3 | apply zi4 | apply zi5) <;> intro _ <;> conv => whnf))
              all_goals try (exfalso; omega)
              refine zs6 [(2, 8), (4, 8)] ?_
              conv => whnf
              repeat' (first | ((first | refine zs1 ?_ | refine zs2 ?_ | refine zs3 ?_ | refine zs4 ?_ | refine zs5 ?_); conv => whnf) | ((first | apply zi1 | apply zi2 | apply zi3 | apply zi4 | apply zi5) <;> intro _ <;> first | (exfalso; omega) | contradiction | (conv => whnf)) | (refine VCall.intro (f3 _ rfl) ?_; conv => whnf))
              conv in vpure _ _ _ => (change aggIx 4 q (vpart 1 false [I 1, I (-1), I W, I (0 - (W : Int))] (q * 1)); rw [hd0])
              conv => whnf
              repeat' (first | ((first | refine zs1 ?_ | refine zs2 ?_ | refine zs3 ?_ | refine zs4 ?_ | refine zs5 ?_); conv => whnf) | ((first | apply zi1 | apply zi2 | apply zi3 | apply zi4 | apply zi5) <;> intro _ <;> first | (exfalso; omega) | contradiction | (conv => whnf)) | (refine VCall.intro (f3 _ rfl) ?_; conv => whnf))
              all_goals (
                refine LEnd.intro (k + 1, q3.2) ⟨by dsimp only; omega, by dsimp only; omega⟩ (by dsimp only; omega) ?_
                conv => whnf
                refine Retell.turn ⟨[0], 9, [], []⟩ (TurnOk.mk' _ _ [] [] (OutOk.lift _) rfl (by decide) zb trivial trivial rfl) zw zm)
          · obtain rfl : i = 13 := by omega
            conv => whnf
            repeat' (first | ((first | refine zs1 ?_ | refine zs2 ?_ | refine zs3 ?_ | refine zs4 ?_ | refine zs5 ?_); conv => whnf) | ((first | apply zi1 | apply zi2 | apply zi3 | apply zi4 | apply zi5) <;> intro _ <;> first | (exfalso; omega) | contradiction | (conv => whnf)))
            refine LEnd.intro (k + 1, e) ⟨by dsimp only; omega, by dsimp only; omega⟩ (by dsimp only; omega) ?_
            conv => whnf
            refine Retell.turn ⟨[0], 9, [], []⟩ (TurnOk.mk' _ _ [] [] (OutOk.lift _) rfl (by decide) zb trivial trivial rfl) zw zm)
      · obtain rfl : k = 6 := by omega
        conv => whnf
        repeat' (first | ((first | refine zs1 ?_ | refine zs2 ?_ | refine zs3 ?_ | refine zs4 ?_ | refine zs5 ?_); conv => whnf) | ((first | apply zi1 | apply zi2 | apply zi3 | apply zi4 | apply zi5) <;> intro _ <;> first | (exfalso; omega) | contradiction | (conv => whnf)) | (refine VCall.intro (cA _) ?_; conv => whnf))
        exact VOut.same rfl
end Go.Proofs.Ytkbbfeljlepgoaa

open Go.Vm
namespace Go.Proofs.Ytkbbfeljlepgoaa
open Go.ChangeShapes Go.WideShapes Go.ChangeAt Go.RowKit

theorem open10p : OpenAll Try.prog Try.f10.params.toList (fun x : List Int × List Int × {n : Int // 0 ≤ n ∧ n ≤ 255} × Unit => [dU x.1, dU x.2.1, d8b x.2.2.1]) := by
  rw [Try.params10]
  exact OpenAll.cons openU (OpenAll.cons openU (OpenAll.cons open8b (OpenAll.nil)))
set_option maxRecDepth 100000 in
theorem contract10 (H : Type) (enc : TypeId × Value → H) (W : World) (base : Nat) (args : Array Value) (ds gs : List (DataW H)) (before : List MemPlace)
    (hval : ∀ (j : Nat) t v, Try.f10.params[j]? = some t → args[j]? = some v → Value.okWide Try.prog W .any base t v)
    (hW : DataW.Whole enc Try.prog Try.f10.params.toList Rows.riverProvedSpec.vars false W args.toList ds gs before) :
    Calls Try.prog 10 args W fun e W' => ∃ v, e = .returned v ∧ Rows.riverProvedSpec.post enc Try.prog Try.f10 false true false false W args v W' := by
  refine contract_of_vc open10p (fun g => vc_RiverProved g.1 g.2.1 g.2.2.1.1 g.2.2.1.2 Hp.bare) laidOut ?_ (tb := 4) (by kernel_rfl) Try.underlying4 rfl ?_ hval hW
  · rw [Try.params10]
    intro t ht
    simp only [List.mem_cons, List.not_mem_nil, or_false] at ht
    rcases ht with rfl | rfl | rfl
    all_goals exact ⟨by kernel_rfl, of_decide_eq_true (by kernel_rfl)⟩
  · intro H dd hl
    rw [Try.params10] at hl
    match dd, hl with
    | [d0, d1, d2], _ => rfl
set_option maxRecDepth 100000 in
theorem lifted10 (os : Os) (started : os.Started) (H : Type) (enc : TypeId × Value → H) :
    ReturnsInHanded {} Try.checked os 10 .any (Rows.riverProvedSpec.pre6 enc Try.prog Try.f10 Rows.riverProvedRow.domain false) (Rows.riverProvedSpec.post enc Try.prog Try.f10 false true false false) := by
  refine returnsInHanded_of_change (C := Try.checked) ownKn started (by kernel_rfl) Try.func10
    (ChangeSpec.witness6 (enc := enc) (C := Try.checked) false ⟨#[], #[.slice none 0 0, .slice none 0 0, .int .u8 0], []⟩ 8 (by kernel_rfl) (by kernel_rfl) (by kernel_rfl) (by kernel_rfl)) ?_
  intro W base args ds gs before hval hW _ _
  exact contract10 H enc W base args ds gs before hval hW
theorem riverProved_said : Rows.RiverProvedSaid :=
  OpenClaim.holds_of_wide 10 Try.f10 rfl rfl rfl rfl rfl rfl rfl ⟨rfl, rfl, rfl, rfl, rfl⟩ rfl rfl rfl rfl rfl (by kernel_rfl) Try.func10 (by kernel_rfl)
    (of_decide_eq_true (by kernel_rfl)) (by unfold Func.isWrapper; first | (rw [if_pos (by decide +kernel)]; kernel_rfl) | (rw [if_neg (by decide +kernel)]; exact ⟨rfl, rfl⟩))
    (fun os started H enc _ => lifted10 os started H enc)
end Go.Proofs.Ytkbbfeljlepgoaa

