/- Part 0 of the proof that a map that is looked at from the south or from the back has the same line. No condition. -/
import Derived.Test.YtkbbfeljlepgoaaBc9
set_option linter.unusedVariables false
set_option linter.unusedSimpArgs false
open Go.Vm
open Riv
namespace Go.Proofs.Ytkbbfeljlepgoaa
set_option maxRecDepth 20000
set_option maxHeartbeats 4000000

theorem arr4 (v : Int) (h1 : 0 ≤ v) (h2 : v ≤ 3) : ∃ rest, [DI 0, DI 2, DI 1, DI 3].drop (v.toNat * (0 + 1)) = [DI (oth v)] ++ rest := by
  rcases (show v = 0 ∨ v = 1 ∨ v = 2 ∨ v = 3 by omega) with rfl | rfl | rfl | rfl
  · exact ⟨_, rfl⟩
  · exact ⟨_, rfl⟩
  · exact ⟨_, rfl⟩
  · exact ⟨_, rfl⟩
theorem owns_bd03 {W H : Nat} {c : List Int} (o : MOk W H c) {k : Nat} (h : k < c.length) : 0 ≤ at0 (owns c W) k ∧ at0 (owns c W) k ≤ 3 := by
  have hw := o.few.2.1
  have h1 := o.few.1
  exact owns_bd o.kind (fun cs hc n hn => isl_in hw o.len (by omega) cs hc n hn) h
theorem vc_RiverMirrored (bs : List Int) (h : Hp) : VC Try.prog 6 [bytes bs] h (B true) h := by
  obtain ⟨W, H, eW, eH, hWw, hHh, hW4, o, _, _⟩ := madeX_ok (dealt bs) (d := ((0 : Nat), (9 : Int))) (w := 9) (h := 6) (by decide) (by decide)
  have c0 := vc_Of bs
  have c1 := fun i h hd => vc_Made bs ((0 : Nat), (9 : Int)) 9 6 i h (by decide) (by decide) (by decide) hd
  unfold mdM at c1
  rw [eW, eH] at c1
  generalize (madeX (dNx bs) ((0 : Nat), (9 : Int)) 9 6).2 = c at *
  generalize (madeX (dNx bs) ((0 : Nat), (9 : Int)) 9 6).1 = dd at *
  clear eW eH
  have hm := MOk.le o
  have hw2 := o.few.2.1
  obtain ⟨σ1, e1⟩ : ∃ σ1 : Nat → Nat, σ1 = fun n => (H - 1 - n / W) * W + n % W := ⟨_, rfl⟩
  obtain ⟨σ2, e2⟩ : ∃ σ2 : Nat → Nat, σ2 = fun n => n / W * W + W - 1 - n % W := ⟨_, rfl⟩
  have hs1 : Sy W c.length σ1 := by rw [e1, o.len]; exact sy_south hw2
  have hs2 : Sy W c.length σ2 := by rw [e2, o.len]; exact sy_back hw2
  have q1 : ∀ k, k < c.length → ∃ x y : Nat, (k : Int).tmod (W : Int) = x ∧ IntKind.i64.wrap ((k : Int).tdiv (W : Int)) = y ∧ x < W ∧ y < H ∧ ((H : Int) - 1 - y) * W + x = σ1 k ∧ ((y * W : Nat) : Int) + W - 1 - x = σ2 k := by
    intro k hk
    have hyH : k / W < H := Nat.div_lt_of_lt_mul (by rw [← o.len]; exact hk)
    have hxW : k % W < W := Nat.mod_lt k (by omega)
    have g1 : (k : Int).tmod (W : Int) = ((k % W : Nat) : Int) := Int.ofNat_tmod k W
    have g2 : (k : Int).tdiv (W : Int) = ((k / W : Nat) : Int) := Int.ofNat_tdiv k W
    refine ⟨k % W, k / W, g1, ?_, hxW, hyH, ?_, ?_⟩
    · rw [g2]
      generalize k / W = y at hyH
      exact wrap_i64 (by omega)
    · rw [e1]
      dsimp only
      generalize k / W = y at hyH
      rw [Int.natCast_add, Int.natCast_mul, show ((H - 1 - y : Nat) : Int) = (H : Int) - 1 - (y : Int) by omega]
    · rw [e2]
      dsimp only
      generalize k % W = x at hxW
      generalize k / W * W = z
      omega
  have c2 : ∀ h : Hp, VC Try.prog 13 [.agg [I W, I H, ints c]] h (.agg [I W, I H, .gl h.fresh 1 c.length]) (h.push (.flat true (c.flatMap Vm.encI))) := fun h => vc_CloneMapO (mp W H c) h (by show c.length ≤ _; omega)
  refine VC.bodyC 2 Try.func6 rfl Try.ntmps6 Try.call6 (h.grows_refl) rfl ?_
  conv => whnf
  repeat' (first | ((first | refine zs1 ?_ | refine zs2 ?_ | refine zs3 ?_ | refine zs4 ?_ | refine zs5 ?_); conv => whnf) | ((first | apply zi1 | apply zi2 | apply zi3 | apply zi4 | apply zi5) <;> intro _ <;> conv => whnf) | (refine VCall.intro (c0 _) ?_; conv => whnf) | (refine VCall.intro (c1 (.loc 0) _ rfl) ?_; conv => whnf))
  refine VCut.at' (outer := h.lift) (marks := []) 2 [(3, .fp [DI W, DI H, dints c])] [] ?_ ?_
  · conv => whnf
    refine Retell.turn ⟨[], 9, [(1, [DI W, DI H, dints c])], []⟩ (TurnOk.mk' _ _ [(1, [DI W, DI H, dints c])] [] (OutOk.lift _) rfl (by decide) zb zf trivial rfl) zw zm
  conv => whnf
  repeat' (first | ((first | refine zs1 ?_ | refine zs2 ?_ | refine zs3 ?_ | refine zs4 ?_ | refine zs5 ?_); conv => whnf) | ((first | apply zi1 | apply zi2 | apply zi3 | apply zi4 | apply zi5) <;> intro _ <;> conv => whnf))
  refine zs6 [(1, 2)] ?_
  conv => whnf
  repeat' (first | ((first | refine zs1 ?_ | refine zs2 ?_ | refine zs3 ?_ | refine zs4 ?_ | refine zs5 ?_); conv => whnf) | ((first | apply zi1 | apply zi2 | apply zi3 | apply zi4 | apply zi5) <;> intro _ <;> conv => whnf) | (refine VCall.intro (c2 _) ?_; conv => whnf))
  refine VCut.at' (outer := h.lift) (marks := []) 1 [(3, .fp [DI W, DI H, dints c]), (4, .ptr (.loc 0) 0), (5, .ptr (.loc 2) 0), (6, .fp [DI 0, DI 2, DI 1, DI 3])] [.cells true [I W, I H, .gl (.loc 1) 1 c.length], .flat true (c.flatMap Vm.encI), .cells true [I W, I H, .gl (.loc 3) 1 c.length], .flat true (c.flatMap Vm.encI)] ?_ ?_
  · conv => whnf
    refine Retell.turn ⟨[2,0,3,1], 9, [(4, [DI 0, DI 2, DI 1, DI 3])], []⟩ (TurnOk.mk' _ _ [(4, [DI 0, DI 2, DI 1, DI 3])] [] (OutOk.lift _) rfl (by decide) zb zf trivial rfl) zw zm
  conv => whnf
  repeat' (first | ((first | refine zs1 ?_ | refine zs2 ?_ | refine zs3 ?_ | refine zs4 ?_ | refine zs5 ?_); conv => whnf) | ((first | apply zi1 | apply zi2 | apply zi3 | apply zi4 | apply zi5) <;> intro _ <;> conv => whnf))
  refine VCode.lpC (outer := h.lift) (marks := []) 2 (fun y : Nat × List Int × List Int => [(3, .fp [DI W, DI H, dints c]), (4, .ptr (.loc 0) 0), (5, .ptr (.loc 2) 0), (6, .fp [DI 0, DI 2, DI 1, DI 3]), (38, ints c), (39, I c.length), (40, I y.1)]) (fun y => [.cells true [I W, I H, .gl (.loc 1) 1 y.2.1.length], .flat true (y.2.1.flatMap Vm.encI), .cells true [I W, I H, .gl (.loc 3) 1 y.2.2.length], .flat true (y.2.2.flatMap Vm.encI)]) (fun y => y.1 ≤ c.length ∧ SetK σ1 (fun x => x) c y.2.1 y.1 ∧ SetK σ2 oth c y.2.2 y.1) (fun y => c.length - y.1) (0, c, c) ⟨Nat.zero_le _, ⟨rfl, fun j hj => absurd hj (Nat.not_lt_zero j)⟩, ⟨rfl, fun j hj => absurd hj (Nat.not_lt_zero j)⟩⟩ ?_ ?_
  · dsimp only
    conv => whnf
    refine Retell.turn ⟨[0,1,2,3], 9, [], []⟩ (TurnOk.mk' _ _ [] [] (OutOk.lift _) rfl (by decide) zb trivial trivial rfl) zw zm
  rintro ⟨k, S, B⟩ ⟨hk, hS, hB⟩
  dsimp only at hk hS hB ⊢
  have fS := hS.len
  have fB := hB.len
  rcases Nat.lt_or_ge k c.length with h3 | h3
  · have xc := at0_get (l := c) (n := k) h3
    have kd := o.kind k h3
    obtain ⟨x, y, g1, g2, g3, g4, g5, g6⟩ := q1 k h3
    have l1 := hs1.lt k h3
    have l2 := hs2.lt k h3
    have n1 := hS.step hs1 h3
    have n2 := hB.step hs2 h3
    have gS := at0_get (l := S) (n := σ1 k) (by omega)
    have gB := at0_get (l := B) (n := σ2 k) (by omega)
    generalize at0 c k = v at *
    generalize σ1 k = p1 at *
    generalize σ2 k = p2 at *
    have m1 : y * W ≤ 6 * 12 := Nat.mul_le_mul (by omega) (by omega)
    have m2 : (y : Int) * (W : Int) = ((y * W : Nat) : Int) := by rw [Int.natCast_mul]
    have m3 : ((H : Int) - 1 - (y : Int)) * (W : Int) = (p1 : Int) - x := by omega
    conv => whnf
    repeat' (first | ((first | refine zs1 ?_ | refine zs2 ?_ | refine zs3 ?_ | refine zs4 ?_ | refine zs5 ?_); conv => whnf) | ((first | apply zi1 | apply zi2 | apply zi3 | apply zi4 | apply zi5) <;> intro _ <;> first | (exfalso; omega) | contradiction | (conv => whnf)))
    refine VCut.block 2 ?_
    conv => whnf
    repeat' (first | ((first | refine zs1 ?_ | refine zs2 ?_ | refine zs3 ?_ | refine zs4 ?_ | refine zs5 ?_); conv => whnf) | ((first | apply zi1 | apply zi2 | apply zi3 | apply zi4 | apply zi5) <;> intro _ <;> first | (exfalso; omega) | contradiction | (conv => whnf)) | (refine VAny.ix Vm.encI_len k rfl rfl xc ?_; conv => whnf))
    refine zs6 [] ?_
    conv => whnf
    repeat' (first | ((first | refine zs1 ?_ | refine zs2 ?_ | refine zs3 ?_ | refine zs4 ?_ | refine zs5 ?_); conv => whnf) | ((first | apply zi1 | apply zi2 | apply zi3 | apply zi4 | apply zi5) <;> intro _ <;> first | (exfalso; omega) | contradiction | (conv => whnf)))
    refine VCut.at' (outer := h.lift) (marks := []) 1 [(3, .fp [DI W, DI H, dints c]), (4, .ptr (.loc 0) 0), (5, .ptr (.loc 2) 0), (6, .fp [DI 0, DI 2, DI 1, DI 3]), (38, ints c), (39, I c.length), (40, I k), (8, I v), (9, I x), (10, I y)] [.cells true [I W, I H, .gl (.loc 1) 1 S.length], .flat true (S.flatMap Vm.encI), .cells true [I W, I H, .gl (.loc 3) 1 B.length], .flat true (B.flatMap Vm.encI)] ?_ ?_
    · conv => whnf
      rw [g1, g2]
      refine Retell.turn ⟨[0,1,2,3], 9, [], []⟩ (TurnOk.mk' _ _ [] [] (OutOk.lift _) rfl (by decide) zb trivial trivial rfl) zw zm
    have r1 := arr4 v kd.1 kd.2
    obtain ⟨rest, r1⟩ := r1
    conv => whnf
    repeat' (first | ((first | refine zs1 ?_ | refine zs2 ?_ | refine zs3 ?_ | refine zs4 ?_ | refine zs5 ?_); conv => whnf) | ((first | apply zi1 | apply zi2 | apply zi3 | apply zi4 | apply zi5) <;> intro _ <;> first | (exfalso; omega) | contradiction | (conv => whnf)) | (refine VMem.setRec Vm.encI_len p1 0 v rfl rfl rfl gS (by decide) rfl (by rw [g5]; exact ofs _) ?_; conv => whnf))
    refine VCut.at' (outer := h.lift) (marks := []) 99 [(3, .fp [DI W, DI H, dints c]), (4, .ptr (.loc 0) 0), (5, .ptr (.loc 2) 0), (6, .fp [DI 0, DI 2, DI 1, DI 3]), (38, ints c), (39, I c.length), (40, I k), (8, I v), (9, I x), (10, I y)] [.cells true [I W, I H, .gl (.loc 1) 1 S.length], .flat true ((S.set p1 v).flatMap Vm.encI), .cells true [I W, I H, .gl (.loc 3) 1 B.length], .flat true (B.flatMap Vm.encI)] ?_ ?_
    · conv => whnf
      refine Retell.turn ⟨[0,1,2,3], 9, [], []⟩ (TurnOk.mk' _ _ [] [] (OutOk.lift _) rfl (by decide) zb trivial trivial rfl) zw zm
    conv => whnf
    repeat' (first | ((first | refine zs1 ?_ | refine zs2 ?_ | refine zs3 ?_ | refine zs4 ?_ | refine zs5 ?_); conv => whnf) | ((first | apply zi1 | apply zi2 | apply zi3 | apply zi4 | apply zi5) <;> intro _ <;> first | (exfalso; omega) | contradiction | (conv => whnf)))
    refine zs6 [] ?_
    conv => whnf
    repeat' (first | ((first | refine zs1 ?_ | refine zs2 ?_ | refine zs3 ?_ | refine zs4 ?_ | refine zs5 ?_); conv => whnf) | ((first | apply zi1 | apply zi2 | apply zi3 | apply zi4 | apply zi5) <;> intro _ <;> first | (exfalso; omega) | contradiction | (conv => whnf)) | (rw [m2]; refine VArith.ok (by omega) ?_; conv => whnf) | (refine VAny.intro (v := .fp [DI (oth v)]) ⟨by omega, [DI (oth v)], rest, r1, rfl⟩ ?_; conv => whnf) | (refine VMem.setRec Vm.encI_len p2 0 (oth v) rfl rfl rfl gB (by decide) rfl (by rw [m2, g6]; exact ofs _) ?_; conv => whnf))
    refine LEnd.intro (k + 1, S.set p1 v, B.set p2 (oth v)) ⟨by dsimp only; omega, n1, n2⟩ (by dsimp only; omega) ?_
    dsimp only
    rw [List.length_set, List.length_set]
    conv => whnf
    refine Retell.turn ⟨[0,1,2,3], 9, [], []⟩ (TurnOk.mk' _ _ [] [] (OutOk.lift _) rfl (by decide) zb trivial trivial rfl) zw zm
  · obtain rfl : k = c.length := by omega
    have v1 := hS.vw hs1
    have v2 := hB.vw hs2
    rw [e1] at v1
    rw [e2] at v2
    have oS := south_mok o v1
    have oB := back_mok o v2
    have cO1 := kO o
    have cO2 := kO oS
    have cO3 := kO oB
    have cF1 := kF o (s := 1) (.inl rfl)
    have cF2 := kF oB (s := 2) (.inr rfl)
    have cI := kI o
    have lO1 := owns_len c W
    have lO2 := owns_len S W
    have lO3 := owns_len B W
    have lF1 := (bfsH o 1).len
    have lF2 := (bfsH oB 2).len
    have ot := fun n hn => turned_cell o v1 v2 (n := n) hn
    have bd := fun n hn => owns_bd03 o (k := n) hn
    have cA := vc_awake
    have cC := fun n : Nat => vc_ContFSh (shr c W) n (shr_len o)
    have kd := o.kind
    conv => whnf
    repeat' (first | ((first | refine zs1 ?_ | refine zs2 ?_ | refine zs3 ?_ | refine zs4 ?_ | refine zs5 ?_); conv => whnf) | ((first | apply zi1 | apply zi2 | apply zi3 | apply zi4 | apply zi5) <;> intro _ <;> first | (exfalso; omega) | contradiction | (conv => whnf)))
    refine VCut.at' (outer := h.lift) (marks := []) 99 [(3, .fp [DI W, DI H, dints c]), (4, .fp [DI W, DI H, dints S]), (5, .fp [DI W, DI H, dints B]), (6, .fp [DI 0, DI 2, DI 1, DI 3])] [] ?_ ?_
    · conv => whnf
      refine Retell.turn ⟨[], 9, [(0, [DI W, DI H, .sl 1 S.length (S.flatMap Vm.encI)]), (1, S.flatMap Vm.encI), (2, [DI W, DI H, .sl 1 B.length (B.flatMap Vm.encI)]), (3, B.flatMap Vm.encI)], []⟩ (TurnOk.mk' _ _ [(0, [DI W, DI H, .sl 1 S.length (S.flatMap Vm.encI)]), (1, S.flatMap Vm.encI), (2, [DI W, DI H, .sl 1 B.length (B.flatMap Vm.encI)]), (3, B.flatMap Vm.encI)] [] (OutOk.lift _) rfl (by decide) zb zr trivial rfl) zw zm
    conv => whnf
    generalize owns S W = OS at *
    generalize owns B W = OB at *
    generalize bfs B W 2 = FB at *
    generalize owns c W = OC at *
    generalize bfs c W 1 = FC at *
    generalize shr c W = SH at *
    have eS := hS.len
    have eB := hB.len
    clear v1 v2 oS oB hS hB c1 c2
    repeat' (first | ((first | refine zs1 ?_ | refine zs2 ?_ | refine zs3 ?_ | refine zs4 ?_ | refine zs5 ?_); conv => whnf) | ((first | apply zi1 | apply zi2 | apply zi3 | apply zi4 | apply zi5) <;> intro _ <;> first | (exfalso; omega) | contradiction | (conv => whnf)) | (refine VCall.intro (cO1 _) ?_; conv => whnf) | (refine VCall.intro (cO2 _) ?_; conv => whnf) | (refine VCall.intro (cO3 _) ?_; conv => whnf) | (refine VCall.intro (cF1 _) ?_; conv => whnf) | (refine VCall.intro (cF2 _) ?_; conv => whnf) | (refine VCall.intro (cI _) ?_; conv => whnf))
    refine VCode.lpC (outer := h.lift) (marks := []) 2 (fun k : Nat => [(3, .fp [DI W, DI H, dints c]), (6, .fp [DI 0, DI 2, DI 1, DI 3]), (11, ints OC), (13, ints OS), (15, ints OB), (17, ints FC), (19, ints FB), (21, shs SH), (173, ints c), (174, I c.length), (175, I k)]) (fun _ => []) (fun k => k ≤ c.length) (fun k => c.length - k) 0 (Nat.zero_le _) ?_ ?_
    · conv => whnf
      refine Retell.turn ⟨[], 9, [], []⟩ (TurnOk.mk' _ _ [] [] (OutOk.lift _) rfl (by decide) zb trivial trivial rfl) zw zm
    rintro k hk
    rcases Nat.lt_or_ge k c.length with h3 | h3
    · have xc := at0_get (l := c) (n := k) h3
      have xO := at0_get (l := OC) (n := k) (by omega)
      have xF := at0_get (l := FC) (n := k) (by omega)
      have kd := kd k h3
      have bd := bd k h3
      have cC := cC k
      obtain ⟨x, y, g1, g2, g3, g4, g5, g6⟩ := q1 k h3
      have l1 := hs1.lt k h3
      have l2 := hs2.lt k h3
      have yS := at0_get (l := OS) (n := σ1 k) (by omega)
      have yB := at0_get (l := OB) (n := σ2 k) (by omega)
      have yF := at0_get (l := FB) (n := σ2 k) (by omega)
      have ot := ot k h3
      rw [← congrFun e1 k, ← congrFun e2 k] at ot
      generalize σ1 k = p1 at *
      generalize σ2 k = p2 at *
      generalize at0 c k = v at *
      have r1 := arr4 _ bd.1 bd.2
      generalize at0 OC k = u at *
      obtain ⟨rest, r1⟩ := r1
      obtain ⟨ot1, ot2⟩ := ot
      rw [ot1] at yF
      have m1 : y * W ≤ 6 * 12 := Nat.mul_le_mul (by omega) (by omega)
      have m2 : (y : Int) * (W : Int) = ((y * W : Nat) : Int) := by rw [Int.natCast_mul]
      have m3 : ((H : Int) - 1 - (y : Int)) * (W : Int) = (p1 : Int) - x := by omega
      conv => whnf
      repeat' (first | ((first | refine zs1 ?_ | refine zs2 ?_ | refine zs3 ?_ | refine zs4 ?_ | refine zs5 ?_); conv => whnf) | ((first | apply zi1 | apply zi2 | apply zi3 | apply zi4 | apply zi5) <;> intro _ <;> first | (exfalso; omega) | contradiction | (conv => whnf)))
      refine VCut.block 1 ?_
      conv => whnf
      repeat' (first | ((first | refine zs1 ?_ | refine zs2 ?_ | refine zs3 ?_ | refine zs4 ?_ | refine zs5 ?_); conv => whnf) | ((first | apply zi1 | apply zi2 | apply zi3 | apply zi4 | apply zi5) <;> intro _ <;> first | (exfalso; omega) | contradiction | (conv => whnf)) | (refine VAny.ix Vm.encI_len k rfl rfl xc ?_; conv => whnf))
      refine VCut.at' (outer := h.lift) (marks := []) 1 [(3, .fp [DI W, DI H, dints c]), (6, .fp [DI 0, DI 2, DI 1, DI 3]), (11, ints OC), (13, ints OS), (15, ints OB), (17, ints FC), (19, ints FB), (21, shs SH), (173, ints c), (174, I c.length), (175, I k), (23, .fp [DI k]), (24, I v)] [] ?_ ?_
      · conv => whnf
        refine Retell.turn ⟨[], 9, [(0, [DI k])], []⟩ (TurnOk.mk' _ _ [(0, [DI k])] [] (OutOk.lift _) rfl (by decide) zb zf trivial rfl) zw zm
      conv => whnf
      repeat' (first | ((first | refine zs1 ?_ | refine zs2 ?_ | refine zs3 ?_ | refine zs4 ?_ | refine zs5 ?_); conv => whnf) | ((first | apply zi1 | apply zi2 | apply zi3 | apply zi4 | apply zi5) <;> intro _ <;> first | (exfalso; omega) | contradiction | (conv => whnf)))
      refine zs6 [] ?_
      conv => whnf
      repeat' (first | ((first | refine zs1 ?_ | refine zs2 ?_ | refine zs3 ?_ | refine zs4 ?_ | refine zs5 ?_); conv => whnf) | ((first | apply zi1 | apply zi2 | apply zi3 | apply zi4 | apply zi5) <;> intro _ <;> first | (exfalso; omega) | contradiction | (conv => whnf)))
      refine VCut.at' (outer := h.lift) (marks := []) 1 [(3, .fp [DI W, DI H, dints c]), (6, .fp [DI 0, DI 2, DI 1, DI 3]), (11, ints OC), (13, ints OS), (15, ints OB), (17, ints FC), (19, ints FB), (21, shs SH), (173, ints c), (174, I c.length), (175, I k), (23, .fp [DI k]), (24, I v), (25, I x), (26, I y)] [] ?_ ?_
      · conv => whnf
        rw [g1, g2]
        refine Retell.turn ⟨[], 9, [], []⟩ (TurnOk.mk' _ _ [] [] (OutOk.lift _) rfl (by decide) zb trivial trivial rfl) zw zm
      conv => whnf
      repeat' (first | ((first | refine zs1 ?_ | refine zs2 ?_ | refine zs3 ?_ | refine zs4 ?_ | refine zs5 ?_); conv => whnf) | ((first | apply zi1 | apply zi2 | apply zi3 | apply zi4 | apply zi5) <;> intro _ <;> first | (exfalso; omega) | contradiction | (conv => whnf)))
      refine zs6 [] ?_
      conv => whnf
      repeat' (first | ((first | refine zs1 ?_ | refine zs2 ?_ | refine zs3 ?_ | refine zs4 ?_ | refine zs5 ?_); conv => whnf) | ((first | apply zi1 | apply zi2 | apply zi3 | apply zi4 | apply zi5) <;> intro _ <;> first | (exfalso; omega) | contradiction | (conv => whnf)) | (rw [m2]; refine VArith.ok (by omega) ?_; conv => whnf))
      refine VCut.at' (outer := h.lift) (marks := []) 1 [(3, .fp [DI W, DI H, dints c]), (6, .fp [DI 0, DI 2, DI 1, DI 3]), (11, ints OC), (13, ints OS), (15, ints OB), (17, ints FC), (19, ints FB), (21, shs SH), (173, ints c), (174, I c.length), (175, I k), (23, .fp [DI k]), (24, I v), (27, I p1), (28, I p2)] [] ?_ ?_
      · conv => whnf
        rw [m2, g5, g6]
        refine Retell.turn ⟨[], 9, [], []⟩ (TurnOk.mk' _ _ [] [] (OutOk.lift _) rfl (by decide) zb trivial trivial rfl) zw zm
      clear g1 g2 g5 g6 m1 m2 m3
      conv => whnf
      repeat' (first | ((first | refine zs1 ?_ | refine zs2 ?_ | refine zs3 ?_ | refine zs4 ?_ | refine zs5 ?_); conv => whnf) | ((first | apply zi1 | apply zi2 | apply zi3 | apply zi4 | apply zi5) <;> intro _ <;> first | (exfalso; omega) | contradiction | (conv => whnf)) | (refine VAny.ix Vm.encI_len k rfl (by omega) xO ?_; conv => whnf) | (refine VAny.ix Vm.encI_len k rfl (by omega) xF ?_; conv => whnf) | (refine VAny.ix Vm.encI_len p1 rfl (by omega) yS ?_; conv => whnf) | (refine VAny.ix Vm.encI_len p2 rfl (by omega) yB ?_; conv => whnf) | (refine VAny.ix Vm.encI_len p2 rfl (by omega) yF ?_; conv => whnf) | (refine VAny.intro (v := .fp [DI (oth u)]) ⟨by omega, [DI (oth u)], rest, r1, rfl⟩ ?_; conv => whnf))
      refine zs6 [] ?_
      conv => whnf
      repeat' (first | ((first | refine zs1 ?_ | refine zs2 ?_ | refine zs3 ?_ | refine zs4 ?_ | refine zs5 ?_); conv => whnf) | ((first | apply zi1 | apply zi2 | apply zi3 | apply zi4 | apply zi5) <;> intro _ <;> first | (exfalso; omega) | contradiction | (conv => whnf)) | (refine VAny.ix Vm.encI_len k rfl (by omega) xO ?_; conv => whnf) | (refine VAny.ix Vm.encI_len k rfl (by omega) xF ?_; conv => whnf) | (refine VAny.ix Vm.encI_len p1 rfl (by omega) yS ?_; conv => whnf) | (refine VAny.ix Vm.encI_len p2 rfl (by omega) yB ?_; conv => whnf) | (refine VAny.ix Vm.encI_len p2 rfl (by omega) yF ?_; conv => whnf) | (refine VAny.intro (v := .fp [DI (oth u)]) ⟨by omega, [DI (oth u)], rest, r1, rfl⟩ ?_; conv => whnf))
      refine VCut.at' (outer := h.lift) (marks := []) 99 [(3, .fp [DI W, DI H, dints c]), (6, .fp [DI 0, DI 2, DI 1, DI 3]), (11, ints OC), (13, ints OS), (15, ints OB), (17, ints FC), (19, ints FB), (21, shs SH), (173, ints c), (174, I c.length), (175, I k), (23, .fp [DI k]), (24, I v), (27, I p1), (28, I p2)] [] ?_ ?_
      · conv => whnf
        refine Retell.turn ⟨[], 9, [], []⟩ (TurnOk.mk' _ _ [] [] (OutOk.lift _) rfl (by decide) zb trivial trivial rfl) zw zm
      clear xF yF ot1
      by_cases hv : v = 3
      · subst hv
        cases hq : SH.any (qN k)
        · rw [hq] at cC
          conv => whnf
          repeat' (first | ((first | refine zs1 ?_ | refine zs2 ?_ | refine zs3 ?_ | refine zs4 ?_ | refine zs5 ?_); conv => whnf) | ((first | apply zi1 | apply zi2 | apply zi3 | apply zi4 | apply zi5) <;> intro _ <;> first | (exfalso; omega) | contradiction | (conv => whnf)) | (refine VCall.intro (cC _) ?_; conv => whnf))
          refine LEnd.intro (k + 1) (by omega) (by omega) ?_
          conv => whnf
          refine Retell.turn ⟨[], 9, [], []⟩ (TurnOk.mk' _ _ [] [] (OutOk.lift _) rfl (by decide) zb trivial trivial rfl) zw zm
        · rw [hq] at cC
          have ot2 := ot2 (.inr (any_near hq))
          rw [ot2.1] at yS
          rw [ot2.2] at yB
          conv => whnf
          repeat' (first | ((first | refine zs1 ?_ | refine zs2 ?_ | refine zs3 ?_ | refine zs4 ?_ | refine zs5 ?_); conv => whnf) | ((first | apply zi1 | apply zi2 | apply zi3 | apply zi4 | apply zi5) <;> intro _ <;> first | (exfalso; omega) | contradiction | (conv => whnf)) | (refine VCall.intro (cC _) ?_; conv => whnf))
          refine zs6 [] ?_
          conv => whnf
          repeat' (first | ((first | refine zs1 ?_ | refine zs2 ?_ | refine zs3 ?_ | refine zs4 ?_ | refine zs5 ?_); conv => whnf) | ((first | apply zi1 | apply zi2 | apply zi3 | apply zi4 | apply zi5) <;> intro _ <;> first | (exfalso; omega) | contradiction | (conv => whnf)) | (refine VAny.ix Vm.encI_len k rfl (by omega) xO ?_; conv => whnf) | (refine VAny.ix Vm.encI_len p1 rfl (by omega) yS ?_; conv => whnf) | (refine VAny.ix Vm.encI_len p2 rfl (by omega) yB ?_; conv => whnf) | (refine VAny.intro (v := .fp [DI (oth u)]) ⟨by omega, [DI (oth u)], rest, r1, rfl⟩ ?_; conv => whnf))
          refine LEnd.intro (k + 1) (by omega) (by omega) ?_
          conv => whnf
          refine Retell.turn ⟨[], 9, [], []⟩ (TurnOk.mk' _ _ [] [] (OutOk.lift _) rfl (by decide) zb trivial trivial rfl) zw zm
      · have ot2 := ot2 (.inl hv)
        rw [ot2.1] at yS
        rw [ot2.2] at yB
        conv => whnf
        repeat' (first | ((first | refine zs1 ?_ | refine zs2 ?_ | refine zs3 ?_ | refine zs4 ?_ | refine zs5 ?_); conv => whnf) | ((first | apply zi1 | apply zi2 | apply zi3 | apply zi4 | apply zi5) <;> intro _ <;> first | (exfalso; omega) | contradiction | (conv => whnf)) | (refine VCall.intro (cC _) ?_; conv => whnf))
        refine zs6 [] ?_
        conv => whnf
        repeat' (first | ((first | refine zs1 ?_ | refine zs2 ?_ | refine zs3 ?_ | refine zs4 ?_ | refine zs5 ?_); conv => whnf) | ((first | apply zi1 | apply zi2 | apply zi3 | apply zi4 | apply zi5) <;> intro _ <;> first | (exfalso; omega) | contradiction | (conv => whnf)) | (refine VAny.ix Vm.encI_len k rfl (by omega) xO ?_; conv => whnf) | (refine VAny.ix Vm.encI_len p1 rfl (by omega) yS ?_; conv => whnf) | (refine VAny.ix Vm.encI_len p2 rfl (by omega) yB ?_; conv => whnf) | (refine VAny.intro (v := .fp [DI (oth u)]) ⟨by omega, [DI (oth u)], rest, r1, rfl⟩ ?_; conv => whnf))
        refine LEnd.intro (k + 1) (by omega) (by omega) ?_
        conv => whnf
        refine Retell.turn ⟨[], 9, [], []⟩ (TurnOk.mk' _ _ [] [] (OutOk.lift _) rfl (by decide) zb trivial trivial rfl) zw zm
    · obtain rfl : k = c.length := by omega
      conv => whnf
      repeat' (first | ((first | refine zs1 ?_ | refine zs2 ?_ | refine zs3 ?_ | refine zs4 ?_ | refine zs5 ?_); conv => whnf) | ((first | apply zi1 | apply zi2 | apply zi3 | apply zi4 | apply zi5) <;> intro _ <;> first | (exfalso; omega) | contradiction | (conv => whnf)) | (refine VCall.intro (cA _) ?_; conv => whnf))
      exact VOut.same rfl
end Go.Proofs.Ytkbbfeljlepgoaa

open Go.Vm
namespace Go.Proofs.Ytkbbfeljlepgoaa
open Go.ChangeShapes Go.WideShapes Go.ChangeAt Go.RowKit

theorem open6p : OpenAll Try.prog Try.f6.params.toList (fun x : List Int × Unit => [dU x.1]) := by
  rw [Try.params6]
  exact OpenAll.cons openU (OpenAll.nil)
set_option maxRecDepth 100000 in
theorem contract6 (H : Type) (enc : TypeId × Value → H) (W : World) (base : Nat) (args : Array Value) (ds gs : List (DataW H)) (before : List MemPlace)
    (hval : ∀ (j : Nat) t v, Try.f6.params[j]? = some t → args[j]? = some v → Value.okWide Try.prog W .any base t v)
    (hW : DataW.Whole enc Try.prog Try.f6.params.toList Rows.riverMirroredSpec.vars false W args.toList ds gs before) :
    Calls Try.prog 6 args W fun e W' => ∃ v, e = .returned v ∧ Rows.riverMirroredSpec.post enc Try.prog Try.f6 false true false false W args v W' := by
  refine contract_of_vc open6p (fun g => vc_RiverMirrored g.1 Hp.bare) laidOut ?_ (tb := 4) (by kernel_rfl) Try.underlying4 rfl ?_ hval hW
  · rw [Try.params6]
    intro t ht
    simp only [List.mem_cons, List.not_mem_nil, or_false] at ht
    rcases ht with rfl
    all_goals exact ⟨by kernel_rfl, of_decide_eq_true (by kernel_rfl)⟩
  · intro H dd hl
    rw [Try.params6] at hl
    match dd, hl with
    | [d0], _ => rfl
set_option maxRecDepth 100000 in
theorem lifted6 (os : Os) (started : os.Started) (H : Type) (enc : TypeId × Value → H) :
    ReturnsInHanded {} Try.checked os 6 .any (Rows.riverMirroredSpec.pre6 enc Try.prog Try.f6 Rows.riverMirroredRow.domain false) (Rows.riverMirroredSpec.post enc Try.prog Try.f6 false true false false) := by
  refine returnsInHanded_of_change (C := Try.checked) ownKn started (by kernel_rfl) Try.func6
    (ChangeSpec.witness6 (enc := enc) (C := Try.checked) false ⟨#[], #[.slice none 0 0], []⟩ 8 (by kernel_rfl) (by kernel_rfl) (by kernel_rfl) (by kernel_rfl)) ?_
  intro W base args ds gs before hval hW _ _
  exact contract6 H enc W base args ds gs before hval hW
theorem riverMirrored_said : Rows.RiverMirroredSaid :=
  OpenClaim.holds_of_wide 6 Try.f6 rfl rfl rfl rfl rfl rfl rfl ⟨rfl, rfl, rfl, rfl, rfl⟩ rfl rfl rfl rfl rfl (by kernel_rfl) Try.func6 (by kernel_rfl)
    (of_decide_eq_true (by kernel_rfl)) (by unfold Func.isWrapper; first | (rw [if_pos (by decide +kernel)]; kernel_rfl) | (rw [if_neg (by decide +kernel)]; exact ⟨rfl, rfl⟩))
    (fun os started H enc _ => lifted6 os started H enc)
end Go.Proofs.Ytkbbfeljlepgoaa

