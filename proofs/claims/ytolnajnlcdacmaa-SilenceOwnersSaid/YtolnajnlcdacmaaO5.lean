/- Part 5 of the proof that SilenceOwners returns true for every file and every owner. No condition. -/
import Derived.Test.YtolnajnlcdacmaaO4
set_option linter.unusedVariables false
set_option linter.unusedSimpArgs false
open Go.Vm
namespace Go.Proofs.Ytolnajnlcdacmaa
set_option maxRecDepth 20000
set_option maxHeartbeats 2000000

theorem vneqE (x y : End) : vaggeq Try.prog .neq 100 (aggE x) (aggE y) = some (B (decide (¬ x = y))) := by
  have : (!((x.i == y.i) && ((x.year == y.year) && ((x.first == y.first) && ((x.side == y.side) && ((x.since == y.since) && true)))))) = decide (¬ x = y) := by
    cases x; cases y; rw [Bool.eq_iff_iff, decide_eq_true_eq]; simp [-not_and]; omega
  rw [← this]
  unfold vaggeq
  rw [show eqTop Try.prog 100 = some (Sh.cons 0 1 false Sh.int (Sh.cons 1 1 false Sh.int (Sh.cons 2 1 false Sh.int (Sh.cons 3 1 false Sh.int (Sh.cons 4 1 false Sh.int Sh.nil))))) by kernel_rfl]
  rfl
theorem look_esF {a : AL} {e v : End} (hg : alGet a e = some v) : Look Try.prog (tiOf Try.prog) 95 false (aggE e) ((D.vs (keysE a)).zip (D.vs (valsE a))) (aggE v) := by
  obtain ⟨sh, h1, h2⟩ := top100
  obtain ⟨i, hi⟩ := found_some h2 hg
  rw [esE_zip]
  exact ⟨_, 100, 100, _, sh, true, some (i, aggE v), rfl, rfl, h1, by rw [h2]; simp, hi, rfl⟩
def truE (f : Fil) (x : Int) : Int := if chk f ≠ 0 then chk f else if x < 0 ∨ 2 < x then 4 else bif isG f x then 0 else 7
theorem vc_Truth_no (f : Fil) (x : Int) (h : Hp) (hn : f.ps.length ≤ 4000000) (hE : truE f x ≠ 0) : VC Try.prog 19 [vF f, I x] h (.tuple [.nilslice, I (truE f x)]) h := by
  unfold truE at hE ⊢
  by_cases h0 : chk f = 0
  · have hS : ∀ h, VC Try.prog 34 [vF f] h (I 0) h := fun h => h0 ▸ vc_check f h hn
    have hG := fun h => vc_gone f h h0
    obtain ⟨hok, hlen⟩ := gone_inv h0
    rw [if_neg (by simpa using h0)] at hE ⊢
    by_cases h1 : x < 0 ∨ 2 < x
    · rw [if_pos h1]
      refine VC.body Try.func19 rfl Try.ntmps19 Try.call19 (h.grows_refl) rfl ?_; conv => whnf
      repeat' (first | (refine VLd.intro rfl ?_; conv => whnf) | (refine VArith.i64 (by omega) ?_; conv => whnf) | (refine VNeed.intro (by first | rfl | (simp; omega)) ?_; conv => whnf) | (refine VMem.store rfl rfl rfl rfl ?_; conv => whnf) | (refine VSame.intro rfl ?_; conv => whnf) | (refine VDraw.go [] (by kernel_rfl) (by kernel_rfl) ?_; conv => whnf) | (refine VIte.dec (fun _ => ?_) (fun _ => ?_) <;> conv => whnf) | (refine VIte.ndec (fun _ => ?_) (fun _ => ?_) <;> conv => whnf) | (refine VIte.beq (fun _ => ?_) (fun _ => ?_) <;> conv => whnf) | (refine VIte.bne (fun _ => ?_) (fun _ => ?_) <;> conv => whnf) | (refine VIte.intro (fun _ => ?_) (fun _ => ?_) <;> conv => whnf) | (refine VCall.intro (hS _) ?_; conv => whnf) | (refine VCall.intro (vc_from _ _ _ _) ?_; conv => whnf))
      all_goals first | exact VOut.same rfl | (exfalso; omega)
    · rw [if_neg h1] at hE ⊢
      unfold isG vGone at *
      generalize gone f = G at hG hok hlen hE
      obtain ⟨a, L⟩ := G
      dsimp only at hG hok hlen hE
      cases hb : L.any fun e => decide (e.side = x)
      case true => rw [hb] at hE; exact absurd rfl hE
      have hf : fidx (fun e => decide (e.side = x)) L 0 = -1 := by
        rcases fidx_spec (fun e => decide (e.side = x)) L 0 with ⟨h1, _⟩ | ⟨j, e, _, h2, h3⟩
        · exact h1
        · rw [List.any_eq_false] at hb
          exact absurd h3 (hb e (List.mem_of_getElem? h2))
      have hI := fun h => vc_IndexFunc L (fun e => decide (e.side = x)) 59 [.pt [DI x]] (by omega) (fun e h => vc_Truth1 x e h) h
      rw [hf] at hI
      refine VC.body Try.func19 rfl Try.ntmps19 Try.call19 (h.grows_refl) rfl ?_; conv => whnf
      repeat' (first | (refine VLd.intro rfl ?_; conv => whnf) | (refine VArith.i64 (by omega) ?_; conv => whnf) | (refine VNeed.intro (by first | rfl | (simp; omega)) ?_; conv => whnf) | (refine VMem.store rfl rfl rfl rfl ?_; conv => whnf) | (refine VSame.intro rfl ?_; conv => whnf) | (refine VDraw.go [] (by kernel_rfl) (by kernel_rfl) ?_; conv => whnf) | (refine VIte.dec (fun _ => ?_) (fun _ => ?_) <;> conv => whnf) | (refine VIte.ndec (fun _ => ?_) (fun _ => ?_) <;> conv => whnf) | (refine VIte.beq (fun _ => ?_) (fun _ => ?_) <;> conv => whnf) | (refine VIte.bne (fun _ => ?_) (fun _ => ?_) <;> conv => whnf) | (refine VIte.intro (fun _ => ?_) (fun _ => ?_) <;> conv => whnf) | (refine VCall.intro (hS _) ?_; conv => whnf) | (refine VCall.intro (vc_from _ _ _ _) ?_; conv => whnf) | (refine VCall.intro (hG _) ?_; conv => whnf))
      · exfalso; omega
      · refine VCall.intro (VC.give (args' := [ends L, .func (.func 59) [] [.fp [DI x]]]) (loc' := [.flat true (encF f), .dead]) [(1, [DI x])] [] (OutOk.lift _) (by repeat' (first | exact BTos.nil | refine BTos.flat rfl rfl (by first | rfl | simp) ?_ | refine BTos.new rfl ?_ | refine BTos.dead rfl rfl ?_ | refine BTos.esE rfl rfl ?_ | refine BTos.row rfl rfl rfl (RowTo.snoc (RowTo.one rfl (by simp))) ?_ | refine BTos.cells rfl rfl rfl (by repeat' (first | exact VTo.undef | exact FrTo.leaf | refine FrTo.node ?_ ?_ ?_ | refine FrTo.none ?_ ?_ | exact VTo.sc (by first | rfl | (congr 1; omega) | (congr 1; simp; omega)) | exact VTos_dv _ _ | refine VTos.cons ?_ ?_ | exact VTos.nil | refine VTo.agg ?_ | refine VTo.tuple ?_ | refine VTo.func ?_ ?_ | exact VTo.fs | exact VTo.fp | exact VTo.nilptr | exact VTo.nilslice | exact VTo.nilfunc | exact VTo.ptr rfl | exact VTo.gl rfl | exact VTo.map rfl | exact VTo.yld rfl | exact VTo.fmMap rfl | exact VTo.fm | exact VTo.glNil' (by decide) rfl rfl | exact VTo.fsNil (by decide) | exact VTo.fsSl rfl rfl (by simp [flat_len encE_len]) | exact VTo.fpPtr rfl | exact VTo.fsGl rfl (by first | rfl | exact flat_len encI_len _ | exact flat_len encS_len _ | exact flat_len encP_len _ | exact flat_len encL_len _ | exact flat_len encE_len _ | (simp [flat_len encP_len]; done) | simp [flat_len encI_len, flat_len encS_len]))) ?_)) (by repeat' (first | exact FzAll.nil | refine FzAll.flat rfl ?_ | refine FzAll.row rfl rfl (RowTo.one rfl (by simp)) ?_)) (by exact FmAll.nil) rfl (by repeat' (first | exact VTo.undef | exact FrTo.leaf | refine FrTo.node ?_ ?_ ?_ | refine FrTo.none ?_ ?_ | exact VTo.sc (by first | rfl | (congr 1; omega) | (congr 1; simp; omega)) | exact VTos_dv _ _ | refine VTos.cons ?_ ?_ | exact VTos.nil | refine VTo.agg ?_ | refine VTo.tuple ?_ | refine VTo.func ?_ ?_ | exact VTo.fs | exact VTo.fp | exact VTo.nilptr | exact VTo.nilslice | exact VTo.nilfunc | exact VTo.ptr rfl | exact VTo.gl rfl | exact VTo.map rfl | exact VTo.yld rfl | exact VTo.fmMap rfl | exact VTo.fm | exact VTo.glNil' (by decide) rfl rfl | exact VTo.fsNil (by decide) | exact VTo.fsSl rfl rfl (by simp [flat_len encE_len]) | exact VTo.fpPtr rfl | exact VTo.fsGl rfl (by first | rfl | exact flat_len encI_len _ | exact flat_len encS_len _ | exact flat_len encP_len _ | exact flat_len encL_len _ | exact flat_len encE_len _ | (simp [flat_len encP_len]; done) | simp [flat_len encI_len, flat_len encS_len]))) (hI _)) ?_
        conv => whnf
        repeat' (first | (refine VLd.intro rfl ?_; conv => whnf) | (refine VArith.i64 (by omega) ?_; conv => whnf) | (refine VNeed.intro (by first | rfl | (simp; omega)) ?_; conv => whnf) | (refine VMem.store rfl rfl rfl rfl ?_; conv => whnf) | (refine VSame.intro rfl ?_; conv => whnf) | (refine VDraw.go [] (by kernel_rfl) (by kernel_rfl) ?_; conv => whnf) | (refine VIte.dec (fun _ => ?_) (fun _ => ?_) <;> conv => whnf) | (refine VIte.ndec (fun _ => ?_) (fun _ => ?_) <;> conv => whnf) | (refine VIte.beq (fun _ => ?_) (fun _ => ?_) <;> conv => whnf) | (refine VIte.bne (fun _ => ?_) (fun _ => ?_) <;> conv => whnf) | (refine VIte.intro (fun _ => ?_) (fun _ => ?_) <;> conv => whnf))
        all_goals first | exact VOut.same rfl | (exfalso; omega)
  · rw [if_pos h0]
    refine VC.body Try.func19 rfl Try.ntmps19 Try.call19 (h.grows_refl) rfl ?_; conv => whnf
    repeat' (first | (refine VLd.intro rfl ?_; conv => whnf) | (refine VArith.i64 (by omega) ?_; conv => whnf) | (refine VNeed.intro (by first | rfl | (simp; omega)) ?_; conv => whnf) | (refine VMem.store rfl rfl rfl rfl ?_; conv => whnf) | (refine VSame.intro rfl ?_; conv => whnf) | (refine VDraw.go [] (by kernel_rfl) (by kernel_rfl) ?_; conv => whnf) | (refine VIte.dec (fun _ => ?_) (fun _ => ?_) <;> conv => whnf) | (refine VIte.ndec (fun _ => ?_) (fun _ => ?_) <;> conv => whnf) | (refine VIte.beq (fun _ => ?_) (fun _ => ?_) <;> conv => whnf) | (refine VIte.bne (fun _ => ?_) (fun _ => ?_) <;> conv => whnf) | (refine VIte.intro (fun _ => ?_) (fun _ => ?_) <;> conv => whnf) | (refine VCall.intro (vc_check f _ hn) ?_; conv => whnf))
    all_goals first | exact VOut.same rfl | (exfalso; omega)
theorem vc_Truth_ok (f : Fil) (x : Int) (h : Hp) (hE : truE f x = 0) : VC Try.prog 19 [vF f, I x] h (.tuple [ints (truG f x), I 0]) h := by
  unfold truE at hE
  have h0 : chk f = 0 := by
    by_cases h0 : chk f = 0
    · exact h0
    · rw [if_pos h0] at hE; exact absurd hE h0
  rw [if_neg (by simpa using h0)] at hE
  have h1 : ¬ (x < 0 ∨ 2 < x) := fun h1 => by rw [if_pos h1] at hE; cases hE
  rw [if_neg h1] at hE
  have hg : isG f x = true := by
    cases hg : isG f x
    · rw [hg] at hE; cases hE
    · rfl
  have hn16 := (chk_zero h0).2.2.1
  have hS : ∀ h, VC Try.prog 34 [vF f] h (I 0) h := fun h => h0 ▸ vc_check f h (by omega)
  have hG := fun h => vc_gone f h h0
  obtain ⟨hok, hlen⟩ := gone_inv h0
  have hstep := fun k x hk hx => back_step (f := f) (k := k) (x := x) hk hx
  have hge := gone_eq f
  unfold isG at hg
  rw [List.any_eq_true] at hg
  obtain ⟨e1, hm1, he1⟩ := hg
  obtain ⟨R, hR⟩ : ∃ R, R = truG f x := ⟨_, rfl⟩
  rw [← hR]
  unfold truG at hR
  unfold vGone at hG
  generalize gone f = G at hG hok hlen hstep hge hm1 hR
  obtain ⟨a, L⟩ := G
  dsimp only at hG hok hlen hstep hm1 hR
  rcases fidx_spec (fun e => decide (e.side = x)) L 0 with ⟨_, hbad⟩ | ⟨j, e, hf, hj, he⟩
  · rw [hbad e1 hm1] at he1; cases he1
  have hI := fun h => vc_IndexFunc L (fun e => decide (e.side = x)) 59 [.pt [DI x]] (by omega) (fun e h => vc_Truth1 x e h) h
  rw [hf, Int.zero_add] at hI hR
  rw [Int.toNat_natCast, hj] at hR
  have heK : e ∈ (goneK f f.ps.length).2 := by rw [← hge]; exact List.mem_of_getElem? hj
  obtain ⟨W, hW⟩ : ∃ W, W = backK a f.ps.length e := ⟨_, rfl⟩
  have hR : R = W.reverse := by rw [hW]; exact hR
  subst hR
  have hWl : W.length = f.ps.length := by rw [hW, backK_len]
  refine VC.body Try.func19 rfl Try.ntmps19 Try.call19 (h.grows_refl) rfl ?_; conv => whnf
  repeat' (first | (refine VLd.intro rfl ?_; conv => whnf) | (refine VArith.i64 (by omega) ?_; conv => whnf) | (refine VNeed.intro (by first | rfl | (simp; omega)) ?_; conv => whnf) | (refine VMem.store rfl rfl rfl rfl ?_; conv => whnf) | (refine VSame.intro rfl ?_; conv => whnf) | (refine VDraw.go [] (by kernel_rfl) (by kernel_rfl) ?_; conv => whnf) | (refine VIte.dec (fun _ => ?_) (fun _ => ?_) <;> conv => whnf) | (refine VIte.ndec (fun _ => ?_) (fun _ => ?_) <;> conv => whnf) | (refine VIte.beq (fun _ => ?_) (fun _ => ?_) <;> conv => whnf) | (refine VIte.bne (fun _ => ?_) (fun _ => ?_) <;> conv => whnf) | (refine VIte.intro (fun _ => ?_) (fun _ => ?_) <;> conv => whnf) | (refine VCall.intro (hS _) ?_; conv => whnf) | (refine VCall.intro (vc_from _ _ _ _) ?_; conv => whnf) | (refine VCall.intro (hG _) ?_; conv => whnf))
  · exfalso; omega
  · refine VCall.intro (VC.give (args' := [ends L, .func (.func 59) [] [.fp [DI x]]]) (loc' := [.flat true (encF f), .dead]) [(1, [DI x])] [] (OutOk.lift _) (by repeat' (first | exact BTos.nil | refine BTos.flat rfl rfl (by first | rfl | simp) ?_ | refine BTos.new rfl ?_ | refine BTos.dead rfl rfl ?_ | refine BTos.esE rfl rfl ?_ | refine BTos.row rfl rfl rfl (RowTo.snoc (RowTo.one rfl (by simp))) ?_ | refine BTos.cells rfl rfl rfl (by repeat' (first | exact VTo.undef | exact FrTo.leaf | refine FrTo.node ?_ ?_ ?_ | refine FrTo.none ?_ ?_ | exact VTo.sc (by first | rfl | (congr 1; omega) | (congr 1; simp; omega)) | exact VTos_dv _ _ | refine VTos.cons ?_ ?_ | exact VTos.nil | refine VTo.agg ?_ | refine VTo.tuple ?_ | refine VTo.func ?_ ?_ | exact VTo.fs | exact VTo.fp | exact VTo.nilptr | exact VTo.nilslice | exact VTo.nilfunc | exact VTo.ptr rfl | exact VTo.gl rfl | exact VTo.map rfl | exact VTo.yld rfl | exact VTo.fmMap rfl | exact VTo.fm | exact VTo.glNil' (by decide) rfl rfl | exact VTo.fsNil (by decide) | exact VTo.fsSl rfl rfl (by simp [flat_len encE_len]) | exact VTo.fpPtr rfl | exact VTo.fsGl rfl (by first | rfl | exact flat_len encI_len _ | exact flat_len encS_len _ | exact flat_len encP_len _ | exact flat_len encL_len _ | exact flat_len encE_len _ | (simp [flat_len encP_len]; done) | simp [flat_len encI_len, flat_len encS_len]))) ?_)) (by repeat' (first | exact FzAll.nil | refine FzAll.flat rfl ?_ | refine FzAll.row rfl rfl (RowTo.one rfl (by simp)) ?_)) (by exact FmAll.nil) rfl (by repeat' (first | exact VTo.undef | exact FrTo.leaf | refine FrTo.node ?_ ?_ ?_ | refine FrTo.none ?_ ?_ | exact VTo.sc (by first | rfl | (congr 1; omega) | (congr 1; simp; omega)) | exact VTos_dv _ _ | refine VTos.cons ?_ ?_ | exact VTos.nil | refine VTo.agg ?_ | refine VTo.tuple ?_ | refine VTo.func ?_ ?_ | exact VTo.fs | exact VTo.fp | exact VTo.nilptr | exact VTo.nilslice | exact VTo.nilfunc | exact VTo.ptr rfl | exact VTo.gl rfl | exact VTo.map rfl | exact VTo.yld rfl | exact VTo.fmMap rfl | exact VTo.fm | exact VTo.glNil' (by decide) rfl rfl | exact VTo.fsNil (by decide) | exact VTo.fsSl rfl rfl (by simp [flat_len encE_len]) | exact VTo.fpPtr rfl | exact VTo.fsGl rfl (by first | rfl | exact flat_len encI_len _ | exact flat_len encS_len _ | exact flat_len encP_len _ | exact flat_len encL_len _ | exact flat_len encE_len _ | (simp [flat_len encP_len]; done) | simp [flat_len encI_len, flat_len encS_len]))) (hI _)) ?_
    conv => whnf
    repeat' (first | (refine VLd.intro rfl ?_; conv => whnf) | (refine VArith.i64 (by omega) ?_; conv => whnf) | (refine VNeed.intro (by first | rfl | (simp; omega)) ?_; conv => whnf) | (refine VMem.store rfl rfl rfl rfl ?_; conv => whnf) | (refine VSame.intro rfl ?_; conv => whnf) | (refine VDraw.go [] (by kernel_rfl) (by kernel_rfl) ?_; conv => whnf) | (refine VIte.dec (fun _ => ?_) (fun _ => ?_) <;> conv => whnf) | (refine VIte.ndec (fun _ => ?_) (fun _ => ?_) <;> conv => whnf) | (refine VIte.beq (fun _ => ?_) (fun _ => ?_) <;> conv => whnf) | (refine VIte.bne (fun _ => ?_) (fun _ => ?_) <;> conv => whnf) | (refine VIte.intro (fun _ => ?_) (fun _ => ?_) <;> conv => whnf) | (refine VAny.ix encE_len j (by omega) rfl hj ?_; conv => whnf))
    · refine VCode.lp (fun y : Nat × End × List Int => [(7, .fm (keysE a) (valsE a)), (10, .gl (.loc 1) 1 y.2.2.length), (11, .ptr (.loc 0) 0)]) (fun y => [.flat true (encE y.2.1), .flat true (y.2.2.flatMap encI)])
        (fun y => y.1 ≤ f.ps.length ∧ y.2.1 ∈ (goneK f y.1).2 ∧ W = y.2.2 ++ backK a y.1 y.2.1) (fun y => y.1) (f.ps.length, e, []) ⟨Nat.le_refl _, heK, hW⟩ ?_ ?_
      · conv => whnf
        refine Retell.turn ⟨[2,3], 3, [], []⟩ (TurnOk.mk' _ _ [] [] (OutOk.lift _) rfl (by decide) (by repeat' (first | exact BTos.nil | refine BTos.flat rfl rfl (by first | rfl | simp) ?_ | refine BTos.new rfl ?_ | refine BTos.dead rfl rfl ?_ | refine BTos.esE rfl rfl ?_ | refine BTos.row rfl rfl rfl (RowTo.snoc (RowTo.one rfl (by simp))) ?_ | refine BTos.cells rfl rfl rfl (by repeat' (first | exact VTo.undef | exact FrTo.leaf | refine FrTo.node ?_ ?_ ?_ | refine FrTo.none ?_ ?_ | exact VTo.sc (by first | rfl | (congr 1; omega) | (congr 1; simp; omega)) | exact VTos_dv _ _ | refine VTos.cons ?_ ?_ | exact VTos.nil | refine VTo.agg ?_ | refine VTo.tuple ?_ | refine VTo.func ?_ ?_ | exact VTo.fs | exact VTo.fp | exact VTo.nilptr | exact VTo.nilslice | exact VTo.nilfunc | exact VTo.ptr rfl | exact VTo.gl rfl | exact VTo.map rfl | exact VTo.yld rfl | exact VTo.fmMap rfl | exact VTo.fm | exact VTo.glNil' (by decide) rfl rfl | exact VTo.fsNil (by decide) | exact VTo.fsSl rfl rfl (by simp [flat_len encE_len]) | exact VTo.fpPtr rfl | exact VTo.fsGl rfl (by first | rfl | exact flat_len encI_len _ | exact flat_len encS_len _ | exact flat_len encP_len _ | exact flat_len encL_len _ | exact flat_len encE_len _ | (simp [flat_len encP_len]; done) | simp [flat_len encI_len, flat_len encS_len]))) ?_)) trivial trivial rfl) (by repeat' (first | exact VTo.undef | exact FrTo.leaf | refine FrTo.node ?_ ?_ ?_ | refine FrTo.none ?_ ?_ | exact VTo.sc (by first | rfl | (congr 1; omega) | (congr 1; simp; omega)) | exact VTos_dv _ _ | refine VTos.cons ?_ ?_ | exact VTos.nil | refine VTo.agg ?_ | refine VTo.tuple ?_ | refine VTo.func ?_ ?_ | exact VTo.fs | exact VTo.fp | exact VTo.nilptr | exact VTo.nilslice | exact VTo.nilfunc | exact VTo.ptr rfl | exact VTo.gl rfl | exact VTo.map rfl | exact VTo.yld rfl | exact VTo.fmMap rfl | exact VTo.fm | exact VTo.glNil' (by decide) rfl rfl | exact VTo.fsNil (by decide) | exact VTo.fsSl rfl rfl (by simp [flat_len encE_len]) | exact VTo.fpPtr rfl | exact VTo.fsGl rfl (by first | rfl | exact flat_len encI_len _ | exact flat_len encS_len _ | exact flat_len encP_len _ | exact flat_len encL_len _ | exact flat_len encE_len _ | (simp [flat_len encP_len]; done) | simp [flat_len encI_len, flat_len encS_len]))) (by first | rfl | (repeat' (first | exact MkTo.nil | refine MkTo.keep rfl ?_ | refine MkTo.drop (by decide) rfl ?_)))
      · rintro ⟨k, z, out⟩ ⟨g1, g2, g3⟩
        dsimp only at g1 g2 g3
        conv => whnf
        repeat' (first | (refine VLd.intro rfl ?_; conv => whnf) | (refine VArith.i64 (by omega) ?_; conv => whnf) | (refine VNeed.intro (by first | rfl | (simp; omega)) ?_; conv => whnf) | (refine VMem.store rfl rfl rfl rfl ?_; conv => whnf) | (refine VSame.intro rfl ?_; conv => whnf) | (refine VDraw.go [] (by kernel_rfl) (by kernel_rfl) ?_; conv => whnf) | (refine VIte.dec (fun _ => ?_) (fun _ => ?_) <;> conv => whnf) | (refine VIte.ndec (fun _ => ?_) (fun _ => ?_) <;> conv => whnf) | (refine VIte.beq (fun _ => ?_) (fun _ => ?_) <;> conv => whnf) | (refine VIte.bne (fun _ => ?_) (fun _ => ?_) <;> conv => whnf) | (refine VIte.intro (fun _ => ?_) (fun _ => ?_) <;> conv => whnf) | (refine VAgg.intro (vneqE z beg) ?_; conv => whnf))
        · rename_i hx
          have hz : ¬ z = beg := by first | exact hx | simpa using hx
          clear hx
          cases k with
          | zero => simp only [goneK, List.mem_singleton] at g2; exact absurd g2 hz
          | succ k =>
            obtain ⟨_, v, p, hv, hvm, _⟩ := hstep k z g1 g2
            rw [backK, hv, Option.getD_some] at g3
            have hol : out.length ≤ 16 := by
              have : W.length = out.length + (k + 1) := by rw [g3]; simp [backK_len]
              omega
            refine VMem.app1 z.year encI_len rfl rfl rfl rfl rfl (by dsimp only; omega) ?_
            conv => whnf
            repeat' (first | (refine VLd.intro rfl ?_; conv => whnf) | (refine VArith.i64 (by omega) ?_; conv => whnf) | (refine VNeed.intro (by first | rfl | (simp; omega)) ?_; conv => whnf) | (refine VMem.store rfl rfl rfl rfl ?_; conv => whnf) | (refine VSame.intro rfl ?_; conv => whnf) | (refine VDraw.go [] (by kernel_rfl) (by kernel_rfl) ?_; conv => whnf) | (refine VIte.dec (fun _ => ?_) (fun _ => ?_) <;> conv => whnf) | (refine VIte.ndec (fun _ => ?_) (fun _ => ?_) <;> conv => whnf) | (refine VIte.beq (fun _ => ?_) (fun _ => ?_) <;> conv => whnf) | (refine VIte.bne (fun _ => ?_) (fun _ => ?_) <;> conv => whnf) | (refine VIte.intro (fun _ => ?_) (fun _ => ?_) <;> conv => whnf) | (refine VLookF.intro (look_esF hv) ?_; conv => whnf))
            refine LEnd.intro (k, v, out ++ [z.year]) ⟨by dsimp only; omega, hvm, by rw [g3]; simp⟩ (by dsimp only; omega) ?_
            conv => whnf
            rw [List.length_append]
            refine Retell.turn ⟨[4,3], 5, [], []⟩ (TurnOk.mk' _ _ [] [] (OutOk.lift _) rfl (by decide) (by repeat' (first | exact BTos.nil | refine BTos.flat rfl rfl (by first | rfl | simp) ?_ | refine BTos.new rfl ?_ | refine BTos.dead rfl rfl ?_ | refine BTos.esE rfl rfl ?_ | refine BTos.row rfl rfl rfl (RowTo.snoc (RowTo.one rfl (by simp))) ?_ | refine BTos.cells rfl rfl rfl (by repeat' (first | exact VTo.undef | exact FrTo.leaf | refine FrTo.node ?_ ?_ ?_ | refine FrTo.none ?_ ?_ | exact VTo.sc (by first | rfl | (congr 1; omega) | (congr 1; simp; omega)) | exact VTos_dv _ _ | refine VTos.cons ?_ ?_ | exact VTos.nil | refine VTo.agg ?_ | refine VTo.tuple ?_ | refine VTo.func ?_ ?_ | exact VTo.fs | exact VTo.fp | exact VTo.nilptr | exact VTo.nilslice | exact VTo.nilfunc | exact VTo.ptr rfl | exact VTo.gl rfl | exact VTo.map rfl | exact VTo.yld rfl | exact VTo.fmMap rfl | exact VTo.fm | exact VTo.glNil' (by decide) rfl rfl | exact VTo.fsNil (by decide) | exact VTo.fsSl rfl rfl (by simp [flat_len encE_len]) | exact VTo.fpPtr rfl | exact VTo.fsGl rfl (by first | rfl | exact flat_len encI_len _ | exact flat_len encS_len _ | exact flat_len encP_len _ | exact flat_len encL_len _ | exact flat_len encE_len _ | (simp [flat_len encP_len]; done) | simp [flat_len encI_len, flat_len encS_len]))) ?_)) trivial trivial rfl) (by repeat' (first | exact VTo.undef | exact FrTo.leaf | refine FrTo.node ?_ ?_ ?_ | refine FrTo.none ?_ ?_ | exact VTo.sc (by first | rfl | (congr 1; omega) | (congr 1; simp; omega)) | exact VTos_dv _ _ | refine VTos.cons ?_ ?_ | exact VTos.nil | refine VTo.agg ?_ | refine VTo.tuple ?_ | refine VTo.func ?_ ?_ | exact VTo.fs | exact VTo.fp | exact VTo.nilptr | exact VTo.nilslice | exact VTo.nilfunc | exact VTo.ptr rfl | exact VTo.gl rfl | exact VTo.map rfl | exact VTo.yld rfl | exact VTo.fmMap rfl | exact VTo.fm | exact VTo.glNil' (by decide) rfl rfl | exact VTo.fsNil (by decide) | exact VTo.fsSl rfl rfl (by simp [flat_len encE_len]) | exact VTo.fpPtr rfl | exact VTo.fsGl rfl (by first | rfl | exact flat_len encI_len _ | exact flat_len encS_len _ | exact flat_len encP_len _ | exact flat_len encL_len _ | exact flat_len encE_len _ | (simp [flat_len encP_len]; done) | simp [flat_len encI_len, flat_len encS_len]))) (by first | rfl | (repeat' (first | exact MkTo.nil | refine MkTo.keep rfl ?_ | refine MkTo.drop (by decide) rfl ?_)))
        · rename_i hx
          have hz : z = beg := by first | exact hx | simpa using hx
          clear hx
          cases k with
          | succ k => exact absurd hz (hstep k z g1 g2).1
          | zero =>
            rw [backK, List.append_nil] at g3
            subst g3
            refine VCall.intro (vc_reverse W (.loc 1) _ rfl (by omega)) ?_
            conv => whnf
            repeat (first | (refine VLd.intro rfl ?_; conv => whnf) | (refine VArith.i64 (by omega) ?_; conv => whnf) | (refine VNeed.intro (by first | rfl | (simp; omega)) ?_; conv => whnf) | (refine VMem.store rfl rfl rfl rfl ?_; conv => whnf) | (refine VSame.intro rfl ?_; conv => whnf) | (refine VDraw.go [] (by kernel_rfl) (by kernel_rfl) ?_; conv => whnf))
            rw [show ints W.reverse = .fs 1 W.length (W.reverse.flatMap encI) from by unfold ints; rw [List.length_reverse]]
            refine VOut.data 3 [(1, W.reverse.flatMap encI)] [] rfl (by repeat' (first | exact FzAll.nil | refine FzAll.flat rfl ?_ | refine FzAll.row rfl rfl (RowTo.one rfl (by simp)) ?_)) (by exact FmAll.nil) (by repeat' (first | exact VTo.undef | exact FrTo.leaf | refine FrTo.node ?_ ?_ ?_ | refine FrTo.none ?_ ?_ | exact VTo.sc (by first | rfl | (congr 1; omega) | (congr 1; simp; omega)) | exact VTos_dv _ _ | refine VTos.cons ?_ ?_ | exact VTos.nil | refine VTo.agg ?_ | refine VTo.tuple ?_ | refine VTo.func ?_ ?_ | exact VTo.fs | exact VTo.fp | exact VTo.nilptr | exact VTo.nilslice | exact VTo.nilfunc | exact VTo.ptr rfl | exact VTo.gl rfl | exact VTo.map rfl | exact VTo.yld rfl | exact VTo.fmMap rfl | exact VTo.fm | exact VTo.glNil' (by decide) rfl rfl | exact VTo.fsNil (by decide) | exact VTo.fsSl rfl rfl (by simp [flat_len encE_len]) | exact VTo.fpPtr rfl | exact VTo.fsGl rfl (by first | rfl | exact flat_len encI_len _ | exact flat_len encS_len _ | exact flat_len encP_len _ | exact flat_len encL_len _ | exact flat_len encE_len _ | (simp [flat_len encP_len]; done) | simp [flat_len encI_len, flat_len encS_len])))
end Go.Proofs.Ytolnajnlcdacmaa

open Go.Vm
namespace Go.Proofs.Ytolnajnlcdacmaa
set_option maxRecDepth 20000
set_option maxHeartbeats 2000000

/-- When somebody's right arose, of each way. -/
def sinL (x : Int) (l : List End) : List Int := (l.filter fun e => decide (e.side = x)).map (·.since)
theorem sinL_at {x : Int} {l : List End} {k : Nat} {e : End} (h : l[k]? = some e) : sinL x (l.take (k + 1)) = if e.side = x then sinL x (l.take k) ++ [e.since] else sinL x (l.take k) := by
  unfold sinL
  rw [List.take_add_one, h, List.filter_append, List.map_append]
  simp only [Option.toList_some, List.filter_cons, List.filter_nil]
  split <;> simp_all
theorem sinL_len (x : Int) (l : List End) : (sinL x l).length ≤ l.length := by
  unfold sinL
  rw [List.length_map]
  exact List.length_filter_le _ _
theorem vc_SinceG (f : Fil) (x : Int) (h : Hp) (h0 : chk f = 0) (hx : 0 ≤ x ∧ x ≤ 1) : VC Try.prog 22 [vF f, I x] h (match sinL x (gone f).2 with
    | [] => .tuple [.agg [I 0, I 0], I 7]
    | a :: r => .tuple [.agg [I (minL (a :: r)), I (maxL (a :: r))], I 0]) h := by
  have hn16 := (chk_zero h0).2.2.1
  have hS : ∀ h, VC Try.prog 34 [vF f] h (I 0) h := fun h => h0 ▸ vc_check f h (by omega)
  have hG := fun h => vc_gone f h h0
  obtain ⟨hok, hlen⟩ := gone_inv h0
  unfold vGone at hG
  generalize gone f = G at hG hok hlen
  obtain ⟨a, L⟩ := G
  dsimp only at hG hok hlen
  obtain ⟨F, hF⟩ : ∃ F, F = sinL x L := ⟨_, rfl⟩
  have hFl := sinL_len x L
  rw [← hF] at hFl
  dsimp only
  rw [← hF]
  refine VC.bodyC 8 Try.func22 rfl Try.ntmps22 Try.call22 (h.grows_refl) rfl ?_; conv => whnf
  repeat' (first | (refine VLd.intro rfl ?_; conv => whnf) | (refine VArith.i64 (by omega) ?_; conv => whnf) | (refine VNeed.intro (by first | rfl | (simp; omega)) ?_; conv => whnf) | (refine VMem.store rfl rfl rfl rfl ?_; conv => whnf) | (refine VSame.intro rfl ?_; conv => whnf) | (refine VDraw.go [] (by kernel_rfl) (by kernel_rfl) ?_; conv => whnf) | (refine VIte.dec (fun _ => ?_) (fun _ => ?_) <;> conv => whnf) | (refine VIte.ndec (fun _ => ?_) (fun _ => ?_) <;> conv => whnf) | (refine VIte.beq (fun _ => ?_) (fun _ => ?_) <;> conv => whnf) | (refine VIte.bne (fun _ => ?_) (fun _ => ?_) <;> conv => whnf) | (refine VIte.intro (fun _ => ?_) (fun _ => ?_) <;> conv => whnf) | (refine VCall.intro (hS _) ?_; conv => whnf) | (refine VCall.intro (hG _) ?_; conv => whnf) | (refine VCall.intro (vc_from _ _ _ _) ?_; conv => whnf))
  · exfalso; omega
  · refine VCode.lp (fun k : Nat => [(1, I x), (2, .ptr (.loc 0) 0), (4, .ptr (.loc 1) 0), (9, .gl (.loc 2) 1 (sinL x (L.take k)).length), (31, ends L), (32, I L.length), (33, I k)]) (fun k => [.flat true (encF f), .flat true [DI 0, DI 0], .flat true ((sinL x (L.take k)).flatMap encI)]) (fun k => k ≤ L.length) (fun k => L.length - k) 0 (Nat.zero_le _) ?_ ?_
    · conv => whnf
      refine Retell.turn ⟨[0,1,2], 2, [], []⟩ (TurnOk.mk' _ _ [] [] (OutOk.lift _) rfl (by decide) (by repeat' (first | exact BTos.nil | refine BTos.flat rfl rfl (by first | rfl | simp) ?_ | refine BTos.new rfl ?_ | refine BTos.dead rfl rfl ?_ | refine BTos.esE rfl rfl ?_ | refine BTos.row rfl rfl rfl (RowTo.snoc (RowTo.one rfl (by simp))) ?_ | refine BTos.cells rfl rfl rfl (by repeat' (first | exact VTo.undef | exact FrTo.leaf | refine FrTo.node ?_ ?_ ?_ | refine FrTo.none ?_ ?_ | exact VTo.sc (by first | rfl | (congr 1; omega) | (congr 1; simp; omega)) | exact VTos_dv _ _ | refine VTos.cons ?_ ?_ | exact VTos.nil | refine VTo.agg ?_ | refine VTo.tuple ?_ | refine VTo.func ?_ ?_ | exact VTo.fs | exact VTo.fp | exact VTo.nilptr | exact VTo.nilslice | exact VTo.nilfunc | exact VTo.ptr rfl | exact VTo.gl rfl | exact VTo.map rfl | exact VTo.yld rfl | exact VTo.fmMap rfl | exact VTo.fm | exact VTo.glNil' (by decide) rfl rfl | exact VTo.fsNil (by decide) | exact VTo.fsSl rfl rfl (by simp [flat_len encE_len]) | exact VTo.fpPtr rfl | exact VTo.fsGl rfl (by first | rfl | exact flat_len encI_len _ | exact flat_len encS_len _ | exact flat_len encP_len _ | exact flat_len encL_len _ | exact flat_len encE_len _ | (simp [flat_len encP_len]; done) | simp [flat_len encI_len, flat_len encS_len]))) ?_)) trivial trivial rfl) (by repeat' (first | exact VTo.undef | exact FrTo.leaf | refine FrTo.node ?_ ?_ ?_ | refine FrTo.none ?_ ?_ | exact VTo.sc (by first | rfl | (congr 1; omega) | (congr 1; simp; omega)) | exact VTos_dv _ _ | refine VTos.cons ?_ ?_ | exact VTos.nil | refine VTo.agg ?_ | refine VTo.tuple ?_ | refine VTo.func ?_ ?_ | exact VTo.fs | exact VTo.fp | exact VTo.nilptr | exact VTo.nilslice | exact VTo.nilfunc | exact VTo.ptr rfl | exact VTo.gl rfl | exact VTo.map rfl | exact VTo.yld rfl | exact VTo.fmMap rfl | exact VTo.fm | exact VTo.glNil' (by decide) rfl rfl | exact VTo.fsNil (by decide) | exact VTo.fsSl rfl rfl (by simp [flat_len encE_len]) | exact VTo.fpPtr rfl | exact VTo.fsGl rfl (by first | rfl | exact flat_len encI_len _ | exact flat_len encS_len _ | exact flat_len encP_len _ | exact flat_len encL_len _ | exact flat_len encE_len _ | (simp [flat_len encP_len]; done) | simp [flat_len encI_len, flat_len encS_len]))) (by first | rfl | (repeat' (first | exact MkTo.nil | refine MkTo.keep rfl ?_ | refine MkTo.drop (by decide) rfl ?_)))
    · intro k hk
      conv => whnf
      refine VIte.dec (fun h3 => ?_) (fun h3 => ?_)
      · have he : L[k]? = some L[k] := List.getElem?_eq_getElem (by omega)
        generalize L[k] = e at he
        have hs := sinL_at (x := x) he
        have hsl := sinL_len x (L.take k)
        rw [List.length_take] at hsl
        generalize sinL x (L.take k) = A at hs hsl
        conv => whnf
        repeat' (first | (refine VLd.intro rfl ?_; conv => whnf) | (refine VArith.i64 (by omega) ?_; conv => whnf) | (refine VNeed.intro (by first | rfl | (simp; omega)) ?_; conv => whnf) | (refine VMem.store rfl rfl rfl rfl ?_; conv => whnf) | (refine VSame.intro rfl ?_; conv => whnf) | (refine VDraw.go [] (by kernel_rfl) (by kernel_rfl) ?_; conv => whnf) | (refine VIte.dec (fun _ => ?_) (fun _ => ?_) <;> conv => whnf) | (refine VIte.ndec (fun _ => ?_) (fun _ => ?_) <;> conv => whnf) | (refine VIte.beq (fun _ => ?_) (fun _ => ?_) <;> conv => whnf) | (refine VIte.bne (fun _ => ?_) (fun _ => ?_) <;> conv => whnf) | (refine VIte.intro (fun _ => ?_) (fun _ => ?_) <;> conv => whnf) | (refine VAny.ix encE_len k rfl rfl he ?_; conv => whnf))
        · rename_i hc
          refine VMem.app1B e.since encI_len rfl rfl rfl rfl rfl (by omega) ?_
          conv => whnf
          repeat (first | (refine VLd.intro rfl ?_; conv => whnf) | (refine VArith.i64 (by omega) ?_; conv => whnf) | (refine VNeed.intro (by first | rfl | (simp; omega)) ?_; conv => whnf) | (refine VMem.store rfl rfl rfl rfl ?_; conv => whnf) | (refine VSame.intro rfl ?_; conv => whnf) | (refine VDraw.go [] (by kernel_rfl) (by kernel_rfl) ?_; conv => whnf))
          refine LEnd.intro (k + 1) (by omega) (by omega) ?_
          conv => whnf
          rw [hs, if_pos hc, List.length_append]
          refine Retell.turn ⟨[0,1,5], 6, [], []⟩ (TurnOk.mk' _ _ [] [] (OutOk.lift _) rfl (by decide) (by repeat' (first | exact BTos.nil | refine BTos.flat rfl rfl (by first | rfl | simp) ?_ | refine BTos.new rfl ?_ | refine BTos.dead rfl rfl ?_ | refine BTos.esE rfl rfl ?_ | refine BTos.row rfl rfl rfl (RowTo.snoc (RowTo.one rfl (by simp))) ?_ | refine BTos.cells rfl rfl rfl (by repeat' (first | exact VTo.undef | exact FrTo.leaf | refine FrTo.node ?_ ?_ ?_ | refine FrTo.none ?_ ?_ | exact VTo.sc (by first | rfl | (congr 1; omega) | (congr 1; simp; omega)) | exact VTos_dv _ _ | refine VTos.cons ?_ ?_ | exact VTos.nil | refine VTo.agg ?_ | refine VTo.tuple ?_ | refine VTo.func ?_ ?_ | exact VTo.fs | exact VTo.fp | exact VTo.nilptr | exact VTo.nilslice | exact VTo.nilfunc | exact VTo.ptr rfl | exact VTo.gl rfl | exact VTo.map rfl | exact VTo.yld rfl | exact VTo.fmMap rfl | exact VTo.fm | exact VTo.glNil' (by decide) rfl rfl | exact VTo.fsNil (by decide) | exact VTo.fsSl rfl rfl (by simp [flat_len encE_len]) | exact VTo.fpPtr rfl | exact VTo.fsGl rfl (by first | rfl | exact flat_len encI_len _ | exact flat_len encS_len _ | exact flat_len encP_len _ | exact flat_len encL_len _ | exact flat_len encE_len _ | (simp [flat_len encP_len]; done) | simp [flat_len encI_len, flat_len encS_len]))) ?_)) trivial trivial rfl) (by repeat' (first | exact VTo.undef | exact FrTo.leaf | refine FrTo.node ?_ ?_ ?_ | refine FrTo.none ?_ ?_ | exact VTo.sc (by first | rfl | (congr 1; omega) | (congr 1; simp; omega)) | exact VTos_dv _ _ | refine VTos.cons ?_ ?_ | exact VTos.nil | refine VTo.agg ?_ | refine VTo.tuple ?_ | refine VTo.func ?_ ?_ | exact VTo.fs | exact VTo.fp | exact VTo.nilptr | exact VTo.nilslice | exact VTo.nilfunc | exact VTo.ptr rfl | exact VTo.gl rfl | exact VTo.map rfl | exact VTo.yld rfl | exact VTo.fmMap rfl | exact VTo.fm | exact VTo.glNil' (by decide) rfl rfl | exact VTo.fsNil (by decide) | exact VTo.fsSl rfl rfl (by simp [flat_len encE_len]) | exact VTo.fpPtr rfl | exact VTo.fsGl rfl (by first | rfl | exact flat_len encI_len _ | exact flat_len encS_len _ | exact flat_len encP_len _ | exact flat_len encL_len _ | exact flat_len encE_len _ | (simp [flat_len encP_len]; done) | simp [flat_len encI_len, flat_len encS_len]))) (by first | rfl | (repeat' (first | exact MkTo.nil | refine MkTo.keep rfl ?_ | refine MkTo.drop (by decide) rfl ?_)))
        · rename_i hc
          refine LEnd.intro (k + 1) (by omega) (by omega) ?_
          conv => whnf
          rw [hs, if_neg hc]
          refine Retell.turn ⟨[0,1,2], 4, [], []⟩ (TurnOk.mk' _ _ [] [] (OutOk.lift _) rfl (by decide) (by repeat' (first | exact BTos.nil | refine BTos.flat rfl rfl (by first | rfl | simp) ?_ | refine BTos.new rfl ?_ | refine BTos.dead rfl rfl ?_ | refine BTos.esE rfl rfl ?_ | refine BTos.row rfl rfl rfl (RowTo.snoc (RowTo.one rfl (by simp))) ?_ | refine BTos.cells rfl rfl rfl (by repeat' (first | exact VTo.undef | exact FrTo.leaf | refine FrTo.node ?_ ?_ ?_ | refine FrTo.none ?_ ?_ | exact VTo.sc (by first | rfl | (congr 1; omega) | (congr 1; simp; omega)) | exact VTos_dv _ _ | refine VTos.cons ?_ ?_ | exact VTos.nil | refine VTo.agg ?_ | refine VTo.tuple ?_ | refine VTo.func ?_ ?_ | exact VTo.fs | exact VTo.fp | exact VTo.nilptr | exact VTo.nilslice | exact VTo.nilfunc | exact VTo.ptr rfl | exact VTo.gl rfl | exact VTo.map rfl | exact VTo.yld rfl | exact VTo.fmMap rfl | exact VTo.fm | exact VTo.glNil' (by decide) rfl rfl | exact VTo.fsNil (by decide) | exact VTo.fsSl rfl rfl (by simp [flat_len encE_len]) | exact VTo.fpPtr rfl | exact VTo.fsGl rfl (by first | rfl | exact flat_len encI_len _ | exact flat_len encS_len _ | exact flat_len encP_len _ | exact flat_len encL_len _ | exact flat_len encE_len _ | (simp [flat_len encP_len]; done) | simp [flat_len encI_len, flat_len encS_len]))) ?_)) trivial trivial rfl) (by repeat' (first | exact VTo.undef | exact FrTo.leaf | refine FrTo.node ?_ ?_ ?_ | refine FrTo.none ?_ ?_ | exact VTo.sc (by first | rfl | (congr 1; omega) | (congr 1; simp; omega)) | exact VTos_dv _ _ | refine VTos.cons ?_ ?_ | exact VTos.nil | refine VTo.agg ?_ | refine VTo.tuple ?_ | refine VTo.func ?_ ?_ | exact VTo.fs | exact VTo.fp | exact VTo.nilptr | exact VTo.nilslice | exact VTo.nilfunc | exact VTo.ptr rfl | exact VTo.gl rfl | exact VTo.map rfl | exact VTo.yld rfl | exact VTo.fmMap rfl | exact VTo.fm | exact VTo.glNil' (by decide) rfl rfl | exact VTo.fsNil (by decide) | exact VTo.fsSl rfl rfl (by simp [flat_len encE_len]) | exact VTo.fpPtr rfl | exact VTo.fsGl rfl (by first | rfl | exact flat_len encI_len _ | exact flat_len encS_len _ | exact flat_len encP_len _ | exact flat_len encL_len _ | exact flat_len encE_len _ | (simp [flat_len encP_len]; done) | simp [flat_len encI_len, flat_len encS_len]))) (by first | rfl | (repeat' (first | exact MkTo.nil | refine MkTo.keep rfl ?_ | refine MkTo.drop (by decide) rfl ?_)))
      · have hkl : k = L.length := by omega
        subst hkl
        rw [List.take_length, ← hF]
        conv => whnf
        cases F with
        | nil =>
          repeat' (first | (refine VLd.intro rfl ?_; conv => whnf) | (refine VArith.i64 (by omega) ?_; conv => whnf) | (refine VNeed.intro (by first | rfl | (simp; omega)) ?_; conv => whnf) | (refine VMem.store rfl rfl rfl rfl ?_; conv => whnf) | (refine VSame.intro rfl ?_; conv => whnf) | (refine VDraw.go [] (by kernel_rfl) (by kernel_rfl) ?_; conv => whnf) | (refine VIte.dec (fun _ => ?_) (fun _ => ?_) <;> conv => whnf) | (refine VIte.ndec (fun _ => ?_) (fun _ => ?_) <;> conv => whnf) | (refine VIte.beq (fun _ => ?_) (fun _ => ?_) <;> conv => whnf) | (refine VIte.bne (fun _ => ?_) (fun _ => ?_) <;> conv => whnf) | (refine VIte.intro (fun _ => ?_) (fun _ => ?_) <;> conv => whnf))
          exact VOut.same rfl
        | cons b r =>
          have hl1 : r.length + 1 ≤ 108108024 := by simp only [List.length_cons] at hFl; omega
          repeat' (first | (refine VLd.intro rfl ?_; conv => whnf) | (refine VArith.i64 (by omega) ?_; conv => whnf) | (refine VNeed.intro (by first | rfl | (simp; omega)) ?_; conv => whnf) | (refine VMem.store rfl rfl rfl rfl ?_; conv => whnf) | (refine VSame.intro rfl ?_; conv => whnf) | (refine VDraw.go [] (by kernel_rfl) (by kernel_rfl) ?_; conv => whnf) | (refine VIte.dec (fun _ => ?_) (fun _ => ?_) <;> conv => whnf) | (refine VIte.ndec (fun _ => ?_) (fun _ => ?_) <;> conv => whnf) | (refine VIte.beq (fun _ => ?_) (fun _ => ?_) <;> conv => whnf) | (refine VIte.bne (fun _ => ?_) (fun _ => ?_) <;> conv => whnf) | (refine VIte.intro (fun _ => ?_) (fun _ => ?_) <;> conv => whnf))
          refine VCut.at [(4, .ptr (.loc 0) 0), (9, ints (b :: r)), (12, .fp [.func (.func 63) [] []]), (13, .fp [.func (.func 64) [] []])] [.flat true [DI 0, DI 0]] ?_ ?_
          · conv => whnf
            refine Retell.turn ⟨[1], 5, [(2, (b :: r).flatMap encI), (3, [.func (.func 63) [] []]), (4, [.func (.func 64) [] []])], []⟩ (TurnOk.mk' _ _ [(2, (b :: r).flatMap encI), (3, [.func (.func 63) [] []]), (4, [.func (.func 64) [] []])] [] (OutOk.lift _) rfl (by decide) (by repeat' (first | exact BTos.nil | refine BTos.flat rfl rfl (by first | rfl | simp) ?_ | refine BTos.new rfl ?_ | refine BTos.dead rfl rfl ?_ | refine BTos.esE rfl rfl ?_ | refine BTos.row rfl rfl rfl (RowTo.snoc (RowTo.one rfl (by simp))) ?_ | refine BTos.cells rfl rfl rfl (by repeat' (first | exact VTo.undef | exact FrTo.leaf | refine FrTo.node ?_ ?_ ?_ | refine FrTo.none ?_ ?_ | exact VTo.sc (by first | rfl | (congr 1; omega) | (congr 1; simp; omega)) | exact VTos_dv _ _ | refine VTos.cons ?_ ?_ | exact VTos.nil | refine VTo.agg ?_ | refine VTo.tuple ?_ | refine VTo.func ?_ ?_ | exact VTo.fs | exact VTo.fp | exact VTo.nilptr | exact VTo.nilslice | exact VTo.nilfunc | exact VTo.ptr rfl | exact VTo.gl rfl | exact VTo.map rfl | exact VTo.yld rfl | exact VTo.fmMap rfl | exact VTo.fm | exact VTo.glNil' (by decide) rfl rfl | exact VTo.fsNil (by decide) | exact VTo.fsSl rfl rfl (by simp [flat_len encE_len]) | exact VTo.fpPtr rfl | exact VTo.fsGl rfl (by first | rfl | exact flat_len encI_len _ | exact flat_len encS_len _ | exact flat_len encP_len _ | exact flat_len encL_len _ | exact flat_len encE_len _ | (simp [flat_len encP_len]; done) | simp [flat_len encI_len, flat_len encS_len]))) ?_)) (by repeat' (first | exact FzAll.nil | refine FzAll.flat rfl ?_ | refine FzAll.row rfl rfl (RowTo.one rfl (by simp)) ?_)) trivial rfl) (by repeat' (first | exact VTo.undef | exact FrTo.leaf | refine FrTo.node ?_ ?_ ?_ | refine FrTo.none ?_ ?_ | exact VTo.sc (by first | rfl | (congr 1; omega) | (congr 1; simp; omega)) | exact VTos_dv _ _ | refine VTos.cons ?_ ?_ | exact VTos.nil | refine VTo.agg ?_ | refine VTo.tuple ?_ | refine VTo.func ?_ ?_ | exact VTo.fs | exact VTo.fp | exact VTo.nilptr | exact VTo.nilslice | exact VTo.nilfunc | exact VTo.ptr rfl | exact VTo.gl rfl | exact VTo.map rfl | exact VTo.yld rfl | exact VTo.fmMap rfl | exact VTo.fm | exact VTo.glNil' (by decide) rfl rfl | exact VTo.fsNil (by decide) | exact VTo.fsSl rfl rfl (by simp [flat_len encE_len]) | exact VTo.fpPtr rfl | exact VTo.fsGl rfl (by first | rfl | exact flat_len encI_len _ | exact flat_len encS_len _ | exact flat_len encP_len _ | exact flat_len encL_len _ | exact flat_len encE_len _ | (simp [flat_len encP_len]; done) | simp [flat_len encI_len, flat_len encS_len]))) (by first | rfl | (repeat' (first | exact MkTo.nil | refine MkTo.keep rfl ?_ | refine MkTo.drop (by decide) rfl ?_)))
          · conv => whnf
            repeat' (first | (refine VLd.intro rfl ?_; conv => whnf) | (refine VArith.i64 (by omega) ?_; conv => whnf) | (refine VNeed.intro (by first | rfl | (simp; omega)) ?_; conv => whnf) | (refine VMem.store rfl rfl rfl rfl ?_; conv => whnf) | (refine VSame.intro rfl ?_; conv => whnf) | (refine VDraw.go [(3, 5)] (by kernel_rfl) (by kernel_rfl) ?_; conv => whnf) | (refine VIte.dec (fun _ => ?_) (fun _ => ?_) <;> conv => whnf) | (refine VIte.ndec (fun _ => ?_) (fun _ => ?_) <;> conv => whnf) | (refine VIte.beq (fun _ => ?_) (fun _ => ?_) <;> conv => whnf) | (refine VIte.bne (fun _ => ?_) (fun _ => ?_) <;> conv => whnf) | (refine VIte.intro (fun _ => ?_) (fun _ => ?_) <;> conv => whnf) | (refine VCall.intro (vc_least (b :: r) _ (by simp only [List.length_cons]; omega)) ?_; conv => whnf) | (refine VCall.intro (vc_most b r _ (by omega)) ?_; conv => whnf))
            exact VOut.same rfl
end Go.Proofs.Ytolnajnlcdacmaa

open Go.Vm
namespace Go.Proofs.Ytolnajnlcdacmaa
set_option maxRecDepth 20000
set_option maxHeartbeats 2000000

/-- The least and the greatest of those that are so. -/
structure Ext2 (S : Int → Prop) (lo hi : Int) : Prop where
  lo1 : S lo
  lo2 : ∀ y, S y → lo ≤ y
  hi1 : S hi
  hi2 : ∀ y, S y → y ≤ hi
theorem Ext2.uniq {S : Int → Prop} {a b c d : Int} (h : Ext2 S a b) (k : Ext2 S c d) : a = c ∧ b = d :=
  ⟨Int.le_antisymm (h.lo2 _ k.lo1) (k.lo2 _ h.lo1), Int.le_antisymm (k.hi2 _ h.hi1) (h.hi2 _ k.hi1)⟩
theorem min_mem : ∀ (r : List Int) (a : Int), (r.foldl min a = a ∨ r.foldl min a ∈ r) ∧ r.foldl min a ≤ a ∧ ∀ y ∈ r, r.foldl min a ≤ y
  | [], a => by simp
  | b :: r, a => by
    obtain ⟨h1, h2, h3⟩ := min_mem r (min a b)
    rw [List.foldl_cons]
    generalize r.foldl min (min a b) = m at h1 h2 h3
    refine ⟨?_, by omega, fun y hy => ?_⟩
    · rcases h1 with h1 | h1
      · rcases Int.le_total a b with h | h
        · left; omega
        · right; rw [h1, Int.min_eq_right h]; simp
      · right; simp [h1]
    · rcases List.mem_cons.1 hy with rfl | hy
      · omega
      · exact h3 y hy
theorem max_mem : ∀ (r : List Int) (a : Int), (r.foldl max a = a ∨ r.foldl max a ∈ r) ∧ a ≤ r.foldl max a ∧ ∀ y ∈ r, y ≤ r.foldl max a
  | [], a => by simp
  | b :: r, a => by
    obtain ⟨h1, h2, h3⟩ := max_mem r (max a b)
    rw [List.foldl_cons]
    generalize r.foldl max (max a b) = m at h1 h2 h3
    refine ⟨?_, by omega, fun y hy => ?_⟩
    · rcases h1 with h1 | h1
      · rcases Int.le_total a b with h | h
        · right; rw [h1, Int.max_eq_right h]; simp
        · left; omega
      · right; simp [h1]
    · rcases List.mem_cons.1 hy with rfl | hy
      · omega
      · exact h3 y hy
theorem ext2_list (a : Int) (r : List Int) : Ext2 (fun y => y ∈ a :: r) (minL (a :: r)) (maxL (a :: r)) := by
  obtain ⟨h1, h2, h3⟩ := min_mem r a
  obtain ⟨g1, g2, g3⟩ := max_mem r a
  have e1 : minL (a :: r) = r.foldl min a := rfl
  have e2 : maxL (a :: r) = r.foldl max a := rfl
  rw [e1, e2]
  refine ⟨?_, fun y hy => ?_, ?_, fun y hy => ?_⟩
  · rcases h1 with h1 | h1
    · rw [h1]; simp
    · exact List.mem_cons_of_mem _ h1
  · rcases List.mem_cons.1 hy with rfl | hy
    · exact h2
    · exact h3 y hy
  · rcases g1 with g1 | g1
    · rw [g1]; simp
    · exact List.mem_cons_of_mem _ g1
  · rcases List.mem_cons.1 hy with rfl | hy
    · exact g2
    · exact g3 y hy
theorem snF_fold (f : Fil) (x : Int) : ∀ (T : List (List Int)) (s : Sn) (S : Int → Prop), (s.found = false → ∀ y, ¬ S y) → (s.found = true → Ext2 S s.lo s.hi) →
    ((T.foldl (snF f x) s).found = false → ∀ y, ¬ (S y ∨ ∃ t ∈ T, own f t = (x, y))) ∧ ((T.foldl (snF f x) s).found = true → Ext2 (fun y => S y ∨ ∃ t ∈ T, own f t = (x, y)) (T.foldl (snF f x) s).lo (T.foldl (snF f x) s).hi)
  | [], s, S, h1, h2 => by simpa using ⟨h1, h2⟩
  | t :: T, s, S, h1, h2 => by
    rw [List.foldl_cons]
    have key : ((snF f x s t).found = false → ∀ y, ¬ (S y ∨ own f t = (x, y))) ∧ ((snF f x s t).found = true → Ext2 (fun y => S y ∨ own f t = (x, y)) (snF f x s t).lo (snF f x s t).hi) := by
      unfold snF
      by_cases hx : (own f t).1 = x
      · rw [if_pos hx]
        have hxy : ∀ y, own f t = (x, y) ↔ y = (own f t).2 := fun y => by
          constructor
          · intro h; rw [h]
          · intro h; rw [h, ← hx]
        simp only [hxy]
        generalize (own f t).2 = z
        refine ⟨by simp, fun _ => ?_⟩
        cases hf : s.found
        · have h1 := h1 hf
          simp only [true_or, if_true]
          exact ⟨.inr rfl, fun y hy => by rcases hy with hy | rfl; exact absurd hy (h1 y); exact Int.le_refl _, .inr rfl, fun y hy => by rcases hy with hy | rfl; exact absurd hy (h1 y); exact Int.le_refl _⟩
        · obtain ⟨a1, a2, a3, a4⟩ := h2 hf
          simp only [Bool.true_eq_false, false_or]
          refine ⟨?_, fun y hy => ?_, ?_, fun y hy => ?_⟩
          · split
            · exact .inr rfl
            · exact .inl a1
          · rcases hy with hy | rfl
            · have := a2 y hy; split <;> omega
            · split <;> omega
          · split
            · exact .inr rfl
            · exact .inl a3
          · rcases hy with hy | rfl
            · have := a4 y hy; split <;> omega
            · split <;> omega
      · rw [if_neg hx]
        have hxy : ∀ y, ¬ own f t = (x, y) := fun y h => hx (by rw [h])
        simp only [hxy, or_false]
        exact ⟨h1, h2⟩
    have := snF_fold f x T (snF f x s t) (fun y => S y ∨ own f t = (x, y)) key.1 key.2
    simpa [or_assoc] using this
theorem sn_spec (f : Fil) (x : Int) : ((sn f x).found = false → ∀ y, ¬ ∃ t ∈ tru f.ps, own f t = (x, y)) ∧ ((sn f x).found = true → Ext2 (fun y => ∃ t ∈ tru f.ps, own f t = (x, y)) (sn f x).lo (sn f x).hi) := by
  have := snF_fold f x (tru f.ps) ⟨false, 0, 0⟩ (fun _ => False) (fun _ _ h => h) (fun h => by cases h)
  simpa [sn] using this
theorem sinL_mem {f : Fil} (h0 : chk f = 0) (x y : Int) : y ∈ sinL x (gone f).2 ↔ ∃ t ∈ tru f.ps, own f t = (x, y) := by
  have K := kinv f f.ps.length (Nat.le_refl _)
  have hT : f.ps.take f.ps.length = f.ps := List.take_length
  unfold sinL
  rw [gone_eq]
  simp only [List.mem_map, List.mem_filter, decide_eq_true_eq]
  constructor
  · rintro ⟨e, ⟨he, rfl⟩, rfl⟩
    obtain ⟨t, ht, hte⟩ := K.out e he
    rw [hT] at ht
    have := own_end (tru_okt h0 ht)
    rw [hte] at this
    exact ⟨t, ht, this.symm⟩
  · rintro ⟨t, ht, hx⟩
    have h1 := K.into t (by rw [hT]; exact ht)
    have := own_end (tru_okt h0 ht)
    rw [hx] at this
    injection this with e1 e2
    exact ⟨_, ⟨h1, e1⟩, e2⟩
theorem vc_Since (f : Fil) (x : Int) (h : Hp) (hn : f.ps.length ≤ 4000000) : VC Try.prog 22 [vF f, I x] h (sinceR f x) h := by
  have hre : ∀ e, sinceE f x = e → e ≠ 0 → sinceR f x = .tuple [.agg [I 0, I 0], I e] := fun e he h0 => by unfold sinceR; rw [he, decide_eq_false h0]; rfl
  by_cases h0 : chk f = 0
  case neg =>
    rw [hre (chk f) (if_pos h0) h0]
    refine VC.body Try.func22 rfl Try.ntmps22 Try.call22 (h.grows_refl) rfl ?_; conv => whnf
    repeat' (first | (refine VLd.intro rfl ?_; conv => whnf) | (refine VArith.i64 (by omega) ?_; conv => whnf) | (refine VNeed.intro (by first | rfl | (simp; omega)) ?_; conv => whnf) | (refine VMem.store rfl rfl rfl rfl ?_; conv => whnf) | (refine VSame.intro rfl ?_; conv => whnf) | (refine VDraw.go [] (by kernel_rfl) (by kernel_rfl) ?_; conv => whnf) | (refine VIte.dec (fun _ => ?_) (fun _ => ?_) <;> conv => whnf) | (refine VIte.ndec (fun _ => ?_) (fun _ => ?_) <;> conv => whnf) | (refine VIte.beq (fun _ => ?_) (fun _ => ?_) <;> conv => whnf) | (refine VIte.bne (fun _ => ?_) (fun _ => ?_) <;> conv => whnf) | (refine VIte.intro (fun _ => ?_) (fun _ => ?_) <;> conv => whnf) | (refine VCall.intro (vc_check f _ hn) ?_; conv => whnf))
    all_goals first | exact VOut.same rfl | (exfalso; omega)
  case pos =>
    have he2 : sinceE f x = if x < 0 ∨ 1 < x then 4 else bif (sn f x).found then 0 else 7 := by unfold sinceE; rw [if_neg (by simpa using h0)]
    by_cases h1 : x < 0 ∨ 1 < x
    · rw [if_pos h1] at he2
      rw [hre 4 he2 (by decide)]
      have hS : ∀ h, VC Try.prog 34 [vF f] h (I 0) h := fun h => h0 ▸ vc_check f h hn
      refine VC.body Try.func22 rfl Try.ntmps22 Try.call22 (h.grows_refl) rfl ?_; conv => whnf
      repeat' (first | (refine VLd.intro rfl ?_; conv => whnf) | (refine VArith.i64 (by omega) ?_; conv => whnf) | (refine VNeed.intro (by first | rfl | (simp; omega)) ?_; conv => whnf) | (refine VMem.store rfl rfl rfl rfl ?_; conv => whnf) | (refine VSame.intro rfl ?_; conv => whnf) | (refine VDraw.go [] (by kernel_rfl) (by kernel_rfl) ?_; conv => whnf) | (refine VIte.dec (fun _ => ?_) (fun _ => ?_) <;> conv => whnf) | (refine VIte.ndec (fun _ => ?_) (fun _ => ?_) <;> conv => whnf) | (refine VIte.beq (fun _ => ?_) (fun _ => ?_) <;> conv => whnf) | (refine VIte.bne (fun _ => ?_) (fun _ => ?_) <;> conv => whnf) | (refine VIte.intro (fun _ => ?_) (fun _ => ?_) <;> conv => whnf) | (refine VCall.intro (hS _) ?_; conv => whnf) | (refine VCall.intro (vc_from _ _ _ _) ?_; conv => whnf))
      all_goals first | exact VOut.same rfl | (exfalso; omega)
    · rw [if_neg h1] at he2
      have hm := sinL_mem h0 x
      obtain ⟨s1, s2⟩ := sn_spec f x
      have := vc_SinceG f x h h0 (by omega)
      cases hs : sinL x (gone f).2 with
      | nil =>
        rw [hs] at this
        have hf : (sn f x).found = false := by
          cases hf : (sn f x).found
          · rfl
          · have := (hm _).2 (s2 hf).lo1
            rw [hs] at this; cases this
        rw [hf] at he2
        rw [hre 7 he2 (by decide)]
        exact this
      | cons a r =>
        rw [hs] at this hm
        have hf : (sn f x).found = true := by
          cases hf : (sn f x).found
          · exact absurd ((hm a).1 (by simp)) (s1 hf a)
          · rfl
        have e := ext2_list a r
        have : (fun y => y ∈ a :: r) = fun y => ∃ t ∈ tru f.ps, own f t = (x, y) := funext fun y => propext (hm y)
        rw [this] at e
        obtain ⟨e1, e2⟩ := e.uniq (s2 hf)
        rw [hf] at he2
        have he3 : sinceE f x = 0 := he2
        unfold sinceR
        rw [he3, decide_eq_true rfl, ← e1, ← e2]
        assumption
end Go.Proofs.Ytolnajnlcdacmaa

open Go.Vm
namespace Go.Proofs.Ytolnajnlcdacmaa
set_option maxRecDepth 20000
set_option maxHeartbeats 2000000

theorem VOut.own1 {h : Hp} {loc : List Blk} {esz n : Nat} {ds : List D} (j L : Nat) (hL : Nat.ble loc.length L = true) (hj : loc[j]? = some (.flat true ds)) : VOut h ⟨h.lift, loc⟩ (.gl (.loc j) esz n) (.gl h.fresh esz n) (h.push (.flat true ds)) := by
  refine VOut.upd [] [.flat true ds] [j] L hL (by intro p hp; cases hp) (by simp) rfl ?_ ?_ rfl
  · intro k b hk
    cases k with
    | zero => rw [List.getElem?_cons_zero, Option.some.injEq] at hk; subst hk; exact ⟨j, rfl, hj⟩
    | succ k => simp at hk
  · intro σ x hx
    have : (V.gl h.fresh esz n).ren (backR h.loc.length [j] L) = .gl (.loc j) esz n := by simp [V.ren, backR, Hp.fresh]
    rw [this]; exact hx
theorem VOut.own2 {h : Hp} {loc : List Blk} {esz n : Nat} {ds : List D} {s : S} (j L : Nat) (hL : Nat.ble loc.length L = true) (hj : loc[j]? = some (.flat true ds)) : VOut h ⟨h.lift, loc⟩ (.tuple [.gl (.loc j) esz n, .s s]) (.tuple [.gl h.fresh esz n, .s s]) (h.push (.flat true ds)) := by
  refine VOut.upd [] [.flat true ds] [j] L hL (by intro p hp; cases hp) (by simp) rfl ?_ ?_ rfl
  · intro k b hk
    cases k with
    | zero => rw [List.getElem?_cons_zero, Option.some.injEq] at hk; subst hk; exact ⟨j, rfl, hj⟩
    | succ k => simp at hk
  · intro σ x hx
    have : (V.tuple [.gl h.fresh esz n, .s s]).ren (backR h.loc.length [j] L) = .tuple [.gl (.loc j) esz n, .s s] := by simp [V.ren, V.rens, backR, Hp.fresh]
    rw [this]; exact hx
theorem VOut.own3 {h : Hp} {loc : List Blk} {esz n : Nat} {ds : List D} {a b : S} (j L : Nat) (hL : Nat.ble loc.length L = true) (hj : loc[j]? = some (.flat true ds)) : VOut h ⟨h.lift, loc⟩ (.agg [.s a, .s b, .gl (.loc j) esz n]) (.agg [.s a, .s b, .gl h.fresh esz n]) (h.push (.flat true ds)) := by
  refine VOut.upd [] [.flat true ds] [j] L hL (by intro p hp; cases hp) (by simp) rfl ?_ ?_ rfl
  · intro k b hk
    cases k with
    | zero => rw [List.getElem?_cons_zero, Option.some.injEq] at hk; subst hk; exact ⟨j, rfl, hj⟩
    | succ k => simp at hk
  · intro σ x hx
    have : (V.agg [.s a, .s b, .gl h.fresh esz n]).ren (backR h.loc.length [j] L) = .agg [.s a, .s b, .gl (.loc j) esz n] := by simp [V.ren, V.rens, backR, Hp.fresh]
    rw [this]; exact hx
theorem vc_darisesO (f : Fil) (t : List Int) (h : Hp) (o : Okt f t) : VC Try.prog 69 [.fp (encDk f t)] h (.gl h.fresh 1 (arL f t).length) (h.push (.flat true ((arL f t).flatMap encI))) := by
  have hn := o.n
  have hlen := o.len
  unfold arL
  refine VC.body Try.func69 rfl Try.ntmps69 Try.call69 (h.grows_push _) rfl ?_
  conv => whnf
  repeat (first | (refine VLd.intro rfl ?_; conv => whnf) | (refine VArith.i64 (by omega) ?_; conv => whnf) | (refine VNeed.intro (by first | rfl | (simp; omega)) ?_; conv => whnf) | (refine VMem.store rfl rfl rfl rfl ?_; conv => whnf) | (refine VSame.intro rfl ?_; conv => whnf) | (refine VDraw.go [] (by kernel_rfl) (by kernel_rfl) ?_; conv => whnf))
  refine VCode.lp (fun k : Nat => [(0, .fp (encDk f t)), (3, .gl (.loc 0) 1 (selS (arB f t) k).length), (11, I t.length), (12, I k)]) (fun k => [.flat true ((selS (arB f t) k).flatMap encI)]) (fun k => k ≤ t.length) (fun k => t.length - k) 0 (Nat.zero_le _) ?_ ?_
  · conv => whnf
    refine Retell.turn ⟨[0], 0, [], []⟩ (TurnOk.mk' _ _ [] [] (OutOk.lift _) rfl (by decide) (by repeat' (first | exact BTos.nil | refine BTos.flat rfl rfl (by first | rfl | simp) ?_ | refine BTos.new rfl ?_ | refine BTos.dead rfl rfl ?_ | refine BTos.esE rfl rfl ?_ | refine BTos.row rfl rfl rfl (RowTo.snoc (RowTo.one rfl (by simp))) ?_ | refine BTos.cells rfl rfl rfl (by repeat' (first | exact VTo.undef | exact FrTo.leaf | refine FrTo.node ?_ ?_ ?_ | refine FrTo.none ?_ ?_ | exact VTo.sc (by first | rfl | (congr 1; omega) | (congr 1; simp; omega)) | exact VTos_dv _ _ | refine VTos.cons ?_ ?_ | exact VTos.nil | refine VTo.agg ?_ | refine VTo.tuple ?_ | refine VTo.func ?_ ?_ | exact VTo.fs | exact VTo.fp | exact VTo.nilptr | exact VTo.nilslice | exact VTo.nilfunc | exact VTo.ptr rfl | exact VTo.gl rfl | exact VTo.map rfl | exact VTo.yld rfl | exact VTo.fmMap rfl | exact VTo.fm | exact VTo.glNil' (by decide) rfl rfl | exact VTo.fsNil (by decide) | exact VTo.fsSl rfl rfl (by simp [flat_len encE_len]) | exact VTo.fpPtr rfl | exact VTo.fsGl rfl (by first | rfl | exact flat_len encI_len _ | exact flat_len encS_len _ | exact flat_len encP_len _ | exact flat_len encL_len _ | exact flat_len encE_len _ | (simp [flat_len encP_len]; done) | simp [flat_len encI_len, flat_len encS_len]))) ?_)) trivial trivial rfl) (by repeat' (first | exact VTo.undef | exact FrTo.leaf | refine FrTo.node ?_ ?_ ?_ | refine FrTo.none ?_ ?_ | exact VTo.sc (by first | rfl | (congr 1; omega) | (congr 1; simp; omega)) | exact VTos_dv _ _ | refine VTos.cons ?_ ?_ | exact VTos.nil | refine VTo.agg ?_ | refine VTo.tuple ?_ | refine VTo.func ?_ ?_ | exact VTo.fs | exact VTo.fp | exact VTo.nilptr | exact VTo.nilslice | exact VTo.nilfunc | exact VTo.ptr rfl | exact VTo.gl rfl | exact VTo.map rfl | exact VTo.yld rfl | exact VTo.fmMap rfl | exact VTo.fm | exact VTo.glNil' (by decide) rfl rfl | exact VTo.fsNil (by decide) | exact VTo.fsSl rfl rfl (by simp [flat_len encE_len]) | exact VTo.fpPtr rfl | exact VTo.fsGl rfl (by first | rfl | exact flat_len encI_len _ | exact flat_len encS_len _ | exact flat_len encP_len _ | exact flat_len encL_len _ | exact flat_len encE_len _ | (simp [flat_len encP_len]; done) | simp [flat_len encI_len, flat_len encS_len]))) (by first | rfl | (repeat' (first | exact MkTo.nil | refine MkTo.keep rfl ?_ | refine MkTo.drop (by decide) rfl ?_)))
  · intro k hk
    have hsl := selS_len (arB f t) k
    conv => whnf
    refine VIte.dec (fun h3 => ?_) (fun h3 => ?_)
    · conv => whnf
      repeat (first | (refine VLd.intro rfl ?_; conv => whnf) | (refine VArith.i64 (by omega) ?_; conv => whnf) | (refine VNeed.intro (by first | rfl | (simp; omega)) ?_; conv => whnf) | (refine VMem.store rfl rfl rfl rfl ?_; conv => whnf) | (refine VSame.intro rfl ?_; conv => whnf) | (refine VDraw.go [] (by kernel_rfl) (by kernel_rfl) ?_; conv => whnf))
      refine VCall.intro (vc_chn f t k _ o) ?_
      cases ha : arB f t k
      · rw [chn_none o (by omega) ha]
        conv => whnf
        repeat (first | (refine VLd.intro rfl ?_; conv => whnf) | (refine VArith.i64 (by omega) ?_; conv => whnf) | (refine VNeed.intro (by first | rfl | (simp; omega)) ?_; conv => whnf) | (refine VMem.store rfl rfl rfl rfl ?_; conv => whnf) | (refine VSame.intro rfl ?_; conv => whnf) | (refine VDraw.go [] (by kernel_rfl) (by kernel_rfl) ?_; conv => whnf))
        refine LEnd.intro (k + 1) (by omega) (by omega) ?_
        conv => whnf
        rw [selS, ha, if_neg (by simp)]
        refine Retell.turn ⟨[0], 2, [], []⟩ (TurnOk.mk' _ _ [] [] (OutOk.lift _) rfl (by decide) (by repeat' (first | exact BTos.nil | refine BTos.flat rfl rfl (by first | rfl | simp) ?_ | refine BTos.new rfl ?_ | refine BTos.dead rfl rfl ?_ | refine BTos.esE rfl rfl ?_ | refine BTos.row rfl rfl rfl (RowTo.snoc (RowTo.one rfl (by simp))) ?_ | refine BTos.cells rfl rfl rfl (by repeat' (first | exact VTo.undef | exact FrTo.leaf | refine FrTo.node ?_ ?_ ?_ | refine FrTo.none ?_ ?_ | exact VTo.sc (by first | rfl | (congr 1; omega) | (congr 1; simp; omega)) | exact VTos_dv _ _ | refine VTos.cons ?_ ?_ | exact VTos.nil | refine VTo.agg ?_ | refine VTo.tuple ?_ | refine VTo.func ?_ ?_ | exact VTo.fs | exact VTo.fp | exact VTo.nilptr | exact VTo.nilslice | exact VTo.nilfunc | exact VTo.ptr rfl | exact VTo.gl rfl | exact VTo.map rfl | exact VTo.yld rfl | exact VTo.fmMap rfl | exact VTo.fm | exact VTo.glNil' (by decide) rfl rfl | exact VTo.fsNil (by decide) | exact VTo.fsSl rfl rfl (by simp [flat_len encE_len]) | exact VTo.fpPtr rfl | exact VTo.fsGl rfl (by first | rfl | exact flat_len encI_len _ | exact flat_len encS_len _ | exact flat_len encP_len _ | exact flat_len encL_len _ | exact flat_len encE_len _ | (simp [flat_len encP_len]; done) | simp [flat_len encI_len, flat_len encS_len]))) ?_)) trivial trivial rfl) (by repeat' (first | exact VTo.undef | exact FrTo.leaf | refine FrTo.node ?_ ?_ ?_ | refine FrTo.none ?_ ?_ | exact VTo.sc (by first | rfl | (congr 1; omega) | (congr 1; simp; omega)) | exact VTos_dv _ _ | refine VTos.cons ?_ ?_ | exact VTos.nil | refine VTo.agg ?_ | refine VTo.tuple ?_ | refine VTo.func ?_ ?_ | exact VTo.fs | exact VTo.fp | exact VTo.nilptr | exact VTo.nilslice | exact VTo.nilfunc | exact VTo.ptr rfl | exact VTo.gl rfl | exact VTo.map rfl | exact VTo.yld rfl | exact VTo.fmMap rfl | exact VTo.fm | exact VTo.glNil' (by decide) rfl rfl | exact VTo.fsNil (by decide) | exact VTo.fsSl rfl rfl (by simp [flat_len encE_len]) | exact VTo.fpPtr rfl | exact VTo.fsGl rfl (by first | rfl | exact flat_len encI_len _ | exact flat_len encS_len _ | exact flat_len encP_len _ | exact flat_len encL_len _ | exact flat_len encE_len _ | (simp [flat_len encP_len]; done) | simp [flat_len encI_len, flat_len encS_len]))) (by first | rfl | (repeat' (first | exact MkTo.nil | refine MkTo.keep rfl ?_ | refine MkTo.drop (by decide) rfl ?_)))
      · obtain ⟨hi, hc, _⟩ := chn_some o (by omega) ha
        rw [hc]
        conv => whnf
        repeat (first | (refine VLd.intro rfl ?_; conv => whnf) | (refine VArith.i64 (by omega) ?_; conv => whnf) | (refine VNeed.intro (by first | rfl | (simp; omega)) ?_; conv => whnf) | (refine VMem.store rfl rfl rfl rfl ?_; conv => whnf) | (refine VSame.intro rfl ?_; conv => whnf) | (refine VDraw.go [] (by kernel_rfl) (by kernel_rfl) ?_; conv => whnf))
        refine VMem.app1 (k : Int) encI_len rfl rfl rfl rfl rfl (by omega) ?_
        conv => whnf
        repeat (first | (refine VLd.intro rfl ?_; conv => whnf) | (refine VArith.i64 (by omega) ?_; conv => whnf) | (refine VNeed.intro (by first | rfl | (simp; omega)) ?_; conv => whnf) | (refine VMem.store rfl rfl rfl rfl ?_; conv => whnf) | (refine VSame.intro rfl ?_; conv => whnf) | (refine VDraw.go [] (by kernel_rfl) (by kernel_rfl) ?_; conv => whnf))
        refine LEnd.intro (k + 1) (by omega) (by omega) ?_
        conv => whnf
        rw [selS, ha, if_pos rfl, List.length_append]
        refine Retell.turn ⟨[3], 4, [], []⟩ (TurnOk.mk' _ _ [] [] (OutOk.lift _) rfl (by decide) (by repeat' (first | exact BTos.nil | refine BTos.flat rfl rfl (by first | rfl | simp) ?_ | refine BTos.new rfl ?_ | refine BTos.dead rfl rfl ?_ | refine BTos.esE rfl rfl ?_ | refine BTos.row rfl rfl rfl (RowTo.snoc (RowTo.one rfl (by simp))) ?_ | refine BTos.cells rfl rfl rfl (by repeat' (first | exact VTo.undef | exact FrTo.leaf | refine FrTo.node ?_ ?_ ?_ | refine FrTo.none ?_ ?_ | exact VTo.sc (by first | rfl | (congr 1; omega) | (congr 1; simp; omega)) | exact VTos_dv _ _ | refine VTos.cons ?_ ?_ | exact VTos.nil | refine VTo.agg ?_ | refine VTo.tuple ?_ | refine VTo.func ?_ ?_ | exact VTo.fs | exact VTo.fp | exact VTo.nilptr | exact VTo.nilslice | exact VTo.nilfunc | exact VTo.ptr rfl | exact VTo.gl rfl | exact VTo.map rfl | exact VTo.yld rfl | exact VTo.fmMap rfl | exact VTo.fm | exact VTo.glNil' (by decide) rfl rfl | exact VTo.fsNil (by decide) | exact VTo.fsSl rfl rfl (by simp [flat_len encE_len]) | exact VTo.fpPtr rfl | exact VTo.fsGl rfl (by first | rfl | exact flat_len encI_len _ | exact flat_len encS_len _ | exact flat_len encP_len _ | exact flat_len encL_len _ | exact flat_len encE_len _ | (simp [flat_len encP_len]; done) | simp [flat_len encI_len, flat_len encS_len]))) ?_)) trivial trivial rfl) (by repeat' (first | exact VTo.undef | exact FrTo.leaf | refine FrTo.node ?_ ?_ ?_ | refine FrTo.none ?_ ?_ | exact VTo.sc (by first | rfl | (congr 1; omega) | (congr 1; simp; omega)) | exact VTos_dv _ _ | refine VTos.cons ?_ ?_ | exact VTos.nil | refine VTo.agg ?_ | refine VTo.tuple ?_ | refine VTo.func ?_ ?_ | exact VTo.fs | exact VTo.fp | exact VTo.nilptr | exact VTo.nilslice | exact VTo.nilfunc | exact VTo.ptr rfl | exact VTo.gl rfl | exact VTo.map rfl | exact VTo.yld rfl | exact VTo.fmMap rfl | exact VTo.fm | exact VTo.glNil' (by decide) rfl rfl | exact VTo.fsNil (by decide) | exact VTo.fsSl rfl rfl (by simp [flat_len encE_len]) | exact VTo.fpPtr rfl | exact VTo.fsGl rfl (by first | rfl | exact flat_len encI_len _ | exact flat_len encS_len _ | exact flat_len encP_len _ | exact flat_len encL_len _ | exact flat_len encE_len _ | (simp [flat_len encP_len]; done) | simp [flat_len encI_len, flat_len encS_len]))) (by first | rfl | (repeat' (first | exact MkTo.nil | refine MkTo.keep rfl ?_ | refine MkTo.drop (by decide) rfl ?_)))
    · conv => whnf
      have hk' : k = t.length := by omega
      subst hk'
      repeat (first | (refine VLd.intro rfl ?_; conv => whnf) | (refine VArith.i64 (by omega) ?_; conv => whnf) | (refine VNeed.intro (by first | rfl | (simp; omega)) ?_; conv => whnf) | (refine VMem.store rfl rfl rfl rfl ?_; conv => whnf) | (refine VSame.intro rfl ?_; conv => whnf) | (refine VDraw.go [] (by kernel_rfl) (by kernel_rfl) ?_; conv => whnf))
      exact VOut.own1 0 1 rfl rfl
theorem vc_ArisesO (f : Fil) (t : List Int) (h : Hp) (hn : f.ps.length ≤ 4000000) (hl : t.length ≤ 4000000) (h0 : toldE f t = 0) : VC Try.prog 29 [vF f, ints t] h (.tuple [.gl h.fresh 1 (arL f t).length, I 0]) (h.push (.flat true ((arL f t).flatMap encI))) := by
  refine VC.body Try.func29 rfl Try.ntmps29 Try.call29 (h.grows_push _) rfl ?_
  conv => whnf
  repeat' (first | (refine VLd.intro rfl ?_; conv => whnf) | (refine VArith.i64 (by omega) ?_; conv => whnf) | (refine VNeed.intro (by first | rfl | (simp; omega)) ?_; conv => whnf) | (refine VMem.store rfl rfl rfl rfl ?_; conv => whnf) | (refine VSame.intro rfl ?_; conv => whnf) | (refine VDraw.go [] (by kernel_rfl) (by kernel_rfl) ?_; conv => whnf) | (refine VIte.dec (fun _ => ?_) (fun _ => ?_) <;> conv => whnf) | (refine VIte.ndec (fun _ => ?_) (fun _ => ?_) <;> conv => whnf) | (refine VIte.beq (fun _ => ?_) (fun _ => ?_) <;> conv => whnf) | (refine VIte.bne (fun _ => ?_) (fun _ => ?_) <;> conv => whnf) | (refine VIte.intro (fun _ => ?_) (fun _ => ?_) <;> conv => whnf) | (refine VCall.intro (vc_begun_ok f t _ hn hl h0) ?_; conv => whnf))
  refine VCall.intro (vc_darisesO f t _ (told_ok h0)) ?_
  conv => whnf
  repeat (first | (refine VLd.intro rfl ?_; conv => whnf) | (refine VArith.i64 (by omega) ?_; conv => whnf) | (refine VNeed.intro (by first | rfl | (simp; omega)) ?_; conv => whnf) | (refine VMem.store rfl rfl rfl rfl ?_; conv => whnf) | (refine VSame.intro rfl ?_; conv => whnf) | (refine VDraw.go [] (by kernel_rfl) (by kernel_rfl) ?_; conv => whnf))
  exact VOut.own2 1 2 rfl rfl
theorem vc_FewestO (f : Fil) (t : List Int) (p : Nat) (h : Hp) (hl : t.length ≤ 4000000) (h0 : toldE f t = 0) (o : Shw f t p) : VC Try.prog 30 [vF f, ints t, I p] h (.tuple [.gl h.fresh 1 (few f t p).length, I 0]) (h.push (.flat true ((few f t p).flatMap encI))) := by
  have hlen := o.len
  have hn' := o.n
  have hlt := o.lt
  have hY := o.y
  obtain ⟨hi, c⟩ := InCh.of o
  have hfar := o.far
  have hph := c.ph
  have hhl := c.hl
  have hfl := fst_le f t p
  have hfin : few f t p = (fewS f t (fst f t p) p p p).reverse := rfl
  have hff : tAt t (fst f t p) ≤ tAt t p := by omega
  rw [hfin]
  have hfl2 := fewS_len f t (fst f t p) p p p
  obtain ⟨F, hF⟩ : ∃ F, F = fewS f t (fst f t p) p p p := ⟨_, rfl⟩
  rw [← hF] at hfl2 ⊢
  obtain ⟨lo, hlo⟩ : ∃ lo, lo = fst f t p := ⟨_, rfl⟩
  refine VC.body Try.func30 rfl Try.ntmps30 Try.call30 (h.grows_push _) rfl ?_
  conv => whnf
  repeat' (first | (refine VLd.intro rfl ?_; conv => whnf) | (refine VArith.i64 (by omega) ?_; conv => whnf) | (refine VNeed.intro (by first | rfl | (simp; omega)) ?_; conv => whnf) | (refine VMem.store rfl rfl rfl rfl ?_; conv => whnf) | (refine VSame.intro rfl ?_; conv => whnf) | (refine VDraw.go [] (by kernel_rfl) (by kernel_rfl) ?_; conv => whnf) | (refine VIte.dec (fun _ => ?_) (fun _ => ?_) <;> conv => whnf) | (refine VIte.ndec (fun _ => ?_) (fun _ => ?_) <;> conv => whnf) | (refine VIte.beq (fun _ => ?_) (fun _ => ?_) <;> conv => whnf) | (refine VIte.bne (fun _ => ?_) (fun _ => ?_) <;> conv => whnf) | (refine VIte.intro (fun _ => ?_) (fun _ => ?_) <;> conv => whnf) | (refine VCall.intro (vc_shown_ok f t p hi _ hl o h0 c.hc) ?_; conv => whnf))
  rw [← hlo] at hfl hfar hF hff ⊢
  refine VCode.lp (fun x : Nat × List Int => [(1, ints t), (2, I p), (8, .fp (encDk f t)), (9, .ptr (.loc 0) 0), (11, .gl (.loc 1) 1 (x.2 ++ [(x.1 : Int)]).length), (12, I x.1)])
    (fun x => [.flat true [DI lo, DI hi], .flat true ((x.2 ++ [(x.1 : Int)]).flatMap encI)]) (fun x => lo ≤ x.1 ∧ x.1 ≤ p ∧ ∃ n, x.1 ≤ n ∧ F = x.2 ++ fewS f t lo p n x.1) (fun x => x.1) (p, []) ⟨hfl, Nat.le_refl _, p, Nat.le_refl _, hF⟩ ?_ ?_
  · conv => whnf
    refine Retell.turn ⟨[1,2], 3, [], []⟩ (TurnOk.mk' _ _ [] [] (OutOk.lift _) rfl (by decide) (by repeat' (first | exact BTos.nil | refine BTos.flat rfl rfl (by first | rfl | simp) ?_ | refine BTos.new rfl ?_ | refine BTos.dead rfl rfl ?_ | refine BTos.esE rfl rfl ?_ | refine BTos.row rfl rfl rfl (RowTo.snoc (RowTo.one rfl (by simp))) ?_ | refine BTos.cells rfl rfl rfl (by repeat' (first | exact VTo.undef | exact FrTo.leaf | refine FrTo.node ?_ ?_ ?_ | refine FrTo.none ?_ ?_ | exact VTo.sc (by first | rfl | (congr 1; omega) | (congr 1; simp; omega)) | exact VTos_dv _ _ | refine VTos.cons ?_ ?_ | exact VTos.nil | refine VTo.agg ?_ | refine VTo.tuple ?_ | refine VTo.func ?_ ?_ | exact VTo.fs | exact VTo.fp | exact VTo.nilptr | exact VTo.nilslice | exact VTo.nilfunc | exact VTo.ptr rfl | exact VTo.gl rfl | exact VTo.map rfl | exact VTo.yld rfl | exact VTo.fmMap rfl | exact VTo.fm | exact VTo.glNil' (by decide) rfl rfl | exact VTo.fsNil (by decide) | exact VTo.fsSl rfl rfl (by simp [flat_len encE_len]) | exact VTo.fpPtr rfl | exact VTo.fsGl rfl (by first | rfl | exact flat_len encI_len _ | exact flat_len encS_len _ | exact flat_len encP_len _ | exact flat_len encL_len _ | exact flat_len encE_len _ | (simp [flat_len encP_len]; done) | simp [flat_len encI_len, flat_len encS_len]))) ?_)) trivial trivial rfl) (by repeat' (first | exact VTo.undef | exact FrTo.leaf | refine FrTo.node ?_ ?_ ?_ | refine FrTo.none ?_ ?_ | exact VTo.sc (by first | rfl | (congr 1; omega) | (congr 1; simp; omega)) | exact VTos_dv _ _ | refine VTos.cons ?_ ?_ | exact VTos.nil | refine VTo.agg ?_ | refine VTo.tuple ?_ | refine VTo.func ?_ ?_ | exact VTo.fs | exact VTo.fp | exact VTo.nilptr | exact VTo.nilslice | exact VTo.nilfunc | exact VTo.ptr rfl | exact VTo.gl rfl | exact VTo.map rfl | exact VTo.yld rfl | exact VTo.fmMap rfl | exact VTo.fm | exact VTo.glNil' (by decide) rfl rfl | exact VTo.fsNil (by decide) | exact VTo.fsSl rfl rfl (by simp [flat_len encE_len]) | exact VTo.fpPtr rfl | exact VTo.fsGl rfl (by first | rfl | exact flat_len encI_len _ | exact flat_len encS_len _ | exact flat_len encP_len _ | exact flat_len encL_len _ | exact flat_len encE_len _ | (simp [flat_len encP_len]; done) | simp [flat_len encI_len, flat_len encS_len]))) (by first | rfl | (repeat' (first | exact MkTo.nil | refine MkTo.keep rfl ?_ | refine MkTo.drop (by decide) rfl ?_)))
  · rintro ⟨a, pre⟩ ⟨h1, h2, n, h3, h4⟩
    simp only at h1 h2 h3 h4
    have ha : t[a]? = some t[a] := List.getElem?_eq_getElem (by omega)
    have hp : t[p]? = some t[p] := List.getElem?_eq_getElem (by omega)
    have b1 := o.yr ha
    have b2 := o.yr hp
    have e1 := tAt_eq ha
    have e2 := tAt_eq hp
    have hla : lo < a → jmp f t lo a a < a := by intro h5; have := c.jmp_lt (a := a) (by omega) (by omega); rw [← hlo] at this; exact this
    have hJ := jmp_ge f t lo a a h1
    generalize t[a] = y at ha b1 e1
    generalize t[p] = z at hp b2 e2
    conv => whnf
    repeat' (first | (refine VLd.intro rfl ?_; conv => whnf) | (refine VArith.i64 (by omega) ?_; conv => whnf) | (refine VNeed.intro (by first | rfl | (simp; omega)) ?_; conv => whnf) | (refine VMem.store rfl rfl rfl rfl ?_; conv => whnf) | (refine VSame.intro rfl ?_; conv => whnf) | (refine VDraw.go [] (by kernel_rfl) (by kernel_rfl) ?_; conv => whnf) | (refine VIte.dec (fun _ => ?_) (fun _ => ?_) <;> conv => whnf) | (refine VIte.ndec (fun _ => ?_) (fun _ => ?_) <;> conv => whnf) | (refine VIte.beq (fun _ => ?_) (fun _ => ?_) <;> conv => whnf) | (refine VIte.bne (fun _ => ?_) (fun _ => ?_) <;> conv => whnf) | (refine VIte.intro (fun _ => ?_) (fun _ => ?_) <;> conv => whnf) | (refine VAny.ix encI_len a rfl rfl ha ?_; conv => whnf) | (refine VAny.ix encI_len p rfl rfl hp ?_; conv => whnf))
    · rename_i h5
      have hlo2 : lo < a := by
        rcases Nat.eq_or_lt_of_le h1 with h6 | h6
        · subst h6; omega
        · exact h6
      have hja := hla hlo2
      obtain ⟨n, rfl⟩ : ∃ m, n = m + 1 := ⟨n - 1, by omega⟩
      rw [fewS, if_pos (by omega)] at h4
      obtain ⟨J, hJe⟩ : ∃ J, J = jmp f t lo a a := ⟨_, rfl⟩
      rw [← hJe] at h4 hja hJ
      have hpl : pre.length ≤ 16 := by
        have := congrArg List.length h4
        simp at this; omega
      refine VCode.lp (fun x : Nat => [(1, ints t), (2, I p), (8, .fp (encDk f t)), (9, .ptr (.loc 0) 0), (11, .gl (.loc 1) 1 (pre ++ [(a : Int)]).length), (12, I a), (13, I x)])
        (fun _ => [.flat true [DI lo, DI hi], .flat true ((pre ++ [(a : Int)]).flatMap encI)]) (fun x => lo ≤ x ∧ x ≤ a ∧ J = jmp f t lo a x) (fun x => x) a ⟨h1, Nat.le_refl _, hJe⟩ ?_ ?_
      · conv => whnf
        refine Retell.turn ⟨[0,1], 2, [], []⟩ (TurnOk.mk' _ _ [] [] (OutOk.lift _) rfl (by decide) (by repeat' (first | exact BTos.nil | refine BTos.flat rfl rfl (by first | rfl | simp) ?_ | refine BTos.new rfl ?_ | refine BTos.dead rfl rfl ?_ | refine BTos.esE rfl rfl ?_ | refine BTos.row rfl rfl rfl (RowTo.snoc (RowTo.one rfl (by simp))) ?_ | refine BTos.cells rfl rfl rfl (by repeat' (first | exact VTo.undef | exact FrTo.leaf | refine FrTo.node ?_ ?_ ?_ | refine FrTo.none ?_ ?_ | exact VTo.sc (by first | rfl | (congr 1; omega) | (congr 1; simp; omega)) | exact VTos_dv _ _ | refine VTos.cons ?_ ?_ | exact VTos.nil | refine VTo.agg ?_ | refine VTo.tuple ?_ | refine VTo.func ?_ ?_ | exact VTo.fs | exact VTo.fp | exact VTo.nilptr | exact VTo.nilslice | exact VTo.nilfunc | exact VTo.ptr rfl | exact VTo.gl rfl | exact VTo.map rfl | exact VTo.yld rfl | exact VTo.fmMap rfl | exact VTo.fm | exact VTo.glNil' (by decide) rfl rfl | exact VTo.fsNil (by decide) | exact VTo.fsSl rfl rfl (by simp [flat_len encE_len]) | exact VTo.fpPtr rfl | exact VTo.fsGl rfl (by first | rfl | exact flat_len encI_len _ | exact flat_len encS_len _ | exact flat_len encP_len _ | exact flat_len encL_len _ | exact flat_len encE_len _ | (simp [flat_len encP_len]; done) | simp [flat_len encI_len, flat_len encS_len]))) ?_)) trivial trivial rfl) (by repeat' (first | exact VTo.undef | exact FrTo.leaf | refine FrTo.node ?_ ?_ ?_ | refine FrTo.none ?_ ?_ | exact VTo.sc (by first | rfl | (congr 1; omega) | (congr 1; simp; omega)) | exact VTos_dv _ _ | refine VTos.cons ?_ ?_ | exact VTos.nil | refine VTo.agg ?_ | refine VTo.tuple ?_ | refine VTo.func ?_ ?_ | exact VTo.fs | exact VTo.fp | exact VTo.nilptr | exact VTo.nilslice | exact VTo.nilfunc | exact VTo.ptr rfl | exact VTo.gl rfl | exact VTo.map rfl | exact VTo.yld rfl | exact VTo.fmMap rfl | exact VTo.fm | exact VTo.glNil' (by decide) rfl rfl | exact VTo.fsNil (by decide) | exact VTo.fsSl rfl rfl (by simp [flat_len encE_len]) | exact VTo.fpPtr rfl | exact VTo.fsGl rfl (by first | rfl | exact flat_len encI_len _ | exact flat_len encS_len _ | exact flat_len encP_len _ | exact flat_len encL_len _ | exact flat_len encE_len _ | (simp [flat_len encP_len]; done) | simp [flat_len encI_len, flat_len encS_len]))) (by first | rfl | (repeat' (first | exact MkTo.nil | refine MkTo.keep rfl ?_ | refine MkTo.drop (by decide) rfl ?_)))
      · rintro x ⟨g1, g2, g3⟩
        have hx : t[x - 1]? = some t[x - 1] := List.getElem?_eq_getElem (by omega)
        have b3 := o.yr hx
        have e3 := tAt_eq hx
        generalize t[x - 1] = w at hx b3 e3
        have hne : ¬ (lo < x ∧ y - w ≤ f.G) → J = x := by
          intro hg
          rw [g3]
          cases x with
          | zero => rfl
          | succ x =>
            simp only [Nat.add_sub_cancel] at e3
            rw [jmp, if_neg (by omega)]
        have hfin2 : J = x → F = (pre ++ [(a : Int)]) ++ fewS f t lo p n x := by intro hg; rw [h4, hg, List.append_assoc]; rfl
        conv => whnf
        repeat' (first | (refine VLd.intro rfl ?_; conv => whnf) | (refine VArith.i64 (by omega) ?_; conv => whnf) | (refine VNeed.intro (by first | rfl | (simp; omega)) ?_; conv => whnf) | (refine VMem.store rfl rfl rfl rfl ?_; conv => whnf) | (refine VSame.intro rfl ?_; conv => whnf) | (refine VDraw.go [] (by kernel_rfl) (by kernel_rfl) ?_; conv => whnf) | (refine VIte.dec (fun _ => ?_) (fun _ => ?_) <;> conv => whnf) | (refine VIte.ndec (fun _ => ?_) (fun _ => ?_) <;> conv => whnf) | (refine VIte.beq (fun _ => ?_) (fun _ => ?_) <;> conv => whnf) | (refine VIte.bne (fun _ => ?_) (fun _ => ?_) <;> conv => whnf) | (refine VIte.intro (fun _ => ?_) (fun _ => ?_) <;> conv => whnf) | (refine VAny.ix encI_len a rfl rfl ha ?_; conv => whnf) | (refine VAny.ix encI_len (x - 1) (by omega) rfl hx ?_; conv => whnf))
        · obtain ⟨x, rfl⟩ : ∃ m, x = m + 1 := ⟨x - 1, by omega⟩
          simp only [Nat.add_sub_cancel] at e3
          rw [jmp, if_pos (by omega)] at g3
          refine LEnd.intro x ⟨by omega, by omega, g3⟩ (by omega) ?_
          conv => whnf
          refine Retell.turn ⟨[0,1], 2, [], []⟩ (TurnOk.mk' _ _ [] [] (OutOk.lift _) rfl (by decide) (by repeat' (first | exact BTos.nil | refine BTos.flat rfl rfl (by first | rfl | simp) ?_ | refine BTos.new rfl ?_ | refine BTos.dead rfl rfl ?_ | refine BTos.esE rfl rfl ?_ | refine BTos.row rfl rfl rfl (RowTo.snoc (RowTo.one rfl (by simp))) ?_ | refine BTos.cells rfl rfl rfl (by repeat' (first | exact VTo.undef | exact FrTo.leaf | refine FrTo.node ?_ ?_ ?_ | refine FrTo.none ?_ ?_ | exact VTo.sc (by first | rfl | (congr 1; omega) | (congr 1; simp; omega)) | exact VTos_dv _ _ | refine VTos.cons ?_ ?_ | exact VTos.nil | refine VTo.agg ?_ | refine VTo.tuple ?_ | refine VTo.func ?_ ?_ | exact VTo.fs | exact VTo.fp | exact VTo.nilptr | exact VTo.nilslice | exact VTo.nilfunc | exact VTo.ptr rfl | exact VTo.gl rfl | exact VTo.map rfl | exact VTo.yld rfl | exact VTo.fmMap rfl | exact VTo.fm | exact VTo.glNil' (by decide) rfl rfl | exact VTo.fsNil (by decide) | exact VTo.fsSl rfl rfl (by simp [flat_len encE_len]) | exact VTo.fpPtr rfl | exact VTo.fsGl rfl (by first | rfl | exact flat_len encI_len _ | exact flat_len encS_len _ | exact flat_len encP_len _ | exact flat_len encL_len _ | exact flat_len encE_len _ | (simp [flat_len encP_len]; done) | simp [flat_len encI_len, flat_len encS_len]))) ?_)) trivial trivial rfl) (by repeat' (first | exact VTo.undef | exact FrTo.leaf | refine FrTo.node ?_ ?_ ?_ | refine FrTo.none ?_ ?_ | exact VTo.sc (by first | rfl | (congr 1; omega) | (congr 1; simp; omega)) | exact VTos_dv _ _ | refine VTos.cons ?_ ?_ | exact VTos.nil | refine VTo.agg ?_ | refine VTo.tuple ?_ | refine VTo.func ?_ ?_ | exact VTo.fs | exact VTo.fp | exact VTo.nilptr | exact VTo.nilslice | exact VTo.nilfunc | exact VTo.ptr rfl | exact VTo.gl rfl | exact VTo.map rfl | exact VTo.yld rfl | exact VTo.fmMap rfl | exact VTo.fm | exact VTo.glNil' (by decide) rfl rfl | exact VTo.fsNil (by decide) | exact VTo.fsSl rfl rfl (by simp [flat_len encE_len]) | exact VTo.fpPtr rfl | exact VTo.fsGl rfl (by first | rfl | exact flat_len encI_len _ | exact flat_len encS_len _ | exact flat_len encP_len _ | exact flat_len encL_len _ | exact flat_len encE_len _ | (simp [flat_len encP_len]; done) | simp [flat_len encI_len, flat_len encS_len]))) (by first | rfl | (repeat' (first | exact MkTo.nil | refine MkTo.keep rfl ?_ | refine MkTo.drop (by decide) rfl ?_)))
        · have hJx := hne (by omega)
          refine VMem.app1 (x : Int) encI_len rfl rfl rfl rfl rfl (by simp; omega) ?_
          conv => whnf
          repeat (first | (refine VLd.intro rfl ?_; conv => whnf) | (refine VArith.i64 (by omega) ?_; conv => whnf) | (refine VNeed.intro (by first | rfl | (simp; omega)) ?_; conv => whnf) | (refine VMem.store rfl rfl rfl rfl ?_; conv => whnf) | (refine VSame.intro rfl ?_; conv => whnf) | (refine VDraw.go [] (by kernel_rfl) (by kernel_rfl) ?_; conv => whnf))
          refine LEnd.intro (x, pre ++ [(a : Int)]) ⟨by omega, by omega, n, by omega, hfin2 hJx⟩ (by simp only; omega) ?_
          conv => whnf
          rw [List.length_append (bs := [(x : Int)])]
          refine Retell.turn ⟨[0,3], 4, [], []⟩ (TurnOk.mk' _ _ [] [] (OutOk.lift _) rfl (by decide) (by repeat' (first | exact BTos.nil | refine BTos.flat rfl rfl (by first | rfl | simp) ?_ | refine BTos.new rfl ?_ | refine BTos.dead rfl rfl ?_ | refine BTos.esE rfl rfl ?_ | refine BTos.row rfl rfl rfl (RowTo.snoc (RowTo.one rfl (by simp))) ?_ | refine BTos.cells rfl rfl rfl (by repeat' (first | exact VTo.undef | exact FrTo.leaf | refine FrTo.node ?_ ?_ ?_ | refine FrTo.none ?_ ?_ | exact VTo.sc (by first | rfl | (congr 1; omega) | (congr 1; simp; omega)) | exact VTos_dv _ _ | refine VTos.cons ?_ ?_ | exact VTos.nil | refine VTo.agg ?_ | refine VTo.tuple ?_ | refine VTo.func ?_ ?_ | exact VTo.fs | exact VTo.fp | exact VTo.nilptr | exact VTo.nilslice | exact VTo.nilfunc | exact VTo.ptr rfl | exact VTo.gl rfl | exact VTo.map rfl | exact VTo.yld rfl | exact VTo.fmMap rfl | exact VTo.fm | exact VTo.glNil' (by decide) rfl rfl | exact VTo.fsNil (by decide) | exact VTo.fsSl rfl rfl (by simp [flat_len encE_len]) | exact VTo.fpPtr rfl | exact VTo.fsGl rfl (by first | rfl | exact flat_len encI_len _ | exact flat_len encS_len _ | exact flat_len encP_len _ | exact flat_len encL_len _ | exact flat_len encE_len _ | (simp [flat_len encP_len]; done) | simp [flat_len encI_len, flat_len encS_len]))) ?_)) trivial trivial rfl) (by repeat' (first | exact VTo.undef | exact FrTo.leaf | refine FrTo.node ?_ ?_ ?_ | refine FrTo.none ?_ ?_ | exact VTo.sc (by first | rfl | (congr 1; omega) | (congr 1; simp; omega)) | exact VTos_dv _ _ | refine VTos.cons ?_ ?_ | exact VTos.nil | refine VTo.agg ?_ | refine VTo.tuple ?_ | refine VTo.func ?_ ?_ | exact VTo.fs | exact VTo.fp | exact VTo.nilptr | exact VTo.nilslice | exact VTo.nilfunc | exact VTo.ptr rfl | exact VTo.gl rfl | exact VTo.map rfl | exact VTo.yld rfl | exact VTo.fmMap rfl | exact VTo.fm | exact VTo.glNil' (by decide) rfl rfl | exact VTo.fsNil (by decide) | exact VTo.fsSl rfl rfl (by simp [flat_len encE_len]) | exact VTo.fpPtr rfl | exact VTo.fsGl rfl (by first | rfl | exact flat_len encI_len _ | exact flat_len encS_len _ | exact flat_len encP_len _ | exact flat_len encL_len _ | exact flat_len encE_len _ | (simp [flat_len encP_len]; done) | simp [flat_len encI_len, flat_len encS_len]))) (by first | rfl | (repeat' (first | exact MkTo.nil | refine MkTo.keep rfl ?_ | refine MkTo.drop (by decide) rfl ?_)))
        · have hJx := hne (by omega)
          refine VMem.app1 (x : Int) encI_len rfl rfl rfl rfl rfl (by simp; omega) ?_
          conv => whnf
          repeat (first | (refine VLd.intro rfl ?_; conv => whnf) | (refine VArith.i64 (by omega) ?_; conv => whnf) | (refine VNeed.intro (by first | rfl | (simp; omega)) ?_; conv => whnf) | (refine VMem.store rfl rfl rfl rfl ?_; conv => whnf) | (refine VSame.intro rfl ?_; conv => whnf) | (refine VDraw.go [] (by kernel_rfl) (by kernel_rfl) ?_; conv => whnf))
          refine LEnd.intro (x, pre ++ [(a : Int)]) ⟨by omega, by omega, n, by omega, hfin2 hJx⟩ (by simp only; omega) ?_
          conv => whnf
          rw [List.length_append (bs := [(x : Int)])]
          refine Retell.turn ⟨[0,3], 4, [], []⟩ (TurnOk.mk' _ _ [] [] (OutOk.lift _) rfl (by decide) (by repeat' (first | exact BTos.nil | refine BTos.flat rfl rfl (by first | rfl | simp) ?_ | refine BTos.new rfl ?_ | refine BTos.dead rfl rfl ?_ | refine BTos.esE rfl rfl ?_ | refine BTos.row rfl rfl rfl (RowTo.snoc (RowTo.one rfl (by simp))) ?_ | refine BTos.cells rfl rfl rfl (by repeat' (first | exact VTo.undef | exact FrTo.leaf | refine FrTo.node ?_ ?_ ?_ | refine FrTo.none ?_ ?_ | exact VTo.sc (by first | rfl | (congr 1; omega) | (congr 1; simp; omega)) | exact VTos_dv _ _ | refine VTos.cons ?_ ?_ | exact VTos.nil | refine VTo.agg ?_ | refine VTo.tuple ?_ | refine VTo.func ?_ ?_ | exact VTo.fs | exact VTo.fp | exact VTo.nilptr | exact VTo.nilslice | exact VTo.nilfunc | exact VTo.ptr rfl | exact VTo.gl rfl | exact VTo.map rfl | exact VTo.yld rfl | exact VTo.fmMap rfl | exact VTo.fm | exact VTo.glNil' (by decide) rfl rfl | exact VTo.fsNil (by decide) | exact VTo.fsSl rfl rfl (by simp [flat_len encE_len]) | exact VTo.fpPtr rfl | exact VTo.fsGl rfl (by first | rfl | exact flat_len encI_len _ | exact flat_len encS_len _ | exact flat_len encP_len _ | exact flat_len encL_len _ | exact flat_len encE_len _ | (simp [flat_len encP_len]; done) | simp [flat_len encI_len, flat_len encS_len]))) ?_)) trivial trivial rfl) (by repeat' (first | exact VTo.undef | exact FrTo.leaf | refine FrTo.node ?_ ?_ ?_ | refine FrTo.none ?_ ?_ | exact VTo.sc (by first | rfl | (congr 1; omega) | (congr 1; simp; omega)) | exact VTos_dv _ _ | refine VTos.cons ?_ ?_ | exact VTos.nil | refine VTo.agg ?_ | refine VTo.tuple ?_ | refine VTo.func ?_ ?_ | exact VTo.fs | exact VTo.fp | exact VTo.nilptr | exact VTo.nilslice | exact VTo.nilfunc | exact VTo.ptr rfl | exact VTo.gl rfl | exact VTo.map rfl | exact VTo.yld rfl | exact VTo.fmMap rfl | exact VTo.fm | exact VTo.glNil' (by decide) rfl rfl | exact VTo.fsNil (by decide) | exact VTo.fsSl rfl rfl (by simp [flat_len encE_len]) | exact VTo.fpPtr rfl | exact VTo.fsGl rfl (by first | rfl | exact flat_len encI_len _ | exact flat_len encS_len _ | exact flat_len encP_len _ | exact flat_len encL_len _ | exact flat_len encE_len _ | (simp [flat_len encP_len]; done) | simp [flat_len encI_len, flat_len encS_len]))) (by first | rfl | (repeat' (first | exact MkTo.nil | refine MkTo.keep rfl ?_ | refine MkTo.drop (by decide) rfl ?_)))
    · have hF2 : F = pre ++ [(a : Int)] := by
        rw [h4]
        cases n with
        | zero => rfl
        | succ n => rw [fewS, if_neg (by omega)]
      rw [← hF2]
      refine VMem.make (n := F.length) (0 : Int) encI_len rfl rfl rfl rfl rfl rfl (by omega) ?_
      conv => whnf
      repeat (first | (refine VLd.intro rfl ?_; conv => whnf) | (refine VArith.i64 (by omega) ?_; conv => whnf) | (refine VNeed.intro (by first | rfl | (simp; omega)) ?_; conv => whnf) | (refine VMem.store rfl rfl rfl rfl ?_; conv => whnf) | (refine VSame.intro rfl ?_; conv => whnf) | (refine VDraw.go [] (by kernel_rfl) (by kernel_rfl) ?_; conv => whnf))
      refine VMem.copyGl (l2 := F) encI_len rfl rfl rfl (by simp) rfl rfl ?_
      conv => whnf
      repeat (first | (refine VLd.intro rfl ?_; conv => whnf) | (refine VArith.i64 (by omega) ?_; conv => whnf) | (refine VNeed.intro (by first | rfl | (simp; omega)) ?_; conv => whnf) | (refine VMem.store rfl rfl rfl rfl ?_; conv => whnf) | (refine VSame.intro rfl ?_; conv => whnf) | (refine VDraw.go [] (by kernel_rfl) (by kernel_rfl) ?_; conv => whnf))
      refine VCall.intro (vc_reverse F (.loc 2) _ rfl (by omega)) ?_
      conv => whnf
      repeat (first | (refine VLd.intro rfl ?_; conv => whnf) | (refine VArith.i64 (by omega) ?_; conv => whnf) | (refine VNeed.intro (by first | rfl | (simp; omega)) ?_; conv => whnf) | (refine VMem.store rfl rfl rfl rfl ?_; conv => whnf) | (refine VSame.intro rfl ?_; conv => whnf) | (refine VDraw.go [] (by kernel_rfl) (by kernel_rfl) ?_; conv => whnf))
      rw [List.length_reverse]
      exact VOut.own2 2 3 rfl rfl
theorem vc_DatedO (Y G : Int) (l : List Int) (h : Hp) (hl : l.length ≤ 4000000) (hb : ∀ y ∈ l, -100000 ≤ y ∧ y ≤ 100000) : VC Try.prog 52 [I Y, I G, ints l] h (.agg [I Y, I G, .gl h.fresh 3 l.length]) (h.push (.flat true ((l.map datP).flatMap encP))) := by
  refine VC.body Try.func52 rfl Try.ntmps52 Try.call52 (h.grows_push _) rfl ?_
  conv => whnf
  repeat (first | (refine VLd.intro rfl ?_; conv => whnf) | (refine VArith.i64 (by omega) ?_; conv => whnf) | (refine VNeed.intro (by first | rfl | (simp; omega)) ?_; conv => whnf) | (refine VMem.store rfl rfl rfl rfl ?_; conv => whnf) | (refine VSame.intro rfl ?_; conv => whnf) | (refine VDraw.go [] (by kernel_rfl) (by kernel_rfl) ?_; conv => whnf))
  refine VCode.lp (fun k : Nat => [(6, .ptr (.loc 0) 0), (7, .ptr (.loc 1) 0), (14, ints l), (15, I l.length), (16, I k)])
    (fun k => [.flat true [DI 0, DI 0, .nilslice], .cells true [I Y, I G, .gl (.loc 2) 3 k], .flat true (((l.take k).map datP).flatMap encP)]) (fun k => k ≤ l.length) (fun k => l.length - k) 0 (Nat.zero_le _) ?_ ?_
  · conv => whnf
    refine Retell.turn ⟨[0,1,2], 2, [], []⟩ (TurnOk.mk' _ _ [] [] (OutOk.lift _) rfl (by decide) (by repeat' (first | exact BTos.nil | refine BTos.flat rfl rfl (by first | rfl | simp) ?_ | refine BTos.new rfl ?_ | refine BTos.dead rfl rfl ?_ | refine BTos.esE rfl rfl ?_ | refine BTos.row rfl rfl rfl (RowTo.snoc (RowTo.one rfl (by simp))) ?_ | refine BTos.cells rfl rfl rfl (by repeat' (first | exact VTo.undef | exact FrTo.leaf | refine FrTo.node ?_ ?_ ?_ | refine FrTo.none ?_ ?_ | exact VTo.sc (by first | rfl | (congr 1; omega) | (congr 1; simp; omega)) | exact VTos_dv _ _ | refine VTos.cons ?_ ?_ | exact VTos.nil | refine VTo.agg ?_ | refine VTo.tuple ?_ | refine VTo.func ?_ ?_ | exact VTo.fs | exact VTo.fp | exact VTo.nilptr | exact VTo.nilslice | exact VTo.nilfunc | exact VTo.ptr rfl | exact VTo.gl rfl | exact VTo.map rfl | exact VTo.yld rfl | exact VTo.fmMap rfl | exact VTo.fm | exact VTo.glNil' (by decide) rfl rfl | exact VTo.fsNil (by decide) | exact VTo.fsSl rfl rfl (by simp [flat_len encE_len]) | exact VTo.fpPtr rfl | exact VTo.fsGl rfl (by first | rfl | exact flat_len encI_len _ | exact flat_len encS_len _ | exact flat_len encP_len _ | exact flat_len encL_len _ | exact flat_len encE_len _ | (simp [flat_len encP_len]; done) | simp [flat_len encI_len, flat_len encS_len]))) ?_)) trivial trivial rfl) (by repeat' (first | exact VTo.undef | exact FrTo.leaf | refine FrTo.node ?_ ?_ ?_ | refine FrTo.none ?_ ?_ | exact VTo.sc (by first | rfl | (congr 1; omega) | (congr 1; simp; omega)) | exact VTos_dv _ _ | refine VTos.cons ?_ ?_ | exact VTos.nil | refine VTo.agg ?_ | refine VTo.tuple ?_ | refine VTo.func ?_ ?_ | exact VTo.fs | exact VTo.fp | exact VTo.nilptr | exact VTo.nilslice | exact VTo.nilfunc | exact VTo.ptr rfl | exact VTo.gl rfl | exact VTo.map rfl | exact VTo.yld rfl | exact VTo.fmMap rfl | exact VTo.fm | exact VTo.glNil' (by decide) rfl rfl | exact VTo.fsNil (by decide) | exact VTo.fsSl rfl rfl (by simp [flat_len encE_len]) | exact VTo.fpPtr rfl | exact VTo.fsGl rfl (by first | rfl | exact flat_len encI_len _ | exact flat_len encS_len _ | exact flat_len encP_len _ | exact flat_len encL_len _ | exact flat_len encE_len _ | (simp [flat_len encP_len]; done) | simp [flat_len encI_len, flat_len encS_len]))) (by first | rfl | (repeat' (first | exact MkTo.nil | refine MkTo.keep rfl ?_ | refine MkTo.drop (by decide) rfl ?_)))
  · intro k hk
    conv => whnf
    refine VIte.dec (fun h3 => ?_) (fun h3 => ?_)
    · have hp : l[k]? = some l[k] := List.getElem?_eq_getElem (by omega)
      have hts : l.take (k + 1) = l.take k ++ [l[k]] := by rw [List.take_add_one, hp]; rfl
      have hbk := hb l[k] (List.getElem_mem (by omega))
      generalize l[k] = y at hp hts hbk
      have hlk : ((l.take k).map datP).length = k := by simp; omega
      conv => whnf
      repeat' (first | (refine VLd.intro rfl ?_; conv => whnf) | (refine VArith.i64 (by omega) ?_; conv => whnf) | (refine VNeed.intro (by first | rfl | (simp; omega)) ?_; conv => whnf) | (refine VMem.store rfl rfl rfl rfl ?_; conv => whnf) | (refine VSame.intro rfl ?_; conv => whnf) | (refine VDraw.go [] (by kernel_rfl) (by kernel_rfl) ?_; conv => whnf) | (refine VIte.dec (fun _ => ?_) (fun _ => ?_) <;> conv => whnf) | (refine VIte.ndec (fun _ => ?_) (fun _ => ?_) <;> conv => whnf) | (refine VIte.beq (fun _ => ?_) (fun _ => ?_) <;> conv => whnf) | (refine VIte.bne (fun _ => ?_) (fun _ => ?_) <;> conv => whnf) | (refine VIte.intro (fun _ => ?_) (fun _ => ?_) <;> conv => whnf) | (refine VAny.ix encI_len k rfl rfl hp ?_; conv => whnf))
      · rename_i hy
        have hd : datP y = ⟨1, 0 - y, 0 - y⟩ := by rw [datP, if_pos hy]; simp
        refine VMem.app1 (l := (l.take k).map datP) (⟨1, 0 - y, 0 - y⟩ : Pap) encP_len rfl rfl rfl hlk.symm rfl (by omega) ?_
        conv => whnf
        repeat (first | (refine VLd.intro rfl ?_; conv => whnf) | (refine VArith.i64 (by omega) ?_; conv => whnf) | (refine VNeed.intro (by first | rfl | (simp; omega)) ?_; conv => whnf) | (refine VMem.store rfl rfl rfl rfl ?_; conv => whnf) | (refine VSame.intro rfl ?_; conv => whnf) | (refine VDraw.go [] (by kernel_rfl) (by kernel_rfl) ?_; conv => whnf))
        refine LEnd.intro (k + 1) (by omega) (by omega) ?_
        conv => whnf
        rw [hts, List.map_append, List.map_cons, List.map_nil, hd]
        refine Retell.turn ⟨[0,1,5], 6, [], []⟩ (TurnOk.mk' _ _ [] [] (OutOk.lift _) rfl (by decide) (by repeat' (first | exact BTos.nil | refine BTos.flat rfl rfl (by first | rfl | simp) ?_ | refine BTos.new rfl ?_ | refine BTos.dead rfl rfl ?_ | refine BTos.esE rfl rfl ?_ | refine BTos.row rfl rfl rfl (RowTo.snoc (RowTo.one rfl (by simp))) ?_ | refine BTos.cells rfl rfl rfl (by repeat' (first | exact VTo.undef | exact FrTo.leaf | refine FrTo.node ?_ ?_ ?_ | refine FrTo.none ?_ ?_ | exact VTo.sc (by first | rfl | (congr 1; omega) | (congr 1; simp; omega)) | exact VTos_dv _ _ | refine VTos.cons ?_ ?_ | exact VTos.nil | refine VTo.agg ?_ | refine VTo.tuple ?_ | refine VTo.func ?_ ?_ | exact VTo.fs | exact VTo.fp | exact VTo.nilptr | exact VTo.nilslice | exact VTo.nilfunc | exact VTo.ptr rfl | exact VTo.gl rfl | exact VTo.map rfl | exact VTo.yld rfl | exact VTo.fmMap rfl | exact VTo.fm | exact VTo.glNil' (by decide) rfl rfl | exact VTo.fsNil (by decide) | exact VTo.fsSl rfl rfl (by simp [flat_len encE_len]) | exact VTo.fpPtr rfl | exact VTo.fsGl rfl (by first | rfl | exact flat_len encI_len _ | exact flat_len encS_len _ | exact flat_len encP_len _ | exact flat_len encL_len _ | exact flat_len encE_len _ | (simp [flat_len encP_len]; done) | simp [flat_len encI_len, flat_len encS_len]))) ?_)) trivial trivial rfl) (by repeat' (first | exact VTo.undef | exact FrTo.leaf | refine FrTo.node ?_ ?_ ?_ | refine FrTo.none ?_ ?_ | exact VTo.sc (by first | rfl | (congr 1; omega) | (congr 1; simp; omega)) | exact VTos_dv _ _ | refine VTos.cons ?_ ?_ | exact VTos.nil | refine VTo.agg ?_ | refine VTo.tuple ?_ | refine VTo.func ?_ ?_ | exact VTo.fs | exact VTo.fp | exact VTo.nilptr | exact VTo.nilslice | exact VTo.nilfunc | exact VTo.ptr rfl | exact VTo.gl rfl | exact VTo.map rfl | exact VTo.yld rfl | exact VTo.fmMap rfl | exact VTo.fm | exact VTo.glNil' (by decide) rfl rfl | exact VTo.fsNil (by decide) | exact VTo.fsSl rfl rfl (by simp [flat_len encE_len]) | exact VTo.fpPtr rfl | exact VTo.fsGl rfl (by first | rfl | exact flat_len encI_len _ | exact flat_len encS_len _ | exact flat_len encP_len _ | exact flat_len encL_len _ | exact flat_len encE_len _ | (simp [flat_len encP_len]; done) | simp [flat_len encI_len, flat_len encS_len]))) (by first | rfl | (repeat' (first | exact MkTo.nil | refine MkTo.keep rfl ?_ | refine MkTo.drop (by decide) rfl ?_)))
      · rename_i hy
        have hd : datP y = ⟨0, y, y⟩ := if_neg hy
        refine VMem.app1 (l := (l.take k).map datP) (⟨0, y, y⟩ : Pap) encP_len rfl rfl rfl hlk.symm rfl (by omega) ?_
        conv => whnf
        repeat (first | (refine VLd.intro rfl ?_; conv => whnf) | (refine VArith.i64 (by omega) ?_; conv => whnf) | (refine VNeed.intro (by first | rfl | (simp; omega)) ?_; conv => whnf) | (refine VMem.store rfl rfl rfl rfl ?_; conv => whnf) | (refine VSame.intro rfl ?_; conv => whnf) | (refine VDraw.go [] (by kernel_rfl) (by kernel_rfl) ?_; conv => whnf))
        refine LEnd.intro (k + 1) (by omega) (by omega) ?_
        conv => whnf
        rw [hts, List.map_append, List.map_cons, List.map_nil, hd]
        refine Retell.turn ⟨[0,1,5], 6, [], []⟩ (TurnOk.mk' _ _ [] [] (OutOk.lift _) rfl (by decide) (by repeat' (first | exact BTos.nil | refine BTos.flat rfl rfl (by first | rfl | simp) ?_ | refine BTos.new rfl ?_ | refine BTos.dead rfl rfl ?_ | refine BTos.esE rfl rfl ?_ | refine BTos.row rfl rfl rfl (RowTo.snoc (RowTo.one rfl (by simp))) ?_ | refine BTos.cells rfl rfl rfl (by repeat' (first | exact VTo.undef | exact FrTo.leaf | refine FrTo.node ?_ ?_ ?_ | refine FrTo.none ?_ ?_ | exact VTo.sc (by first | rfl | (congr 1; omega) | (congr 1; simp; omega)) | exact VTos_dv _ _ | refine VTos.cons ?_ ?_ | exact VTos.nil | refine VTo.agg ?_ | refine VTo.tuple ?_ | refine VTo.func ?_ ?_ | exact VTo.fs | exact VTo.fp | exact VTo.nilptr | exact VTo.nilslice | exact VTo.nilfunc | exact VTo.ptr rfl | exact VTo.gl rfl | exact VTo.map rfl | exact VTo.yld rfl | exact VTo.fmMap rfl | exact VTo.fm | exact VTo.glNil' (by decide) rfl rfl | exact VTo.fsNil (by decide) | exact VTo.fsSl rfl rfl (by simp [flat_len encE_len]) | exact VTo.fpPtr rfl | exact VTo.fsGl rfl (by first | rfl | exact flat_len encI_len _ | exact flat_len encS_len _ | exact flat_len encP_len _ | exact flat_len encL_len _ | exact flat_len encE_len _ | (simp [flat_len encP_len]; done) | simp [flat_len encI_len, flat_len encS_len]))) ?_)) trivial trivial rfl) (by repeat' (first | exact VTo.undef | exact FrTo.leaf | refine FrTo.node ?_ ?_ ?_ | refine FrTo.none ?_ ?_ | exact VTo.sc (by first | rfl | (congr 1; omega) | (congr 1; simp; omega)) | exact VTos_dv _ _ | refine VTos.cons ?_ ?_ | exact VTos.nil | refine VTo.agg ?_ | refine VTo.tuple ?_ | refine VTo.func ?_ ?_ | exact VTo.fs | exact VTo.fp | exact VTo.nilptr | exact VTo.nilslice | exact VTo.nilfunc | exact VTo.ptr rfl | exact VTo.gl rfl | exact VTo.map rfl | exact VTo.yld rfl | exact VTo.fmMap rfl | exact VTo.fm | exact VTo.glNil' (by decide) rfl rfl | exact VTo.fsNil (by decide) | exact VTo.fsSl rfl rfl (by simp [flat_len encE_len]) | exact VTo.fpPtr rfl | exact VTo.fsGl rfl (by first | rfl | exact flat_len encI_len _ | exact flat_len encS_len _ | exact flat_len encP_len _ | exact flat_len encL_len _ | exact flat_len encE_len _ | (simp [flat_len encP_len]; done) | simp [flat_len encI_len, flat_len encS_len]))) (by first | rfl | (repeat' (first | exact MkTo.nil | refine MkTo.keep rfl ?_ | refine MkTo.drop (by decide) rfl ?_)))
    · have hk2 : k = l.length := by omega
      subst hk2
      rw [List.take_of_length_le (Nat.le_refl _)]
      conv => whnf
      repeat (first | (refine VLd.intro rfl ?_; conv => whnf) | (refine VArith.i64 (by omega) ?_; conv => whnf) | (refine VNeed.intro (by first | rfl | (simp; omega)) ?_; conv => whnf) | (refine VMem.store rfl rfl rfl rfl ?_; conv => whnf) | (refine VSame.intro rfl ?_; conv => whnf) | (refine VDraw.go [] (by kernel_rfl) (by kernel_rfl) ?_; conv => whnf))
      exact VOut.own3 2 3 rfl rfl
end Go.Proofs.Ytolnajnlcdacmaa

open Go.Vm
namespace Go.Proofs.Ytolnajnlcdacmaa
set_option maxRecDepth 20000
set_option maxHeartbeats 2000000

theorem encI_map : ∀ l : List Int, l.flatMap encI = (l.map fun y => S.int .i64 y).map D.s
  | [] => rfl
  | a :: l => by rw [List.flatMap_cons, encI_map l]; rfl
theorem VC.lendI {f : FuncId} {args : List V} {outer : Vm.Id → Option Blk} {loc : List Blk} {n : Nat} {l : List Int} {s : S} (ds : List D) (fz : List (Nat × List D)) (fm : List (Nat × List D × List D))
    (h0 : FzAll ⟨[], loc.length, fz, fm⟩ loc fz) (h0' : FmAll ⟨[], loc.length, fz, fm⟩ loc fm) (hv : VTos ⟨[], loc.length, fz, fm⟩ args (D.vs ds)) (hc : VC Try.prog f (D.vs ds) Hp.bare (.tuple [.gl (.loc 0) 1 n, .s s]) (Hp.bare.push (.flat true (l.flatMap encI)))) :
    VC Try.prog f args ⟨outer, loc⟩ (.tuple [.gl (.loc loc.length) 1 n, .s s]) ⟨outer, loc ++ [.flat true (l.flatMap encI)]⟩ := by
  rw [encI_map] at hc ⊢
  exact VC.lendL ds fz fm h0 h0' hv hc
def yl : List Int := [1700, 1715, 1730, 1745, 1760]
def f1 : Fil := ⟨50, 20, yl.map datP⟩
def f3 : Fil := ⟨50, 30, yl.map datP⟩
def f2 : Fil := ⟨50, 15, [⟨0, 1700, 1700⟩, ⟨0, 1715, 1715⟩, ⟨0, 1728, 1731⟩, ⟨0, 1745, 1745⟩, ⟨0, 1760, 1760⟩]⟩
def y6 : List Int := [1700, 1715, 1730, 1738, 1745, 1760]
def f4 : Fil := ⟨50, 20, [1700, 1715, 1730, -1738, 1745, 1760].map datP⟩
theorem told1 : toldE f1 yl = 0 := by decide +kernel
theorem told3 : toldE f3 yl = 0 := by decide +kernel
theorem told4 : toldE f4 y6 = 0 := by decide +kernel
theorem ar1 : arL f1 yl = [4] := by decide +kernel
theorem few1 : (few f1 yl 4).length = 5 := by decide +kernel
theorem few3 : (few f3 yl 4).length = 3 := by decide +kernel
theorem shw1 : Shw f1 yl 4 := by
  obtain ⟨q, h1, h2⟩ := show_ok (f := f1) (t := yl) (p := 4) (by decide +kernel)
  have : q = 4 := by omega
  rw [← this]; exact h2
theorem shw3 : Shw f3 yl 4 := by
  obtain ⟨q, h1, h2⟩ := show_ok (f := f3) (t := yl) (p := 4) (by decide +kernel)
  have : q = 4 := by omega
  rw [← this]; exact h2
theorem pv1 : pvE f1 yl 4 [1700, 1715, 1730] = 0 := by decide +kernel
theorem pv3 : pvE f3 yl 4 [1715] = 0 := by decide +kernel
theorem chk2 : chk f2 = 0 := by decide +kernel
theorem os2 : osG f2 = [0, 2] := by decide +kernel
theorem tru2 : truE f2 0 = 0 := by decide +kernel
theorem truG2 : truG f2 0 = yl := by decide +kernel
theorem sn2 : sinceE f2 0 = 0 ∧ (sn f2 0).lo = 1760 ∧ (sn f2 0).hi = 1760 := by decide +kernel
theorem chS4 : chS f4 y6 6 = [⟨0, 2⟩, ⟨3, 3⟩, ⟨4, 5⟩] := by decide +kernel
end Go.Proofs.Ytolnajnlcdacmaa

open Go.Vm
namespace Go.Proofs.Ytolnajnlcdacmaa
set_option maxRecDepth 20000
set_option maxHeartbeats 2000000

def dF (f : Fil) : D := .agg (encF f)
def dL (l : List Int) : D := .sl 1 l.length (l.flatMap encI)
theorem prv1 (h : Hp) : VC Try.prog 50 [vF f1, ints yl, I 4, ints [1700, 1715, 1730]] h (.tuple [I 5, I 0]) h := by
  have := vc_Proves_ok f1 yl 4 [1700, 1715, 1730] h (by decide) (by decide) told1 shw1
  rw [pv1] at this; exact this
theorem prv3 (h : Hp) : VC Try.prog 50 [vF f3, ints yl, I 4, ints [1715]] h (.tuple [I 3, I 0]) h := by
  have := vc_Proves_ok f3 yl 4 [1715] h (by decide) (by decide) told3 shw3
  rw [pv3] at this; exact this
def s4 : List Spn := [⟨0, 2⟩, ⟨3, 3⟩, ⟨4, 5⟩]
theorem ch4 (h : Hp) : VC Try.prog 31 [vF f4, ints y6] h (.tuple [spans s4, I 0]) h := by
  have := vc_Chains f4 y6 h (by decide) (by decide)
  rw [told4, if_pos rfl, show y6.length = 6 from rfl, chS4] at this; exact this
theorem vc_awake (h : Hp) : VC Try.prog 13 [] h (B true) h := by
  refine VC.bodyC 11 Try.func13 rfl Try.ntmps13 Try.call13 (h.grows_refl) rfl ?_; conv => whnf
  repeat (first | (refine VLd.intro rfl ?_; conv => whnf) | (refine VArith.i64 (by omega) ?_; conv => whnf) | (refine VNeed.intro (by first | rfl | (simp; omega)) ?_; conv => whnf) | (refine VMem.store rfl rfl rfl rfl ?_; conv => whnf) | (refine VSame.intro rfl ?_; conv => whnf) | (refine VDraw.go [] (by kernel_rfl) (by kernel_rfl) ?_; conv => whnf))
  refine VCall.intro (VC.give (args' := [I 50, I 20, ints yl]) (loc' := [.dead]) [(0, yl.flatMap encI)] [] (OutOk.lift _) (by repeat' (first | exact BTos.nil | refine BTos.flat rfl rfl (by first | rfl | simp) ?_ | refine BTos.new rfl ?_ | refine BTos.dead rfl rfl ?_ | refine BTos.esE rfl rfl ?_ | refine BTos.row rfl rfl rfl (RowTo.snoc (RowTo.one rfl (by simp))) ?_ | refine BTos.cells rfl rfl rfl (by repeat' (first | exact VTo.undef | exact FrTo.leaf | refine FrTo.node ?_ ?_ ?_ | refine FrTo.none ?_ ?_ | exact VTo.sc (by first | rfl | (congr 1; omega) | (congr 1; simp; omega)) | exact VTos_dv _ _ | refine VTos.cons ?_ ?_ | exact VTos.nil | refine VTo.agg ?_ | refine VTo.tuple ?_ | refine VTo.func ?_ ?_ | exact VTo.fs | exact VTo.fp | exact VTo.nilptr | exact VTo.nilslice | exact VTo.nilfunc | exact VTo.ptr rfl | exact VTo.gl rfl | exact VTo.map rfl | exact VTo.yld rfl | exact VTo.fmMap rfl | exact VTo.fm | exact VTo.glNil' (by decide) rfl rfl | exact VTo.fsNil (by decide) | exact VTo.fsSl rfl rfl (by simp [flat_len encE_len]) | exact VTo.fpPtr rfl | exact VTo.fsGl rfl (by first | rfl | exact flat_len encI_len _ | exact flat_len encS_len _ | exact flat_len encP_len _ | exact flat_len encL_len _ | exact flat_len encE_len _ | (simp [flat_len encP_len]; done) | simp [flat_len encI_len, flat_len encS_len]))) ?_)) (by repeat' (first | exact FzAll.nil | refine FzAll.flat rfl ?_ | refine FzAll.row rfl rfl (RowTo.one rfl (by simp)) ?_)) (by exact FmAll.nil) rfl (by repeat' (first | exact VTo.undef | exact FrTo.leaf | refine FrTo.node ?_ ?_ ?_ | refine FrTo.none ?_ ?_ | exact VTo.sc (by first | rfl | (congr 1; omega) | (congr 1; simp; omega)) | exact VTos_dv _ _ | refine VTos.cons ?_ ?_ | exact VTos.nil | refine VTo.agg ?_ | refine VTo.tuple ?_ | refine VTo.func ?_ ?_ | exact VTo.fs | exact VTo.fp | exact VTo.nilptr | exact VTo.nilslice | exact VTo.nilfunc | exact VTo.ptr rfl | exact VTo.gl rfl | exact VTo.map rfl | exact VTo.yld rfl | exact VTo.fmMap rfl | exact VTo.fm | exact VTo.glNil' (by decide) rfl rfl | exact VTo.fsNil (by decide) | exact VTo.fsSl rfl rfl (by simp [flat_len encE_len]) | exact VTo.fpPtr rfl | exact VTo.fsGl rfl (by first | rfl | exact flat_len encI_len _ | exact flat_len encS_len _ | exact flat_len encP_len _ | exact flat_len encL_len _ | exact flat_len encE_len _ | (simp [flat_len encP_len]; done) | simp [flat_len encI_len, flat_len encS_len]))) (vc_DatedO 50 20 yl _ (by decide) (by decide))) ?_
  conv => whnf
  repeat (first | (refine VLd.intro rfl ?_; conv => whnf) | (refine VArith.i64 (by omega) ?_; conv => whnf) | (refine VNeed.intro (by first | rfl | (simp; omega)) ?_; conv => whnf) | (refine VMem.store rfl rfl rfl rfl ?_; conv => whnf) | (refine VSame.intro rfl ?_; conv => whnf) | (refine VDraw.go [] (by kernel_rfl) (by kernel_rfl) ?_; conv => whnf))
  refine VCall.intro (VC.lendI [dF f1, dL yl] [(1, f1.ps.flatMap encP), (2, yl.flatMap encI)] [] (by repeat' (first | exact FzAll.nil | refine FzAll.flat rfl ?_ | refine FzAll.row rfl rfl (RowTo.one rfl (by simp)) ?_)) trivial (by repeat' (first | exact VTo.undef | exact FrTo.leaf | refine FrTo.node ?_ ?_ ?_ | refine FrTo.none ?_ ?_ | exact VTo.sc (by first | rfl | (congr 1; omega) | (congr 1; simp; omega)) | exact VTos_dv _ _ | refine VTos.cons ?_ ?_ | exact VTos.nil | refine VTo.agg ?_ | refine VTo.tuple ?_ | refine VTo.func ?_ ?_ | exact VTo.fs | exact VTo.fp | exact VTo.nilptr | exact VTo.nilslice | exact VTo.nilfunc | exact VTo.ptr rfl | exact VTo.gl rfl | exact VTo.map rfl | exact VTo.yld rfl | exact VTo.fmMap rfl | exact VTo.fm | exact VTo.glNil' (by decide) rfl rfl | exact VTo.fsNil (by decide) | exact VTo.fsSl rfl rfl (by simp [flat_len encE_len]) | exact VTo.fpPtr rfl | exact VTo.fsGl rfl (by first | rfl | exact flat_len encI_len _ | exact flat_len encS_len _ | exact flat_len encP_len _ | exact flat_len encL_len _ | exact flat_len encE_len _ | (simp [flat_len encP_len]; done) | simp [flat_len encI_len, flat_len encS_len]))) (vc_ArisesO f1 yl Hp.bare (by decide) (by decide) told1)) ?_
  rw [ar1]
  conv => whnf
  repeat (first | (refine VLd.intro rfl ?_; conv => whnf) | (refine VArith.i64 (by omega) ?_; conv => whnf) | (refine VNeed.intro (by first | rfl | (simp; omega)) ?_; conv => whnf) | (refine VMem.store rfl rfl rfl rfl ?_; conv => whnf) | (refine VSame.intro rfl ?_; conv => whnf) | (refine VDraw.go [] (by kernel_rfl) (by kernel_rfl) ?_; conv => whnf))
  refine VCall.intro (VC.lendI [dF f1, dL yl, DI 4] [(1, f1.ps.flatMap encP), (2, yl.flatMap encI)] [] (by repeat' (first | exact FzAll.nil | refine FzAll.flat rfl ?_ | refine FzAll.row rfl rfl (RowTo.one rfl (by simp)) ?_)) trivial (by repeat' (first | exact VTo.undef | exact FrTo.leaf | refine FrTo.node ?_ ?_ ?_ | refine FrTo.none ?_ ?_ | exact VTo.sc (by first | rfl | (congr 1; omega) | (congr 1; simp; omega)) | exact VTos_dv _ _ | refine VTos.cons ?_ ?_ | exact VTos.nil | refine VTo.agg ?_ | refine VTo.tuple ?_ | refine VTo.func ?_ ?_ | exact VTo.fs | exact VTo.fp | exact VTo.nilptr | exact VTo.nilslice | exact VTo.nilfunc | exact VTo.ptr rfl | exact VTo.gl rfl | exact VTo.map rfl | exact VTo.yld rfl | exact VTo.fmMap rfl | exact VTo.fm | exact VTo.glNil' (by decide) rfl rfl | exact VTo.fsNil (by decide) | exact VTo.fsSl rfl rfl (by simp [flat_len encE_len]) | exact VTo.fpPtr rfl | exact VTo.fsGl rfl (by first | rfl | exact flat_len encI_len _ | exact flat_len encS_len _ | exact flat_len encP_len _ | exact flat_len encL_len _ | exact flat_len encE_len _ | (simp [flat_len encP_len]; done) | simp [flat_len encI_len, flat_len encS_len]))) (vc_FewestO f1 yl 4 Hp.bare (by decide) told1 shw1)) ?_
  have hf1 := few1
  generalize few f1 yl 4 = w1 at hf1
  rw [hf1]
  conv => whnf
  repeat (first | (refine VLd.intro rfl ?_; conv => whnf) | (refine VArith.i64 (by omega) ?_; conv => whnf) | (refine VNeed.intro (by first | rfl | (simp; omega)) ?_; conv => whnf) | (refine VMem.store rfl rfl rfl rfl ?_; conv => whnf) | (refine VSame.intro rfl ?_; conv => whnf) | (refine VDraw.go [] (by kernel_rfl) (by kernel_rfl) ?_; conv => whnf))
  refine VCall.intro (VC.lendS [dF f1, dL yl, DI 4, dL [1700, 1715, 1730]] [(1, f1.ps.flatMap encP), (2, yl.flatMap encI), (6, [1700, 1715, 1730].flatMap encI)] [] (by repeat' (first | exact FzAll.nil | refine FzAll.flat rfl ?_ | refine FzAll.row rfl rfl (RowTo.one rfl (by simp)) ?_)) trivial (by repeat' (first | exact VTo.undef | exact FrTo.leaf | refine FrTo.node ?_ ?_ ?_ | refine FrTo.none ?_ ?_ | exact VTo.sc (by first | rfl | (congr 1; omega) | (congr 1; simp; omega)) | exact VTos_dv _ _ | refine VTos.cons ?_ ?_ | exact VTos.nil | refine VTo.agg ?_ | refine VTo.tuple ?_ | refine VTo.func ?_ ?_ | exact VTo.fs | exact VTo.fp | exact VTo.nilptr | exact VTo.nilslice | exact VTo.nilfunc | exact VTo.ptr rfl | exact VTo.gl rfl | exact VTo.map rfl | exact VTo.yld rfl | exact VTo.fmMap rfl | exact VTo.fm | exact VTo.glNil' (by decide) rfl rfl | exact VTo.fsNil (by decide) | exact VTo.fsSl rfl rfl (by simp [flat_len encE_len]) | exact VTo.fpPtr rfl | exact VTo.fsGl rfl (by first | rfl | exact flat_len encI_len _ | exact flat_len encS_len _ | exact flat_len encP_len _ | exact flat_len encL_len _ | exact flat_len encE_len _ | (simp [flat_len encP_len]; done) | simp [flat_len encI_len, flat_len encS_len]))) (prv1 Hp.bare)) ?_
  conv => whnf
  repeat (first | (refine VLd.intro rfl ?_; conv => whnf) | (refine VArith.i64 (by omega) ?_; conv => whnf) | (refine VNeed.intro (by first | rfl | (simp; omega)) ?_; conv => whnf) | (refine VMem.store rfl rfl rfl rfl ?_; conv => whnf) | (refine VSame.intro rfl ?_; conv => whnf) | (refine VDraw.go [] (by kernel_rfl) (by kernel_rfl) ?_; conv => whnf))
  refine VCall.intro (VC.lend1 [dL [4], dL [4]] [(4, [4].flatMap encI), (7, [4].flatMap encI)] [] (by repeat' (first | exact FzAll.nil | refine FzAll.flat rfl ?_ | refine FzAll.row rfl rfl (RowTo.one rfl (by simp)) ?_)) trivial (by repeat' (first | exact VTo.undef | exact FrTo.leaf | refine FrTo.node ?_ ?_ ?_ | refine FrTo.none ?_ ?_ | exact VTo.sc (by first | rfl | (congr 1; omega) | (congr 1; simp; omega)) | exact VTos_dv _ _ | refine VTos.cons ?_ ?_ | exact VTos.nil | refine VTo.agg ?_ | refine VTo.tuple ?_ | refine VTo.func ?_ ?_ | exact VTo.fs | exact VTo.fp | exact VTo.nilptr | exact VTo.nilslice | exact VTo.nilfunc | exact VTo.ptr rfl | exact VTo.gl rfl | exact VTo.map rfl | exact VTo.yld rfl | exact VTo.fmMap rfl | exact VTo.fm | exact VTo.glNil' (by decide) rfl rfl | exact VTo.fsNil (by decide) | exact VTo.fsSl rfl rfl (by simp [flat_len encE_len]) | exact VTo.fpPtr rfl | exact VTo.fsGl rfl (by first | rfl | exact flat_len encI_len _ | exact flat_len encS_len _ | exact flat_len encP_len _ | exact flat_len encL_len _ | exact flat_len encE_len _ | (simp [flat_len encP_len]; done) | simp [flat_len encI_len, flat_len encS_len]))) (vc_equalI [4] [4] Hp.bare (by decide) (by decide))) ?_
  conv => whnf
  repeat (first | (refine VLd.intro rfl ?_; conv => whnf) | (refine VArith.i64 (by omega) ?_; conv => whnf) | (refine VNeed.intro (by first | rfl | (simp; omega)) ?_; conv => whnf) | (refine VMem.store rfl rfl rfl rfl ?_; conv => whnf) | (refine VSame.intro rfl ?_; conv => whnf) | (refine VDraw.go [] (by kernel_rfl) (by kernel_rfl) ?_; conv => whnf))
  refine VCall.intro (VC.lendI [dF f3, dL yl, DI 4] [(1, f3.ps.flatMap encP), (2, yl.flatMap encI)] [] (by repeat' (first | exact FzAll.nil | refine FzAll.flat rfl ?_ | refine FzAll.row rfl rfl (RowTo.one rfl (by simp)) ?_)) trivial (by repeat' (first | exact VTo.undef | exact FrTo.leaf | refine FrTo.node ?_ ?_ ?_ | refine FrTo.none ?_ ?_ | exact VTo.sc (by first | rfl | (congr 1; omega) | (congr 1; simp; omega)) | exact VTos_dv _ _ | refine VTos.cons ?_ ?_ | exact VTos.nil | refine VTo.agg ?_ | refine VTo.tuple ?_ | refine VTo.func ?_ ?_ | exact VTo.fs | exact VTo.fp | exact VTo.nilptr | exact VTo.nilslice | exact VTo.nilfunc | exact VTo.ptr rfl | exact VTo.gl rfl | exact VTo.map rfl | exact VTo.yld rfl | exact VTo.fmMap rfl | exact VTo.fm | exact VTo.glNil' (by decide) rfl rfl | exact VTo.fsNil (by decide) | exact VTo.fsSl rfl rfl (by simp [flat_len encE_len]) | exact VTo.fpPtr rfl | exact VTo.fsGl rfl (by first | rfl | exact flat_len encI_len _ | exact flat_len encS_len _ | exact flat_len encP_len _ | exact flat_len encL_len _ | exact flat_len encE_len _ | (simp [flat_len encP_len]; done) | simp [flat_len encI_len, flat_len encS_len]))) (vc_FewestO f3 yl 4 Hp.bare (by decide) told3 shw3)) ?_
  have hf3 := few3
  generalize few f3 yl 4 = w3 at hf3
  rw [hf3]
  conv => whnf
  repeat (first | (refine VLd.intro rfl ?_; conv => whnf) | (refine VArith.i64 (by omega) ?_; conv => whnf) | (refine VNeed.intro (by first | rfl | (simp; omega)) ?_; conv => whnf) | (refine VMem.store rfl rfl rfl rfl ?_; conv => whnf) | (refine VSame.intro rfl ?_; conv => whnf) | (refine VDraw.go [] (by kernel_rfl) (by kernel_rfl) ?_; conv => whnf))
  refine VCall.intro (VC.lendS [dF f3, dL yl, DI 4, dL [1715]] [(1, f3.ps.flatMap encP), (2, yl.flatMap encI), (9, [1715].flatMap encI)] [] (by repeat' (first | exact FzAll.nil | refine FzAll.flat rfl ?_ | refine FzAll.row rfl rfl (RowTo.one rfl (by simp)) ?_)) trivial (by repeat' (first | exact VTo.undef | exact FrTo.leaf | refine FrTo.node ?_ ?_ ?_ | refine FrTo.none ?_ ?_ | exact VTo.sc (by first | rfl | (congr 1; omega) | (congr 1; simp; omega)) | exact VTos_dv _ _ | refine VTos.cons ?_ ?_ | exact VTos.nil | refine VTo.agg ?_ | refine VTo.tuple ?_ | refine VTo.func ?_ ?_ | exact VTo.fs | exact VTo.fp | exact VTo.nilptr | exact VTo.nilslice | exact VTo.nilfunc | exact VTo.ptr rfl | exact VTo.gl rfl | exact VTo.map rfl | exact VTo.yld rfl | exact VTo.fmMap rfl | exact VTo.fm | exact VTo.glNil' (by decide) rfl rfl | exact VTo.fsNil (by decide) | exact VTo.fsSl rfl rfl (by simp [flat_len encE_len]) | exact VTo.fpPtr rfl | exact VTo.fsGl rfl (by first | rfl | exact flat_len encI_len _ | exact flat_len encS_len _ | exact flat_len encP_len _ | exact flat_len encL_len _ | exact flat_len encE_len _ | (simp [flat_len encP_len]; done) | simp [flat_len encI_len, flat_len encS_len]))) (prv3 Hp.bare)) ?_
  conv => whnf
  repeat (first | (refine VLd.intro rfl ?_; conv => whnf) | (refine VArith.i64 (by omega) ?_; conv => whnf) | (refine VNeed.intro (by first | rfl | (simp; omega)) ?_; conv => whnf) | (refine VMem.store rfl rfl rfl rfl ?_; conv => whnf) | (refine VSame.intro rfl ?_; conv => whnf) | (refine VDraw.go [] (by kernel_rfl) (by kernel_rfl) ?_; conv => whnf))
  refine VCut.at [(1, .fp (encF f2)), (2, ints yl)] [] ?_ ?_
  · conv => whnf
    refine Retell.turn ⟨[], 10, [(1, f2.ps.flatMap encP), (2, yl.flatMap encI), (3, encF f2)], []⟩ (TurnOk.mk' _ _ [(1, f2.ps.flatMap encP), (2, yl.flatMap encI), (3, encF f2)] [] (OutOk.lift _) rfl (by decide) BTos.nil (FzAll.flat rfl (FzAll.flat rfl (FzAll.row rfl rfl (RowTo.vtos (l' := [I 50, I 15, .fs 3 5 (f2.ps.flatMap encP)]) (by repeat' (first | exact VTo.undef | exact FrTo.leaf | refine FrTo.node ?_ ?_ ?_ | refine FrTo.none ?_ ?_ | exact VTo.sc (by first | rfl | (congr 1; omega) | (congr 1; simp; omega)) | exact VTos_dv _ _ | refine VTos.cons ?_ ?_ | exact VTos.nil | refine VTo.agg ?_ | refine VTo.tuple ?_ | refine VTo.func ?_ ?_ | exact VTo.fs | exact VTo.fp | exact VTo.nilptr | exact VTo.nilslice | exact VTo.nilfunc | exact VTo.ptr rfl | exact VTo.gl rfl | exact VTo.map rfl | exact VTo.yld rfl | exact VTo.fmMap rfl | exact VTo.fm | exact VTo.glNil' (by decide) rfl rfl | exact VTo.fsNil (by decide) | exact VTo.fsSl rfl rfl (by simp [flat_len encE_len]) | exact VTo.fpPtr rfl | exact VTo.fsGl rfl (by first | rfl | exact flat_len encI_len _ | exact flat_len encS_len _ | exact flat_len encP_len _ | exact flat_len encL_len _ | exact flat_len encE_len _ | (simp [flat_len encP_len]; done) | simp [flat_len encI_len, flat_len encS_len])))) FzAll.nil))) trivial rfl) (by repeat' (first | exact VTo.undef | exact FrTo.leaf | refine FrTo.node ?_ ?_ ?_ | refine FrTo.none ?_ ?_ | exact VTo.sc (by first | rfl | (congr 1; omega) | (congr 1; simp; omega)) | exact VTos_dv _ _ | refine VTos.cons ?_ ?_ | exact VTos.nil | refine VTo.agg ?_ | refine VTo.tuple ?_ | refine VTo.func ?_ ?_ | exact VTo.fs | exact VTo.fp | exact VTo.nilptr | exact VTo.nilslice | exact VTo.nilfunc | exact VTo.ptr rfl | exact VTo.gl rfl | exact VTo.map rfl | exact VTo.yld rfl | exact VTo.fmMap rfl | exact VTo.fm | exact VTo.glNil' (by decide) rfl rfl | exact VTo.fsNil (by decide) | exact VTo.fsSl rfl rfl (by simp [flat_len encE_len]) | exact VTo.fpPtr rfl | exact VTo.fsGl rfl (by first | rfl | exact flat_len encI_len _ | exact flat_len encS_len _ | exact flat_len encP_len _ | exact flat_len encL_len _ | exact flat_len encE_len _ | (simp [flat_len encP_len]; done) | simp [flat_len encI_len, flat_len encS_len]))) (by first | rfl | (repeat' (first | exact MkTo.nil | refine MkTo.keep rfl ?_ | refine MkTo.drop (by decide) rfl ?_)))
  · conv => whnf
    repeat (first | (refine VLd.intro rfl ?_; conv => whnf) | (refine VArith.i64 (by omega) ?_; conv => whnf) | (refine VNeed.intro (by first | rfl | (simp; omega)) ?_; conv => whnf) | (refine VMem.store rfl rfl rfl rfl ?_; conv => whnf) | (refine VSame.intro rfl ?_; conv => whnf) | (refine VDraw.go [] (by kernel_rfl) (by kernel_rfl) ?_; conv => whnf))
    refine VCall.intro (vc_Owners_ok f2 _ chk2) ?_
    rw [os2]
    conv => whnf
    repeat (first | (refine VLd.intro rfl ?_; conv => whnf) | (refine VArith.i64 (by omega) ?_; conv => whnf) | (refine VNeed.intro (by first | rfl | (simp; omega)) ?_; conv => whnf) | (refine VMem.store rfl rfl rfl rfl ?_; conv => whnf) | (refine VSame.intro rfl ?_; conv => whnf) | (refine VDraw.go [] (by kernel_rfl) (by kernel_rfl) ?_; conv => whnf))
    refine VCall.intro (vc_Truth_ok f2 0 _ tru2) ?_
    rw [truG2]
    conv => whnf
    repeat (first | (refine VLd.intro rfl ?_; conv => whnf) | (refine VArith.i64 (by omega) ?_; conv => whnf) | (refine VNeed.intro (by first | rfl | (simp; omega)) ?_; conv => whnf) | (refine VMem.store rfl rfl rfl rfl ?_; conv => whnf) | (refine VSame.intro rfl ?_; conv => whnf) | (refine VDraw.go [] (by kernel_rfl) (by kernel_rfl) ?_; conv => whnf))
    refine VCall.intro (vc_Since f2 0 _ (by decide)) ?_
    rw [show sinceR f2 0 = .tuple [.agg [I 1760, I 1760], I 0] from by unfold sinceR; rw [sn2.1, sn2.2.1, sn2.2.2]; rfl]
    conv => whnf
    repeat (first | (refine VLd.intro rfl ?_; conv => whnf) | (refine VArith.i64 (by omega) ?_; conv => whnf) | (refine VNeed.intro (by first | rfl | (simp; omega)) ?_; conv => whnf) | (refine VMem.store rfl rfl rfl rfl ?_; conv => whnf) | (refine VSame.intro rfl ?_; conv => whnf) | (refine VDraw.go [] (by kernel_rfl) (by kernel_rfl) ?_; conv => whnf))
    refine VCall.intro (VC.lend1 [dL [0, 2], dL [0, 2]] [(1, [0, 2].flatMap encI)] [] (by repeat' (first | exact FzAll.nil | refine FzAll.flat rfl ?_ | refine FzAll.row rfl rfl (RowTo.one rfl (by simp)) ?_)) trivial (by repeat' (first | exact VTo.undef | exact FrTo.leaf | refine FrTo.node ?_ ?_ ?_ | refine FrTo.none ?_ ?_ | exact VTo.sc (by first | rfl | (congr 1; omega) | (congr 1; simp; omega)) | exact VTos_dv _ _ | refine VTos.cons ?_ ?_ | exact VTos.nil | refine VTo.agg ?_ | refine VTo.tuple ?_ | refine VTo.func ?_ ?_ | exact VTo.fs | exact VTo.fp | exact VTo.nilptr | exact VTo.nilslice | exact VTo.nilfunc | exact VTo.ptr rfl | exact VTo.gl rfl | exact VTo.map rfl | exact VTo.yld rfl | exact VTo.fmMap rfl | exact VTo.fm | exact VTo.glNil' (by decide) rfl rfl | exact VTo.fsNil (by decide) | exact VTo.fsSl rfl rfl (by simp [flat_len encE_len]) | exact VTo.fpPtr rfl | exact VTo.fsGl rfl (by first | rfl | exact flat_len encI_len _ | exact flat_len encS_len _ | exact flat_len encP_len _ | exact flat_len encL_len _ | exact flat_len encE_len _ | (simp [flat_len encP_len]; done) | simp [flat_len encI_len, flat_len encS_len]))) (vc_equalI [0, 2] [0, 2] Hp.bare (by decide) (by decide))) ?_
    conv => whnf
    repeat (first | (refine VLd.intro rfl ?_; conv => whnf) | (refine VArith.i64 (by omega) ?_; conv => whnf) | (refine VNeed.intro (by first | rfl | (simp; omega)) ?_; conv => whnf) | (refine VMem.store rfl rfl rfl rfl ?_; conv => whnf) | (refine VSame.intro rfl ?_; conv => whnf) | (refine VDraw.go [] (by kernel_rfl) (by kernel_rfl) ?_; conv => whnf))
    refine VCall.intro (vc_equalI yl yl _ (by decide) (by decide)) ?_
    conv => whnf
    repeat (first | (refine VLd.intro rfl ?_; conv => whnf) | (refine VArith.i64 (by omega) ?_; conv => whnf) | (refine VNeed.intro (by first | rfl | (simp; omega)) ?_; conv => whnf) | (refine VMem.store rfl rfl rfl rfl ?_; conv => whnf) | (refine VSame.intro rfl ?_; conv => whnf) | (refine VDraw.go [] (by kernel_rfl) (by kernel_rfl) ?_; conv => whnf))
    refine VAgg.intro (show _ = some (B false) from vneqS ⟨1760, 1760⟩ ⟨1760, 1760⟩) ?_
    conv => whnf
    repeat (first | (refine VLd.intro rfl ?_; conv => whnf) | (refine VArith.i64 (by omega) ?_; conv => whnf) | (refine VNeed.intro (by first | rfl | (simp; omega)) ?_; conv => whnf) | (refine VMem.store rfl rfl rfl rfl ?_; conv => whnf) | (refine VSame.intro rfl ?_; conv => whnf) | (refine VDraw.go [] (by kernel_rfl) (by kernel_rfl) ?_; conv => whnf))
    refine VCall.intro (VC.give (args' := [I 50, I 20, ints [1700, 1715, 1730, -1738, 1745, 1760]]) (loc' := [.dead, .dead, .dead]) [(2, [1700, 1715, 1730, -1738, 1745, 1760].flatMap encI)] [] (OutOk.lift _) (by repeat' (first | exact BTos.nil | refine BTos.flat rfl rfl (by first | rfl | simp) ?_ | refine BTos.new rfl ?_ | refine BTos.dead rfl rfl ?_ | refine BTos.esE rfl rfl ?_ | refine BTos.row rfl rfl rfl (RowTo.snoc (RowTo.one rfl (by simp))) ?_ | refine BTos.cells rfl rfl rfl (by repeat' (first | exact VTo.undef | exact FrTo.leaf | refine FrTo.node ?_ ?_ ?_ | refine FrTo.none ?_ ?_ | exact VTo.sc (by first | rfl | (congr 1; omega) | (congr 1; simp; omega)) | exact VTos_dv _ _ | refine VTos.cons ?_ ?_ | exact VTos.nil | refine VTo.agg ?_ | refine VTo.tuple ?_ | refine VTo.func ?_ ?_ | exact VTo.fs | exact VTo.fp | exact VTo.nilptr | exact VTo.nilslice | exact VTo.nilfunc | exact VTo.ptr rfl | exact VTo.gl rfl | exact VTo.map rfl | exact VTo.yld rfl | exact VTo.fmMap rfl | exact VTo.fm | exact VTo.glNil' (by decide) rfl rfl | exact VTo.fsNil (by decide) | exact VTo.fsSl rfl rfl (by simp [flat_len encE_len]) | exact VTo.fpPtr rfl | exact VTo.fsGl rfl (by first | rfl | exact flat_len encI_len _ | exact flat_len encS_len _ | exact flat_len encP_len _ | exact flat_len encL_len _ | exact flat_len encE_len _ | (simp [flat_len encP_len]; done) | simp [flat_len encI_len, flat_len encS_len]))) ?_)) (by repeat' (first | exact FzAll.nil | refine FzAll.flat rfl ?_ | refine FzAll.row rfl rfl (RowTo.one rfl (by simp)) ?_)) (by exact FmAll.nil) rfl (by repeat' (first | exact VTo.undef | exact FrTo.leaf | refine FrTo.node ?_ ?_ ?_ | refine FrTo.none ?_ ?_ | exact VTo.sc (by first | rfl | (congr 1; omega) | (congr 1; simp; omega)) | exact VTos_dv _ _ | refine VTos.cons ?_ ?_ | exact VTos.nil | refine VTo.agg ?_ | refine VTo.tuple ?_ | refine VTo.func ?_ ?_ | exact VTo.fs | exact VTo.fp | exact VTo.nilptr | exact VTo.nilslice | exact VTo.nilfunc | exact VTo.ptr rfl | exact VTo.gl rfl | exact VTo.map rfl | exact VTo.yld rfl | exact VTo.fmMap rfl | exact VTo.fm | exact VTo.glNil' (by decide) rfl rfl | exact VTo.fsNil (by decide) | exact VTo.fsSl rfl rfl (by simp [flat_len encE_len]) | exact VTo.fpPtr rfl | exact VTo.fsGl rfl (by first | rfl | exact flat_len encI_len _ | exact flat_len encS_len _ | exact flat_len encP_len _ | exact flat_len encL_len _ | exact flat_len encE_len _ | (simp [flat_len encP_len]; done) | simp [flat_len encI_len, flat_len encS_len]))) (vc_Dated 50 20 [1700, 1715, 1730, -1738, 1745, 1760] _ (by decide) (by decide))) ?_
    conv => whnf
    repeat (first | (refine VLd.intro rfl ?_; conv => whnf) | (refine VArith.i64 (by omega) ?_; conv => whnf) | (refine VNeed.intro (by first | rfl | (simp; omega)) ?_; conv => whnf) | (refine VMem.store rfl rfl rfl rfl ?_; conv => whnf) | (refine VSame.intro rfl ?_; conv => whnf) | (refine VDraw.go [] (by kernel_rfl) (by kernel_rfl) ?_; conv => whnf))
    refine VCall.intro (VC.give (args' := [vF f4, ints y6]) (loc' := [.dead, .dead, .dead, .dead]) [(3, y6.flatMap encI)] [] (OutOk.lift _) (by repeat' (first | exact BTos.nil | refine BTos.flat rfl rfl (by first | rfl | simp) ?_ | refine BTos.new rfl ?_ | refine BTos.dead rfl rfl ?_ | refine BTos.esE rfl rfl ?_ | refine BTos.row rfl rfl rfl (RowTo.snoc (RowTo.one rfl (by simp))) ?_ | refine BTos.cells rfl rfl rfl (by repeat' (first | exact VTo.undef | exact FrTo.leaf | refine FrTo.node ?_ ?_ ?_ | refine FrTo.none ?_ ?_ | exact VTo.sc (by first | rfl | (congr 1; omega) | (congr 1; simp; omega)) | exact VTos_dv _ _ | refine VTos.cons ?_ ?_ | exact VTos.nil | refine VTo.agg ?_ | refine VTo.tuple ?_ | refine VTo.func ?_ ?_ | exact VTo.fs | exact VTo.fp | exact VTo.nilptr | exact VTo.nilslice | exact VTo.nilfunc | exact VTo.ptr rfl | exact VTo.gl rfl | exact VTo.map rfl | exact VTo.yld rfl | exact VTo.fmMap rfl | exact VTo.fm | exact VTo.glNil' (by decide) rfl rfl | exact VTo.fsNil (by decide) | exact VTo.fsSl rfl rfl (by simp [flat_len encE_len]) | exact VTo.fpPtr rfl | exact VTo.fsGl rfl (by first | rfl | exact flat_len encI_len _ | exact flat_len encS_len _ | exact flat_len encP_len _ | exact flat_len encL_len _ | exact flat_len encE_len _ | (simp [flat_len encP_len]; done) | simp [flat_len encI_len, flat_len encS_len]))) ?_)) (by repeat' (first | exact FzAll.nil | refine FzAll.flat rfl ?_ | refine FzAll.row rfl rfl (RowTo.one rfl (by simp)) ?_)) (by exact FmAll.nil) rfl (by repeat' (first | exact VTo.undef | exact FrTo.leaf | refine FrTo.node ?_ ?_ ?_ | refine FrTo.none ?_ ?_ | exact VTo.sc (by first | rfl | (congr 1; omega) | (congr 1; simp; omega)) | exact VTos_dv _ _ | refine VTos.cons ?_ ?_ | exact VTos.nil | refine VTo.agg ?_ | refine VTo.tuple ?_ | refine VTo.func ?_ ?_ | exact VTo.fs | exact VTo.fp | exact VTo.nilptr | exact VTo.nilslice | exact VTo.nilfunc | exact VTo.ptr rfl | exact VTo.gl rfl | exact VTo.map rfl | exact VTo.yld rfl | exact VTo.fmMap rfl | exact VTo.fm | exact VTo.glNil' (by decide) rfl rfl | exact VTo.fsNil (by decide) | exact VTo.fsSl rfl rfl (by simp [flat_len encE_len]) | exact VTo.fpPtr rfl | exact VTo.fsGl rfl (by first | rfl | exact flat_len encI_len _ | exact flat_len encS_len _ | exact flat_len encP_len _ | exact flat_len encL_len _ | exact flat_len encE_len _ | (simp [flat_len encP_len]; done) | simp [flat_len encI_len, flat_len encS_len]))) (ch4 _)) ?_
    conv => whnf
    repeat (first | (refine VLd.intro rfl ?_; conv => whnf) | (refine VArith.i64 (by omega) ?_; conv => whnf) | (refine VNeed.intro (by first | rfl | (simp; omega)) ?_; conv => whnf) | (refine VMem.store rfl rfl rfl rfl ?_; conv => whnf) | (refine VSame.intro rfl ?_; conv => whnf) | (refine VDraw.go [] (by kernel_rfl) (by kernel_rfl) ?_; conv => whnf))
    refine VCall.intro (VC.lend1 [.sl 2 3 (s4.flatMap encS), .sl 2 3 (s4.flatMap encS)] [(4, s4.flatMap encS)] [] (by repeat' (first | exact FzAll.nil | refine FzAll.flat rfl ?_ | refine FzAll.row rfl rfl (RowTo.one rfl (by simp)) ?_)) trivial (by repeat' (first | exact VTo.undef | exact FrTo.leaf | refine FrTo.node ?_ ?_ ?_ | refine FrTo.none ?_ ?_ | exact VTo.sc (by first | rfl | (congr 1; omega) | (congr 1; simp; omega)) | exact VTos_dv _ _ | refine VTos.cons ?_ ?_ | exact VTos.nil | refine VTo.agg ?_ | refine VTo.tuple ?_ | refine VTo.func ?_ ?_ | exact VTo.fs | exact VTo.fp | exact VTo.nilptr | exact VTo.nilslice | exact VTo.nilfunc | exact VTo.ptr rfl | exact VTo.gl rfl | exact VTo.map rfl | exact VTo.yld rfl | exact VTo.fmMap rfl | exact VTo.fm | exact VTo.glNil' (by decide) rfl rfl | exact VTo.fsNil (by decide) | exact VTo.fsSl rfl rfl (by simp [flat_len encE_len]) | exact VTo.fpPtr rfl | exact VTo.fsGl rfl (by first | rfl | exact flat_len encI_len _ | exact flat_len encS_len _ | exact flat_len encP_len _ | exact flat_len encL_len _ | exact flat_len encE_len _ | (simp [flat_len encP_len]; done) | simp [flat_len encI_len, flat_len encS_len]))) (vc_equalS s4 s4 Hp.bare (by decide) (by decide))) ?_
    conv => whnf
    repeat (first | (refine VLd.intro rfl ?_; conv => whnf) | (refine VArith.i64 (by omega) ?_; conv => whnf) | (refine VNeed.intro (by first | rfl | (simp; omega)) ?_; conv => whnf) | (refine VMem.store rfl rfl rfl rfl ?_; conv => whnf) | (refine VSame.intro rfl ?_; conv => whnf) | (refine VDraw.go [] (by kernel_rfl) (by kernel_rfl) ?_; conv => whnf))
    exact VOut.same rfl
end Go.Proofs.Ytolnajnlcdacmaa

open Go.Vm
namespace Go.Proofs.Ytolnajnlcdacmaa
set_option maxRecDepth 20000
set_option maxHeartbeats 2000000

theorem eqNilI (h : Hp) : VC Try.prog 18 [.nilslice, .nilslice] h (B true) h := by
  obtain ⟨o, l⟩ := h
  refine VC.lend1 [dL [], dL []] [] [] trivial trivial (by repeat' (first | exact VTo.undef | exact FrTo.leaf | refine FrTo.node ?_ ?_ ?_ | refine FrTo.none ?_ ?_ | exact VTo.sc (by first | rfl | (congr 1; omega) | (congr 1; simp; omega)) | exact VTos_dv _ _ | refine VTos.cons ?_ ?_ | exact VTos.nil | refine VTo.agg ?_ | refine VTo.tuple ?_ | refine VTo.func ?_ ?_ | exact VTo.fs | exact VTo.fp | exact VTo.nilptr | exact VTo.nilslice | exact VTo.nilfunc | exact VTo.ptr rfl | exact VTo.gl rfl | exact VTo.map rfl | exact VTo.yld rfl | exact VTo.fmMap rfl | exact VTo.fm | exact VTo.glNil' (by decide) rfl rfl | exact VTo.fsNil (by decide) | exact VTo.fsSl rfl rfl (by simp [flat_len encE_len]) | exact VTo.fpPtr rfl | exact VTo.fsGl rfl (by first | rfl | exact flat_len encI_len _ | exact flat_len encS_len _ | exact flat_len encP_len _ | exact flat_len encL_len _ | exact flat_len encE_len _ | (simp [flat_len encP_len]; done) | simp [flat_len encI_len, flat_len encS_len]))) ?_
  exact vc_equalI [] [] Hp.bare (by decide) (by decide)
theorem eqI (l : List Int) (h : Hp) (hl : l.length ≤ 4000000) : VC Try.prog 18 [ints l, ints l] h (B true) h := by
  have := vc_equalI l l h hl hl
  rw [decide_eq_true rfl] at this; exact this
theorem eqF (f : Fil) (h : Hp) (hl : f.ps.length ≤ 4000000) : VC Try.prog 24 [vF f, vF f] h (B true) h := by
  have := vc_equal f f h hl hl
  rw [decide_eq_true ⟨rfl, rfl, rfl⟩] at this; exact this
end Go.Proofs.Ytolnajnlcdacmaa

open Go.Vm
namespace Go.Proofs.Ytolnajnlcdacmaa
open Go.ChangeShapes Go.WideShapes Go.ChangeAt Go.RowKit

theorem open3 : Opens Try.prog 3 (fun n : Int => [DI n]) := Opens.int Try.underlying3
theorem open43 : Opens Try.prog 43 (fun x : Int × Int => [DI x.1] ++ [DI x.2]) := Opens.struct2 1 1 Try.underlying43 (by kernel_rfl) rfl rfl (by kernel_rfl) (by kernel_rfl) open3 open3
theorem open55 : Opens Try.prog 55 encP := (Opens.struct2 1 2 Try.underlying55 (by kernel_rfl) rfl rfl (by kernel_rfl) (by kernel_rfl) open3 open43).as (fun x => ⟨x.1, x.2.1, x.2.2⟩) encP fun _ => rfl
theorem open22 : Opens Try.prog 22 (fun l : List Pap => [D.sl 3 l.length (l.flatMap encP)]) := Opens.slice Try.underlying22 encP_len (by kernel_rfl) (by decide) open55
theorem open24 : Opens Try.prog 24 encF := (Opens.struct3 1 1 1 Try.underlying24 (by kernel_rfl) rfl rfl rfl (by kernel_rfl) (by kernel_rfl) (by kernel_rfl) open3 open3 open22).as (fun x => ⟨x.1, x.2.1, x.2.2⟩) encF fun _ => rfl
theorem openF : OpenV Try.prog 24 dF := OpenV.struct Try.underlying24 open24
theorem openI : OpenV Try.prog 3 (fun n : Int => DI n) := OpenV.int Try.underlying3
theorem ownKn : ownKnob Try.prog.godebug = none := by kernel_rfl
theorem laidOut : laidOutB Try.prog = true := by kernel_rfl
end Go.Proofs.Ytolnajnlcdacmaa

open Go.Vm
namespace Go.Proofs.Ytolnajnlcdacmaa
set_option maxRecDepth 20000
set_option maxHeartbeats 2000000

theorem vc_wide0 (f : Fil) (n : Int) (h : Hp) (hn : n ≤ 1000000) : VC Try.prog 12 [vF f, I n, .nilslice] h (B (wideB f n [])) h := by
  obtain ⟨o, l⟩ := h
  refine VC.lend1 [dF f, DI n, .sl 1 0 []] [] [] trivial trivial (by repeat' (first | exact VTo.undef | exact FrTo.leaf | refine FrTo.node ?_ ?_ ?_ | refine FrTo.none ?_ ?_ | exact VTo.sc (by first | rfl | (congr 1; omega) | (congr 1; simp; omega)) | exact VTos_dv _ _ | refine VTos.cons ?_ ?_ | exact VTos.nil | refine VTo.agg ?_ | refine VTo.tuple ?_ | refine VTo.func ?_ ?_ | exact VTo.fs | exact VTo.fp | exact VTo.nilptr | exact VTo.nilslice | exact VTo.nilfunc | exact VTo.ptr rfl | exact VTo.gl rfl | exact VTo.map rfl | exact VTo.yld rfl | exact VTo.fmMap rfl | exact VTo.fm | exact VTo.glNil' (by decide) rfl rfl | exact VTo.fsNil (by decide) | exact VTo.fsSl rfl rfl (by simp [flat_len encE_len]) | exact VTo.fpPtr rfl | exact VTo.fsGl rfl (by first | rfl | exact flat_len encI_len _ | exact flat_len encS_len _ | exact flat_len encP_len _ | exact flat_len encL_len _ | exact flat_len encE_len _ | (simp [flat_len encP_len]; done) | simp [flat_len encI_len, flat_len encS_len]))) ?_
  exact vc_wide f n [] Hp.bare hn (by decide)
theorem ext1_len (p : Pap) (ts : List (List Int)) : (ext1 p ts).length = ts.length * (p.hi - p.lo + 1).toNat := by
  rw [← yrs_len]
  unfold ext1
  induction ts with
  | nil => simp
  | cons t ts ih => rw [List.flatMap_cons, List.length_append, ih, List.length_map, List.length_cons, Nat.add_mul]; omega
/-- A file that is not wide has few truths. -/
theorem few_of {f : Fil} {n : Int} (h0 : chk f = 0) (hn : n ≤ 1000000) (hn1 : 1 ≤ n) (hw : wideB f n [] = false) : Few f := by
  have hpk := chk_pok h0
  unfold wideB at hw
  simp only [List.any_nil, Bool.false_or, Bool.or_eq_false_iff] at hw
  have key : ∀ k, k ≤ f.ps.length → ((tru (f.ps.take k)).length : Int) ≤ n ∧ widGo n (f.ps.drop k) ((tru (f.ps.take k)).length : Int) = false := by
    intro k
    induction k with
    | zero => intro _; exact ⟨by simpa [tru] using hn1, by simpa [tru] using hw.2⟩
    | succ k ih =>
      intro hk
      obtain ⟨h1, h2⟩ := ih (by omega)
      have hp : f.ps[k]? = some f.ps[k] := List.getElem?_eq_getElem (by omega)
      have hq := hpk f.ps[k] (List.getElem_mem (by omega))
      generalize f.ps[k] = p at hp hq
      rw [widGo_at hp] at h2
      have e : widW p ((tru (f.ps.take k)).length : Int) = ((tru (f.ps.take (k + 1))).length : Int) := by
        have := hq.lo; have := hq.hi; have := hq.le; have := hq.near
        unfold widW
        rw [if_pos ⟨by omega, by omega, by omega⟩, tru_snoc hp, ext1_len, Int.natCast_mul]
        congr 1
        omega
      rw [e] at h2
      by_cases hc : n < ((tru (f.ps.take (k + 1))).length : Int)
      · rw [if_pos hc] at h2; cases h2
      · rw [if_neg hc] at h2; exact ⟨by omega, h2⟩
  intro k
  rcases Nat.le_total k f.ps.length with hk | hk
  · have := (key k hk).1; omega
  · have := (key f.ps.length (Nat.le_refl _)).1
    rw [List.take_of_length_le hk]
    rw [List.take_of_length_le (Nat.le_refl _)] at this
    omega
theorem told_tru {f : Fil} (h0 : chk f = 0) {t : List Int} (ht : t ∈ tru f.ps) : toldE f t = 0 := by
  obtain ⟨h1, h2⟩ := mem_tru.1 ht
  simp [toldE, hldE, hldB, h0, h1, h2]
theorem truE_eq (f : Fil) (x : Int) : truE f x = someE f x := by
  unfold truE someE
  by_cases h0 : chk f = 0
  · rw [isG_eq h0]
  · rw [if_pos h0, if_pos h0]
theorem veqS (x y : Spn) : vaggeq Try.prog .eql 43 (.agg [I x.lo, I x.hi]) (.agg [I y.lo, I y.hi]) = some (B (decide (x = y))) := by
  have : ((x.lo == y.lo) && ((x.hi == y.hi) && true)) = decide (x = y) := by cases x; cases y; rw [Bool.eq_iff_iff, decide_eq_true_eq]; simp [-not_and]
  rw [← this]
  unfold vaggeq
  rw [top43]
  rfl
theorem veqT (a b : Int) : vaggeq Try.prog .eql 43 (.agg [I a, I b]) (.agg [I a, I b]) = some (B true) := by
  have := veqS ⟨a, b⟩ ⟨a, b⟩
  rw [decide_eq_true rfl] at this; exact this
theorem osG_len (f : Fil) : (osG f).length ≤ 3 := selS_len _ 3
theorem vc_SilenceOwners (f : Fil) (x : Int) (h : Hp) : VC Try.prog 3 [vF f, I x] h (B true) h := by
  refine VC.bodyC 9 Try.func3 rfl Try.ntmps3 Try.call3 (h.grows_refl) rfl ?_; conv => whnf
  repeat' (first | (refine VLd.intro rfl ?_; conv => whnf) | (refine VArith.i64 (by omega) ?_; conv => whnf) | (refine VNeed.intro (by first | rfl | (simp; omega)) ?_; conv => whnf) | (refine VMem.store rfl rfl rfl rfl ?_; conv => whnf) | (refine VSame.intro rfl ?_; conv => whnf) | (refine VIte.dec (fun _ => ?_) (fun _ => ?_) <;> conv => whnf) | (refine VIte.ndec (fun _ => ?_) (fun _ => ?_) <;> conv => whnf) | (refine VIte.beq (fun _ => ?_) (fun _ => ?_) <;> conv => whnf) | (refine VIte.bne (fun _ => ?_) (fun _ => ?_) <;> conv => whnf) | (refine VIte.intro (fun _ => ?_) (fun _ => ?_) <;> conv => whnf) | (refine VCall.intro (vc_wide0 f 500 _ (by decide)) ?_; conv => whnf) | (refine VCall.intro (vc_awake _) ?_; conv => whnf))
  · exact VOut.same rfl
  · rename_i hw
    have hw : wideB f 500 [] = false := by simpa using hw
    have hn : f.ps.length ≤ 20 := by
      have := hw
      unfold wideB at this
      simp only [List.any_nil, Bool.false_or, Bool.or_eq_false_iff, decide_eq_false_iff_not] at this
      omega
    have hFew : chk f = 0 → Few f := fun h0 => few_of h0 (by decide) (by decide) hw
    obtain ⟨a, b, e, hS⟩ : ∃ a b e, sinceR f x = .tuple [.agg [I a, I b], I e] := by
      unfold sinceR
      cases decide (sinceE f x = 0)
      · exact ⟨_, _, _, rfl⟩
      · exact ⟨_, _, _, rfl⟩
    have s1 := fun h => vc_Since f x h (by omega)
    have s2 := fun h => vc_rSince f x h (by omega) hFew
    rw [hS] at s1 s2
    have hSm := fun h => vc_Some f x h (by omega) hFew
    rw [← truE_eq] at hSm
    by_cases h0 : chk f = 0
    · have o1 := fun h => vc_Owners_ok f h h0
      have o2 := fun h => vc_rOwners_ok f h h0 (hFew h0)
      rw [← osG_eq h0] at o2
      have o3 := fun h => eqI (osG f) h (by have := osG_len f; omega)
      by_cases hT : truE f x = 0
      · have t1 := fun h => vc_Truth_ok f x h hT
        have hg : isG f x = true := by
          unfold truE at hT
          rw [if_neg (by simpa using h0)] at hT
          split at hT
          · cases hT
          · cases hg : isG f x
            · rw [hg] at hT; cases hT
            · rfl
        obtain ⟨g1, g2⟩ := truG_ok h0 hg
        have g3 := told_tru h0 g1
        have g4 := (mem_tru.1 g1).1
        have t2 := fun h => vc_rOwner f (truG f x) h (by omega) (by omega)
        rw [if_pos g3, g3, g2] at t2
        rw [hT] at hSm
        refine VDraw.go [(1, 2)] (by kernel_rfl) (by kernel_rfl) ?_
        conv => whnf
        repeat' (first | (refine VLd.intro rfl ?_; conv => whnf) | (refine VArith.i64 (by omega) ?_; conv => whnf) | (refine VNeed.intro (by first | rfl | (simp; omega)) ?_; conv => whnf) | (refine VMem.store rfl rfl rfl rfl ?_; conv => whnf) | (refine VSame.intro rfl ?_; conv => whnf) | (refine VIte.dec (fun _ => ?_) (fun _ => ?_) <;> conv => whnf) | (refine VIte.ndec (fun _ => ?_) (fun _ => ?_) <;> conv => whnf) | (refine VIte.beq (fun _ => ?_) (fun _ => ?_) <;> conv => whnf) | (refine VIte.bne (fun _ => ?_) (fun _ => ?_) <;> conv => whnf) | (refine VIte.intro (fun _ => ?_) (fun _ => ?_) <;> conv => whnf) | (refine VCall.intro (vc_CloneFile f _ (by omega)) ?_; conv => whnf) | (refine VCall.intro (vc_File f _ (by omega)) ?_; conv => whnf) | (refine VCall.intro (o1 _) ?_; conv => whnf) | (refine VCall.intro (o2 _) ?_; conv => whnf) | (refine VCall.intro (o3 _) ?_; conv => whnf) | (refine VCall.intro (t1 _) ?_; conv => whnf) | (refine VCall.intro (hSm _) ?_; conv => whnf) | (refine VCall.intro (t2 _) ?_; conv => whnf))
        all_goals try first | exact VOut.same rfl | (rename_i hx; exact absurd rfl hx)
        all_goals (
          refine VCut.at [(1, I x), (2, .fp (encF f)), (5, .fp (encF f)), (6, .fp (encF f))] [] ?_ ?_
          · conv => whnf
            refine Retell.turn ⟨[], 3, [(0, encF f), (1, encF f), (2, encF f)], []⟩ (TurnOk.mk' _ _ [(0, encF f), (1, encF f), (2, encF f)] [] (OutOk.lift _) rfl (by decide) (by repeat' (first | exact BTos.nil | refine BTos.flat rfl rfl (by first | rfl | simp) ?_ | refine BTos.new rfl ?_ | refine BTos.dead rfl rfl ?_ | refine BTos.esE rfl rfl ?_ | refine BTos.row rfl rfl rfl (RowTo.snoc (RowTo.one rfl (by simp))) ?_ | refine BTos.cells rfl rfl rfl (by repeat' (first | exact VTo.undef | exact FrTo.leaf | refine FrTo.node ?_ ?_ ?_ | refine FrTo.none ?_ ?_ | exact VTo.sc (by first | rfl | (congr 1; omega) | (congr 1; simp; omega)) | exact VTos_dv _ _ | refine VTos.cons ?_ ?_ | exact VTos.nil | refine VTo.agg ?_ | refine VTo.tuple ?_ | refine VTo.func ?_ ?_ | exact VTo.fs | exact VTo.fp | exact VTo.nilptr | exact VTo.nilslice | exact VTo.nilfunc | exact VTo.ptr rfl | exact VTo.gl rfl | exact VTo.map rfl | exact VTo.yld rfl | exact VTo.fmMap rfl | exact VTo.fm | exact VTo.glNil' (by decide) rfl rfl | exact VTo.fsNil (by decide) | exact VTo.fsSl rfl rfl (by simp [flat_len encE_len]) | exact VTo.fpPtr rfl | exact VTo.fsGl rfl (by first | rfl | exact flat_len encI_len _ | exact flat_len encS_len _ | exact flat_len encP_len _ | exact flat_len encL_len _ | exact flat_len encE_len _ | (simp [flat_len encP_len]; done) | simp [flat_len encI_len, flat_len encS_len]))) ?_)) (by repeat' (first | exact FzAll.nil | refine FzAll.flat rfl ?_ | refine FzAll.row rfl rfl (RowTo.one rfl (by simp)) ?_)) trivial rfl) (by repeat' (first | exact VTo.undef | exact FrTo.leaf | refine FrTo.node ?_ ?_ ?_ | refine FrTo.none ?_ ?_ | exact VTo.sc (by first | rfl | (congr 1; omega) | (congr 1; simp; omega)) | exact VTos_dv _ _ | refine VTos.cons ?_ ?_ | exact VTos.nil | refine VTo.agg ?_ | refine VTo.tuple ?_ | refine VTo.func ?_ ?_ | exact VTo.fs | exact VTo.fp | exact VTo.nilptr | exact VTo.nilslice | exact VTo.nilfunc | exact VTo.ptr rfl | exact VTo.gl rfl | exact VTo.map rfl | exact VTo.yld rfl | exact VTo.fmMap rfl | exact VTo.fm | exact VTo.glNil' (by decide) rfl rfl | exact VTo.fsNil (by decide) | exact VTo.fsSl rfl rfl (by simp [flat_len encE_len]) | exact VTo.fpPtr rfl | exact VTo.fsGl rfl (by first | rfl | exact flat_len encI_len _ | exact flat_len encS_len _ | exact flat_len encP_len _ | exact flat_len encL_len _ | exact flat_len encE_len _ | (simp [flat_len encP_len]; done) | simp [flat_len encI_len, flat_len encS_len]))) (by first | rfl | (repeat' (first | exact MkTo.nil | refine MkTo.keep rfl ?_ | refine MkTo.drop (by decide) rfl ?_)))
          · conv => whnf
            repeat' (first | (refine VLd.intro rfl ?_; conv => whnf) | (refine VArith.i64 (by omega) ?_; conv => whnf) | (refine VNeed.intro (by first | rfl | (simp; omega)) ?_; conv => whnf) | (refine VMem.store rfl rfl rfl rfl ?_; conv => whnf) | (refine VSame.intro rfl ?_; conv => whnf) | (refine VIte.dec (fun _ => ?_) (fun _ => ?_) <;> conv => whnf) | (refine VIte.ndec (fun _ => ?_) (fun _ => ?_) <;> conv => whnf) | (refine VIte.beq (fun _ => ?_) (fun _ => ?_) <;> conv => whnf) | (refine VIte.bne (fun _ => ?_) (fun _ => ?_) <;> conv => whnf) | (refine VIte.intro (fun _ => ?_) (fun _ => ?_) <;> conv => whnf) | (refine VCall.intro (s1 _) ?_; conv => whnf) | (refine VCall.intro (s2 _) ?_; conv => whnf) | (refine VCall.intro (eqF f _ (by omega)) ?_; conv => whnf) | (refine VCall.intro (vc_awake _) ?_; conv => whnf) | (refine VAgg.intro (veqT a b) ?_; conv => whnf))
            all_goals first | exact VOut.same rfl | (rename_i hx; exact absurd rfl hx))
      · have t1 := fun h => vc_Truth_no f x h (by omega) hT
        refine VDraw.go [(1, 2)] (by kernel_rfl) (by kernel_rfl) ?_
        conv => whnf
        repeat' (first | (refine VLd.intro rfl ?_; conv => whnf) | (refine VArith.i64 (by omega) ?_; conv => whnf) | (refine VNeed.intro (by first | rfl | (simp; omega)) ?_; conv => whnf) | (refine VMem.store rfl rfl rfl rfl ?_; conv => whnf) | (refine VSame.intro rfl ?_; conv => whnf) | (refine VIte.dec (fun _ => ?_) (fun _ => ?_) <;> conv => whnf) | (refine VIte.ndec (fun _ => ?_) (fun _ => ?_) <;> conv => whnf) | (refine VIte.beq (fun _ => ?_) (fun _ => ?_) <;> conv => whnf) | (refine VIte.bne (fun _ => ?_) (fun _ => ?_) <;> conv => whnf) | (refine VIte.intro (fun _ => ?_) (fun _ => ?_) <;> conv => whnf) | (refine VCall.intro (vc_CloneFile f _ (by omega)) ?_; conv => whnf) | (refine VCall.intro (vc_File f _ (by omega)) ?_; conv => whnf) | (refine VCall.intro (o1 _) ?_; conv => whnf) | (refine VCall.intro (o2 _) ?_; conv => whnf) | (refine VCall.intro (o3 _) ?_; conv => whnf) | (refine VCall.intro (t1 _) ?_; conv => whnf) | (refine VCall.intro (hSm _) ?_; conv => whnf))
        all_goals try first | exact VOut.same rfl | (rename_i hx; exact absurd rfl hx) | (exfalso; rename_i hx; exact hT hx)
        all_goals (
          refine VCut.at [(1, I x), (2, .fp (encF f)), (5, .fp (encF f)), (6, .fp (encF f))] [] ?_ ?_
          · conv => whnf
            refine Retell.turn ⟨[], 3, [(0, encF f), (1, encF f), (2, encF f)], []⟩ (TurnOk.mk' _ _ [(0, encF f), (1, encF f), (2, encF f)] [] (OutOk.lift _) rfl (by decide) (by repeat' (first | exact BTos.nil | refine BTos.flat rfl rfl (by first | rfl | simp) ?_ | refine BTos.new rfl ?_ | refine BTos.dead rfl rfl ?_ | refine BTos.esE rfl rfl ?_ | refine BTos.row rfl rfl rfl (RowTo.snoc (RowTo.one rfl (by simp))) ?_ | refine BTos.cells rfl rfl rfl (by repeat' (first | exact VTo.undef | exact FrTo.leaf | refine FrTo.node ?_ ?_ ?_ | refine FrTo.none ?_ ?_ | exact VTo.sc (by first | rfl | (congr 1; omega) | (congr 1; simp; omega)) | exact VTos_dv _ _ | refine VTos.cons ?_ ?_ | exact VTos.nil | refine VTo.agg ?_ | refine VTo.tuple ?_ | refine VTo.func ?_ ?_ | exact VTo.fs | exact VTo.fp | exact VTo.nilptr | exact VTo.nilslice | exact VTo.nilfunc | exact VTo.ptr rfl | exact VTo.gl rfl | exact VTo.map rfl | exact VTo.yld rfl | exact VTo.fmMap rfl | exact VTo.fm | exact VTo.glNil' (by decide) rfl rfl | exact VTo.fsNil (by decide) | exact VTo.fsSl rfl rfl (by simp [flat_len encE_len]) | exact VTo.fpPtr rfl | exact VTo.fsGl rfl (by first | rfl | exact flat_len encI_len _ | exact flat_len encS_len _ | exact flat_len encP_len _ | exact flat_len encL_len _ | exact flat_len encE_len _ | (simp [flat_len encP_len]; done) | simp [flat_len encI_len, flat_len encS_len]))) ?_)) (by repeat' (first | exact FzAll.nil | refine FzAll.flat rfl ?_ | refine FzAll.row rfl rfl (RowTo.one rfl (by simp)) ?_)) trivial rfl) (by repeat' (first | exact VTo.undef | exact FrTo.leaf | refine FrTo.node ?_ ?_ ?_ | refine FrTo.none ?_ ?_ | exact VTo.sc (by first | rfl | (congr 1; omega) | (congr 1; simp; omega)) | exact VTos_dv _ _ | refine VTos.cons ?_ ?_ | exact VTos.nil | refine VTo.agg ?_ | refine VTo.tuple ?_ | refine VTo.func ?_ ?_ | exact VTo.fs | exact VTo.fp | exact VTo.nilptr | exact VTo.nilslice | exact VTo.nilfunc | exact VTo.ptr rfl | exact VTo.gl rfl | exact VTo.map rfl | exact VTo.yld rfl | exact VTo.fmMap rfl | exact VTo.fm | exact VTo.glNil' (by decide) rfl rfl | exact VTo.fsNil (by decide) | exact VTo.fsSl rfl rfl (by simp [flat_len encE_len]) | exact VTo.fpPtr rfl | exact VTo.fsGl rfl (by first | rfl | exact flat_len encI_len _ | exact flat_len encS_len _ | exact flat_len encP_len _ | exact flat_len encL_len _ | exact flat_len encE_len _ | (simp [flat_len encP_len]; done) | simp [flat_len encI_len, flat_len encS_len]))) (by first | rfl | (repeat' (first | exact MkTo.nil | refine MkTo.keep rfl ?_ | refine MkTo.drop (by decide) rfl ?_)))
          · conv => whnf
            repeat' (first | (refine VLd.intro rfl ?_; conv => whnf) | (refine VArith.i64 (by omega) ?_; conv => whnf) | (refine VNeed.intro (by first | rfl | (simp; omega)) ?_; conv => whnf) | (refine VMem.store rfl rfl rfl rfl ?_; conv => whnf) | (refine VSame.intro rfl ?_; conv => whnf) | (refine VIte.dec (fun _ => ?_) (fun _ => ?_) <;> conv => whnf) | (refine VIte.ndec (fun _ => ?_) (fun _ => ?_) <;> conv => whnf) | (refine VIte.beq (fun _ => ?_) (fun _ => ?_) <;> conv => whnf) | (refine VIte.bne (fun _ => ?_) (fun _ => ?_) <;> conv => whnf) | (refine VIte.intro (fun _ => ?_) (fun _ => ?_) <;> conv => whnf) | (refine VCall.intro (s1 _) ?_; conv => whnf) | (refine VCall.intro (s2 _) ?_; conv => whnf) | (refine VCall.intro (eqF f _ (by omega)) ?_; conv => whnf) | (refine VCall.intro (vc_awake _) ?_; conv => whnf) | (refine VAgg.intro (veqT a b) ?_; conv => whnf))
            all_goals first | exact VOut.same rfl | (rename_i hx; exact absurd rfl hx))
    · have o1 := fun h => vc_Owners_no f h (by omega) h0
      have o2 := fun h => vc_rOwners_no f h (by omega) h0
      have o3 := eqNilI
      have hT : truE f x ≠ 0 := by unfold truE; rw [if_pos h0]; exact h0
      have t1 := fun h => vc_Truth_no f x h (by omega) hT
      refine VDraw.go [(1, 2)] (by kernel_rfl) (by kernel_rfl) ?_
      conv => whnf
      repeat' (first | (refine VLd.intro rfl ?_; conv => whnf) | (refine VArith.i64 (by omega) ?_; conv => whnf) | (refine VNeed.intro (by first | rfl | (simp; omega)) ?_; conv => whnf) | (refine VMem.store rfl rfl rfl rfl ?_; conv => whnf) | (refine VSame.intro rfl ?_; conv => whnf) | (refine VIte.dec (fun _ => ?_) (fun _ => ?_) <;> conv => whnf) | (refine VIte.ndec (fun _ => ?_) (fun _ => ?_) <;> conv => whnf) | (refine VIte.beq (fun _ => ?_) (fun _ => ?_) <;> conv => whnf) | (refine VIte.bne (fun _ => ?_) (fun _ => ?_) <;> conv => whnf) | (refine VIte.intro (fun _ => ?_) (fun _ => ?_) <;> conv => whnf) | (refine VCall.intro (vc_CloneFile f _ (by omega)) ?_; conv => whnf) | (refine VCall.intro (vc_File f _ (by omega)) ?_; conv => whnf) | (refine VCall.intro (o1 _) ?_; conv => whnf) | (refine VCall.intro (o2 _) ?_; conv => whnf) | (refine VCall.intro (o3 _) ?_; conv => whnf) | (refine VCall.intro (t1 _) ?_; conv => whnf) | (refine VCall.intro (hSm _) ?_; conv => whnf))
      all_goals try first | exact VOut.same rfl | (rename_i hx; exact absurd rfl hx) | (exfalso; rename_i hx; exact hT hx)
      all_goals (
        refine VCut.at [(1, I x), (2, .fp (encF f)), (5, .fp (encF f)), (6, .fp (encF f))] [] ?_ ?_
        · conv => whnf
          refine Retell.turn ⟨[], 3, [(0, encF f), (1, encF f), (2, encF f)], []⟩ (TurnOk.mk' _ _ [(0, encF f), (1, encF f), (2, encF f)] [] (OutOk.lift _) rfl (by decide) (by repeat' (first | exact BTos.nil | refine BTos.flat rfl rfl (by first | rfl | simp) ?_ | refine BTos.new rfl ?_ | refine BTos.dead rfl rfl ?_ | refine BTos.esE rfl rfl ?_ | refine BTos.row rfl rfl rfl (RowTo.snoc (RowTo.one rfl (by simp))) ?_ | refine BTos.cells rfl rfl rfl (by repeat' (first | exact VTo.undef | exact FrTo.leaf | refine FrTo.node ?_ ?_ ?_ | refine FrTo.none ?_ ?_ | exact VTo.sc (by first | rfl | (congr 1; omega) | (congr 1; simp; omega)) | exact VTos_dv _ _ | refine VTos.cons ?_ ?_ | exact VTos.nil | refine VTo.agg ?_ | refine VTo.tuple ?_ | refine VTo.func ?_ ?_ | exact VTo.fs | exact VTo.fp | exact VTo.nilptr | exact VTo.nilslice | exact VTo.nilfunc | exact VTo.ptr rfl | exact VTo.gl rfl | exact VTo.map rfl | exact VTo.yld rfl | exact VTo.fmMap rfl | exact VTo.fm | exact VTo.glNil' (by decide) rfl rfl | exact VTo.fsNil (by decide) | exact VTo.fsSl rfl rfl (by simp [flat_len encE_len]) | exact VTo.fpPtr rfl | exact VTo.fsGl rfl (by first | rfl | exact flat_len encI_len _ | exact flat_len encS_len _ | exact flat_len encP_len _ | exact flat_len encL_len _ | exact flat_len encE_len _ | (simp [flat_len encP_len]; done) | simp [flat_len encI_len, flat_len encS_len]))) ?_)) (by repeat' (first | exact FzAll.nil | refine FzAll.flat rfl ?_ | refine FzAll.row rfl rfl (RowTo.one rfl (by simp)) ?_)) trivial rfl) (by repeat' (first | exact VTo.undef | exact FrTo.leaf | refine FrTo.node ?_ ?_ ?_ | refine FrTo.none ?_ ?_ | exact VTo.sc (by first | rfl | (congr 1; omega) | (congr 1; simp; omega)) | exact VTos_dv _ _ | refine VTos.cons ?_ ?_ | exact VTos.nil | refine VTo.agg ?_ | refine VTo.tuple ?_ | refine VTo.func ?_ ?_ | exact VTo.fs | exact VTo.fp | exact VTo.nilptr | exact VTo.nilslice | exact VTo.nilfunc | exact VTo.ptr rfl | exact VTo.gl rfl | exact VTo.map rfl | exact VTo.yld rfl | exact VTo.fmMap rfl | exact VTo.fm | exact VTo.glNil' (by decide) rfl rfl | exact VTo.fsNil (by decide) | exact VTo.fsSl rfl rfl (by simp [flat_len encE_len]) | exact VTo.fpPtr rfl | exact VTo.fsGl rfl (by first | rfl | exact flat_len encI_len _ | exact flat_len encS_len _ | exact flat_len encP_len _ | exact flat_len encL_len _ | exact flat_len encE_len _ | (simp [flat_len encP_len]; done) | simp [flat_len encI_len, flat_len encS_len]))) (by first | rfl | (repeat' (first | exact MkTo.nil | refine MkTo.keep rfl ?_ | refine MkTo.drop (by decide) rfl ?_)))
        · conv => whnf
          repeat' (first | (refine VLd.intro rfl ?_; conv => whnf) | (refine VArith.i64 (by omega) ?_; conv => whnf) | (refine VNeed.intro (by first | rfl | (simp; omega)) ?_; conv => whnf) | (refine VMem.store rfl rfl rfl rfl ?_; conv => whnf) | (refine VSame.intro rfl ?_; conv => whnf) | (refine VIte.dec (fun _ => ?_) (fun _ => ?_) <;> conv => whnf) | (refine VIte.ndec (fun _ => ?_) (fun _ => ?_) <;> conv => whnf) | (refine VIte.beq (fun _ => ?_) (fun _ => ?_) <;> conv => whnf) | (refine VIte.bne (fun _ => ?_) (fun _ => ?_) <;> conv => whnf) | (refine VIte.intro (fun _ => ?_) (fun _ => ?_) <;> conv => whnf) | (refine VCall.intro (s1 _) ?_; conv => whnf) | (refine VCall.intro (s2 _) ?_; conv => whnf) | (refine VCall.intro (eqF f _ (by omega)) ?_; conv => whnf) | (refine VCall.intro (vc_awake _) ?_; conv => whnf) | (refine VAgg.intro (veqT a b) ?_; conv => whnf))
          all_goals first | exact VOut.same rfl | (rename_i hx; exact absurd rfl hx))
end Go.Proofs.Ytolnajnlcdacmaa

open Go.Vm
namespace Go.Proofs.Ytolnajnlcdacmaa
open Go.ChangeShapes Go.WideShapes Go.ChangeAt Go.RowKit

theorem open3p : OpenAll Try.prog Try.f3.params.toList (fun x : Fil × Int × Unit => [dF x.1, DI x.2.1]) := by
  rw [Try.params3]
  exact OpenAll.cons openF (OpenAll.cons openI (OpenAll.nil))
set_option maxRecDepth 100000 in
theorem contract3 (H : Type) (enc : TypeId × Value → H) (W : World) (base : Nat) (args : Array Value) (ds gs : List (DataW H)) (before : List MemPlace)
    (hval : ∀ (j : Nat) t v, Try.f3.params[j]? = some t → args[j]? = some v → Value.okWide Try.prog W .any base t v)
    (hW : DataW.Whole enc Try.prog Try.f3.params.toList Rows.silenceOwnersSpec.vars false W args.toList ds gs before) :
    Calls Try.prog 3 args W fun e W' => ∃ v, e = .returned v ∧ Rows.silenceOwnersSpec.post enc Try.prog Try.f3 false true false false W args v W' := by
  refine contract_of_vc open3p (fun g => vc_SilenceOwners g.1 g.2.1 Hp.bare) laidOut ?_ (tb := 4) (by kernel_rfl) Try.underlying4 rfl ?_ hval hW
  · rw [Try.params3]
    intro t ht
    simp only [List.mem_cons, List.not_mem_nil, or_false] at ht
    rcases ht with rfl | rfl
    all_goals exact ⟨by kernel_rfl, of_decide_eq_true (by kernel_rfl)⟩
  · intro H dd hl
    rw [Try.params3] at hl
    match dd, hl with
    | [d0, d1], _ => rfl
set_option maxRecDepth 100000 in
theorem lifted3 (os : Os) (started : os.Started) (H : Type) (enc : TypeId × Value → H) :
    ReturnsInHanded {} Try.checked os 3 .any (Rows.silenceOwnersSpec.pre6 enc Try.prog Try.f3 Rows.silenceOwnersRow.domain false) (Rows.silenceOwnersSpec.post enc Try.prog Try.f3 false true false false) := by
  refine returnsInHanded_of_change (C := Try.checked) ownKn started (by kernel_rfl) Try.func3
    (ChangeSpec.witness6 (enc := enc) (C := Try.checked) false ⟨#[], #[.agg #[.int .i64 0, .int .i64 0, .slice none 0 0], .int .i64 0], []⟩ 8 (by kernel_rfl) (by kernel_rfl) (by kernel_rfl) (by kernel_rfl)) ?_
  intro W base args ds gs before hval hW _ _
  exact contract3 H enc W base args ds gs before hval hW
theorem silenceOwners_said : Rows.SilenceOwnersSaid :=
  OpenClaim.holds_of_wide 3 Try.f3 rfl rfl rfl rfl rfl rfl rfl ⟨rfl, rfl, rfl, rfl, rfl⟩ rfl rfl rfl rfl rfl (by kernel_rfl) Try.func3 (by kernel_rfl)
    (of_decide_eq_true (by kernel_rfl)) (by unfold Func.isWrapper; first | (rw [if_pos (by decide +kernel)]; kernel_rfl) | (rw [if_neg (by decide +kernel)]; exact ⟨rfl, rfl⟩))
    (fun os started H enc _ => lifted3 os started H enc)
end Go.Proofs.Ytolnajnlcdacmaa

