/- Part 4 of the proof that the law of Exchanges always answers true. No condition. -/
import Derived.Test.YtmpjpjfkbmlmfaaEx3
set_option linter.unusedVariables false
set_option linter.unusedSimpArgs false
open Go.Vm
namespace Go.Proofs.Ytmpjpjfkbmlmfaa
set_option maxRecDepth 20000
set_option maxHeartbeats 1000000

/-! ### Copies, and what is equal -/
theorem vc_cloneI (l : List Int) (h : Hp) (hl : l.length ≤ 4000000) : VC Try.prog 36 [ints l] h (ints l) h := by
  refine VC.body Try.func36 rfl Try.ntmps36 Try.call36 (h.grows_refl) rfl ?_; conv => whnf
  repeat (first | (refine VLd.intro rfl ?_; conv => whnf) | (refine VArith.i64 (by first | omega | (dsimp only; omega)) ?_; conv => whnf) | (refine VNeed.intro (by first | rfl | (simp; omega)) ?_; conv => whnf) | (refine VMem.store rfl rfl rfl rfl ?_; conv => whnf) | (refine VSame.intro rfl ?_; conv => whnf) | (refine VDraw.go [] (by kernel_rfl) (by kernel_rfl) ?_; conv => whnf))
  refine VMem.appNil encI_len rfl rfl rfl (by omega) ?_
  conv => whnf
  repeat (first | (refine VLd.intro rfl ?_; conv => whnf) | (refine VArith.i64 (by first | omega | (dsimp only; omega)) ?_; conv => whnf) | (refine VNeed.intro (by first | rfl | (simp; omega)) ?_; conv => whnf) | (refine VMem.store rfl rfl rfl rfl ?_; conv => whnf) | (refine VSame.intro rfl ?_; conv => whnf) | (refine VDraw.go [] (by kernel_rfl) (by kernel_rfl) ?_; conv => whnf))
  refine VOut.data 1 [(0, l.flatMap encI)] [] rfl (by repeat' (first | exact FzAll.nil | refine FzAll.flat rfl ?_ | refine FzAll.row rfl rfl (RowTo.one rfl (by simp)) ?_)) (by exact FmAll.nil) (by repeat' (first | exact VTo.undef | exact FrTo.leaf | refine FrTo.node ?_ ?_ ?_ | refine FrTo.none ?_ ?_ | exact VTo.sc (by first | rfl | (congr 1; omega) | (congr 1; simp; omega)) | exact VTos_dv _ _ | refine VTos.cons ?_ ?_ | exact VTos.nil | refine VTo.agg ?_ | refine VTo.tuple ?_ | refine VTo.func ?_ ?_ | exact VTo.fs | exact VTo.fp | exact VTo.nilptr | exact VTo.nilslice | exact VTo.nilfunc | exact VTo.ptr rfl | exact VTo.gl rfl | exact VTo.map rfl | exact VTo.yld rfl | exact VTo.fmMap rfl | exact VTo.fm | exact VTo.glNil' (by decide) rfl rfl | exact VTo.fsNil (by decide) | exact VTo.fsSl rfl rfl (by simp [flat_len encE_len]) | exact VTo.fpPtr rfl | exact VTo.fsGl rfl (by first | rfl | exact flat_len encI_len _ | exact flat_len encT_len _ | exact flat_len encS_len _ | exact flat_len encP_len _ | exact flat_len encL_len _ | exact flat_len encE_len _ | (simp [flat_len encP_len]; done) | simp [flat_len encI_len, flat_len encS_len])))
theorem vc_cloneT (l : List Str) (h : Hp) (hl : l.length ≤ 4000000) : VC Try.prog 51 [strs l] h (strs l) h := by
  refine VC.body Try.func51 rfl Try.ntmps51 Try.call51 (h.grows_refl) rfl ?_; conv => whnf
  repeat (first | (refine VLd.intro rfl ?_; conv => whnf) | (refine VArith.i64 (by first | omega | (dsimp only; omega)) ?_; conv => whnf) | (refine VNeed.intro (by first | rfl | (simp; omega)) ?_; conv => whnf) | (refine VMem.store rfl rfl rfl rfl ?_; conv => whnf) | (refine VSame.intro rfl ?_; conv => whnf) | (refine VDraw.go [] (by kernel_rfl) (by kernel_rfl) ?_; conv => whnf))
  refine VMem.appNil encT_len rfl rfl rfl (by omega) ?_
  conv => whnf
  repeat (first | (refine VLd.intro rfl ?_; conv => whnf) | (refine VArith.i64 (by first | omega | (dsimp only; omega)) ?_; conv => whnf) | (refine VNeed.intro (by first | rfl | (simp; omega)) ?_; conv => whnf) | (refine VMem.store rfl rfl rfl rfl ?_; conv => whnf) | (refine VSame.intro rfl ?_; conv => whnf) | (refine VDraw.go [] (by kernel_rfl) (by kernel_rfl) ?_; conv => whnf))
  refine VOut.data 1 [(0, l.flatMap encT)] [] rfl (FzAll.flat rfl FzAll.nil) trivial (VTo.fsGl rfl (flat_len encT_len _))
theorem vc_CloneLand (l : Lnd) (h : Hp) (hn : l.ss.length ≤ 4000000) (hv : l.vs.length ≤ 4000000) : VC Try.prog 13 [vL l] h (vL l) h := by
  refine VC.body Try.func13 rfl Try.ntmps13 Try.call13 (h.grows_refl) rfl ?_; conv => whnf
  repeat' (first | (refine VLd.intro rfl ?_; conv => whnf) | (refine VArith.i64 (by first | omega | (dsimp only; omega)) ?_; conv => whnf) | (refine VNeed.intro (by first | rfl | (simp; omega)) ?_; conv => whnf) | (refine VMem.store rfl rfl rfl rfl ?_; conv => whnf) | (refine VSame.intro rfl ?_; conv => whnf) | (refine VDraw.go [(2, 4)] (by kernel_rfl) (by kernel_rfl) ?_; conv => whnf) | (refine VIte.dec (fun _ => ?_) (fun _ => ?_) <;> conv => whnf) | (refine VIte.ndec (fun _ => ?_) (fun _ => ?_) <;> conv => whnf) | (refine VIte.beq (fun _ => ?_) (fun _ => ?_) <;> conv => whnf) | (refine VIte.bne (fun _ => ?_) (fun _ => ?_) <;> conv => whnf) | (refine VIte.intro (fun _ => ?_) (fun _ => ?_) <;> conv => whnf) | (refine VCall.intro (vc_cloneT l.ss _ hn) ?_; conv => whnf) | (refine VCall.intro (vc_cloneI l.vs _ hv) ?_; conv => whnf))
  exact VOut.same rfl
theorem vc_exchange (x : Exc) (h : Hp) (hp : x.ps.length ≤ 4000000) : VC Try.prog 37 [vX x] h (vX x) h := by
  refine VC.body Try.func37 rfl Try.ntmps37 Try.call37 (h.grows_refl) rfl ?_; conv => whnf
  repeat' (first | (refine VLd.intro rfl ?_; conv => whnf) | (refine VArith.i64 (by first | omega | (dsimp only; omega)) ?_; conv => whnf) | (refine VNeed.intro (by first | rfl | (simp; omega)) ?_; conv => whnf) | (refine VMem.store rfl rfl rfl rfl ?_; conv => whnf) | (refine VSame.intro rfl ?_; conv => whnf) | (refine VDraw.go [(1, 4)] (by kernel_rfl) (by kernel_rfl) ?_; conv => whnf) | (refine VIte.dec (fun _ => ?_) (fun _ => ?_) <;> conv => whnf) | (refine VIte.ndec (fun _ => ?_) (fun _ => ?_) <;> conv => whnf) | (refine VIte.beq (fun _ => ?_) (fun _ => ?_) <;> conv => whnf) | (refine VIte.bne (fun _ => ?_) (fun _ => ?_) <;> conv => whnf) | (refine VIte.intro (fun _ => ?_) (fun _ => ?_) <;> conv => whnf) | (refine VCall.intro (vc_cloneI x.ps _ hp) ?_; conv => whnf))
  exact VOut.same rfl
theorem drop_eq_dec {α : Type} [DecidableEq α] {a b : List α} {k : Nat} {x y : α} (hx : a[k]? = some x) (hy : b[k]? = some y) : decide (a.drop k = b.drop k) = (decide (x = y) && decide (a.drop (k + 1) = b.drop (k + 1))) := by
  obtain ⟨h1, rfl⟩ := List.getElem?_eq_some_iff.1 hx
  obtain ⟨h2, rfl⟩ := List.getElem?_eq_some_iff.1 hy
  rw [List.drop_eq_getElem_cons h1, List.drop_eq_getElem_cons h2, Bool.eq_iff_iff, Bool.and_eq_true, decide_eq_true_eq, decide_eq_true_eq, decide_eq_true_eq, List.cons.injEq]
theorem ne_I {x y : Int} (h : ¬ x = y) : ¬ x = y := h
theorem eq_I {x y : Int} (h : x = y) : x = y := h
theorem ne_T {x y : Str} (h : ¬ x = y) : ¬ x = y := h
theorem eq_T {x y : Str} (h : ¬ ¬ x = y) : x = y := Decidable.not_not.1 h
theorem top58 : eqTop Try.prog 58 = some (Sh.cons 0 1 false Sh.int (Sh.cons 1 1 false Sh.int (Sh.cons 2 1 false Sh.int (Sh.cons 3 1 false Sh.int Sh.nil)))) := by kernel_rfl
theorem vneqT (x y : Str) : vaggeq Try.prog .neq 58 (.agg [I x.ow, I x.no, I x.so, I x.we]) (.agg [I y.ow, I y.no, I y.so, I y.we]) = some (B (decide (¬ x = y))) := by
  have : (!((x.ow == y.ow) && ((x.no == y.no) && ((x.so == y.so) && ((x.we == y.we) && true))))) = decide (¬ x = y) := by cases x; cases y; rw [Bool.eq_iff_iff, decide_eq_true_eq]; simp [-not_and]; omega
  rw [← this]
  unfold vaggeq
  rw [top58]
  rfl
theorem vc_equalI (a b : List Int) (h : Hp) (ha : a.length ≤ 4000000) (hb : b.length ≤ 4000000) : VC Try.prog 17 [ints a, ints b] h (B (decide (a = b))) h := by
  obtain ⟨E, hE⟩ : ∃ E, E = decide (a = b) := ⟨_, rfl⟩
  rw [← hE]
  refine VC.body Try.func17 rfl Try.ntmps17 Try.call17 (h.grows_refl) rfl ?_; conv => whnf
  refine VCode.lp (fun k : Nat => [(0, ints a), (1, ints b), (4, B false), (7, I a.length), (8, I k)]) (fun _ => []) (fun k => k ≤ a.length ∧ k ≤ b.length ∧ E = decide (a.drop k = b.drop k)) (fun k => a.length - k) 0 ⟨Nat.zero_le _, Nat.zero_le _, hE⟩ ?_ ?_
  · conv => whnf
    refine Retell.turn ⟨[], 0, [], []⟩ (TurnOk.mk' _ _ [] [] (OutOk.lift _) rfl (by decide) (by repeat' (first | exact BTos.nil | refine BTos.flat rfl rfl (by first | rfl | simp) ?_ | refine BTos.new rfl ?_ | refine BTos.dead rfl rfl ?_ | refine BTos.esE rfl rfl ?_ | refine BTos.row rfl rfl rfl (RowTo.snoc (RowTo.one rfl (by simp))) ?_ | refine BTos.cells rfl rfl rfl (by repeat' (first | exact VTo.undef | exact FrTo.leaf | refine FrTo.node ?_ ?_ ?_ | refine FrTo.none ?_ ?_ | exact VTo.sc (by first | rfl | (congr 1; omega) | (congr 1; simp; omega)) | exact VTos_dv _ _ | refine VTos.cons ?_ ?_ | exact VTos.nil | refine VTo.agg ?_ | refine VTo.tuple ?_ | refine VTo.func ?_ ?_ | exact VTo.fs | exact VTo.fp | exact VTo.nilptr | exact VTo.nilslice | exact VTo.nilfunc | exact VTo.ptr rfl | exact VTo.gl rfl | exact VTo.map rfl | exact VTo.yld rfl | exact VTo.fmMap rfl | exact VTo.fm | exact VTo.glNil' (by decide) rfl rfl | exact VTo.fsNil (by decide) | exact VTo.fsSl rfl rfl (by simp [flat_len encE_len]) | exact VTo.fpPtr rfl | exact VTo.fsGl rfl (by first | rfl | exact flat_len encI_len _ | exact flat_len encT_len _ | exact flat_len encS_len _ | exact flat_len encP_len _ | exact flat_len encL_len _ | exact flat_len encE_len _ | (simp [flat_len encP_len]; done) | simp [flat_len encI_len, flat_len encS_len]))) ?_)) trivial trivial rfl) (by repeat' (first | exact VTo.undef | exact FrTo.leaf | refine FrTo.node ?_ ?_ ?_ | refine FrTo.none ?_ ?_ | exact VTo.sc (by first | rfl | (congr 1; omega) | (congr 1; simp; omega)) | exact VTos_dv _ _ | refine VTos.cons ?_ ?_ | exact VTos.nil | refine VTo.agg ?_ | refine VTo.tuple ?_ | refine VTo.func ?_ ?_ | exact VTo.fs | exact VTo.fp | exact VTo.nilptr | exact VTo.nilslice | exact VTo.nilfunc | exact VTo.ptr rfl | exact VTo.gl rfl | exact VTo.map rfl | exact VTo.yld rfl | exact VTo.fmMap rfl | exact VTo.fm | exact VTo.glNil' (by decide) rfl rfl | exact VTo.fsNil (by decide) | exact VTo.fsSl rfl rfl (by simp [flat_len encE_len]) | exact VTo.fpPtr rfl | exact VTo.fsGl rfl (by first | rfl | exact flat_len encI_len _ | exact flat_len encT_len _ | exact flat_len encS_len _ | exact flat_len encP_len _ | exact flat_len encL_len _ | exact flat_len encE_len _ | (simp [flat_len encP_len]; done) | simp [flat_len encI_len, flat_len encS_len]))) (by first | rfl | (repeat' (first | exact MkTo.nil | refine MkTo.keep rfl ?_ | refine MkTo.drop (by decide) rfl ?_)))
  · rintro k ⟨h1, h2, h3⟩
    conv => whnf
    refine VIte.dec (fun h4 => ?_) (fun h4 => ?_)
    · have hx : a[k]? = some a[k] := List.getElem?_eq_getElem (by omega)
      rcases Nat.eq_or_lt_of_le h2 with h5 | h5
      · have hF : E = false := by
          rw [h3, decide_eq_false_iff_not]
          intro hh
          have := congrArg List.length hh
          simp at this; omega
        rw [hF]
        conv => whnf
        repeat' (first | (refine VLd.intro rfl ?_; conv => whnf) | (refine VArith.i64 (by first | omega | (dsimp only; omega)) ?_; conv => whnf) | (refine VNeed.intro (by first | rfl | (simp; omega)) ?_; conv => whnf) | (refine VMem.store rfl rfl rfl rfl ?_; conv => whnf) | (refine VSame.intro rfl ?_; conv => whnf) | (refine VDraw.go [] (by kernel_rfl) (by kernel_rfl) ?_; conv => whnf) | (refine VIte.dec (fun _ => ?_) (fun _ => ?_) <;> conv => whnf) | (refine VIte.ndec (fun _ => ?_) (fun _ => ?_) <;> conv => whnf) | (refine VIte.beq (fun _ => ?_) (fun _ => ?_) <;> conv => whnf) | (refine VIte.bne (fun _ => ?_) (fun _ => ?_) <;> conv => whnf) | (refine VIte.intro (fun _ => ?_) (fun _ => ?_) <;> conv => whnf))
        · exact VOut.same rfl
        all_goals omega
      · have hy : b[k]? = some b[k] := List.getElem?_eq_getElem h5
        rw [drop_eq_dec hx hy] at h3
        generalize a[k] = x at hx h3
        generalize b[k] = y at hy h3
        conv => whnf
        repeat' (first | (refine VLd.intro rfl ?_; conv => whnf) | (refine VArith.i64 (by first | omega | (dsimp only; omega)) ?_; conv => whnf) | (refine VNeed.intro (by first | rfl | (simp; omega)) ?_; conv => whnf) | (refine VMem.store rfl rfl rfl rfl ?_; conv => whnf) | (refine VSame.intro rfl ?_; conv => whnf) | (refine VDraw.go [] (by kernel_rfl) (by kernel_rfl) ?_; conv => whnf) | (refine VIte.dec (fun _ => ?_) (fun _ => ?_) <;> conv => whnf) | (refine VIte.ndec (fun _ => ?_) (fun _ => ?_) <;> conv => whnf) | (refine VIte.beq (fun _ => ?_) (fun _ => ?_) <;> conv => whnf) | (refine VIte.bne (fun _ => ?_) (fun _ => ?_) <;> conv => whnf) | (refine VIte.intro (fun _ => ?_) (fun _ => ?_) <;> conv => whnf) | (refine VAny.ix encI_len k rfl rfl hx ?_; conv => whnf) | (refine VAny.ix encI_len k rfl rfl hy ?_; conv => whnf))
        all_goals (try omega)
        all_goals first
          | (rw [decide_eq_false (ne_I (by first | assumption | omega)), Bool.false_and] at h3; rw [h3]; exact VOut.same rfl)
          | (rw [decide_eq_true (eq_I (by first | assumption | omega)), Bool.true_and] at h3
             refine LEnd.intro (k + 1) ⟨by omega, by omega, h3⟩ (by omega) ?_
             conv => whnf
             refine Retell.turn ⟨[], 0, [], []⟩ (TurnOk.mk' _ _ [] [] (OutOk.lift _) rfl (by decide) (by repeat' (first | exact BTos.nil | refine BTos.flat rfl rfl (by first | rfl | simp) ?_ | refine BTos.new rfl ?_ | refine BTos.dead rfl rfl ?_ | refine BTos.esE rfl rfl ?_ | refine BTos.row rfl rfl rfl (RowTo.snoc (RowTo.one rfl (by simp))) ?_ | refine BTos.cells rfl rfl rfl (by repeat' (first | exact VTo.undef | exact FrTo.leaf | refine FrTo.node ?_ ?_ ?_ | refine FrTo.none ?_ ?_ | exact VTo.sc (by first | rfl | (congr 1; omega) | (congr 1; simp; omega)) | exact VTos_dv _ _ | refine VTos.cons ?_ ?_ | exact VTos.nil | refine VTo.agg ?_ | refine VTo.tuple ?_ | refine VTo.func ?_ ?_ | exact VTo.fs | exact VTo.fp | exact VTo.nilptr | exact VTo.nilslice | exact VTo.nilfunc | exact VTo.ptr rfl | exact VTo.gl rfl | exact VTo.map rfl | exact VTo.yld rfl | exact VTo.fmMap rfl | exact VTo.fm | exact VTo.glNil' (by decide) rfl rfl | exact VTo.fsNil (by decide) | exact VTo.fsSl rfl rfl (by simp [flat_len encE_len]) | exact VTo.fpPtr rfl | exact VTo.fsGl rfl (by first | rfl | exact flat_len encI_len _ | exact flat_len encT_len _ | exact flat_len encS_len _ | exact flat_len encP_len _ | exact flat_len encL_len _ | exact flat_len encE_len _ | (simp [flat_len encP_len]; done) | simp [flat_len encI_len, flat_len encS_len]))) ?_)) trivial trivial rfl) (by repeat' (first | exact VTo.undef | exact FrTo.leaf | refine FrTo.node ?_ ?_ ?_ | refine FrTo.none ?_ ?_ | exact VTo.sc (by first | rfl | (congr 1; omega) | (congr 1; simp; omega)) | exact VTos_dv _ _ | refine VTos.cons ?_ ?_ | exact VTos.nil | refine VTo.agg ?_ | refine VTo.tuple ?_ | refine VTo.func ?_ ?_ | exact VTo.fs | exact VTo.fp | exact VTo.nilptr | exact VTo.nilslice | exact VTo.nilfunc | exact VTo.ptr rfl | exact VTo.gl rfl | exact VTo.map rfl | exact VTo.yld rfl | exact VTo.fmMap rfl | exact VTo.fm | exact VTo.glNil' (by decide) rfl rfl | exact VTo.fsNil (by decide) | exact VTo.fsSl rfl rfl (by simp [flat_len encE_len]) | exact VTo.fpPtr rfl | exact VTo.fsGl rfl (by first | rfl | exact flat_len encI_len _ | exact flat_len encT_len _ | exact flat_len encS_len _ | exact flat_len encP_len _ | exact flat_len encL_len _ | exact flat_len encE_len _ | (simp [flat_len encP_len]; done) | simp [flat_len encI_len, flat_len encS_len]))) (by first | rfl | (repeat' (first | exact MkTo.nil | refine MkTo.keep rfl ?_ | refine MkTo.drop (by decide) rfl ?_))))
    · have hk : k = a.length := by omega
      rw [h3, hk, List.drop_length]
      conv => whnf
      repeat' (first | (refine VLd.intro rfl ?_; conv => whnf) | (refine VArith.i64 (by first | omega | (dsimp only; omega)) ?_; conv => whnf) | (refine VNeed.intro (by first | rfl | (simp; omega)) ?_; conv => whnf) | (refine VMem.store rfl rfl rfl rfl ?_; conv => whnf) | (refine VSame.intro rfl ?_; conv => whnf) | (refine VDraw.go [] (by kernel_rfl) (by kernel_rfl) ?_; conv => whnf) | (refine VIte.dec (fun _ => ?_) (fun _ => ?_) <;> conv => whnf) | (refine VIte.ndec (fun _ => ?_) (fun _ => ?_) <;> conv => whnf) | (refine VIte.beq (fun _ => ?_) (fun _ => ?_) <;> conv => whnf) | (refine VIte.bne (fun _ => ?_) (fun _ => ?_) <;> conv => whnf) | (refine VIte.intro (fun _ => ?_) (fun _ => ?_) <;> conv => whnf))
      refine VOut.same ?_
      have : ((a.length : Int) == b.length) = decide ([] = b.drop a.length) := by
        rw [Bool.eq_iff_iff, decide_eq_true_eq, beq_iff_eq]
        constructor
        · intro hh; rw [List.drop_of_length_le (by omega)]
        · intro hh
          have := congrArg List.length hh
          simp at this; omega
      simp only [V.ren, this]
theorem vc_equalT (a b : List Str) (h : Hp) (ha : a.length ≤ 4000000) (hb : b.length ≤ 4000000) : VC Try.prog 61 [strs a, strs b] h (B (decide (a = b))) h := by
  obtain ⟨E, hE⟩ : ∃ E, E = decide (a = b) := ⟨_, rfl⟩
  rw [← hE]
  refine VC.body Try.func61 rfl Try.ntmps61 Try.call61 (h.grows_refl) rfl ?_; conv => whnf
  refine VCode.lp (fun k : Nat => [(0, strs a), (1, strs b), (4, B false), (7, I a.length), (8, I k)]) (fun _ => []) (fun k => k ≤ a.length ∧ k ≤ b.length ∧ E = decide (a.drop k = b.drop k)) (fun k => a.length - k) 0 ⟨Nat.zero_le _, Nat.zero_le _, hE⟩ ?_ ?_
  · conv => whnf
    refine Retell.turn ⟨[], 0, [], []⟩ (TurnOk.mk' _ _ [] [] (OutOk.lift _) rfl (by decide) (by repeat' (first | exact BTos.nil | refine BTos.flat rfl rfl (by first | rfl | simp) ?_ | refine BTos.new rfl ?_ | refine BTos.dead rfl rfl ?_ | refine BTos.esE rfl rfl ?_ | refine BTos.row rfl rfl rfl (RowTo.snoc (RowTo.one rfl (by simp))) ?_ | refine BTos.cells rfl rfl rfl (by repeat' (first | exact VTo.undef | exact FrTo.leaf | refine FrTo.node ?_ ?_ ?_ | refine FrTo.none ?_ ?_ | exact VTo.sc (by first | rfl | (congr 1; omega) | (congr 1; simp; omega)) | exact VTos_dv _ _ | refine VTos.cons ?_ ?_ | exact VTos.nil | refine VTo.agg ?_ | refine VTo.tuple ?_ | refine VTo.func ?_ ?_ | exact VTo.fs | exact VTo.fp | exact VTo.nilptr | exact VTo.nilslice | exact VTo.nilfunc | exact VTo.ptr rfl | exact VTo.gl rfl | exact VTo.map rfl | exact VTo.yld rfl | exact VTo.fmMap rfl | exact VTo.fm | exact VTo.glNil' (by decide) rfl rfl | exact VTo.fsNil (by decide) | exact VTo.fsSl rfl rfl (by simp [flat_len encE_len]) | exact VTo.fpPtr rfl | exact VTo.fsGl rfl (by first | rfl | exact flat_len encI_len _ | exact flat_len encT_len _ | exact flat_len encS_len _ | exact flat_len encP_len _ | exact flat_len encL_len _ | exact flat_len encE_len _ | (simp [flat_len encP_len]; done) | simp [flat_len encI_len, flat_len encS_len]))) ?_)) trivial trivial rfl) (by repeat' (first | exact VTo.undef | exact FrTo.leaf | refine FrTo.node ?_ ?_ ?_ | refine FrTo.none ?_ ?_ | exact VTo.sc (by first | rfl | (congr 1; omega) | (congr 1; simp; omega)) | exact VTos_dv _ _ | refine VTos.cons ?_ ?_ | exact VTos.nil | refine VTo.agg ?_ | refine VTo.tuple ?_ | refine VTo.func ?_ ?_ | exact VTo.fs | exact VTo.fp | exact VTo.nilptr | exact VTo.nilslice | exact VTo.nilfunc | exact VTo.ptr rfl | exact VTo.gl rfl | exact VTo.map rfl | exact VTo.yld rfl | exact VTo.fmMap rfl | exact VTo.fm | exact VTo.glNil' (by decide) rfl rfl | exact VTo.fsNil (by decide) | exact VTo.fsSl rfl rfl (by simp [flat_len encE_len]) | exact VTo.fpPtr rfl | exact VTo.fsGl rfl (by first | rfl | exact flat_len encI_len _ | exact flat_len encT_len _ | exact flat_len encS_len _ | exact flat_len encP_len _ | exact flat_len encL_len _ | exact flat_len encE_len _ | (simp [flat_len encP_len]; done) | simp [flat_len encI_len, flat_len encS_len]))) (by first | rfl | (repeat' (first | exact MkTo.nil | refine MkTo.keep rfl ?_ | refine MkTo.drop (by decide) rfl ?_)))
  · rintro k ⟨h1, h2, h3⟩
    conv => whnf
    refine VIte.dec (fun h4 => ?_) (fun h4 => ?_)
    · have hx : a[k]? = some a[k] := List.getElem?_eq_getElem (by omega)
      rcases Nat.eq_or_lt_of_le h2 with h5 | h5
      · have hF : E = false := by
          rw [h3, decide_eq_false_iff_not]
          intro hh
          have := congrArg List.length hh
          simp at this; omega
        rw [hF]
        conv => whnf
        repeat' (first | (refine VLd.intro rfl ?_; conv => whnf) | (refine VArith.i64 (by first | omega | (dsimp only; omega)) ?_; conv => whnf) | (refine VNeed.intro (by first | rfl | (simp; omega)) ?_; conv => whnf) | (refine VMem.store rfl rfl rfl rfl ?_; conv => whnf) | (refine VSame.intro rfl ?_; conv => whnf) | (refine VDraw.go [] (by kernel_rfl) (by kernel_rfl) ?_; conv => whnf) | (refine VIte.dec (fun _ => ?_) (fun _ => ?_) <;> conv => whnf) | (refine VIte.ndec (fun _ => ?_) (fun _ => ?_) <;> conv => whnf) | (refine VIte.beq (fun _ => ?_) (fun _ => ?_) <;> conv => whnf) | (refine VIte.bne (fun _ => ?_) (fun _ => ?_) <;> conv => whnf) | (refine VIte.intro (fun _ => ?_) (fun _ => ?_) <;> conv => whnf))
        · exact VOut.same rfl
        all_goals omega
      · have hy : b[k]? = some b[k] := List.getElem?_eq_getElem h5
        rw [drop_eq_dec hx hy] at h3
        generalize a[k] = x at hx h3
        generalize b[k] = y at hy h3
        conv => whnf
        repeat' (first | (refine VLd.intro rfl ?_; conv => whnf) | (refine VArith.i64 (by first | omega | (dsimp only; omega)) ?_; conv => whnf) | (refine VNeed.intro (by first | rfl | (simp; omega)) ?_; conv => whnf) | (refine VMem.store rfl rfl rfl rfl ?_; conv => whnf) | (refine VSame.intro rfl ?_; conv => whnf) | (refine VDraw.go [] (by kernel_rfl) (by kernel_rfl) ?_; conv => whnf) | (refine VIte.dec (fun _ => ?_) (fun _ => ?_) <;> conv => whnf) | (refine VIte.ndec (fun _ => ?_) (fun _ => ?_) <;> conv => whnf) | (refine VIte.beq (fun _ => ?_) (fun _ => ?_) <;> conv => whnf) | (refine VIte.bne (fun _ => ?_) (fun _ => ?_) <;> conv => whnf) | (refine VIte.intro (fun _ => ?_) (fun _ => ?_) <;> conv => whnf) | (refine VAny.ix encT_len k rfl rfl hx ?_; conv => whnf) | (refine VAny.ix encT_len k rfl rfl hy ?_; conv => whnf) | (refine VAgg.intro (vneqT _ _) ?_; conv => whnf))
        all_goals (try omega)
        all_goals first
          | (rw [decide_eq_false (ne_T (by first | assumption | omega)), Bool.false_and] at h3; rw [h3]; exact VOut.same rfl)
          | (rw [decide_eq_true (eq_T (by first | assumption | omega)), Bool.true_and] at h3
             refine LEnd.intro (k + 1) ⟨by omega, by omega, h3⟩ (by omega) ?_
             conv => whnf
             refine Retell.turn ⟨[], 0, [], []⟩ (TurnOk.mk' _ _ [] [] (OutOk.lift _) rfl (by decide) (by repeat' (first | exact BTos.nil | refine BTos.flat rfl rfl (by first | rfl | simp) ?_ | refine BTos.new rfl ?_ | refine BTos.dead rfl rfl ?_ | refine BTos.esE rfl rfl ?_ | refine BTos.row rfl rfl rfl (RowTo.snoc (RowTo.one rfl (by simp))) ?_ | refine BTos.cells rfl rfl rfl (by repeat' (first | exact VTo.undef | exact FrTo.leaf | refine FrTo.node ?_ ?_ ?_ | refine FrTo.none ?_ ?_ | exact VTo.sc (by first | rfl | (congr 1; omega) | (congr 1; simp; omega)) | exact VTos_dv _ _ | refine VTos.cons ?_ ?_ | exact VTos.nil | refine VTo.agg ?_ | refine VTo.tuple ?_ | refine VTo.func ?_ ?_ | exact VTo.fs | exact VTo.fp | exact VTo.nilptr | exact VTo.nilslice | exact VTo.nilfunc | exact VTo.ptr rfl | exact VTo.gl rfl | exact VTo.map rfl | exact VTo.yld rfl | exact VTo.fmMap rfl | exact VTo.fm | exact VTo.glNil' (by decide) rfl rfl | exact VTo.fsNil (by decide) | exact VTo.fsSl rfl rfl (by simp [flat_len encE_len]) | exact VTo.fpPtr rfl | exact VTo.fsGl rfl (by first | rfl | exact flat_len encI_len _ | exact flat_len encT_len _ | exact flat_len encS_len _ | exact flat_len encP_len _ | exact flat_len encL_len _ | exact flat_len encE_len _ | (simp [flat_len encP_len]; done) | simp [flat_len encI_len, flat_len encS_len]))) ?_)) trivial trivial rfl) (by repeat' (first | exact VTo.undef | exact FrTo.leaf | refine FrTo.node ?_ ?_ ?_ | refine FrTo.none ?_ ?_ | exact VTo.sc (by first | rfl | (congr 1; omega) | (congr 1; simp; omega)) | exact VTos_dv _ _ | refine VTos.cons ?_ ?_ | exact VTos.nil | refine VTo.agg ?_ | refine VTo.tuple ?_ | refine VTo.func ?_ ?_ | exact VTo.fs | exact VTo.fp | exact VTo.nilptr | exact VTo.nilslice | exact VTo.nilfunc | exact VTo.ptr rfl | exact VTo.gl rfl | exact VTo.map rfl | exact VTo.yld rfl | exact VTo.fmMap rfl | exact VTo.fm | exact VTo.glNil' (by decide) rfl rfl | exact VTo.fsNil (by decide) | exact VTo.fsSl rfl rfl (by simp [flat_len encE_len]) | exact VTo.fpPtr rfl | exact VTo.fsGl rfl (by first | rfl | exact flat_len encI_len _ | exact flat_len encT_len _ | exact flat_len encS_len _ | exact flat_len encP_len _ | exact flat_len encL_len _ | exact flat_len encE_len _ | (simp [flat_len encP_len]; done) | simp [flat_len encI_len, flat_len encS_len]))) (by first | rfl | (repeat' (first | exact MkTo.nil | refine MkTo.keep rfl ?_ | refine MkTo.drop (by decide) rfl ?_))))
    · have hk : k = a.length := by omega
      rw [h3, hk, List.drop_length]
      conv => whnf
      repeat' (first | (refine VLd.intro rfl ?_; conv => whnf) | (refine VArith.i64 (by first | omega | (dsimp only; omega)) ?_; conv => whnf) | (refine VNeed.intro (by first | rfl | (simp; omega)) ?_; conv => whnf) | (refine VMem.store rfl rfl rfl rfl ?_; conv => whnf) | (refine VSame.intro rfl ?_; conv => whnf) | (refine VDraw.go [] (by kernel_rfl) (by kernel_rfl) ?_; conv => whnf) | (refine VIte.dec (fun _ => ?_) (fun _ => ?_) <;> conv => whnf) | (refine VIte.ndec (fun _ => ?_) (fun _ => ?_) <;> conv => whnf) | (refine VIte.beq (fun _ => ?_) (fun _ => ?_) <;> conv => whnf) | (refine VIte.bne (fun _ => ?_) (fun _ => ?_) <;> conv => whnf) | (refine VIte.intro (fun _ => ?_) (fun _ => ?_) <;> conv => whnf))
      refine VOut.same ?_
      have : ((a.length : Int) == b.length) = decide ([] = b.drop a.length) := by
        rw [Bool.eq_iff_iff, decide_eq_true_eq, beq_iff_eq]
        constructor
        · intro hh; rw [List.drop_of_length_le (by omega)]
        · intro hh
          have := congrArg List.length hh
          simp at this; omega
      simp only [V.ren, this]
theorem eqI (l : List Int) (h : Hp) (hl : l.length ≤ 4000000) : VC Try.prog 17 [ints l, ints l] h (B true) h := by
  have := vc_equalI l l h hl hl
  rw [decide_eq_true rfl] at this; exact this
theorem eqT (l : List Str) (h : Hp) (hl : l.length ≤ 4000000) : VC Try.prog 61 [strs l, strs l] h (B true) h := by
  have := vc_equalT l l h hl hl
  rw [decide_eq_true rfl] at this; exact this
theorem vc_equal (a : Lnd) (h : Hp) (hn : a.ss.length ≤ 4000000) (hv : a.vs.length ≤ 4000000) : VC Try.prog 23 [vL a, vL a] h (B true) h := by
  refine VC.body Try.func23 rfl Try.ntmps23 Try.call23 (h.grows_refl) rfl ?_; conv => whnf
  repeat' (first | (refine VLd.intro rfl ?_; conv => whnf) | (refine VArith.i64 (by first | omega | (dsimp only; omega)) ?_; conv => whnf) | (refine VNeed.intro (by first | rfl | (simp; omega)) ?_; conv => whnf) | (refine VMem.store rfl rfl rfl rfl ?_; conv => whnf) | (refine VSame.intro rfl ?_; conv => whnf) | (refine VDraw.go [] (by kernel_rfl) (by kernel_rfl) ?_; conv => whnf) | (refine VIte.dec (fun _ => ?_) (fun _ => ?_) <;> conv => whnf) | (refine VIte.ndec (fun _ => ?_) (fun _ => ?_) <;> conv => whnf) | (refine VIte.beq (fun _ => ?_) (fun _ => ?_) <;> conv => whnf) | (refine VIte.bne (fun _ => ?_) (fun _ => ?_) <;> conv => whnf) | (refine VIte.intro (fun _ => ?_) (fun _ => ?_) <;> conv => whnf) | (refine VCall.intro (eqT _ _ hn) ?_; conv => whnf) | (refine VCall.intro (eqI _ _ hv) ?_; conv => whnf))
  exact VOut.same rfl
theorem vc_alike (x : Exc) (h : Hp) (hp : x.ps.length ≤ 4000000) : VC Try.prog 20 [vX x, vX x] h (B true) h := by
  refine VC.body Try.func20 rfl Try.ntmps20 Try.call20 (h.grows_refl) rfl ?_; conv => whnf
  repeat' (first | (refine VLd.intro rfl ?_; conv => whnf) | (refine VArith.i64 (by first | omega | (dsimp only; omega)) ?_; conv => whnf) | (refine VNeed.intro (by first | rfl | (simp; omega)) ?_; conv => whnf) | (refine VMem.store rfl rfl rfl rfl ?_; conv => whnf) | (refine VSame.intro rfl ?_; conv => whnf) | (refine VDraw.go [] (by kernel_rfl) (by kernel_rfl) ?_; conv => whnf) | (refine VIte.dec (fun _ => ?_) (fun _ => ?_) <;> conv => whnf) | (refine VIte.ndec (fun _ => ?_) (fun _ => ?_) <;> conv => whnf) | (refine VIte.beq (fun _ => ?_) (fun _ => ?_) <;> conv => whnf) | (refine VIte.bne (fun _ => ?_) (fun _ => ?_) <;> conv => whnf) | (refine VIte.intro (fun _ => ?_) (fun _ => ?_) <;> conv => whnf) | (refine VCall.intro (eqI _ _ hp) ?_; conv => whnf))
  all_goals first | exact VOut.same rfl | (rename_i hz; exact absurd rfl hz)
/-- A land of the reference, stretch by stretch. -/
theorem vc_Land (l : Lnd) (h : Hp) (hn : l.ss.length ≤ 4000000) (hv : l.vs.length ≤ 4000000) : VC Try.prog 14 [vL l] h (vL l) h := by
  refine VC.body Try.func14 rfl Try.ntmps14 Try.call14 (h.grows_refl) rfl ?_; conv => whnf
  repeat' (first | (refine VLd.intro rfl ?_; conv => whnf) | (refine VArith.i64 (by first | omega | (dsimp only; omega)) ?_; conv => whnf) | (refine VNeed.intro (by first | rfl | (simp; omega)) ?_; conv => whnf) | (refine VMem.store rfl rfl rfl rfl ?_; conv => whnf) | (refine VSame.intro rfl ?_; conv => whnf) | (refine VDraw.go [] (by kernel_rfl) (by kernel_rfl) ?_; conv => whnf) | (refine VIte.dec (fun _ => ?_) (fun _ => ?_) <;> conv => whnf) | (refine VIte.ndec (fun _ => ?_) (fun _ => ?_) <;> conv => whnf) | (refine VIte.beq (fun _ => ?_) (fun _ => ?_) <;> conv => whnf) | (refine VIte.bne (fun _ => ?_) (fun _ => ?_) <;> conv => whnf) | (refine VIte.intro (fun _ => ?_) (fun _ => ?_) <;> conv => whnf) | (refine VCall.intro (vc_cloneI l.vs _ hv) ?_; conv => whnf))
  refine VCode.lp (fun x : Nat × List Str => [(2, .ptr (.loc 0) 0), (3, .ptr (.loc 1) 0), (11, strs l.ss), (12, I l.ss.length), (13, I x.1)])
    (fun x => [.flat true [.nilslice, .nilslice], .cells true [.gl (.loc 2) 4 x.2.length, ints l.vs], .flat true (x.2.flatMap encT)]) (fun x => x.1 ≤ l.ss.length ∧ x.2 = l.ss.take x.1) (fun x => l.ss.length - x.1) (0, []) ⟨Nat.zero_le _, rfl⟩ ?_ ?_
  · conv => whnf
    refine Retell.turn ⟨[1,2,3], 3, [], []⟩ (TurnOk.mk' _ _ [] [] (OutOk.lift _) rfl (by decide) (by repeat' (first | exact BTos.nil | refine BTos.flat rfl rfl (by first | rfl | simp) ?_ | refine BTos.new rfl ?_ | refine BTos.dead rfl rfl ?_ | refine BTos.esE rfl rfl ?_ | refine BTos.row rfl rfl rfl (RowTo.snoc (RowTo.one rfl (by simp))) ?_ | refine BTos.cells rfl rfl rfl (by repeat' (first | exact VTo.undef | exact FrTo.leaf | refine FrTo.node ?_ ?_ ?_ | refine FrTo.none ?_ ?_ | exact VTo.sc (by first | rfl | (congr 1; omega) | (congr 1; simp; omega)) | exact VTos_dv _ _ | refine VTos.cons ?_ ?_ | exact VTos.nil | refine VTo.agg ?_ | refine VTo.tuple ?_ | refine VTo.func ?_ ?_ | exact VTo.fs | exact VTo.fp | exact VTo.nilptr | exact VTo.nilslice | exact VTo.nilfunc | exact VTo.ptr rfl | exact VTo.gl rfl | exact VTo.map rfl | exact VTo.yld rfl | exact VTo.fmMap rfl | exact VTo.fm | exact VTo.glNil' (by decide) rfl rfl | exact VTo.fsNil (by decide) | exact VTo.fsSl rfl rfl (by simp [flat_len encE_len]) | exact VTo.fpPtr rfl | exact VTo.fsGl rfl (by first | rfl | exact flat_len encI_len _ | exact flat_len encT_len _ | exact flat_len encS_len _ | exact flat_len encP_len _ | exact flat_len encL_len _ | exact flat_len encE_len _ | (simp [flat_len encP_len]; done) | simp [flat_len encI_len, flat_len encS_len]))) ?_)) trivial trivial rfl) (by repeat' (first | exact VTo.undef | exact FrTo.leaf | refine FrTo.node ?_ ?_ ?_ | refine FrTo.none ?_ ?_ | exact VTo.sc (by first | rfl | (congr 1; omega) | (congr 1; simp; omega)) | exact VTos_dv _ _ | refine VTos.cons ?_ ?_ | exact VTos.nil | refine VTo.agg ?_ | refine VTo.tuple ?_ | refine VTo.func ?_ ?_ | exact VTo.fs | exact VTo.fp | exact VTo.nilptr | exact VTo.nilslice | exact VTo.nilfunc | exact VTo.ptr rfl | exact VTo.gl rfl | exact VTo.map rfl | exact VTo.yld rfl | exact VTo.fmMap rfl | exact VTo.fm | exact VTo.glNil' (by decide) rfl rfl | exact VTo.fsNil (by decide) | exact VTo.fsSl rfl rfl (by simp [flat_len encE_len]) | exact VTo.fpPtr rfl | exact VTo.fsGl rfl (by first | rfl | exact flat_len encI_len _ | exact flat_len encT_len _ | exact flat_len encS_len _ | exact flat_len encP_len _ | exact flat_len encL_len _ | exact flat_len encE_len _ | (simp [flat_len encP_len]; done) | simp [flat_len encI_len, flat_len encS_len]))) (by first | rfl | (repeat' (first | exact MkTo.nil | refine MkTo.keep rfl ?_ | refine MkTo.drop (by decide) rfl ?_)))
  · rintro ⟨k, w⟩ ⟨hk, hw⟩
    dsimp only at hk hw
    have hwl : w.length ≤ l.ss.length := by rw [hw, List.length_take]; omega
    conv => whnf
    refine VIte.dec (fun h3 => ?_) (fun h3 => ?_)
    · have hp : l.ss[k]? = some l.ss[k] := List.getElem?_eq_getElem (by omega)
      have hts : l.ss.take (k + 1) = w ++ [l.ss[k]] := by rw [List.take_add_one, hp, hw]; rfl
      generalize l.ss[k] = p at hp hts
      conv => whnf
      repeat' (first | (refine VLd.intro rfl ?_; conv => whnf) | (refine VArith.i64 (by first | omega | (dsimp only; omega)) ?_; conv => whnf) | (refine VNeed.intro (by first | rfl | (simp; omega)) ?_; conv => whnf) | (refine VMem.store rfl rfl rfl rfl ?_; conv => whnf) | (refine VSame.intro rfl ?_; conv => whnf) | (refine VDraw.go [] (by kernel_rfl) (by kernel_rfl) ?_; conv => whnf) | (refine VIte.dec (fun _ => ?_) (fun _ => ?_) <;> conv => whnf) | (refine VIte.ndec (fun _ => ?_) (fun _ => ?_) <;> conv => whnf) | (refine VIte.beq (fun _ => ?_) (fun _ => ?_) <;> conv => whnf) | (refine VIte.bne (fun _ => ?_) (fun _ => ?_) <;> conv => whnf) | (refine VIte.intro (fun _ => ?_) (fun _ => ?_) <;> conv => whnf) | (refine VAny.ix encT_len k rfl rfl hp ?_; conv => whnf))
      refine VMem.app1 (l := w) p encT_len rfl rfl rfl rfl rfl (by omega) ?_
      conv => whnf
      repeat (first | (refine VLd.intro rfl ?_; conv => whnf) | (refine VArith.i64 (by first | omega | (dsimp only; omega)) ?_; conv => whnf) | (refine VNeed.intro (by first | rfl | (simp; omega)) ?_; conv => whnf) | (refine VMem.store rfl rfl rfl rfl ?_; conv => whnf) | (refine VSame.intro rfl ?_; conv => whnf) | (refine VDraw.go [] (by kernel_rfl) (by kernel_rfl) ?_; conv => whnf))
      refine LEnd.intro (k + 1, w ++ [p]) ⟨by dsimp only; omega, hts.symm⟩ (by dsimp only; omega) ?_
      conv => whnf
      rw [List.length_append]
      refine Retell.turn ⟨[0,1,5], 6, [], []⟩ (TurnOk.mk' _ _ [] [] (OutOk.lift _) rfl (by decide) (by repeat' (first | exact BTos.nil | refine BTos.flat rfl rfl (by first | rfl | simp) ?_ | refine BTos.new rfl ?_ | refine BTos.dead rfl rfl ?_ | refine BTos.esE rfl rfl ?_ | refine BTos.row rfl rfl rfl (RowTo.snoc (RowTo.one rfl (by simp))) ?_ | refine BTos.cells rfl rfl rfl (by repeat' (first | exact VTo.undef | exact FrTo.leaf | refine FrTo.node ?_ ?_ ?_ | refine FrTo.none ?_ ?_ | exact VTo.sc (by first | rfl | (congr 1; omega) | (congr 1; simp; omega)) | exact VTos_dv _ _ | refine VTos.cons ?_ ?_ | exact VTos.nil | refine VTo.agg ?_ | refine VTo.tuple ?_ | refine VTo.func ?_ ?_ | exact VTo.fs | exact VTo.fp | exact VTo.nilptr | exact VTo.nilslice | exact VTo.nilfunc | exact VTo.ptr rfl | exact VTo.gl rfl | exact VTo.map rfl | exact VTo.yld rfl | exact VTo.fmMap rfl | exact VTo.fm | exact VTo.glNil' (by decide) rfl rfl | exact VTo.fsNil (by decide) | exact VTo.fsSl rfl rfl (by simp [flat_len encE_len]) | exact VTo.fpPtr rfl | exact VTo.fsGl rfl (by first | rfl | exact flat_len encI_len _ | exact flat_len encT_len _ | exact flat_len encS_len _ | exact flat_len encP_len _ | exact flat_len encL_len _ | exact flat_len encE_len _ | (simp [flat_len encP_len]; done) | simp [flat_len encI_len, flat_len encS_len]))) ?_)) trivial trivial rfl) (by repeat' (first | exact VTo.undef | exact FrTo.leaf | refine FrTo.node ?_ ?_ ?_ | refine FrTo.none ?_ ?_ | exact VTo.sc (by first | rfl | (congr 1; omega) | (congr 1; simp; omega)) | exact VTos_dv _ _ | refine VTos.cons ?_ ?_ | exact VTos.nil | refine VTo.agg ?_ | refine VTo.tuple ?_ | refine VTo.func ?_ ?_ | exact VTo.fs | exact VTo.fp | exact VTo.nilptr | exact VTo.nilslice | exact VTo.nilfunc | exact VTo.ptr rfl | exact VTo.gl rfl | exact VTo.map rfl | exact VTo.yld rfl | exact VTo.fmMap rfl | exact VTo.fm | exact VTo.glNil' (by decide) rfl rfl | exact VTo.fsNil (by decide) | exact VTo.fsSl rfl rfl (by simp [flat_len encE_len]) | exact VTo.fpPtr rfl | exact VTo.fsGl rfl (by first | rfl | exact flat_len encI_len _ | exact flat_len encT_len _ | exact flat_len encS_len _ | exact flat_len encP_len _ | exact flat_len encL_len _ | exact flat_len encE_len _ | (simp [flat_len encP_len]; done) | simp [flat_len encI_len, flat_len encS_len]))) (by first | rfl | (repeat' (first | exact MkTo.nil | refine MkTo.keep rfl ?_ | refine MkTo.drop (by decide) rfl ?_)))
    · have hk2 : k = l.ss.length := by dsimp only at h3; omega
      subst hk2
      rw [List.take_of_length_le (Nat.le_refl _)] at hw
      subst hw
      conv => whnf
      repeat (first | (refine VLd.intro rfl ?_; conv => whnf) | (refine VArith.i64 (by first | omega | (dsimp only; omega)) ?_; conv => whnf) | (refine VNeed.intro (by first | rfl | (simp; omega)) ?_; conv => whnf) | (refine VMem.store rfl rfl rfl rfl ?_; conv => whnf) | (refine VSame.intro rfl ?_; conv => whnf) | (refine VDraw.go [] (by kernel_rfl) (by kernel_rfl) ?_; conv => whnf))
      refine VOut.data 3 [(2, l.ss.flatMap encT)] [] rfl (by repeat' (first | exact FzAll.nil | refine FzAll.flat rfl ?_ | refine FzAll.row rfl rfl (RowTo.one rfl (by simp)) ?_)) (by exact FmAll.nil) (by repeat' (first | exact VTo.undef | exact FrTo.leaf | refine FrTo.node ?_ ?_ ?_ | refine FrTo.none ?_ ?_ | exact VTo.sc (by first | rfl | (congr 1; omega) | (congr 1; simp; omega)) | exact VTos_dv _ _ | refine VTos.cons ?_ ?_ | exact VTos.nil | refine VTo.agg ?_ | refine VTo.tuple ?_ | refine VTo.func ?_ ?_ | exact VTo.fs | exact VTo.fp | exact VTo.nilptr | exact VTo.nilslice | exact VTo.nilfunc | exact VTo.ptr rfl | exact VTo.gl rfl | exact VTo.map rfl | exact VTo.yld rfl | exact VTo.fmMap rfl | exact VTo.fm | exact VTo.glNil' (by decide) rfl rfl | exact VTo.fsNil (by decide) | exact VTo.fsSl rfl rfl (by simp [flat_len encE_len]) | exact VTo.fpPtr rfl | exact VTo.fsGl rfl (by first | rfl | exact flat_len encI_len _ | exact flat_len encT_len _ | exact flat_len encS_len _ | exact flat_len encP_len _ | exact flat_len encL_len _ | exact flat_len encE_len _ | (simp [flat_len encP_len]; done) | simp [flat_len encI_len, flat_len encS_len])))
/-- What an answer is worth where errors are. -/
theorem vc_equalNil (h : Hp) : VC Try.prog 17 [.nilslice, .nilslice] h (B true) h := by
  obtain ⟨o, l⟩ := h
  refine VC.lend1 [.sl 1 0 [], .sl 1 0 []] [] [] trivial trivial (by repeat' (first | exact VTo.undef | exact FrTo.leaf | refine FrTo.node ?_ ?_ ?_ | refine FrTo.none ?_ ?_ | exact VTo.sc (by first | rfl | (congr 1; omega) | (congr 1; simp; omega)) | exact VTos_dv _ _ | refine VTos.cons ?_ ?_ | exact VTos.nil | refine VTo.agg ?_ | refine VTo.tuple ?_ | refine VTo.func ?_ ?_ | exact VTo.fs | exact VTo.fp | exact VTo.nilptr | exact VTo.nilslice | exact VTo.nilfunc | exact VTo.ptr rfl | exact VTo.gl rfl | exact VTo.map rfl | exact VTo.yld rfl | exact VTo.fmMap rfl | exact VTo.fm | exact VTo.glNil' (by decide) rfl rfl | exact VTo.fsNil (by decide) | exact VTo.fsSl rfl rfl (by simp [flat_len encE_len]) | exact VTo.fpPtr rfl | exact VTo.fsGl rfl (by first | rfl | exact flat_len encI_len _ | exact flat_len encT_len _ | exact flat_len encS_len _ | exact flat_len encP_len _ | exact flat_len encL_len _ | exact flat_len encE_len _ | (simp [flat_len encP_len]; done) | simp [flat_len encI_len, flat_len encS_len]))) ?_
  exact eqI [] Hp.bare (by decide)
theorem vc_alikeNo (h : Hp) : VC Try.prog 20 [.agg [I 0, .nilslice], .agg [I 0, .nilslice]] h (B true) h := by
  refine VC.body Try.func20 rfl Try.ntmps20 Try.call20 (h.grows_refl) rfl ?_; conv => whnf
  repeat' (first | (refine VLd.intro rfl ?_; conv => whnf) | (refine VArith.i64 (by first | omega | (dsimp only; omega)) ?_; conv => whnf) | (refine VNeed.intro (by first | rfl | (simp; omega)) ?_; conv => whnf) | (refine VMem.store rfl rfl rfl rfl ?_; conv => whnf) | (refine VSame.intro rfl ?_; conv => whnf) | (refine VDraw.go [] (by kernel_rfl) (by kernel_rfl) ?_; conv => whnf) | (refine VIte.dec (fun _ => ?_) (fun _ => ?_) <;> conv => whnf) | (refine VIte.ndec (fun _ => ?_) (fun _ => ?_) <;> conv => whnf) | (refine VIte.beq (fun _ => ?_) (fun _ => ?_) <;> conv => whnf) | (refine VIte.bne (fun _ => ?_) (fun _ => ?_) <;> conv => whnf) | (refine VIte.intro (fun _ => ?_) (fun _ => ?_) <;> conv => whnf) | (refine VCall.intro (vc_equalNil _) ?_; conv => whnf))
  all_goals first | exact VOut.same rfl | (rename_i hz; exact absurd rfl hz)
theorem vc_long (l : Lnd) (x : Exc) (h : Hp) : VC Try.prog 11 [vL l, vX x] h (B (decide (20 < l.ss.length ∨ 11 < l.vs.length ∨ 20 < x.ps.length))) h := by
  refine VC.body Try.func11 rfl Try.ntmps11 Try.call11 (h.grows_refl) rfl ?_; conv => whnf
  repeat' (first | (refine VLd.intro rfl ?_; conv => whnf) | (refine VArith.i64 (by first | omega | (dsimp only; omega)) ?_; conv => whnf) | (refine VNeed.intro (by first | rfl | (simp; omega)) ?_; conv => whnf) | (refine VMem.store rfl rfl rfl rfl ?_; conv => whnf) | (refine VSame.intro rfl ?_; conv => whnf) | (refine VDraw.go [] (by kernel_rfl) (by kernel_rfl) ?_; conv => whnf) | (refine VIte.dec (fun _ => ?_) (fun _ => ?_) <;> conv => whnf) | (refine VIte.ndec (fun _ => ?_) (fun _ => ?_) <;> conv => whnf) | (refine VIte.beq (fun _ => ?_) (fun _ => ?_) <;> conv => whnf) | (refine VIte.bne (fun _ => ?_) (fun _ => ?_) <;> conv => whnf) | (refine VIte.intro (fun _ => ?_) (fun _ => ?_) <;> conv => whnf))
  all_goals (refine VOut.dec ?_; first | (simp only [decide_eq_true_eq]; omega) | (simp; omega) | (simp; done))
theorem vc_ExchangesA (l : Lnd) (x : Exc) (h : Hp) (hlong : ¬ (20 < l.ss.length ∨ 11 < l.vs.length ∨ 20 < x.ps.length)) (cA : ∀ h, VC Try.prog 12 [] h (B true) h) : VC Try.prog 8 [vL l, vX x] h (B true) h := by
  have hn : l.ss.length ≤ 4000000 := by omega
  have hv : l.vs.length ≤ 4000000 := by omega
  have hp : x.ps.length ≤ 4000000 := by omega
  have c0 := fun h => vc_long l x h
  rw [decide_eq_false hlong] at c0
  have c1 := fun h => vc_CloneLand l h hn hv
  have c2 := fun h => vc_Land l h hn hv
  have c3 := fun h => vc_cloneI x.ps h hp
  have c4 := fun h => vc_exchange x h hp
  have c5 := fun h => vc_check l h hn hv
  have c6 := fun h => vc_rcheck l h hn hv
  have e1 := fun h => vc_equal l h hn hv
  have e2 := fun h => eqI x.ps h hp
  by_cases hk : chk l = 0
  · have o := chk_ok.1 hk
    have b0 := o.n
    have bl := selS_len (bdAt l) l.ss.length
    have d1 := fun h => vc_Bound_ok l h o
    have d2 := fun h => vc_rBound_ok l h o
    have d3 := fun h => eqI (bdL l) h (by unfold bdL; omega)
    have d4 := fun h => vc_Now_ok l h o
    have d5 := fun h => vc_rNow_ok l h o
    have d6 := fun h => vc_alike (nowX l) h (by show (nowP l).length ≤ _; rw [nowP_len]; omega)
    by_cases ha : askE l x = 0
    · obtain ⟨_, ox⟩ := ask_ok.1 ha
      have f1 := fun h => vc_Has_ok l x h o ox
      have f2 := fun h => vc_rHas_ok l x h o ox
      have f3 := fun h => vc_Gains_ok l x h o ox
      have f4 := fun h => vc_rGains_ok l x h o ox
      have f5 := fun h => vc_Fair_ok l x h o ox
      have f6 := fun h => vc_rFair_ok l x h o ox
      refine VC.body Try.func8 rfl Try.ntmps8 Try.call8 (h.grows_refl) rfl ?_; conv => whnf
      repeat' (first | (refine VLd.intro rfl ?_; conv => whnf) | (refine VArith.i64 (by first | omega | (dsimp only; omega)) ?_; conv => whnf) | (refine VNeed.intro (by first | rfl | (simp; omega)) ?_; conv => whnf) | (refine VMem.store rfl rfl rfl rfl ?_; conv => whnf) | (refine VSame.intro rfl ?_; conv => whnf) | (refine VIte.dec (fun _ => ?_) (fun _ => ?_) <;> conv => whnf) | (refine VIte.ndec (fun _ => ?_) (fun _ => ?_) <;> conv => whnf) | (refine VIte.beq (fun _ => ?_) (fun _ => ?_) <;> conv => whnf) | (refine VIte.bne (fun _ => ?_) (fun _ => ?_) <;> conv => whnf) | (refine VIte.intro (fun _ => ?_) (fun _ => ?_) <;> conv => whnf) | (refine VCall.intro (c0 _) ?_; conv => whnf))
      refine VDraw.go [(1, 3), (1, 5), (3, 6), (1, 8), (6, 8), (3, 9), (1, 10), (6, 10), (9, 10), (3, 11), (3, 16)] (by kernel_rfl) (by kernel_rfl) ?_
      conv => whnf
      repeat' (first | (refine VLd.intro rfl ?_; conv => whnf) | (refine VArith.i64 (by first | omega | (dsimp only; omega)) ?_; conv => whnf) | (refine VNeed.intro (by first | rfl | (simp; omega)) ?_; conv => whnf) | (refine VMem.store rfl rfl rfl rfl ?_; conv => whnf) | (refine VSame.intro rfl ?_; conv => whnf) | (refine VIte.dec (fun _ => ?_) (fun _ => ?_) <;> conv => whnf) | (refine VIte.ndec (fun _ => ?_) (fun _ => ?_) <;> conv => whnf) | (refine VIte.beq (fun _ => ?_) (fun _ => ?_) <;> conv => whnf) | (refine VIte.bne (fun _ => ?_) (fun _ => ?_) <;> conv => whnf) | (refine VIte.intro (fun _ => ?_) (fun _ => ?_) <;> conv => whnf) | (refine VCall.intro (c1 _) ?_; conv => whnf) | (refine VCall.intro (c2 _) ?_; conv => whnf) | (refine VCall.intro (c3 _) ?_; conv => whnf) | (refine VCall.intro (c4 _) ?_; conv => whnf))
      refine VDraw.go [(1, 2)] (by kernel_rfl) (by kernel_rfl) ?_
      conv => whnf
      repeat' (first | (refine VLd.intro rfl ?_; conv => whnf) | (refine VArith.i64 (by first | omega | (dsimp only; omega)) ?_; conv => whnf) | (refine VNeed.intro (by first | rfl | (simp; omega)) ?_; conv => whnf) | (refine VMem.store rfl rfl rfl rfl ?_; conv => whnf) | (refine VSame.intro rfl ?_; conv => whnf) | (refine VDraw.go [] (by kernel_rfl) (by kernel_rfl) ?_; conv => whnf) | (refine VIte.dec (fun _ => ?_) (fun _ => ?_) <;> conv => whnf) | (refine VIte.ndec (fun _ => ?_) (fun _ => ?_) <;> conv => whnf) | (refine VIte.beq (fun _ => ?_) (fun _ => ?_) <;> conv => whnf) | (refine VIte.bne (fun _ => ?_) (fun _ => ?_) <;> conv => whnf) | (refine VIte.intro (fun _ => ?_) (fun _ => ?_) <;> conv => whnf) | (refine VCall.intro (c5 _) ?_; conv => whnf) | (refine VCall.intro (c6 _) ?_; conv => whnf) | (refine VCall.intro (d1 _) ?_; conv => whnf) | (refine VCall.intro (d2 _) ?_; conv => whnf) | (refine VCall.intro (d3 _) ?_; conv => whnf) | (refine VCall.intro (d4 _) ?_; conv => whnf) | (refine VCall.intro (d5 _) ?_; conv => whnf) | (refine VCall.intro (d6 _) ?_; conv => whnf) | (refine VCall.intro (f1 _) ?_; conv => whnf) | (refine VCall.intro (f2 _) ?_; conv => whnf) | (refine VCall.intro (f3 _) ?_; conv => whnf) | (refine VCall.intro (f4 _) ?_; conv => whnf) | (refine VCall.intro (f5 _) ?_; conv => whnf) | (refine VCall.intro (f6 _) ?_; conv => whnf) | (refine VCall.intro (e1 _) ?_; conv => whnf) | (refine VCall.intro (e2 _) ?_; conv => whnf) | (refine VCall.intro (cA _) ?_; conv => whnf))
      all_goals first | exact VOut.same rfl | (rename_i hz; exact absurd rfl hz)
    · have f1 := fun h => vc_Has_no l x h hn hv hp ha
      have f2 := fun h => vc_rHas_no l x h hn hv hp ha
      have f3 := fun h => vc_Gains_no l x h hn hv hp ha
      have f4 := fun h => vc_rGains_no l x h hn hv hp ha
      have f5 := fun h => vc_Fair_no l x h hn hv hp ha
      have f6 := fun h => vc_rFair_no l x h hn hv hp ha
      refine VC.body Try.func8 rfl Try.ntmps8 Try.call8 (h.grows_refl) rfl ?_; conv => whnf
      repeat' (first | (refine VLd.intro rfl ?_; conv => whnf) | (refine VArith.i64 (by first | omega | (dsimp only; omega)) ?_; conv => whnf) | (refine VNeed.intro (by first | rfl | (simp; omega)) ?_; conv => whnf) | (refine VMem.store rfl rfl rfl rfl ?_; conv => whnf) | (refine VSame.intro rfl ?_; conv => whnf) | (refine VIte.dec (fun _ => ?_) (fun _ => ?_) <;> conv => whnf) | (refine VIte.ndec (fun _ => ?_) (fun _ => ?_) <;> conv => whnf) | (refine VIte.beq (fun _ => ?_) (fun _ => ?_) <;> conv => whnf) | (refine VIte.bne (fun _ => ?_) (fun _ => ?_) <;> conv => whnf) | (refine VIte.intro (fun _ => ?_) (fun _ => ?_) <;> conv => whnf) | (refine VCall.intro (c0 _) ?_; conv => whnf))
      refine VDraw.go [(1, 3), (1, 5), (3, 6), (1, 8), (6, 8), (3, 9), (1, 10), (6, 10), (9, 10), (3, 11), (3, 16)] (by kernel_rfl) (by kernel_rfl) ?_
      conv => whnf
      repeat' (first | (refine VLd.intro rfl ?_; conv => whnf) | (refine VArith.i64 (by first | omega | (dsimp only; omega)) ?_; conv => whnf) | (refine VNeed.intro (by first | rfl | (simp; omega)) ?_; conv => whnf) | (refine VMem.store rfl rfl rfl rfl ?_; conv => whnf) | (refine VSame.intro rfl ?_; conv => whnf) | (refine VIte.dec (fun _ => ?_) (fun _ => ?_) <;> conv => whnf) | (refine VIte.ndec (fun _ => ?_) (fun _ => ?_) <;> conv => whnf) | (refine VIte.beq (fun _ => ?_) (fun _ => ?_) <;> conv => whnf) | (refine VIte.bne (fun _ => ?_) (fun _ => ?_) <;> conv => whnf) | (refine VIte.intro (fun _ => ?_) (fun _ => ?_) <;> conv => whnf) | (refine VCall.intro (c1 _) ?_; conv => whnf) | (refine VCall.intro (c2 _) ?_; conv => whnf) | (refine VCall.intro (c3 _) ?_; conv => whnf) | (refine VCall.intro (c4 _) ?_; conv => whnf))
      refine VDraw.go [(1, 2)] (by kernel_rfl) (by kernel_rfl) ?_
      conv => whnf
      repeat' (first | (refine VLd.intro rfl ?_; conv => whnf) | (refine VArith.i64 (by first | omega | (dsimp only; omega)) ?_; conv => whnf) | (refine VNeed.intro (by first | rfl | (simp; omega)) ?_; conv => whnf) | (refine VMem.store rfl rfl rfl rfl ?_; conv => whnf) | (refine VSame.intro rfl ?_; conv => whnf) | (refine VDraw.go [] (by kernel_rfl) (by kernel_rfl) ?_; conv => whnf) | (refine VIte.dec (fun _ => ?_) (fun _ => ?_) <;> conv => whnf) | (refine VIte.ndec (fun _ => ?_) (fun _ => ?_) <;> conv => whnf) | (refine VIte.beq (fun _ => ?_) (fun _ => ?_) <;> conv => whnf) | (refine VIte.bne (fun _ => ?_) (fun _ => ?_) <;> conv => whnf) | (refine VIte.intro (fun _ => ?_) (fun _ => ?_) <;> conv => whnf) | (refine VCall.intro (c5 _) ?_; conv => whnf) | (refine VCall.intro (c6 _) ?_; conv => whnf) | (refine VCall.intro (d1 _) ?_; conv => whnf) | (refine VCall.intro (d2 _) ?_; conv => whnf) | (refine VCall.intro (d3 _) ?_; conv => whnf) | (refine VCall.intro (d4 _) ?_; conv => whnf) | (refine VCall.intro (d5 _) ?_; conv => whnf) | (refine VCall.intro (d6 _) ?_; conv => whnf) | (refine VCall.intro (f1 _) ?_; conv => whnf) | (refine VCall.intro (f2 _) ?_; conv => whnf) | (refine VCall.intro (f3 _) ?_; conv => whnf) | (refine VCall.intro (f4 _) ?_; conv => whnf) | (refine VCall.intro (f5 _) ?_; conv => whnf) | (refine VCall.intro (f6 _) ?_; conv => whnf) | (refine VCall.intro (e1 _) ?_; conv => whnf) | (refine VCall.intro (e2 _) ?_; conv => whnf) | (refine VCall.intro (cA _) ?_; conv => whnf))
      all_goals first | exact VOut.same rfl | (rename_i hz; exact absurd rfl hz)
  · have d1 := fun h => vc_Bound_no l h hn hv hk
    have d2 := fun h => vc_rBound_no l h hn hv hk
    have d3 := fun h => vc_equalNil h
    have d4 := fun h => vc_Now_no l h hn hv hk
    have d5 := fun h => vc_rNow_no l h hn hv hk
    have d6 := fun h => vc_alikeNo h
    have ha : askE l x ≠ 0 := fun ha => hk (chk_ok.2 (ask_ok.1 ha).1)
    have f1 := fun h => vc_Has_no l x h hn hv hp ha
    have f2 := fun h => vc_rHas_no l x h hn hv hp ha
    have f3 := fun h => vc_Gains_no l x h hn hv hp ha
    have f4 := fun h => vc_rGains_no l x h hn hv hp ha
    have f5 := fun h => vc_Fair_no l x h hn hv hp ha
    have f6 := fun h => vc_rFair_no l x h hn hv hp ha
    refine VC.body Try.func8 rfl Try.ntmps8 Try.call8 (h.grows_refl) rfl ?_; conv => whnf
    repeat' (first | (refine VLd.intro rfl ?_; conv => whnf) | (refine VArith.i64 (by first | omega | (dsimp only; omega)) ?_; conv => whnf) | (refine VNeed.intro (by first | rfl | (simp; omega)) ?_; conv => whnf) | (refine VMem.store rfl rfl rfl rfl ?_; conv => whnf) | (refine VSame.intro rfl ?_; conv => whnf) | (refine VIte.dec (fun _ => ?_) (fun _ => ?_) <;> conv => whnf) | (refine VIte.ndec (fun _ => ?_) (fun _ => ?_) <;> conv => whnf) | (refine VIte.beq (fun _ => ?_) (fun _ => ?_) <;> conv => whnf) | (refine VIte.bne (fun _ => ?_) (fun _ => ?_) <;> conv => whnf) | (refine VIte.intro (fun _ => ?_) (fun _ => ?_) <;> conv => whnf) | (refine VCall.intro (c0 _) ?_; conv => whnf))
    refine VDraw.go [(1, 3), (1, 5), (3, 6), (1, 8), (6, 8), (3, 9), (1, 10), (6, 10), (9, 10), (3, 11), (3, 16)] (by kernel_rfl) (by kernel_rfl) ?_
    conv => whnf
    repeat' (first | (refine VLd.intro rfl ?_; conv => whnf) | (refine VArith.i64 (by first | omega | (dsimp only; omega)) ?_; conv => whnf) | (refine VNeed.intro (by first | rfl | (simp; omega)) ?_; conv => whnf) | (refine VMem.store rfl rfl rfl rfl ?_; conv => whnf) | (refine VSame.intro rfl ?_; conv => whnf) | (refine VIte.dec (fun _ => ?_) (fun _ => ?_) <;> conv => whnf) | (refine VIte.ndec (fun _ => ?_) (fun _ => ?_) <;> conv => whnf) | (refine VIte.beq (fun _ => ?_) (fun _ => ?_) <;> conv => whnf) | (refine VIte.bne (fun _ => ?_) (fun _ => ?_) <;> conv => whnf) | (refine VIte.intro (fun _ => ?_) (fun _ => ?_) <;> conv => whnf) | (refine VCall.intro (c1 _) ?_; conv => whnf) | (refine VCall.intro (c2 _) ?_; conv => whnf) | (refine VCall.intro (c3 _) ?_; conv => whnf) | (refine VCall.intro (c4 _) ?_; conv => whnf))
    refine VDraw.go [(1, 2)] (by kernel_rfl) (by kernel_rfl) ?_
    conv => whnf
    repeat' (first | (refine VLd.intro rfl ?_; conv => whnf) | (refine VArith.i64 (by first | omega | (dsimp only; omega)) ?_; conv => whnf) | (refine VNeed.intro (by first | rfl | (simp; omega)) ?_; conv => whnf) | (refine VMem.store rfl rfl rfl rfl ?_; conv => whnf) | (refine VSame.intro rfl ?_; conv => whnf) | (refine VDraw.go [] (by kernel_rfl) (by kernel_rfl) ?_; conv => whnf) | (refine VIte.dec (fun _ => ?_) (fun _ => ?_) <;> conv => whnf) | (refine VIte.ndec (fun _ => ?_) (fun _ => ?_) <;> conv => whnf) | (refine VIte.beq (fun _ => ?_) (fun _ => ?_) <;> conv => whnf) | (refine VIte.bne (fun _ => ?_) (fun _ => ?_) <;> conv => whnf) | (refine VIte.intro (fun _ => ?_) (fun _ => ?_) <;> conv => whnf) | (refine VCall.intro (c5 _) ?_; conv => whnf) | (refine VCall.intro (c6 _) ?_; conv => whnf) | (refine VCall.intro (d1 _) ?_; conv => whnf) | (refine VCall.intro (d2 _) ?_; conv => whnf) | (refine VCall.intro (d3 _) ?_; conv => whnf) | (refine VCall.intro (d4 _) ?_; conv => whnf) | (refine VCall.intro (d5 _) ?_; conv => whnf) | (refine VCall.intro (d6 _) ?_; conv => whnf) | (refine VCall.intro (f1 _) ?_; conv => whnf) | (refine VCall.intro (f2 _) ?_; conv => whnf) | (refine VCall.intro (f3 _) ?_; conv => whnf) | (refine VCall.intro (f4 _) ?_; conv => whnf) | (refine VCall.intro (f5 _) ?_; conv => whnf) | (refine VCall.intro (f6 _) ?_; conv => whnf) | (refine VCall.intro (e1 _) ?_; conv => whnf) | (refine VCall.intro (e2 _) ?_; conv => whnf) | (refine VCall.intro (cA _) ?_; conv => whnf))
    all_goals first | exact VOut.same rfl | (rename_i hz; exact absurd rfl hz)
theorem vc_BarterExchangesA (l : Lnd) (x : Exc) (h : Hp) (cA : ∀ h, VC Try.prog 12 [] h (B true) h) : VC Try.prog 8 [vL l, vX x] h (B true) h := by
  by_cases hl : 20 < l.ss.length ∨ 11 < l.vs.length ∨ 20 < x.ps.length
  · have c0 := fun h => vc_long l x h
    rw [decide_eq_true hl] at c0
    refine VC.body Try.func8 rfl Try.ntmps8 Try.call8 (h.grows_refl) rfl ?_; conv => whnf
    repeat' (first | (refine VLd.intro rfl ?_; conv => whnf) | (refine VArith.i64 (by first | omega | (dsimp only; omega)) ?_; conv => whnf) | (refine VNeed.intro (by first | rfl | (simp; omega)) ?_; conv => whnf) | (refine VMem.store rfl rfl rfl rfl ?_; conv => whnf) | (refine VSame.intro rfl ?_; conv => whnf) | (refine VDraw.go [] (by kernel_rfl) (by kernel_rfl) ?_; conv => whnf) | (refine VIte.dec (fun _ => ?_) (fun _ => ?_) <;> conv => whnf) | (refine VIte.ndec (fun _ => ?_) (fun _ => ?_) <;> conv => whnf) | (refine VIte.beq (fun _ => ?_) (fun _ => ?_) <;> conv => whnf) | (refine VIte.bne (fun _ => ?_) (fun _ => ?_) <;> conv => whnf) | (refine VIte.intro (fun _ => ?_) (fun _ => ?_) <;> conv => whnf) | (refine VCall.intro (c0 _) ?_; conv => whnf) | (refine VCall.intro (cA _) ?_; conv => whnf))
    exact VOut.same rfl
  · exact vc_ExchangesA l x h hl cA
end Go.Proofs.Ytmpjpjfkbmlmfaa

open Go.Vm
namespace Go.Vm

/-- What such a function goes through, up to where it ends. -/
theorem iterN_seq {P : Program} {i : Id} {ys : Nat → Option (List V)} {h : Hp} {I : Nat → Hp → Prop} {E : Hp → Prop} : ∀ (m : Nat), (∀ k g, k < m → I k g → match ys k with
    | none => I (k + 1) g
    | some vs => (∃ g', VY P i vs g (.s (.bool true)) g' ∧ I (k + 1) g') ∨ ∃ g', VY P i vs g (.s (.bool false)) g' ∧ E g') → I 0 h →
    ∃ (s : Nat) (g : Nat → Hp), g 0 = h ∧ s ≤ m ∧ (∀ k, k < s → (ys k = none ∧ g (k + 1) = g k) ∨ ∃ vs, ys k = some vs ∧ VY P i vs (g k) (.s (.bool true)) (g (k + 1))) ∧
      ((s = m ∧ I m (g m)) ∨ (s < m ∧ ∃ vs g', ys s = some vs ∧ VY P i vs (g s) (.s (.bool false)) g' ∧ E g'))
  | 0, _, h0 => ⟨0, fun _ => h, rfl, Nat.le_refl _, fun k hk => absurd hk (Nat.not_lt_zero _), .inl ⟨rfl, h0⟩⟩
  | m + 1, hs, h0 => by
    obtain ⟨s, g, g0, hsm, g1, g2⟩ := iterN_seq m (fun k g hk hi => hs k g (by omega) hi) h0
    rcases g2 with ⟨rfl, hI⟩ | ⟨hlt, vs, g', a, b, c⟩
    · have := hs s (g s) (Nat.lt_succ_self _) hI
      have ext : ∀ gn : Hp, ∃ g2 : Nat → Hp, (∀ k, k ≤ s → g2 k = g k) ∧ g2 (s + 1) = gn := fun gn => ⟨fun k => if k = s + 1 then gn else g k, fun k hk => by simp only [if_neg (show ¬ k = s + 1 by omega)], by simp⟩
      cases hy : ys s with
      | none =>
        rw [hy] at this
        obtain ⟨g2, e1, e2⟩ := ext (g s)
        refine ⟨s + 1, g2, by rw [e1 0 (Nat.zero_le _)]; exact g0, Nat.le_refl _, fun k hk => ?_, .inl ⟨rfl, by rw [e2]; exact this⟩⟩
        rcases Nat.lt_or_ge k s with h1 | h1
        · rw [e1 k (by omega), e1 (k + 1) (by omega)]; exact g1 k h1
        · obtain rfl : k = s := by omega
          rw [e1 k (Nat.le_refl _), e2]; exact .inl ⟨hy, rfl⟩
      | some vs =>
        rw [hy] at this
        rcases this with ⟨g', a, b⟩ | ⟨g', a, b⟩
        · obtain ⟨g2, e1, e2⟩ := ext g'
          refine ⟨s + 1, g2, by rw [e1 0 (Nat.zero_le _)]; exact g0, Nat.le_refl _, fun k hk => ?_, .inl ⟨rfl, by rw [e2]; exact b⟩⟩
          rcases Nat.lt_or_ge k s with h1 | h1
          · rw [e1 k (by omega), e1 (k + 1) (by omega)]; exact g1 k h1
          · obtain rfl : k = s := by omega
            rw [e1 k (Nat.le_refl _), e2]; exact .inr ⟨vs, hy, a⟩
        · exact ⟨s, g, g0, Nat.le_succ _, g1, .inr ⟨Nat.lt_succ_self _, vs, g', hy, a, b⟩⟩
    · exact ⟨s, g, g0, by omega, g1, .inr ⟨by omega, vs, g', a, b, c⟩⟩
end Go.Vm
namespace Go.Proofs.Ytmpjpjfkbmlmfaa
set_option maxRecDepth 20000
set_option maxHeartbeats 1000000
def aggT (s : Str) : V := .agg [I s.ow, I s.no, I s.so, I s.we]
def vFree (l : Lnd) : V := .func (.func 90) [] [.fp [.pt (encN l)]]
theorem vc_free (l : Lnd) (h : Hp) : VC Try.prog 67 [.fp (encN l)] h (vFree l) h := by
  refine VC.body Try.func67 rfl Try.ntmps67 Try.call67 (h.grows_refl) rfl ?_; conv => whnf
  repeat (first | (refine VLd.intro rfl ?_; conv => whnf) | (refine VArith.i64 (by first | omega | (dsimp only; omega)) ?_; conv => whnf) | (refine VNeed.intro (by first | rfl | (simp; omega)) ?_; conv => whnf) | (refine VMem.store rfl rfl rfl rfl ?_; conv => whnf) | (refine VSame.intro rfl ?_; conv => whnf) | (refine VDraw.go [] (by kernel_rfl) (by kernel_rfl) ?_; conv => whnf))
  refine VOut.data 1 [(0, [.pt (encN l)])] [] rfl (by repeat' (first | exact FzAll.nil | refine FzAll.flat rfl ?_ | refine FzAll.row rfl rfl (RowTo.one rfl (by simp)) ?_)) (by exact FmAll.nil) (by repeat' (first | exact VTo.undef | exact FrTo.leaf | refine FrTo.node ?_ ?_ ?_ | refine FrTo.none ?_ ?_ | exact VTo.sc (by first | rfl | (congr 1; omega) | (congr 1; simp; omega)) | exact VTos_dv _ _ | refine VTos.cons ?_ ?_ | exact VTos.nil | refine VTo.agg ?_ | refine VTo.tuple ?_ | refine VTo.func ?_ ?_ | exact VTo.fs | exact VTo.fp | exact VTo.nilptr | exact VTo.nilslice | exact VTo.nilfunc | exact VTo.ptr rfl | exact VTo.gl rfl | exact VTo.map rfl | exact VTo.yld rfl | exact VTo.fmMap rfl | exact VTo.fm | exact VTo.glNil' (by decide) rfl rfl | exact VTo.fsNil (by decide) | exact VTo.fsSl rfl rfl (by simp [flat_len encE_len]) | exact VTo.fpPtr rfl | exact VTo.fsGl rfl (by first | rfl | exact flat_len encI_len _ | exact flat_len encT_len _ | exact flat_len encS_len _ | exact flat_len encP_len _ | exact flat_len encL_len _ | exact flat_len encE_len _ | (simp [flat_len encP_len]; done) | simp [flat_len encI_len, flat_len encS_len])))
/-- What is handed to yield. -/
def frY (l : Lnd) (k : Nat) : Option (List V) := match l.ss[k]? with
  | some s => bif isFree s then some [I k, aggT s] else none
  | none => none
theorem frY_eq {l : Lnd} {k : Nat} {s : Str} (hs : l.ss[k]? = some s) : frY l k = bif isFree s then some [I k, aggT s] else none := by unfold frY; rw [hs]
theorem iter_free (l : Lnd) (o : Ok l) : IterN Try.prog 90 [] [.fp [.pt (encN l)]] l.ss.length (frY l) := by
  intro h i J E hs h0
  have hn := o.n
  obtain ⟨S, g, g0, hS, g1, g2⟩ := iterN_seq l.ss.length hs h0
  have hgr : ∀ j, j ≤ S → h.grows (g j) := by
    intro j
    induction j with
    | zero => intro _; rw [g0]; exact h.grows_refl
    | succ j ih =>
      intro hj
      rcases g1 j (by omega) with ⟨_, e⟩ | ⟨vs, _, hv⟩
      · rw [e]; exact ih (by omega)
      · exact fun k hk => hv.1 k (ih (by omega) k hk)
  rcases g2 with ⟨hSm, hI⟩ | ⟨hSm, vs, gE, e1, e2, e3⟩
  · refine ⟨g l.ss.length, ?_, .inl hI⟩
    refine VC.body Try.func90 rfl Try.ntmps90 Try.call90 (hgr _ (by omega)) rfl ?_
    conv => whnf
    repeat' (first | (refine VLd.intro rfl ?_; conv => whnf) | (refine VArith.i64 (by first | omega | (dsimp only; omega)) ?_; conv => whnf) | (refine VNeed.intro (by first | rfl | (simp; omega)) ?_; conv => whnf) | (refine VMem.store rfl rfl rfl rfl ?_; conv => whnf) | (refine VSame.intro rfl ?_; conv => whnf) | (refine VDraw.go [] (by kernel_rfl) (by kernel_rfl) ?_; conv => whnf) | (refine VIte.dec (fun _ => ?_) (fun _ => ?_) <;> conv => whnf) | (refine VIte.ndec (fun _ => ?_) (fun _ => ?_) <;> conv => whnf) | (refine VIte.beq (fun _ => ?_) (fun _ => ?_) <;> conv => whnf) | (refine VIte.bne (fun _ => ?_) (fun _ => ?_) <;> conv => whnf) | (refine VIte.intro (fun _ => ?_) (fun _ => ?_) <;> conv => whnf))
    refine VCode.lpo (fun k : Nat => [(0, .yld (.out i)), (1, .fp [.pt (encN l)]), (9, strs l.ss), (10, I l.ss.length), (11, I k)]) (fun k => (g k).lift) (fun _ => []) (fun k => k ≤ l.ss.length) (fun k => l.ss.length - k) 0 (Nat.zero_le _) (by rw [g0]) ?_ ?_
    · conv => whnf
      refine Retell.turn ⟨[], 0, [], []⟩ (TurnOk.mk' _ _ [] [] (OutOk.lift _) rfl (by decide) (by repeat' (first | exact BTos.nil | refine BTos.flat rfl rfl (by first | rfl | simp) ?_ | refine BTos.new rfl ?_ | refine BTos.dead rfl rfl ?_ | refine BTos.esE rfl rfl ?_ | refine BTos.row rfl rfl rfl (RowTo.snoc (RowTo.one rfl (by simp))) ?_ | refine BTos.cells rfl rfl rfl (by repeat' (first | exact VTo.undef | exact FrTo.leaf | refine FrTo.node ?_ ?_ ?_ | refine FrTo.none ?_ ?_ | exact VTo.sc (by first | rfl | (congr 1; omega) | (congr 1; simp; omega)) | exact VTos_dv _ _ | refine VTos.cons ?_ ?_ | exact VTos.nil | refine VTo.agg ?_ | refine VTo.tuple ?_ | refine VTo.func ?_ ?_ | exact VTo.fs | exact VTo.fp | exact VTo.nilptr | exact VTo.nilslice | exact VTo.nilfunc | exact VTo.ptr rfl | exact VTo.gl rfl | exact VTo.map rfl | exact VTo.yld rfl | exact VTo.fmMap rfl | exact VTo.fm | exact VTo.glNil' (by decide) rfl rfl | exact VTo.fsNil (by decide) | exact VTo.fsSl rfl rfl (by simp [flat_len encE_len]) | exact VTo.fpPtr rfl | exact VTo.fsGl rfl (by first | rfl | exact flat_len encI_len _ | exact flat_len encT_len _ | exact flat_len encS_len _ | exact flat_len encP_len _ | exact flat_len encL_len _ | exact flat_len encE_len _ | (simp [flat_len encP_len]; done) | simp [flat_len encI_len, flat_len encS_len]))) ?_)) trivial trivial rfl) (by repeat' (first | exact VTo.undef | exact FrTo.leaf | refine FrTo.node ?_ ?_ ?_ | refine FrTo.none ?_ ?_ | exact VTo.sc (by first | rfl | (congr 1; omega) | (congr 1; simp; omega)) | exact VTos_dv _ _ | refine VTos.cons ?_ ?_ | exact VTos.nil | refine VTo.agg ?_ | refine VTo.tuple ?_ | refine VTo.func ?_ ?_ | exact VTo.fs | exact VTo.fp | exact VTo.nilptr | exact VTo.nilslice | exact VTo.nilfunc | exact VTo.ptr rfl | exact VTo.gl rfl | exact VTo.map rfl | exact VTo.yld rfl | exact VTo.fmMap rfl | exact VTo.fm | exact VTo.glNil' (by decide) rfl rfl | exact VTo.fsNil (by decide) | exact VTo.fsSl rfl rfl (by simp [flat_len encE_len]) | exact VTo.fpPtr rfl | exact VTo.fsGl rfl (by first | rfl | exact flat_len encI_len _ | exact flat_len encT_len _ | exact flat_len encS_len _ | exact flat_len encP_len _ | exact flat_len encL_len _ | exact flat_len encE_len _ | (simp [flat_len encP_len]; done) | simp [flat_len encI_len, flat_len encS_len]))) (by first | rfl | (repeat' (first | exact MkTo.nil | refine MkTo.keep rfl ?_ | refine MkTo.drop (by decide) rfl ?_)))
    · rintro k hk
      conv => whnf
      refine VIte.dec (fun h3 => ?_) (fun h3 => ?_)
      · have hp : l.ss[k]? = some l.ss[k] := List.getElem?_eq_getElem (by omega)
        have hst := g1 k (by omega)
        rw [frY_eq hp] at hst
        have hc := fun h => vc_bound l k h (by omega)
        rw [bdAt_eq hp] at hc
        generalize l.ss[k] = s at hp hst hc
        cases hf : isFree s
        · rw [hf] at hst hc
          have hgk : g (k + 1) = g k := by
            rcases hst with ⟨_, e⟩ | ⟨vs, e, _⟩
            · exact e
            · cases e
          conv => whnf
          repeat' (first | (refine VLd.intro rfl ?_; conv => whnf) | (refine VArith.i64 (by first | omega | (dsimp only; omega)) ?_; conv => whnf) | (refine VNeed.intro (by first | rfl | (simp; omega)) ?_; conv => whnf) | (refine VMem.store rfl rfl rfl rfl ?_; conv => whnf) | (refine VSame.intro rfl ?_; conv => whnf) | (refine VDraw.go [] (by kernel_rfl) (by kernel_rfl) ?_; conv => whnf) | (refine VIte.dec (fun _ => ?_) (fun _ => ?_) <;> conv => whnf) | (refine VIte.ndec (fun _ => ?_) (fun _ => ?_) <;> conv => whnf) | (refine VIte.beq (fun _ => ?_) (fun _ => ?_) <;> conv => whnf) | (refine VIte.bne (fun _ => ?_) (fun _ => ?_) <;> conv => whnf) | (refine VIte.intro (fun _ => ?_) (fun _ => ?_) <;> conv => whnf) | (refine VAny.ix encT_len k rfl rfl hp ?_; conv => whnf) | (refine VCall.intro (hc _) ?_; conv => whnf))
          refine LEndO.intro (k + 1) (by omega) (by omega) (by rw [hgk]; rfl) ?_
          rw [hgk]
          conv => whnf
          refine Retell.turn ⟨[], 2, [], []⟩ (TurnOk.mk' _ _ [] [] (OutOk.lift _) rfl (by decide) (by repeat' (first | exact BTos.nil | refine BTos.flat rfl rfl (by first | rfl | simp) ?_ | refine BTos.new rfl ?_ | refine BTos.dead rfl rfl ?_ | refine BTos.esE rfl rfl ?_ | refine BTos.row rfl rfl rfl (RowTo.snoc (RowTo.one rfl (by simp))) ?_ | refine BTos.cells rfl rfl rfl (by repeat' (first | exact VTo.undef | exact FrTo.leaf | refine FrTo.node ?_ ?_ ?_ | refine FrTo.none ?_ ?_ | exact VTo.sc (by first | rfl | (congr 1; omega) | (congr 1; simp; omega)) | exact VTos_dv _ _ | refine VTos.cons ?_ ?_ | exact VTos.nil | refine VTo.agg ?_ | refine VTo.tuple ?_ | refine VTo.func ?_ ?_ | exact VTo.fs | exact VTo.fp | exact VTo.nilptr | exact VTo.nilslice | exact VTo.nilfunc | exact VTo.ptr rfl | exact VTo.gl rfl | exact VTo.map rfl | exact VTo.yld rfl | exact VTo.fmMap rfl | exact VTo.fm | exact VTo.glNil' (by decide) rfl rfl | exact VTo.fsNil (by decide) | exact VTo.fsSl rfl rfl (by simp [flat_len encE_len]) | exact VTo.fpPtr rfl | exact VTo.fsGl rfl (by first | rfl | exact flat_len encI_len _ | exact flat_len encT_len _ | exact flat_len encS_len _ | exact flat_len encP_len _ | exact flat_len encL_len _ | exact flat_len encE_len _ | (simp [flat_len encP_len]; done) | simp [flat_len encI_len, flat_len encS_len]))) ?_)) trivial trivial rfl) (by repeat' (first | exact VTo.undef | exact FrTo.leaf | refine FrTo.node ?_ ?_ ?_ | refine FrTo.none ?_ ?_ | exact VTo.sc (by first | rfl | (congr 1; omega) | (congr 1; simp; omega)) | exact VTos_dv _ _ | refine VTos.cons ?_ ?_ | exact VTos.nil | refine VTo.agg ?_ | refine VTo.tuple ?_ | refine VTo.func ?_ ?_ | exact VTo.fs | exact VTo.fp | exact VTo.nilptr | exact VTo.nilslice | exact VTo.nilfunc | exact VTo.ptr rfl | exact VTo.gl rfl | exact VTo.map rfl | exact VTo.yld rfl | exact VTo.fmMap rfl | exact VTo.fm | exact VTo.glNil' (by decide) rfl rfl | exact VTo.fsNil (by decide) | exact VTo.fsSl rfl rfl (by simp [flat_len encE_len]) | exact VTo.fpPtr rfl | exact VTo.fsGl rfl (by first | rfl | exact flat_len encI_len _ | exact flat_len encT_len _ | exact flat_len encS_len _ | exact flat_len encP_len _ | exact flat_len encL_len _ | exact flat_len encE_len _ | (simp [flat_len encP_len]; done) | simp [flat_len encI_len, flat_len encS_len]))) (by first | rfl | (repeat' (first | exact MkTo.nil | refine MkTo.keep rfl ?_ | refine MkTo.drop (by decide) rfl ?_)))
        · rw [hf] at hst hc
          have hy : VY Try.prog i [I k, aggT s] (g k) (.s (.bool true)) (g (k + 1)) := by
            rcases hst with ⟨e, _⟩ | ⟨vs, e, hv⟩
            · cases e
            · cases e; exact hv
          conv => whnf
          repeat' (first | (refine VLd.intro rfl ?_; conv => whnf) | (refine VArith.i64 (by first | omega | (dsimp only; omega)) ?_; conv => whnf) | (refine VNeed.intro (by first | rfl | (simp; omega)) ?_; conv => whnf) | (refine VMem.store rfl rfl rfl rfl ?_; conv => whnf) | (refine VSame.intro rfl ?_; conv => whnf) | (refine VDraw.go [] (by kernel_rfl) (by kernel_rfl) ?_; conv => whnf) | (refine VIte.dec (fun _ => ?_) (fun _ => ?_) <;> conv => whnf) | (refine VIte.ndec (fun _ => ?_) (fun _ => ?_) <;> conv => whnf) | (refine VIte.beq (fun _ => ?_) (fun _ => ?_) <;> conv => whnf) | (refine VIte.bne (fun _ => ?_) (fun _ => ?_) <;> conv => whnf) | (refine VIte.intro (fun _ => ?_) (fun _ => ?_) <;> conv => whnf) | (refine VAny.ix encT_len k rfl rfl hp ?_; conv => whnf) | (refine VCall.intro (hc _) ?_; conv => whnf) | (refine VYield.intro (VY.lift _ hy) ?_; conv => whnf))
          refine LEndO.intro (k + 1) (by omega) (by omega) rfl ?_
          conv => whnf
          refine Retell.turn ⟨[], 2, [], []⟩ (TurnOk.mk' _ _ [] [] (OutOk.lift _) rfl (by decide) (by repeat' (first | exact BTos.nil | refine BTos.flat rfl rfl (by first | rfl | simp) ?_ | refine BTos.new rfl ?_ | refine BTos.dead rfl rfl ?_ | refine BTos.esE rfl rfl ?_ | refine BTos.row rfl rfl rfl (RowTo.snoc (RowTo.one rfl (by simp))) ?_ | refine BTos.cells rfl rfl rfl (by repeat' (first | exact VTo.undef | exact FrTo.leaf | refine FrTo.node ?_ ?_ ?_ | refine FrTo.none ?_ ?_ | exact VTo.sc (by first | rfl | (congr 1; omega) | (congr 1; simp; omega)) | exact VTos_dv _ _ | refine VTos.cons ?_ ?_ | exact VTos.nil | refine VTo.agg ?_ | refine VTo.tuple ?_ | refine VTo.func ?_ ?_ | exact VTo.fs | exact VTo.fp | exact VTo.nilptr | exact VTo.nilslice | exact VTo.nilfunc | exact VTo.ptr rfl | exact VTo.gl rfl | exact VTo.map rfl | exact VTo.yld rfl | exact VTo.fmMap rfl | exact VTo.fm | exact VTo.glNil' (by decide) rfl rfl | exact VTo.fsNil (by decide) | exact VTo.fsSl rfl rfl (by simp [flat_len encE_len]) | exact VTo.fpPtr rfl | exact VTo.fsGl rfl (by first | rfl | exact flat_len encI_len _ | exact flat_len encT_len _ | exact flat_len encS_len _ | exact flat_len encP_len _ | exact flat_len encL_len _ | exact flat_len encE_len _ | (simp [flat_len encP_len]; done) | simp [flat_len encI_len, flat_len encS_len]))) ?_)) trivial trivial rfl) (by repeat' (first | exact VTo.undef | exact FrTo.leaf | refine FrTo.node ?_ ?_ ?_ | refine FrTo.none ?_ ?_ | exact VTo.sc (by first | rfl | (congr 1; omega) | (congr 1; simp; omega)) | exact VTos_dv _ _ | refine VTos.cons ?_ ?_ | exact VTos.nil | refine VTo.agg ?_ | refine VTo.tuple ?_ | refine VTo.func ?_ ?_ | exact VTo.fs | exact VTo.fp | exact VTo.nilptr | exact VTo.nilslice | exact VTo.nilfunc | exact VTo.ptr rfl | exact VTo.gl rfl | exact VTo.map rfl | exact VTo.yld rfl | exact VTo.fmMap rfl | exact VTo.fm | exact VTo.glNil' (by decide) rfl rfl | exact VTo.fsNil (by decide) | exact VTo.fsSl rfl rfl (by simp [flat_len encE_len]) | exact VTo.fpPtr rfl | exact VTo.fsGl rfl (by first | rfl | exact flat_len encI_len _ | exact flat_len encT_len _ | exact flat_len encS_len _ | exact flat_len encP_len _ | exact flat_len encL_len _ | exact flat_len encE_len _ | (simp [flat_len encP_len]; done) | simp [flat_len encI_len, flat_len encS_len]))) (by first | rfl | (repeat' (first | exact MkTo.nil | refine MkTo.keep rfl ?_ | refine MkTo.drop (by decide) rfl ?_)))
      · have hkM : k = l.ss.length := by omega
        subst hkM
        conv => whnf
        exact VOut.lifted (r := .tuple []) (hgr _ (by omega))
  · refine ⟨gE, ?_, .inr e3⟩
    have hgE : h.grows gE := fun k hk => e2.1 k (hgr S (Nat.le_refl _) k hk)
    refine VC.body Try.func90 rfl Try.ntmps90 Try.call90 hgE rfl ?_
    conv => whnf
    repeat' (first | (refine VLd.intro rfl ?_; conv => whnf) | (refine VArith.i64 (by first | omega | (dsimp only; omega)) ?_; conv => whnf) | (refine VNeed.intro (by first | rfl | (simp; omega)) ?_; conv => whnf) | (refine VMem.store rfl rfl rfl rfl ?_; conv => whnf) | (refine VSame.intro rfl ?_; conv => whnf) | (refine VDraw.go [] (by kernel_rfl) (by kernel_rfl) ?_; conv => whnf) | (refine VIte.dec (fun _ => ?_) (fun _ => ?_) <;> conv => whnf) | (refine VIte.ndec (fun _ => ?_) (fun _ => ?_) <;> conv => whnf) | (refine VIte.beq (fun _ => ?_) (fun _ => ?_) <;> conv => whnf) | (refine VIte.bne (fun _ => ?_) (fun _ => ?_) <;> conv => whnf) | (refine VIte.intro (fun _ => ?_) (fun _ => ?_) <;> conv => whnf))
    refine VCode.lpo (fun k : Nat => [(0, .yld (.out i)), (1, .fp [.pt (encN l)]), (9, strs l.ss), (10, I l.ss.length), (11, I k)]) (fun k => (g k).lift) (fun _ => []) (fun k => k ≤ S) (fun k => S - k) 0 (Nat.zero_le _) (by rw [g0]) ?_ ?_
    · conv => whnf
      refine Retell.turn ⟨[], 0, [], []⟩ (TurnOk.mk' _ _ [] [] (OutOk.lift _) rfl (by decide) (by repeat' (first | exact BTos.nil | refine BTos.flat rfl rfl (by first | rfl | simp) ?_ | refine BTos.new rfl ?_ | refine BTos.dead rfl rfl ?_ | refine BTos.esE rfl rfl ?_ | refine BTos.row rfl rfl rfl (RowTo.snoc (RowTo.one rfl (by simp))) ?_ | refine BTos.cells rfl rfl rfl (by repeat' (first | exact VTo.undef | exact FrTo.leaf | refine FrTo.node ?_ ?_ ?_ | refine FrTo.none ?_ ?_ | exact VTo.sc (by first | rfl | (congr 1; omega) | (congr 1; simp; omega)) | exact VTos_dv _ _ | refine VTos.cons ?_ ?_ | exact VTos.nil | refine VTo.agg ?_ | refine VTo.tuple ?_ | refine VTo.func ?_ ?_ | exact VTo.fs | exact VTo.fp | exact VTo.nilptr | exact VTo.nilslice | exact VTo.nilfunc | exact VTo.ptr rfl | exact VTo.gl rfl | exact VTo.map rfl | exact VTo.yld rfl | exact VTo.fmMap rfl | exact VTo.fm | exact VTo.glNil' (by decide) rfl rfl | exact VTo.fsNil (by decide) | exact VTo.fsSl rfl rfl (by simp [flat_len encE_len]) | exact VTo.fpPtr rfl | exact VTo.fsGl rfl (by first | rfl | exact flat_len encI_len _ | exact flat_len encT_len _ | exact flat_len encS_len _ | exact flat_len encP_len _ | exact flat_len encL_len _ | exact flat_len encE_len _ | (simp [flat_len encP_len]; done) | simp [flat_len encI_len, flat_len encS_len]))) ?_)) trivial trivial rfl) (by repeat' (first | exact VTo.undef | exact FrTo.leaf | refine FrTo.node ?_ ?_ ?_ | refine FrTo.none ?_ ?_ | exact VTo.sc (by first | rfl | (congr 1; omega) | (congr 1; simp; omega)) | exact VTos_dv _ _ | refine VTos.cons ?_ ?_ | exact VTos.nil | refine VTo.agg ?_ | refine VTo.tuple ?_ | refine VTo.func ?_ ?_ | exact VTo.fs | exact VTo.fp | exact VTo.nilptr | exact VTo.nilslice | exact VTo.nilfunc | exact VTo.ptr rfl | exact VTo.gl rfl | exact VTo.map rfl | exact VTo.yld rfl | exact VTo.fmMap rfl | exact VTo.fm | exact VTo.glNil' (by decide) rfl rfl | exact VTo.fsNil (by decide) | exact VTo.fsSl rfl rfl (by simp [flat_len encE_len]) | exact VTo.fpPtr rfl | exact VTo.fsGl rfl (by first | rfl | exact flat_len encI_len _ | exact flat_len encT_len _ | exact flat_len encS_len _ | exact flat_len encP_len _ | exact flat_len encL_len _ | exact flat_len encE_len _ | (simp [flat_len encP_len]; done) | simp [flat_len encI_len, flat_len encS_len]))) (by first | rfl | (repeat' (first | exact MkTo.nil | refine MkTo.keep rfl ?_ | refine MkTo.drop (by decide) rfl ?_)))
    · rintro k hk
      conv => whnf
      refine VIte.dec (fun h3 => ?_) (fun h3 => ?_)
      · have hp : l.ss[k]? = some l.ss[k] := List.getElem?_eq_getElem (by omega)
        have hc := fun h => vc_bound l k h (by omega)
        rw [bdAt_eq hp] at hc
        rcases Nat.eq_or_lt_of_le hk with hkS | hkS
        · subst hkS
          rw [frY_eq hp] at e1
          generalize l.ss[k] = s at hp e1 hc
          cases hf : isFree s
          · rw [hf] at e1; cases e1
          · rw [hf] at e1 hc
            cases e1
            conv => whnf
            repeat' (first | (refine VLd.intro rfl ?_; conv => whnf) | (refine VArith.i64 (by first | omega | (dsimp only; omega)) ?_; conv => whnf) | (refine VNeed.intro (by first | rfl | (simp; omega)) ?_; conv => whnf) | (refine VMem.store rfl rfl rfl rfl ?_; conv => whnf) | (refine VSame.intro rfl ?_; conv => whnf) | (refine VDraw.go [] (by kernel_rfl) (by kernel_rfl) ?_; conv => whnf) | (refine VIte.dec (fun _ => ?_) (fun _ => ?_) <;> conv => whnf) | (refine VIte.ndec (fun _ => ?_) (fun _ => ?_) <;> conv => whnf) | (refine VIte.beq (fun _ => ?_) (fun _ => ?_) <;> conv => whnf) | (refine VIte.bne (fun _ => ?_) (fun _ => ?_) <;> conv => whnf) | (refine VIte.intro (fun _ => ?_) (fun _ => ?_) <;> conv => whnf) | (refine VAny.ix encT_len k rfl rfl hp ?_; conv => whnf) | (refine VCall.intro (hc _) ?_; conv => whnf) | (refine VYield.intro (VY.lift _ e2) ?_; conv => whnf))
            refine VOut.turn ⟨[], 1, [], []⟩ (loc' := []) (r1' := .tuple []) (TurnOk.mk' [] 1 [] [] (OutOk.lift _) rfl List.nodup_nil BTos.nil trivial trivial rfl) (by repeat' (first | exact VTo.undef | exact FrTo.leaf | refine FrTo.node ?_ ?_ ?_ | refine FrTo.none ?_ ?_ | exact VTo.sc (by first | rfl | (congr 1; omega) | (congr 1; simp; omega)) | exact VTos_dv _ _ | refine VTos.cons ?_ ?_ | exact VTos.nil | refine VTo.agg ?_ | refine VTo.tuple ?_ | refine VTo.func ?_ ?_ | exact VTo.fs | exact VTo.fp | exact VTo.nilptr | exact VTo.nilslice | exact VTo.nilfunc | exact VTo.ptr rfl | exact VTo.gl rfl | exact VTo.map rfl | exact VTo.yld rfl | exact VTo.fmMap rfl | exact VTo.fm | exact VTo.glNil' (by decide) rfl rfl | exact VTo.fsNil (by decide) | exact VTo.fsSl rfl rfl (by simp [flat_len encE_len]) | exact VTo.fpPtr rfl | exact VTo.fsGl rfl (by first | rfl | exact flat_len encI_len _ | exact flat_len encT_len _ | exact flat_len encS_len _ | exact flat_len encP_len _ | exact flat_len encL_len _ | exact flat_len encE_len _ | (simp [flat_len encP_len]; done) | simp [flat_len encI_len, flat_len encS_len]))) ?_
            exact VOut.lifted (r := .tuple []) hgE
        · have hst := g1 k (by omega)
          rw [frY_eq hp] at hst
          generalize l.ss[k] = s at hp hst hc
          cases hf : isFree s
          · rw [hf] at hst hc
            have hgk : g (k + 1) = g k := by
              rcases hst with ⟨_, e⟩ | ⟨vs, e, _⟩
              · exact e
              · cases e
            conv => whnf
            repeat' (first | (refine VLd.intro rfl ?_; conv => whnf) | (refine VArith.i64 (by first | omega | (dsimp only; omega)) ?_; conv => whnf) | (refine VNeed.intro (by first | rfl | (simp; omega)) ?_; conv => whnf) | (refine VMem.store rfl rfl rfl rfl ?_; conv => whnf) | (refine VSame.intro rfl ?_; conv => whnf) | (refine VDraw.go [] (by kernel_rfl) (by kernel_rfl) ?_; conv => whnf) | (refine VIte.dec (fun _ => ?_) (fun _ => ?_) <;> conv => whnf) | (refine VIte.ndec (fun _ => ?_) (fun _ => ?_) <;> conv => whnf) | (refine VIte.beq (fun _ => ?_) (fun _ => ?_) <;> conv => whnf) | (refine VIte.bne (fun _ => ?_) (fun _ => ?_) <;> conv => whnf) | (refine VIte.intro (fun _ => ?_) (fun _ => ?_) <;> conv => whnf) | (refine VAny.ix encT_len k rfl rfl hp ?_; conv => whnf) | (refine VCall.intro (hc _) ?_; conv => whnf))
            refine LEndO.intro (k + 1) (by omega) (by omega) (by rw [hgk]; rfl) ?_
            rw [hgk]
            conv => whnf
            refine Retell.turn ⟨[], 2, [], []⟩ (TurnOk.mk' _ _ [] [] (OutOk.lift _) rfl (by decide) (by repeat' (first | exact BTos.nil | refine BTos.flat rfl rfl (by first | rfl | simp) ?_ | refine BTos.new rfl ?_ | refine BTos.dead rfl rfl ?_ | refine BTos.esE rfl rfl ?_ | refine BTos.row rfl rfl rfl (RowTo.snoc (RowTo.one rfl (by simp))) ?_ | refine BTos.cells rfl rfl rfl (by repeat' (first | exact VTo.undef | exact FrTo.leaf | refine FrTo.node ?_ ?_ ?_ | refine FrTo.none ?_ ?_ | exact VTo.sc (by first | rfl | (congr 1; omega) | (congr 1; simp; omega)) | exact VTos_dv _ _ | refine VTos.cons ?_ ?_ | exact VTos.nil | refine VTo.agg ?_ | refine VTo.tuple ?_ | refine VTo.func ?_ ?_ | exact VTo.fs | exact VTo.fp | exact VTo.nilptr | exact VTo.nilslice | exact VTo.nilfunc | exact VTo.ptr rfl | exact VTo.gl rfl | exact VTo.map rfl | exact VTo.yld rfl | exact VTo.fmMap rfl | exact VTo.fm | exact VTo.glNil' (by decide) rfl rfl | exact VTo.fsNil (by decide) | exact VTo.fsSl rfl rfl (by simp [flat_len encE_len]) | exact VTo.fpPtr rfl | exact VTo.fsGl rfl (by first | rfl | exact flat_len encI_len _ | exact flat_len encT_len _ | exact flat_len encS_len _ | exact flat_len encP_len _ | exact flat_len encL_len _ | exact flat_len encE_len _ | (simp [flat_len encP_len]; done) | simp [flat_len encI_len, flat_len encS_len]))) ?_)) trivial trivial rfl) (by repeat' (first | exact VTo.undef | exact FrTo.leaf | refine FrTo.node ?_ ?_ ?_ | refine FrTo.none ?_ ?_ | exact VTo.sc (by first | rfl | (congr 1; omega) | (congr 1; simp; omega)) | exact VTos_dv _ _ | refine VTos.cons ?_ ?_ | exact VTos.nil | refine VTo.agg ?_ | refine VTo.tuple ?_ | refine VTo.func ?_ ?_ | exact VTo.fs | exact VTo.fp | exact VTo.nilptr | exact VTo.nilslice | exact VTo.nilfunc | exact VTo.ptr rfl | exact VTo.gl rfl | exact VTo.map rfl | exact VTo.yld rfl | exact VTo.fmMap rfl | exact VTo.fm | exact VTo.glNil' (by decide) rfl rfl | exact VTo.fsNil (by decide) | exact VTo.fsSl rfl rfl (by simp [flat_len encE_len]) | exact VTo.fpPtr rfl | exact VTo.fsGl rfl (by first | rfl | exact flat_len encI_len _ | exact flat_len encT_len _ | exact flat_len encS_len _ | exact flat_len encP_len _ | exact flat_len encL_len _ | exact flat_len encE_len _ | (simp [flat_len encP_len]; done) | simp [flat_len encI_len, flat_len encS_len]))) (by first | rfl | (repeat' (first | exact MkTo.nil | refine MkTo.keep rfl ?_ | refine MkTo.drop (by decide) rfl ?_)))
          · rw [hf] at hst hc
            have hy : VY Try.prog i [I k, aggT s] (g k) (.s (.bool true)) (g (k + 1)) := by
              rcases hst with ⟨e, _⟩ | ⟨vs, e, hv⟩
              · cases e
              · cases e; exact hv
            conv => whnf
            repeat' (first | (refine VLd.intro rfl ?_; conv => whnf) | (refine VArith.i64 (by first | omega | (dsimp only; omega)) ?_; conv => whnf) | (refine VNeed.intro (by first | rfl | (simp; omega)) ?_; conv => whnf) | (refine VMem.store rfl rfl rfl rfl ?_; conv => whnf) | (refine VSame.intro rfl ?_; conv => whnf) | (refine VDraw.go [] (by kernel_rfl) (by kernel_rfl) ?_; conv => whnf) | (refine VIte.dec (fun _ => ?_) (fun _ => ?_) <;> conv => whnf) | (refine VIte.ndec (fun _ => ?_) (fun _ => ?_) <;> conv => whnf) | (refine VIte.beq (fun _ => ?_) (fun _ => ?_) <;> conv => whnf) | (refine VIte.bne (fun _ => ?_) (fun _ => ?_) <;> conv => whnf) | (refine VIte.intro (fun _ => ?_) (fun _ => ?_) <;> conv => whnf) | (refine VAny.ix encT_len k rfl rfl hp ?_; conv => whnf) | (refine VCall.intro (hc _) ?_; conv => whnf) | (refine VYield.intro (VY.lift _ hy) ?_; conv => whnf))
            refine LEndO.intro (k + 1) (by omega) (by omega) rfl ?_
            conv => whnf
            refine Retell.turn ⟨[], 2, [], []⟩ (TurnOk.mk' _ _ [] [] (OutOk.lift _) rfl (by decide) (by repeat' (first | exact BTos.nil | refine BTos.flat rfl rfl (by first | rfl | simp) ?_ | refine BTos.new rfl ?_ | refine BTos.dead rfl rfl ?_ | refine BTos.esE rfl rfl ?_ | refine BTos.row rfl rfl rfl (RowTo.snoc (RowTo.one rfl (by simp))) ?_ | refine BTos.cells rfl rfl rfl (by repeat' (first | exact VTo.undef | exact FrTo.leaf | refine FrTo.node ?_ ?_ ?_ | refine FrTo.none ?_ ?_ | exact VTo.sc (by first | rfl | (congr 1; omega) | (congr 1; simp; omega)) | exact VTos_dv _ _ | refine VTos.cons ?_ ?_ | exact VTos.nil | refine VTo.agg ?_ | refine VTo.tuple ?_ | refine VTo.func ?_ ?_ | exact VTo.fs | exact VTo.fp | exact VTo.nilptr | exact VTo.nilslice | exact VTo.nilfunc | exact VTo.ptr rfl | exact VTo.gl rfl | exact VTo.map rfl | exact VTo.yld rfl | exact VTo.fmMap rfl | exact VTo.fm | exact VTo.glNil' (by decide) rfl rfl | exact VTo.fsNil (by decide) | exact VTo.fsSl rfl rfl (by simp [flat_len encE_len]) | exact VTo.fpPtr rfl | exact VTo.fsGl rfl (by first | rfl | exact flat_len encI_len _ | exact flat_len encT_len _ | exact flat_len encS_len _ | exact flat_len encP_len _ | exact flat_len encL_len _ | exact flat_len encE_len _ | (simp [flat_len encP_len]; done) | simp [flat_len encI_len, flat_len encS_len]))) ?_)) trivial trivial rfl) (by repeat' (first | exact VTo.undef | exact FrTo.leaf | refine FrTo.node ?_ ?_ ?_ | refine FrTo.none ?_ ?_ | exact VTo.sc (by first | rfl | (congr 1; omega) | (congr 1; simp; omega)) | exact VTos_dv _ _ | refine VTos.cons ?_ ?_ | exact VTos.nil | refine VTo.agg ?_ | refine VTo.tuple ?_ | refine VTo.func ?_ ?_ | exact VTo.fs | exact VTo.fp | exact VTo.nilptr | exact VTo.nilslice | exact VTo.nilfunc | exact VTo.ptr rfl | exact VTo.gl rfl | exact VTo.map rfl | exact VTo.yld rfl | exact VTo.fmMap rfl | exact VTo.fm | exact VTo.glNil' (by decide) rfl rfl | exact VTo.fsNil (by decide) | exact VTo.fsSl rfl rfl (by simp [flat_len encE_len]) | exact VTo.fpPtr rfl | exact VTo.fsGl rfl (by first | rfl | exact flat_len encI_len _ | exact flat_len encT_len _ | exact flat_len encS_len _ | exact flat_len encP_len _ | exact flat_len encL_len _ | exact flat_len encE_len _ | (simp [flat_len encP_len]; done) | simp [flat_len encI_len, flat_len encS_len]))) (by first | rfl | (repeat' (first | exact MkTo.nil | refine MkTo.keep rfl ?_ | refine MkTo.drop (by decide) rfl ?_)))
      · exfalso; omega
/-! ### Prices and wastes -/
theorem vc_worth (s : Str) (h : Hp) : VC Try.prog 68 [aggT s] h (.agg [I s.no, I s.so]) h := by
  refine VC.body Try.func68 rfl Try.ntmps68 Try.call68 (h.grows_refl) rfl ?_; conv => whnf
  repeat' (first | (refine VLd.intro rfl ?_; conv => whnf) | (refine VArith.i64 (by first | omega | (dsimp only; omega)) ?_; conv => whnf) | (refine VNeed.intro (by first | rfl | (simp; omega)) ?_; conv => whnf) | (refine VMem.store rfl rfl rfl rfl ?_; conv => whnf) | (refine VSame.intro rfl ?_; conv => whnf) | (refine VDraw.go [] (by kernel_rfl) (by kernel_rfl) ?_; conv => whnf) | (refine VIte.dec (fun _ => ?_) (fun _ => ?_) <;> conv => whnf) | (refine VIte.ndec (fun _ => ?_) (fun _ => ?_) <;> conv => whnf) | (refine VIte.beq (fun _ => ?_) (fun _ => ?_) <;> conv => whnf) | (refine VIte.bne (fun _ => ?_) (fun _ => ?_) <;> conv => whnf) | (refine VIte.intro (fun _ => ?_) (fun _ => ?_) <;> conv => whnf))
  exact VOut.same rfl
def fst2 (a b : Str) : Bool := decide (a.so * b.no < a.no * b.so)
theorem top89 : eqTop Try.prog 89 = some (Sh.cons 0 1 false Sh.int (Sh.cons 1 1 false Sh.int Sh.nil)) := by kernel_rfl
theorem veqW (a b c d : Int) : vaggeq Try.prog .eql 89 (.agg [I a, I b]) (.agg [I c, I d]) = some (B ((a == c) && ((b == d) && true))) := by
  unfold vaggeq
  rw [top89]
  rfl
theorem vc_ahead (a b c d : Int) (h : Hp) (ha : 0 ≤ a ∧ a ≤ 4000) (hb : 0 ≤ b ∧ b ≤ 4000) (hc : 0 ≤ c ∧ c ≤ 4000) (hd : 0 ≤ d ∧ d ≤ 4000) : VC Try.prog 69 [.agg [I a, I b], .agg [I c, I d]] h (I (a * d - b * c)) h := by
  have m1 := mul_le ha hd
  have m2 := mul_le hb hc
  obtain ⟨R, hR⟩ : ∃ R, R = a * d - b * c := ⟨_, rfl⟩
  rw [← hR]
  by_cases he : a = c ∧ b = d
  · obtain ⟨rfl, rfl⟩ := he
    have : R = 0 := by rw [hR, Int.mul_comm]; omega
    rw [this]
    refine VC.body Try.func69 rfl Try.ntmps69 Try.call69 (h.grows_refl) rfl ?_; conv => whnf
    repeat' (first | (refine VLd.intro rfl ?_; conv => whnf) | (refine VArith.i64 (by first | omega | (dsimp only; omega)) ?_; conv => whnf) | (refine VNeed.intro (by first | rfl | (simp; omega)) ?_; conv => whnf) | (refine VMem.store rfl rfl rfl rfl ?_; conv => whnf) | (refine VSame.intro rfl ?_; conv => whnf) | (refine VDraw.go [] (by kernel_rfl) (by kernel_rfl) ?_; conv => whnf) | (refine VIte.dec (fun _ => ?_) (fun _ => ?_) <;> conv => whnf) | (refine VIte.ndec (fun _ => ?_) (fun _ => ?_) <;> conv => whnf) | (refine VIte.beq (fun _ => ?_) (fun _ => ?_) <;> conv => whnf) | (refine VIte.bne (fun _ => ?_) (fun _ => ?_) <;> conv => whnf) | (refine VIte.intro (fun _ => ?_) (fun _ => ?_) <;> conv => whnf) | (refine VAgg.intro (veqW _ _ _ _) ?_; conv => whnf))
    all_goals first | exact VOut.same rfl | (exfalso; simp at *; done) | trace_state
  · rw [hR]
    refine VC.body Try.func69 rfl Try.ntmps69 Try.call69 (h.grows_refl) rfl ?_; conv => whnf
    repeat' (first | (refine VLd.intro rfl ?_; conv => whnf) | (refine VArith.i64 (by first | omega | (dsimp only; omega)) ?_; conv => whnf) | (refine VNeed.intro (by first | rfl | (simp; omega)) ?_; conv => whnf) | (refine VMem.store rfl rfl rfl rfl ?_; conv => whnf) | (refine VSame.intro rfl ?_; conv => whnf) | (refine VDraw.go [] (by kernel_rfl) (by kernel_rfl) ?_; conv => whnf) | (refine VIte.dec (fun _ => ?_) (fun _ => ?_) <;> conv => whnf) | (refine VIte.ndec (fun _ => ?_) (fun _ => ?_) <;> conv => whnf) | (refine VIte.beq (fun _ => ?_) (fun _ => ?_) <;> conv => whnf) | (refine VIte.bne (fun _ => ?_) (fun _ => ?_) <;> conv => whnf) | (refine VIte.intro (fun _ => ?_) (fun _ => ?_) <;> conv => whnf) | (refine VAgg.intro (veqW _ _ _ _) ?_; conv => whnf))
    all_goals first | exact VOut.same rfl | (exfalso; simp at *; omega) | trace_state
end Go.Proofs.Ytmpjpjfkbmlmfaa

open Go.Vm
namespace Go.Proofs.Ytmpjpjfkbmlmfaa
set_option maxRecDepth 20000
set_option maxHeartbeats 1000000

/-- Whether a price holds. -/
def bdP (w a b : Int) (s : Str) (p : Int) : Bool := isFree s && decide ((0 < s.no * a - s.so * b ∧ p < w) ∨ (s.no * a - s.so * b < 0 ∧ 0 < p))
def hlGo (w a b : Int) : List Str → List Int → Bool
  | s :: ss, p :: ps => !bdP w a b s p && hlGo w a b ss ps
  | _, _ => true
theorem hlGo_at {w a b : Int} {ss : List Str} {ps : List Int} {k : Nat} {s : Str} {p : Int} (hs : ss[k]? = some s) (hp : ps[k]? = some p) : hlGo w a b (ss.drop k) (ps.drop k) = (!bdP w a b s p && hlGo w a b (ss.drop (k + 1)) (ps.drop (k + 1))) := by
  obtain ⟨h1, rfl⟩ := List.getElem?_eq_some_iff.1 hs
  obtain ⟨h2, rfl⟩ := List.getElem?_eq_some_iff.1 hp
  rw [List.drop_eq_getElem_cons h1, List.drop_eq_getElem_cons h2, hlGo]
theorem hlGo_end (w a b : Int) (ss : List Str) (ps : List Int) : hlGo w a b (ss.drop ss.length) (ps.drop ss.length) = true := by
  rw [List.drop_of_length_le (Nat.le_refl _)]
  cases ps.drop ss.length <;> rfl
def hlE (l : Lnd) (x : Exc) (a b : Int) : Int := if askE l x ≠ 0 then askE l x else if ¬ (1 ≤ a ∧ a ≤ 2000) ∨ ¬ (1 ≤ b ∧ b ≤ 2000) then 4 else 0
def hlB (l : Lnd) (x : Exc) (a b : Int) : Bool := decide (hlE l x a b = 0) && (alB l x && hlGo x.w a b l.ss x.ps)
structure HJ (o : Vm.Id → Option Blk) (g : Hp) : Prop where
  o : g.outer = o
  b0 : g.get (.loc 0) = some (.flat true [DB false])
  b1 : g.get (.loc 1) = some (.flat true [DI 0])
  b2 : g.get (.loc 2) = some .mark
theorem blt_of {a b : Nat} (h : a < b) : Nat.blt a b = true := Nat.ble_eq_true_of_le h
set_option maxHeartbeats 4000000 in
theorem vc_Holds_go (l : Lnd) (x : Exc) (a b : Int) (h : Hp) (o : Ok l) (ox : XOk l x) (ha : 1 ≤ a ∧ a ≤ 2000) (hb : 1 ≤ b ∧ b ≤ 2000) (hal : alB l x = true) : VC Try.prog 34 [vL l, vX x, I a, I b] h (.tuple [B (hlGo x.w a b l.ss x.ps), I 0]) h := by
  obtain ⟨R, hR⟩ : ∃ R, R = hlGo x.w a b l.ss x.ps := ⟨_, rfl⟩
  rw [← hR]
  have hn := o.n
  have hl := ox.len
  have hw := ox.w
  have ca := fun h => vc_allowed l x h o ox
  rw [hal] at ca
  refine VC.body Try.func34 rfl Try.ntmps34 Try.call34 (h.grows_refl) rfl ?_; conv => whnf
  repeat' (first | (refine VLd.intro rfl ?_; conv => whnf) | (refine VArith.i64 (by first | omega | (dsimp only; omega)) ?_; conv => whnf) | (refine VNeed.intro (by first | rfl | (simp; omega)) ?_; conv => whnf) | (refine VMem.store rfl rfl rfl rfl ?_; conv => whnf) | (refine VSame.intro rfl ?_; conv => whnf) | (refine VDraw.go [] (by kernel_rfl) (by kernel_rfl) ?_; conv => whnf) | (refine VIte.dec (fun _ => ?_) (fun _ => ?_) <;> conv => whnf) | (refine VIte.ndec (fun _ => ?_) (fun _ => ?_) <;> conv => whnf) | (refine VIte.beq (fun _ => ?_) (fun _ => ?_) <;> conv => whnf) | (refine VIte.bne (fun _ => ?_) (fun _ => ?_) <;> conv => whnf) | (refine VIte.intro (fun _ => ?_) (fun _ => ?_) <;> conv => whnf) | (refine VCall.intro (vc_asked_ok l x _ o ox) ?_; conv => whnf) | (refine VCall.intro (vc_from _ _ _ _) ?_; conv => whnf) | (refine VCall.intro (ca _) ?_; conv => whnf) | (refine VCall.intro (vc_free l _) ?_; conv => whnf))
  all_goals try (exfalso; omega)
  have e1 : R = hlGo x.w a b (l.ss.drop 0) (x.ps.drop 0) := hR
  refine VCode.tell [(5, .fp (encX x)), (6, .fp [DI a]), (7, .fp [DI b]), (8, .ptr (.loc 0) 0), (9, .ptr (.loc 1) 0), (40, vFree l)] [.flat true [DB false], .flat true [DI 0]] (marks' := []) ?_ ?_
  · conv => whnf
    refine Retell.turn ⟨[4,5], 6, [(1, encX x), (2, [DI a]), (3, [DI b])], []⟩ (TurnOk.mk' _ _ [(1, encX x), (2, [DI a]), (3, [DI b])] [] (OutOk.lift _) rfl (by decide) (by repeat' (first | exact BTos.nil | refine BTos.flat rfl rfl (by first | rfl | simp) ?_ | refine BTos.new rfl ?_ | refine BTos.dead rfl rfl ?_ | refine BTos.esE rfl rfl ?_ | refine BTos.row rfl rfl rfl (RowTo.snoc (RowTo.one rfl (by simp))) ?_ | refine BTos.cells rfl rfl rfl (by repeat' (first | exact VTo.undef | exact FrTo.leaf | refine FrTo.node ?_ ?_ ?_ | refine FrTo.none ?_ ?_ | exact VTo.sc (by first | rfl | (congr 1; omega) | (congr 1; simp; omega)) | exact VTos_dv _ _ | refine VTos.cons ?_ ?_ | exact VTos.nil | refine VTo.agg ?_ | refine VTo.tuple ?_ | refine VTo.func ?_ ?_ | exact VTo.fs | exact VTo.fp | exact VTo.nilptr | exact VTo.nilslice | exact VTo.nilfunc | exact VTo.ptr rfl | exact VTo.gl rfl | exact VTo.map rfl | exact VTo.yld rfl | exact VTo.fmMap rfl | exact VTo.fm | exact VTo.glNil' (by decide) rfl rfl | exact VTo.fsNil (by decide) | exact VTo.fsSl rfl rfl (by simp [flat_len encE_len]) | exact VTo.fpPtr rfl | exact VTo.fsGl rfl (by first | rfl | exact flat_len encI_len _ | exact flat_len encT_len _ | exact flat_len encS_len _ | exact flat_len encP_len _ | exact flat_len encL_len _ | exact flat_len encE_len _ | (simp [flat_len encP_len]; done) | simp [flat_len encI_len, flat_len encS_len]))) ?_)) (by repeat' (first | exact FzAll.nil | refine FzAll.flat rfl ?_ | refine FzAll.row rfl rfl (RowTo.one rfl (by simp)) ?_)) trivial rfl) (by repeat' (first | exact VTo.undef | exact FrTo.leaf | refine FrTo.node ?_ ?_ ?_ | refine FrTo.none ?_ ?_ | exact VTo.sc (by first | rfl | (congr 1; omega) | (congr 1; simp; omega)) | exact VTos_dv _ _ | refine VTos.cons ?_ ?_ | exact VTos.nil | refine VTo.agg ?_ | refine VTo.tuple ?_ | refine VTo.func ?_ ?_ | exact VTo.fs | exact VTo.fp | exact VTo.nilptr | exact VTo.nilslice | exact VTo.nilfunc | exact VTo.ptr rfl | exact VTo.gl rfl | exact VTo.map rfl | exact VTo.yld rfl | exact VTo.fmMap rfl | exact VTo.fm | exact VTo.glNil' (by decide) rfl rfl | exact VTo.fsNil (by decide) | exact VTo.fsSl rfl rfl (by simp [flat_len encE_len]) | exact VTo.fpPtr rfl | exact VTo.fsGl rfl (by first | rfl | exact flat_len encI_len _ | exact flat_len encT_len _ | exact flat_len encS_len _ | exact flat_len encP_len _ | exact flat_len encL_len _ | exact flat_len encE_len _ | (simp [flat_len encP_len]; done) | simp [flat_len encI_len, flat_len encS_len]))) (by first | rfl | (repeat' (first | exact MkTo.nil | refine MkTo.keep rfl ?_ | refine MkTo.drop (by decide) rfl ?_)))
  · conv => whnf
    refine VCode.iterN l.ss.length (frY l) (fun k g => HJ h.lift g ∧ R = hlGo x.w a b (l.ss.drop k) (x.ps.drop k)) (fun e g => e = .ret ∧ HJ h.lift g ∧ R = false) _ (.loc 3) rfl (iter_free l o) rfl rfl ⟨⟨rfl, rfl, rfl, rfl⟩, e1⟩ ?_ ?_ ?_ ?_
    · rintro k g hk hy ⟨hJ, hRk⟩
      have hs : l.ss[k]? = some l.ss[k] := List.getElem?_eq_getElem hk
      have hp : x.ps[k]? = some x.ps[k] := List.getElem?_eq_getElem (by omega)
      rw [frY_eq hs] at hy
      rw [hlGo_at hs hp] at hRk
      refine ⟨hJ, ?_⟩
      cases hf : isFree l.ss[k]
      · rw [hRk]; unfold bdP; rw [hf]; rfl
      · rw [hf] at hy; cases hy
    · rintro k g vs hk hy ⟨hJ, hRk⟩ hlp
      have hs : l.ss[k]? = some l.ss[k] := List.getElem?_eq_getElem hk
      have hp : x.ps[k]? = some x.ps[k] := List.getElem?_eq_getElem (by omega)
      have q1 := o.ss _ (List.getElem_mem (by omega : k < l.ss.length))
      have q2 := ox.ps _ (List.getElem_mem (by omega : k < x.ps.length))
      rw [frY_eq hs] at hy
      rw [hlGo_at hs hp] at hRk
      generalize l.ss[k] = s at hs hy hRk q1
      generalize x.ps[k] = p at hp hRk q2
      have q3 := q1.no
      have q4 := q1.so
      have m1 := mul_le (a := s.no) (b := a) (A := 1000) (B := 2000) (by omega) (by omega)
      have m2 := mul_le (a := s.so) (b := b) (A := 1000) (B := 2000) (by omega) (by omega)
      cases hf : isFree s
      · rw [hf] at hy; cases hy
      · rw [hf] at hy
        cases hy
        obtain ⟨j0, j1, j2, j3⟩ := hJ
        cases hbd : bdP x.w a b s p
        · left
          rw [hbd] at hRk
          unfold bdP at hbd
          rw [hf, Bool.true_and, decide_eq_false_iff_not] at hbd
          refine ⟨g, VRound.vy' hlp rfl rfl rfl g.grows_refl fun l0 => ?_, ⟨⟨j0, j1, j2, j3⟩, hRk⟩, hlp⟩
          refine VRound.tell [(5, .fp (encX x)), (6, .fp [DI a]), (7, .fp [DI b]), (8, .ptr (.out (.loc 0)) 0), (9, .ptr (.out (.loc 1)) 0), (41, I k), (42, aggT s)] ?_ ?_
          · conv => whnf
            refine Retell.turn ⟨[], 0, [], []⟩ (TurnOk.mk' _ _ [] [] (OutOk.lift _) rfl (by decide) (by repeat' (first | exact BTos.nil | refine BTos.flat rfl rfl (by first | rfl | simp) ?_ | refine BTos.new rfl ?_ | refine BTos.dead rfl rfl ?_ | refine BTos.esE rfl rfl ?_ | refine BTos.row rfl rfl rfl (RowTo.snoc (RowTo.one rfl (by simp))) ?_ | refine BTos.cells rfl rfl rfl (by repeat' (first | exact VTo.undef | exact FrTo.leaf | refine FrTo.node ?_ ?_ ?_ | refine FrTo.none ?_ ?_ | exact VTo.sc (by first | rfl | (congr 1; omega) | (congr 1; simp; omega)) | exact VTos_dv _ _ | refine VTos.cons ?_ ?_ | exact VTos.nil | refine VTo.agg ?_ | refine VTo.tuple ?_ | refine VTo.func ?_ ?_ | exact VTo.fs | exact VTo.fp | exact VTo.nilptr | exact VTo.nilslice | exact VTo.nilfunc | exact VTo.ptr rfl | exact VTo.gl rfl | exact VTo.map rfl | exact VTo.yld rfl | exact VTo.fmMap rfl | exact VTo.fm | exact VTo.glNil' (by decide) rfl rfl | exact VTo.fsNil (by decide) | exact VTo.fsSl rfl rfl (by simp [flat_len encE_len]) | exact VTo.fpPtr rfl | exact VTo.fsGl rfl (by first | rfl | exact flat_len encI_len _ | exact flat_len encT_len _ | exact flat_len encS_len _ | exact flat_len encP_len _ | exact flat_len encL_len _ | exact flat_len encE_len _ | (simp [flat_len encP_len]; done) | simp [flat_len encI_len, flat_len encS_len]))) ?_)) trivial trivial rfl) (by repeat' (first | exact VTo.undef | exact FrTo.leaf | refine FrTo.node ?_ ?_ ?_ | refine FrTo.none ?_ ?_ | exact VTo.sc (by first | rfl | (congr 1; omega) | (congr 1; simp; omega)) | exact VTos_dv _ _ | refine VTos.cons ?_ ?_ | exact VTos.nil | refine VTo.agg ?_ | refine VTo.tuple ?_ | refine VTo.func ?_ ?_ | exact VTo.fs | exact VTo.fp | exact VTo.nilptr | exact VTo.nilslice | exact VTo.nilfunc | exact VTo.ptr rfl | exact VTo.gl rfl | exact VTo.map rfl | exact VTo.yld rfl | exact VTo.fmMap rfl | exact VTo.fm | exact VTo.glNil' (by decide) rfl rfl | exact VTo.fsNil (by decide) | exact VTo.fsSl rfl rfl (by simp [flat_len encE_len]) | exact VTo.fpPtr rfl | exact VTo.fsGl rfl (by first | rfl | exact flat_len encI_len _ | exact flat_len encT_len _ | exact flat_len encS_len _ | exact flat_len encP_len _ | exact flat_len encL_len _ | exact flat_len encE_len _ | (simp [flat_len encP_len]; done) | simp [flat_len encI_len, flat_len encS_len]))) (by first | rfl | (repeat' (first | exact MkTo.nil | refine MkTo.keep rfl ?_ | refine MkTo.drop (by decide) rfl ?_)))
          · conv => whnf
            repeat (first | (refine VLd.intro rfl ?_; conv => whnf) | (refine VArith.i64 (by first | omega | (dsimp only; omega)) ?_; conv => whnf) | (refine VNeed.intro (by first | rfl | (simp; omega)) ?_; conv => whnf) | (refine VMem.store rfl rfl rfl rfl ?_; conv => whnf) | (refine VSame.intro rfl ?_; conv => whnf) | (refine VDraw.go [] (by kernel_rfl) (by kernel_rfl) ?_; conv => whnf))
            refine VBegin.intro (get_out hlp _) rfl ?_
            conv => whnf
            repeat' (first | (refine VLd.intro rfl ?_; conv => whnf) | (refine VArith.i64 (by first | omega | (dsimp only; omega)) ?_; conv => whnf) | (refine VNeed.intro (by first | rfl | (simp; omega)) ?_; conv => whnf) | (refine VMem.store rfl rfl rfl rfl ?_; conv => whnf) | (refine VSame.intro rfl ?_; conv => whnf) | (refine VDraw.go [] (by kernel_rfl) (by kernel_rfl) ?_; conv => whnf) | (refine VIte.dec (fun _ => ?_) (fun _ => ?_) <;> conv => whnf) | (refine VIte.ndec (fun _ => ?_) (fun _ => ?_) <;> conv => whnf) | (refine VIte.beq (fun _ => ?_) (fun _ => ?_) <;> conv => whnf) | (refine VIte.bne (fun _ => ?_) (fun _ => ?_) <;> conv => whnf) | (refine VIte.intro (fun _ => ?_) (fun _ => ?_) <;> conv => whnf) | (refine VAny.ix encI_len k rfl rfl hp ?_; conv => whnf))
            all_goals try (exfalso; omega)
            all_goals exact RFin.on (outW_get _ _ _ _) (VOut.back (get_out hlp []) rfl)
        · rw [hbd] at hRk
          unfold bdP at hbd
          rw [hf, Bool.true_and, decide_eq_true_eq] at hbd
          have n3 : g.get (.loc 3) ≠ none := by rw [hlp]; simp
          refine Rnd.stop .ret rfl hlp g n3 ?_ ⟨rfl, ⟨j0, (Hp.get_set g _ _ _ n3).trans ((if_neg (by decide)).trans j1), (Hp.get_set g _ _ _ n3).trans ((if_neg (by decide)).trans j2), (Hp.get_set g _ _ _ n3).trans ((if_neg (by decide)).trans j3)⟩, hRk⟩
          refine VRound.vy' hlp rfl rfl rfl (g.grows_set _ _) fun l0 => ?_
          refine VRound.tell [(5, .fp (encX x)), (6, .fp [DI a]), (7, .fp [DI b]), (8, .ptr (.out (.loc 0)) 0), (9, .ptr (.out (.loc 1)) 0), (41, I k), (42, aggT s)] ?_ ?_
          · conv => whnf
            refine Retell.turn ⟨[], 0, [], []⟩ (TurnOk.mk' _ _ [] [] (OutOk.lift _) rfl (by decide) (by repeat' (first | exact BTos.nil | refine BTos.flat rfl rfl (by first | rfl | simp) ?_ | refine BTos.new rfl ?_ | refine BTos.dead rfl rfl ?_ | refine BTos.esE rfl rfl ?_ | refine BTos.row rfl rfl rfl (RowTo.snoc (RowTo.one rfl (by simp))) ?_ | refine BTos.cells rfl rfl rfl (by repeat' (first | exact VTo.undef | exact FrTo.leaf | refine FrTo.node ?_ ?_ ?_ | refine FrTo.none ?_ ?_ | exact VTo.sc (by first | rfl | (congr 1; omega) | (congr 1; simp; omega)) | exact VTos_dv _ _ | refine VTos.cons ?_ ?_ | exact VTos.nil | refine VTo.agg ?_ | refine VTo.tuple ?_ | refine VTo.func ?_ ?_ | exact VTo.fs | exact VTo.fp | exact VTo.nilptr | exact VTo.nilslice | exact VTo.nilfunc | exact VTo.ptr rfl | exact VTo.gl rfl | exact VTo.map rfl | exact VTo.yld rfl | exact VTo.fmMap rfl | exact VTo.fm | exact VTo.glNil' (by decide) rfl rfl | exact VTo.fsNil (by decide) | exact VTo.fsSl rfl rfl (by simp [flat_len encE_len]) | exact VTo.fpPtr rfl | exact VTo.fsGl rfl (by first | rfl | exact flat_len encI_len _ | exact flat_len encT_len _ | exact flat_len encS_len _ | exact flat_len encP_len _ | exact flat_len encL_len _ | exact flat_len encE_len _ | (simp [flat_len encP_len]; done) | simp [flat_len encI_len, flat_len encS_len]))) ?_)) trivial trivial rfl) (by repeat' (first | exact VTo.undef | exact FrTo.leaf | refine FrTo.node ?_ ?_ ?_ | refine FrTo.none ?_ ?_ | exact VTo.sc (by first | rfl | (congr 1; omega) | (congr 1; simp; omega)) | exact VTos_dv _ _ | refine VTos.cons ?_ ?_ | exact VTos.nil | refine VTo.agg ?_ | refine VTo.tuple ?_ | refine VTo.func ?_ ?_ | exact VTo.fs | exact VTo.fp | exact VTo.nilptr | exact VTo.nilslice | exact VTo.nilfunc | exact VTo.ptr rfl | exact VTo.gl rfl | exact VTo.map rfl | exact VTo.yld rfl | exact VTo.fmMap rfl | exact VTo.fm | exact VTo.glNil' (by decide) rfl rfl | exact VTo.fsNil (by decide) | exact VTo.fsSl rfl rfl (by simp [flat_len encE_len]) | exact VTo.fpPtr rfl | exact VTo.fsGl rfl (by first | rfl | exact flat_len encI_len _ | exact flat_len encT_len _ | exact flat_len encS_len _ | exact flat_len encP_len _ | exact flat_len encL_len _ | exact flat_len encE_len _ | (simp [flat_len encP_len]; done) | simp [flat_len encI_len, flat_len encS_len]))) (by first | rfl | (repeat' (first | exact MkTo.nil | refine MkTo.keep rfl ?_ | refine MkTo.drop (by decide) rfl ?_)))
          · conv => whnf
            repeat (first | (refine VLd.intro rfl ?_; conv => whnf) | (refine VArith.i64 (by first | omega | (dsimp only; omega)) ?_; conv => whnf) | (refine VNeed.intro (by first | rfl | (simp; omega)) ?_; conv => whnf) | (refine VMem.store rfl rfl rfl rfl ?_; conv => whnf) | (refine VSame.intro rfl ?_; conv => whnf) | (refine VDraw.go [] (by kernel_rfl) (by kernel_rfl) ?_; conv => whnf))
            refine VBegin.intro (get_out hlp _) rfl ?_
            conv => whnf
            repeat' (first | (refine VLd.intro rfl ?_; conv => whnf) | (refine VArith.i64 (by first | omega | (dsimp only; omega)) ?_; conv => whnf) | (refine VNeed.intro (by first | rfl | (simp; omega)) ?_; conv => whnf) | (refine VMem.store rfl rfl rfl rfl ?_; conv => whnf) | (refine VSame.intro rfl ?_; conv => whnf) | (refine VDraw.go [] (by kernel_rfl) (by kernel_rfl) ?_; conv => whnf) | (refine VIte.dec (fun _ => ?_) (fun _ => ?_) <;> conv => whnf) | (refine VIte.ndec (fun _ => ?_) (fun _ => ?_) <;> conv => whnf) | (refine VIte.beq (fun _ => ?_) (fun _ => ?_) <;> conv => whnf) | (refine VIte.bne (fun _ => ?_) (fun _ => ?_) <;> conv => whnf) | (refine VIte.intro (fun _ => ?_) (fun _ => ?_) <;> conv => whnf) | (refine VAny.ix encI_len k rfl rfl hp ?_; conv => whnf) | (refine VMem.st1 rfl rfl rfl (get_outNe (by decide) (get_out j1 _)) rfl ?_; conv => whnf) | (refine VMem.st1 rfl rfl rfl (get_outNe (by decide) (get_outNe (by decide) (get_out j2 _))) rfl ?_; conv => whnf))
            all_goals try (exfalso; omega)
            all_goals (refine RFin.off rfl (get_outNe (by decide) (get_outNe (by decide) (outW_get _ _ _ _))) (VOut.liftS ?_ (g.grows_set _ _)))
            all_goals (rw [lift_set n3]; exact outW_id2 (get_out j1 []) (get_out j2 []) (by decide) (by decide) (by decide))
    · rintro g ⟨⟨j0, j1, j2, j3⟩, hRk⟩ hlp
      rw [hlGo_end] at hRk
      subst hRk
      obtain ⟨go, gl⟩ := g
      dsimp only at j0
      subst j0
      have j1 : gl[0]? = some _ := j1
      have j2 : gl[1]? = some _ := j2
      have j3 : gl[2]? = some _ := j3
      have l0 := (List.getElem?_eq_some_iff.1 j1).1
      have l1 := (List.getElem?_eq_some_iff.1 j2).1
      have key : ∀ (x : Nat) (A : Blk), x ≠ 3 → (gl.set 3 A)[x]? = gl[x]? := fun x A hx => List.getElem?_set_ne (Ne.symm hx)
      refine Told.mk [(8, .ptr (.loc 0) 0), (9, .ptr (.loc 1) 0)] [.flat true [DB false], .flat true [DI 0]] (marks' := []) ?_ ?_
      · conv => whnf
        refine Retell.turn ⟨[0, 1], gl.length, [], []⟩ (TurnOk.mk' _ _ [] [] (OutOk.lift _) (Nat.ble_eq_true_of_le (by simp)) (by decide)
          (BTos.flat (blt_of l0) ((key 0 _ (by omega)).trans j1) rfl (BTos.flat (blt_of l1) ((key 1 _ (by omega)).trans j2) rfl BTos.nil)) trivial trivial rfl) (by repeat' (first | exact VTo.undef | exact FrTo.leaf | refine FrTo.node ?_ ?_ ?_ | refine FrTo.none ?_ ?_ | exact VTo.sc (by first | rfl | (congr 1; omega) | (congr 1; simp; omega)) | exact VTos_dv _ _ | refine VTos.cons ?_ ?_ | exact VTos.nil | refine VTo.agg ?_ | refine VTo.tuple ?_ | refine VTo.func ?_ ?_ | exact VTo.fs | exact VTo.fp | exact VTo.nilptr | exact VTo.nilslice | exact VTo.nilfunc | exact VTo.ptr rfl | exact VTo.gl rfl | exact VTo.map rfl | exact VTo.yld rfl | exact VTo.fmMap rfl | exact VTo.fm | exact VTo.glNil' (by decide) rfl rfl | exact VTo.fsNil (by decide) | exact VTo.fsSl rfl rfl (by simp [flat_len encE_len]) | exact VTo.fpPtr rfl | exact VTo.fsGl rfl (by first | rfl | exact flat_len encI_len _ | exact flat_len encT_len _ | exact flat_len encS_len _ | exact flat_len encP_len _ | exact flat_len encL_len _ | exact flat_len encE_len _ | (simp [flat_len encP_len]; done) | simp [flat_len encI_len, flat_len encS_len])))
          (MkTo.drop (show 2 ∉ ([0, 1] : List Nat) by decide) ((key 2 _ (by omega)).trans j3) MkTo.nil)
      · conv => whnf
        repeat' (first | (refine VLd.intro rfl ?_; conv => whnf) | (refine VArith.i64 (by first | omega | (dsimp only; omega)) ?_; conv => whnf) | (refine VNeed.intro (by first | rfl | (simp; omega)) ?_; conv => whnf) | (refine VMem.store rfl rfl rfl rfl ?_; conv => whnf) | (refine VSame.intro rfl ?_; conv => whnf) | (refine VDraw.go [] (by kernel_rfl) (by kernel_rfl) ?_; conv => whnf) | (refine VIte.dec (fun _ => ?_) (fun _ => ?_) <;> conv => whnf) | (refine VIte.ndec (fun _ => ?_) (fun _ => ?_) <;> conv => whnf) | (refine VIte.beq (fun _ => ?_) (fun _ => ?_) <;> conv => whnf) | (refine VIte.bne (fun _ => ?_) (fun _ => ?_) <;> conv => whnf) | (refine VIte.intro (fun _ => ?_) (fun _ => ?_) <;> conv => whnf))
        exact VOut.same rfl
    · rintro e g hne ⟨rfl, ⟨j0, j1, j2, j3⟩, hRk⟩ hlp
      subst hRk
      obtain ⟨go, gl⟩ := g
      dsimp only at j0
      subst j0
      have j1 : gl[0]? = some _ := j1
      have j2 : gl[1]? = some _ := j2
      have j3 : gl[2]? = some _ := j3
      have l0 := (List.getElem?_eq_some_iff.1 j1).1
      have l1 := (List.getElem?_eq_some_iff.1 j2).1
      have key : ∀ (x : Nat) (A : Blk), x ≠ 3 → (gl.set 3 A)[x]? = gl[x]? := fun x A hx => List.getElem?_set_ne (Ne.symm hx)
      refine Told.mk [(8, .ptr (.loc 0) 0), (9, .ptr (.loc 1) 0)] [.flat true [DB false], .flat true [DI 0]] (marks' := []) ?_ ?_
      · conv => whnf
        refine Retell.turn ⟨[0, 1], gl.length, [], []⟩ (TurnOk.mk' _ _ [] [] (OutOk.lift _) (Nat.ble_eq_true_of_le (by simp)) (by decide)
          (BTos.flat (blt_of l0) ((key 0 _ (by omega)).trans j1) rfl (BTos.flat (blt_of l1) ((key 1 _ (by omega)).trans j2) rfl BTos.nil)) trivial trivial rfl) (by repeat' (first | exact VTo.undef | exact FrTo.leaf | refine FrTo.node ?_ ?_ ?_ | refine FrTo.none ?_ ?_ | exact VTo.sc (by first | rfl | (congr 1; omega) | (congr 1; simp; omega)) | exact VTos_dv _ _ | refine VTos.cons ?_ ?_ | exact VTos.nil | refine VTo.agg ?_ | refine VTo.tuple ?_ | refine VTo.func ?_ ?_ | exact VTo.fs | exact VTo.fp | exact VTo.nilptr | exact VTo.nilslice | exact VTo.nilfunc | exact VTo.ptr rfl | exact VTo.gl rfl | exact VTo.map rfl | exact VTo.yld rfl | exact VTo.fmMap rfl | exact VTo.fm | exact VTo.glNil' (by decide) rfl rfl | exact VTo.fsNil (by decide) | exact VTo.fsSl rfl rfl (by simp [flat_len encE_len]) | exact VTo.fpPtr rfl | exact VTo.fsGl rfl (by first | rfl | exact flat_len encI_len _ | exact flat_len encT_len _ | exact flat_len encS_len _ | exact flat_len encP_len _ | exact flat_len encL_len _ | exact flat_len encE_len _ | (simp [flat_len encP_len]; done) | simp [flat_len encI_len, flat_len encS_len])))
          (MkTo.drop (show 2 ∉ ([0, 1] : List Nat) by decide) ((key 2 _ (by omega)).trans j3) MkTo.nil)
      · conv => whnf
        repeat' (first | (refine VLd.intro rfl ?_; conv => whnf) | (refine VArith.i64 (by first | omega | (dsimp only; omega)) ?_; conv => whnf) | (refine VNeed.intro (by first | rfl | (simp; omega)) ?_; conv => whnf) | (refine VMem.store rfl rfl rfl rfl ?_; conv => whnf) | (refine VSame.intro rfl ?_; conv => whnf) | (refine VDraw.go [] (by kernel_rfl) (by kernel_rfl) ?_; conv => whnf) | (refine VIte.dec (fun _ => ?_) (fun _ => ?_) <;> conv => whnf) | (refine VIte.ndec (fun _ => ?_) (fun _ => ?_) <;> conv => whnf) | (refine VIte.beq (fun _ => ?_) (fun _ => ?_) <;> conv => whnf) | (refine VIte.bne (fun _ => ?_) (fun _ => ?_) <;> conv => whnf) | (refine VIte.intro (fun _ => ?_) (fun _ => ?_) <;> conv => whnf))
        exact VOut.same rfl
theorem hlB_eq (l : Lnd) (x : Exc) (a b : Int) (h0 : hlE l x a b = 0) : hlB l x a b = (alB l x && hlGo x.w a b l.ss x.ps) := by
  unfold hlB; rw [decide_eq_true h0, Bool.true_and]
theorem hlE_ok {l : Lnd} {x : Exc} {a b : Int} : hlE l x a b = 0 ↔ askE l x = 0 ∧ (1 ≤ a ∧ a ≤ 2000) ∧ (1 ≤ b ∧ b ≤ 2000) := by
  unfold hlE
  constructor
  · intro h
    by_cases h1 : askE l x = 0
    · rw [if_neg (by omega)] at h
      refine ⟨h1, ?_⟩
      by_cases h2 : ¬ (1 ≤ a ∧ a ≤ 2000) ∨ ¬ (1 ≤ b ∧ b ≤ 2000)
      · rw [if_pos h2] at h; cases h
      · omega
    · rw [if_pos h1] at h; exact absurd h h1
  · rintro ⟨h1, h2, h3⟩
    rw [if_neg (by omega), if_neg (by omega)]
/-- Holds, in all cases. -/
theorem vc_Holds (l : Lnd) (x : Exc) (a b : Int) (h : Hp) (hn : l.ss.length ≤ 4000000) (hv : l.vs.length ≤ 4000000) (hp : x.ps.length ≤ 4000000) : VC Try.prog 34 [vL l, vX x, I a, I b] h (.tuple [B (hlB l x a b), I (hlE l x a b)]) h := by
  by_cases h0 : askE l x = 0
  · obtain ⟨o, ox⟩ := ask_ok.1 h0
    by_cases hab : (1 ≤ a ∧ a ≤ 2000) ∧ (1 ≤ b ∧ b ≤ 2000)
    · have e : hlE l x a b = 0 := hlE_ok.2 ⟨h0, hab⟩
      rw [hlB_eq l x a b e, e]
      cases hal : alB l x
      · have ca := fun h => vc_allowed l x h o ox
        rw [hal] at ca
        rw [Bool.false_and]
        refine VC.body Try.func34 rfl Try.ntmps34 Try.call34 (h.grows_refl) rfl ?_; conv => whnf
        repeat' (first | (refine VLd.intro rfl ?_; conv => whnf) | (refine VArith.i64 (by first | omega | (dsimp only; omega)) ?_; conv => whnf) | (refine VNeed.intro (by first | rfl | (simp; omega)) ?_; conv => whnf) | (refine VMem.store rfl rfl rfl rfl ?_; conv => whnf) | (refine VSame.intro rfl ?_; conv => whnf) | (refine VDraw.go [] (by kernel_rfl) (by kernel_rfl) ?_; conv => whnf) | (refine VIte.dec (fun _ => ?_) (fun _ => ?_) <;> conv => whnf) | (refine VIte.ndec (fun _ => ?_) (fun _ => ?_) <;> conv => whnf) | (refine VIte.beq (fun _ => ?_) (fun _ => ?_) <;> conv => whnf) | (refine VIte.bne (fun _ => ?_) (fun _ => ?_) <;> conv => whnf) | (refine VIte.intro (fun _ => ?_) (fun _ => ?_) <;> conv => whnf) | (refine VCall.intro (vc_asked_ok l x _ o ox) ?_; conv => whnf) | (refine VCall.intro (vc_from _ _ _ _) ?_; conv => whnf) | (refine VCall.intro (ca _) ?_; conv => whnf))
        all_goals first | exact VOut.same rfl | (exfalso; omega)
      · rw [Bool.true_and]
        exact vc_Holds_go l x a b h o ox hab.1 hab.2 hal
    · have e : hlE l x a b = 4 := by unfold hlE; rw [if_neg (by omega), if_pos (by omega)]
      have e2 : hlB l x a b = false := by unfold hlB; rw [e]; rfl
      rw [e, e2]
      refine VC.body Try.func34 rfl Try.ntmps34 Try.call34 (h.grows_refl) rfl ?_; conv => whnf
      repeat' (first | (refine VLd.intro rfl ?_; conv => whnf) | (refine VArith.i64 (by first | omega | (dsimp only; omega)) ?_; conv => whnf) | (refine VNeed.intro (by first | rfl | (simp; omega)) ?_; conv => whnf) | (refine VMem.store rfl rfl rfl rfl ?_; conv => whnf) | (refine VSame.intro rfl ?_; conv => whnf) | (refine VDraw.go [] (by kernel_rfl) (by kernel_rfl) ?_; conv => whnf) | (refine VIte.dec (fun _ => ?_) (fun _ => ?_) <;> conv => whnf) | (refine VIte.ndec (fun _ => ?_) (fun _ => ?_) <;> conv => whnf) | (refine VIte.beq (fun _ => ?_) (fun _ => ?_) <;> conv => whnf) | (refine VIte.bne (fun _ => ?_) (fun _ => ?_) <;> conv => whnf) | (refine VIte.intro (fun _ => ?_) (fun _ => ?_) <;> conv => whnf) | (refine VCall.intro (vc_asked_ok l x _ o ox) ?_; conv => whnf) | (refine VCall.intro (vc_from _ _ _ _) ?_; conv => whnf))
      all_goals first | exact VOut.same rfl | (exfalso; omega)
  · have e : hlE l x a b = askE l x := by unfold hlE; rw [if_pos h0]
    have e2 : hlB l x a b = false := by unfold hlB; rw [e, decide_eq_false h0]; rfl
    rw [e, e2]
    refine VC.body Try.func34 rfl Try.ntmps34 Try.call34 (h.grows_refl) rfl ?_; conv => whnf
    repeat' (first | (refine VLd.intro rfl ?_; conv => whnf) | (refine VArith.i64 (by first | omega | (dsimp only; omega)) ?_; conv => whnf) | (refine VNeed.intro (by first | rfl | (simp; omega)) ?_; conv => whnf) | (refine VMem.store rfl rfl rfl rfl ?_; conv => whnf) | (refine VSame.intro rfl ?_; conv => whnf) | (refine VDraw.go [] (by kernel_rfl) (by kernel_rfl) ?_; conv => whnf) | (refine VIte.dec (fun _ => ?_) (fun _ => ?_) <;> conv => whnf) | (refine VIte.ndec (fun _ => ?_) (fun _ => ?_) <;> conv => whnf) | (refine VIte.beq (fun _ => ?_) (fun _ => ?_) <;> conv => whnf) | (refine VIte.bne (fun _ => ?_) (fun _ => ?_) <;> conv => whnf) | (refine VIte.intro (fun _ => ?_) (fun _ => ?_) <;> conv => whnf) | (refine VCall.intro (vc_asked_no l x _ hn hv hp h0) ?_; conv => whnf))
    all_goals first | exact VOut.same rfl | (exfalso; omega)
end Go.Proofs.Ytmpjpjfkbmlmfaa

open Go.Vm
namespace Go.Vm

theorem OutOk.outR {o : Id → Option Blk} (h : OutOk o) {i : Id} {b : Blk} (hb : ∃ c : Blk, b = c.ren .out) : OutOk (Vm.outW o i b) := by
  intro j c hc
  unfold Vm.outW at hc
  split at hc
  · cases hc; exact hb
  · exact h j c hc
theorem grows_set3 {h : Hp} {a b c : Id} {A B C : Blk} : h.grows (((h.set a A).set b B).set c C) := fun i hi => Hp.grows_set _ _ _ i (Hp.grows_set _ _ _ i (Hp.grows_set _ _ _ i hi))
theorem VWpA.withO {P : Program} {l : Nat} {i : Id} {c : Code} {n : Nat} {fr : Fr} {outer : Id → Option Blk} {loc : List Blk} {marks : List Id} {Q : X → St → Prop} (F : ∀ O, O = outer → VWpA P l i c ⟨n, fr, ⟨O, loc⟩, marks⟩ Q) : VWpA P l i c ⟨n, fr, ⟨outer, loc⟩, marks⟩ Q := F _ rfl
theorem outW_ne {o : Id → Option Blk} {i j : Id} {b : Blk} (h : j ≠ i) : outW o i b j = o j := by unfold outW; rw [if_neg h]
theorem ren_busy {g : Hp} {iy : Id} {LR : LoopV} (_ : g.get iy = some (.loop LR)) : ∃ c : Blk, (Blk.loop { (LR.ren .out) with state := .busy }) = c.ren .out := ⟨.loop { LR with state := .busy }, rfl⟩
end Go.Vm
namespace Go.Proofs.Ytmpjpjfkbmlmfaa
set_option maxRecDepth 20000
set_option maxHeartbeats 4000000
/-- A search for the first one. -/
def wsR (q : Nat → Bool) : Nat → Nat → Option Nat
  | _, 0 => none
  | k, d + 1 => if q k then some k else wsR q (k + 1) d
theorem wsR_no {q : Nat → Bool} (h : ∀ k, q k = false) : ∀ d k, wsR q k d = none
  | 0, _ => rfl
  | d + 1, k => by rw [wsR, h k]; exact wsR_no h d (k + 1)
def sAt (l : Lnd) (i : Nat) : Str := l.ss.getD i ⟨0, 0, 0, 0⟩
def pAt (x : Exc) (i : Nat) : Int := x.ps.getD i 0
theorem sAt_eq {l : Lnd} {i : Nat} {s : Str} (h : l.ss[i]? = some s) : sAt l i = s := by simp [sAt, h]
theorem pAt_eq {x : Exc} {i : Nat} {p : Int} (h : x.ps[i]? = some p) : pAt x i = p := by simp [pAt, h]
/-- Whether two stretches are a waste. -/
def wsB (l : Lnd) (x : Exc) (i k : Nat) : Bool := isFree (sAt l i) && (isFree (sAt l k) && (decide (pAt x i < x.w ∧ 0 < pAt x k) && fst2 (sAt l i) (sAt l k)))
def wsO (q : Nat → Nat → Bool) (n : Nat) : Nat → Nat → Option (Nat × Nat)
  | _, 0 => none
  | i, d + 1 => match wsR (q i) 0 n with
    | some k => some (i, k)
    | none => wsO q n (i + 1) d
def wst (l : Lnd) (x : Exc) : Option (Nat × Nat) := wsO (wsB l x) l.ss.length 0 l.ss.length
structure WJ (o : Vm.Id → Option Blk) (a b : Int) (g : Hp) : Prop where
  o : g.outer = o
  b0 : g.get (.loc 0) = some (.flat true [DI a])
  b1 : g.get (.loc 1) = some (.flat true [DI b])
  b2 : g.get (.loc 2) = some .mark
def wstR (w : Option (Nat × Nat)) : V := match w with
  | some (i, k) => .tuple [I i, I k, B true]
  | none => .tuple [I (-1), I (-1), B false]
theorem vc_waste (l : Lnd) (x : Exc) (h : Hp) (o : Ok l) (ox : XOk l x) : VC Try.prog 65 [.fp (encN l), vX x] h (wstR (wst l x)) h := by
  obtain ⟨W, hW⟩ : ∃ W, W = wst l x := ⟨_, rfl⟩
  rw [← hW]
  unfold wst at hW
  have hn := o.n
  have hl := ox.len
  have hw := ox.w
  refine VC.body Try.func65 rfl Try.ntmps65 Try.call65 (h.grows_refl) rfl ?_; conv => whnf
  repeat' (first | (refine VLd.intro rfl ?_; conv => whnf) | (refine VArith.i64 (by first | omega | (dsimp only; omega)) ?_; conv => whnf) | (refine VNeed.intro (by first | rfl | (simp; omega)) ?_; conv => whnf) | (refine VMem.store rfl rfl rfl rfl ?_; conv => whnf) | (refine VSame.intro rfl ?_; conv => whnf) | (refine VDraw.go [] (by kernel_rfl) (by kernel_rfl) ?_; conv => whnf) | (refine VIte.dec (fun _ => ?_) (fun _ => ?_) <;> conv => whnf) | (refine VIte.ndec (fun _ => ?_) (fun _ => ?_) <;> conv => whnf) | (refine VIte.beq (fun _ => ?_) (fun _ => ?_) <;> conv => whnf) | (refine VIte.bne (fun _ => ?_) (fun _ => ?_) <;> conv => whnf) | (refine VIte.intro (fun _ => ?_) (fun _ => ?_) <;> conv => whnf) | (refine VCall.intro (vc_free l _) ?_; conv => whnf))
  refine VCode.tell [(2, .fp [.pt (encN l)]), (3, .fp (encX x)), (7, .ptr (.loc 0) 0), (8, .ptr (.loc 1) 0), (14, vFree l)] [.flat true [DI (-1)], .flat true [DI (-1)]] (marks' := []) ?_ ?_
  · conv => whnf
    refine Retell.turn ⟨[2,3], 4, [(0, [.pt (encN l)]), (1, encX x)], []⟩ (TurnOk.mk' _ _ [(0, [.pt (encN l)]), (1, encX x)] [] (OutOk.lift _) rfl (by decide) (by repeat' (first | exact BTos.nil | refine BTos.flat rfl rfl (by first | rfl | simp) ?_ | refine BTos.new rfl ?_ | refine BTos.dead rfl rfl ?_ | refine BTos.esE rfl rfl ?_ | refine BTos.row rfl rfl rfl (RowTo.snoc (RowTo.one rfl (by simp))) ?_ | refine BTos.cells rfl rfl rfl (by repeat' (first | exact VTo.undef | exact FrTo.leaf | refine FrTo.node ?_ ?_ ?_ | refine FrTo.none ?_ ?_ | exact VTo.sc (by first | rfl | (congr 1; omega) | (congr 1; simp; omega)) | exact VTos_dv _ _ | refine VTos.cons ?_ ?_ | exact VTos.nil | refine VTo.agg ?_ | refine VTo.tuple ?_ | refine VTo.func ?_ ?_ | exact VTo.fs | exact VTo.fp | exact VTo.nilptr | exact VTo.nilslice | exact VTo.nilfunc | exact VTo.ptr rfl | exact VTo.gl rfl | exact VTo.map rfl | exact VTo.yld rfl | exact VTo.fmMap rfl | exact VTo.fm | exact VTo.glNil' (by decide) rfl rfl | exact VTo.fsNil (by decide) | exact VTo.fsSl rfl rfl (by simp [flat_len encE_len]) | exact VTo.fpPtr rfl | exact VTo.fsGl rfl (by first | rfl | exact flat_len encI_len _ | exact flat_len encT_len _ | exact flat_len encS_len _ | exact flat_len encP_len _ | exact flat_len encL_len _ | exact flat_len encE_len _ | (simp [flat_len encP_len]; done) | simp [flat_len encI_len, flat_len encS_len]))) ?_)) (by repeat' (first | exact FzAll.nil | refine FzAll.flat rfl ?_ | refine FzAll.row rfl rfl (RowTo.one rfl (by simp)) ?_)) trivial rfl) (by repeat' (first | exact VTo.undef | exact FrTo.leaf | refine FrTo.node ?_ ?_ ?_ | refine FrTo.none ?_ ?_ | exact VTo.sc (by first | rfl | (congr 1; omega) | (congr 1; simp; omega)) | exact VTos_dv _ _ | refine VTos.cons ?_ ?_ | exact VTos.nil | refine VTo.agg ?_ | refine VTo.tuple ?_ | refine VTo.func ?_ ?_ | exact VTo.fs | exact VTo.fp | exact VTo.nilptr | exact VTo.nilslice | exact VTo.nilfunc | exact VTo.ptr rfl | exact VTo.gl rfl | exact VTo.map rfl | exact VTo.yld rfl | exact VTo.fmMap rfl | exact VTo.fm | exact VTo.glNil' (by decide) rfl rfl | exact VTo.fsNil (by decide) | exact VTo.fsSl rfl rfl (by simp [flat_len encE_len]) | exact VTo.fpPtr rfl | exact VTo.fsGl rfl (by first | rfl | exact flat_len encI_len _ | exact flat_len encT_len _ | exact flat_len encS_len _ | exact flat_len encP_len _ | exact flat_len encL_len _ | exact flat_len encE_len _ | (simp [flat_len encP_len]; done) | simp [flat_len encI_len, flat_len encS_len]))) (by first | rfl | (repeat' (first | exact MkTo.nil | refine MkTo.keep rfl ?_ | refine MkTo.drop (by decide) rfl ?_)))
  · conv => whnf
    refine VCode.iterN l.ss.length (frY l) (fun i g => WJ h.lift (-1) (-1) g ∧ W = wsO (wsB l x) l.ss.length i (l.ss.length - i)) (fun e g => e = .exit 0 ∧ ∃ i k : Nat, WJ h.lift i k g ∧ W = some (i, k)) _ (.loc 3) rfl (iter_free l o) rfl rfl ⟨⟨rfl, rfl, rfl, rfl⟩, hW⟩ ?_ ?_ ?_ ?_
    · rintro i g hi hy ⟨hJ, hWi⟩
      refine ⟨hJ, ?_⟩
      have hs : l.ss[i]? = some l.ss[i] := List.getElem?_eq_getElem hi
      rw [frY_eq hs] at hy
      have hf : isFree l.ss[i] = false := by
        cases hf : isFree l.ss[i]
        · rfl
        · rw [hf] at hy; cases hy
      rw [show l.ss.length - i = (l.ss.length - (i + 1)) + 1 by omega, wsO, wsR_no (fun k => by unfold wsB; rw [sAt_eq hs, hf]; rfl)] at hWi
      exact hWi
    · rintro i g vs hi hy ⟨⟨j0, j1, j2, j3⟩, hWi⟩ hlp
      have hs : l.ss[i]? = some l.ss[i] := List.getElem?_eq_getElem hi
      have hp : x.ps[i]? = some x.ps[i] := List.getElem?_eq_getElem (by omega)
      have q1 := o.ss _ (List.getElem_mem hi)
      rw [frY_eq hs] at hy
      rw [show l.ss.length - i = (l.ss.length - (i + 1)) + 1 by omega, wsO] at hWi
      have es := sAt_eq hs
      have ep := pAt_eq hp
      generalize l.ss[i] = s at hs hy q1 es
      generalize x.ps[i] = p at hp ep
      cases hf : isFree s
      · rw [hf] at hy; cases hy
      · rw [hf] at hy
        cases hy
        have n3 : g.get (.loc 3) ≠ none := by rw [hlp]; simp
        cases hR : wsR (wsB l x i) 0 l.ss.length with
        | none =>
          rw [hR] at hWi
          refine Rnd.go hlp g hlp ?_ ⟨⟨j0, j1, j2, j3⟩, hWi⟩
          refine VRoundA.vy' hlp rfl rfl rfl g.grows_refl fun l0 => ?_
          refine VRoundA.tell [(2, .fp [.pt (encN l)]), (3, .fp (encX x)), (7, .ptr (.out (.loc 0)) 0), (8, .ptr (.out (.loc 1)) 0), (15, I i), (16, aggT s)] ?_ ?_
          · conv => whnf
            refine Retell.turn ⟨[], 0, [], []⟩ (TurnOk.mk' _ _ [] [] (OutOk.lift _) rfl (by decide) (by repeat' (first | exact BTos.nil | refine BTos.flat rfl rfl (by first | rfl | simp) ?_ | refine BTos.new rfl ?_ | refine BTos.dead rfl rfl ?_ | refine BTos.esE rfl rfl ?_ | refine BTos.row rfl rfl rfl (RowTo.snoc (RowTo.one rfl (by simp))) ?_ | refine BTos.cells rfl rfl rfl (by repeat' (first | exact VTo.undef | exact FrTo.leaf | refine FrTo.node ?_ ?_ ?_ | refine FrTo.none ?_ ?_ | exact VTo.sc (by first | rfl | (congr 1; omega) | (congr 1; simp; omega)) | exact VTos_dv _ _ | refine VTos.cons ?_ ?_ | exact VTos.nil | refine VTo.agg ?_ | refine VTo.tuple ?_ | refine VTo.func ?_ ?_ | exact VTo.fs | exact VTo.fp | exact VTo.nilptr | exact VTo.nilslice | exact VTo.nilfunc | exact VTo.ptr rfl | exact VTo.gl rfl | exact VTo.map rfl | exact VTo.yld rfl | exact VTo.fmMap rfl | exact VTo.fm | exact VTo.glNil' (by decide) rfl rfl | exact VTo.fsNil (by decide) | exact VTo.fsSl rfl rfl (by simp [flat_len encE_len]) | exact VTo.fpPtr rfl | exact VTo.fsGl rfl (by first | rfl | exact flat_len encI_len _ | exact flat_len encT_len _ | exact flat_len encS_len _ | exact flat_len encP_len _ | exact flat_len encL_len _ | exact flat_len encE_len _ | (simp [flat_len encP_len]; done) | simp [flat_len encI_len, flat_len encS_len]))) ?_)) trivial trivial rfl) (by repeat' (first | exact VTo.undef | exact FrTo.leaf | refine FrTo.node ?_ ?_ ?_ | refine FrTo.none ?_ ?_ | exact VTo.sc (by first | rfl | (congr 1; omega) | (congr 1; simp; omega)) | exact VTos_dv _ _ | refine VTos.cons ?_ ?_ | exact VTos.nil | refine VTo.agg ?_ | refine VTo.tuple ?_ | refine VTo.func ?_ ?_ | exact VTo.fs | exact VTo.fp | exact VTo.nilptr | exact VTo.nilslice | exact VTo.nilfunc | exact VTo.ptr rfl | exact VTo.gl rfl | exact VTo.map rfl | exact VTo.yld rfl | exact VTo.fmMap rfl | exact VTo.fm | exact VTo.glNil' (by decide) rfl rfl | exact VTo.fsNil (by decide) | exact VTo.fsSl rfl rfl (by simp [flat_len encE_len]) | exact VTo.fpPtr rfl | exact VTo.fsGl rfl (by first | rfl | exact flat_len encI_len _ | exact flat_len encT_len _ | exact flat_len encS_len _ | exact flat_len encP_len _ | exact flat_len encL_len _ | exact flat_len encE_len _ | (simp [flat_len encP_len]; done) | simp [flat_len encI_len, flat_len encS_len]))) (by first | rfl | (repeat' (first | exact MkTo.nil | refine MkTo.keep rfl ?_ | refine MkTo.drop (by decide) rfl ?_)))
          · conv => whnf
            repeat (first | (refine VLd.intro rfl ?_; conv => whnf) | (refine VArith.i64 (by first | omega | (dsimp only; omega)) ?_; conv => whnf) | (refine VNeed.intro (by first | rfl | (simp; omega)) ?_; conv => whnf) | (refine VMem.store rfl rfl rfl rfl ?_; conv => whnf) | (refine VSame.intro rfl ?_; conv => whnf) | (refine VDraw.go [] (by kernel_rfl) (by kernel_rfl) ?_; conv => whnf))
            refine VBeginA.intro (get_out hlp _) rfl ?_
            refine VWpA.block ?_
            refine VWpA.go ?_
            conv => whnf
            repeat' (first | (refine VLd.intro rfl ?_; conv => whnf) | (refine VArith.i64 (by first | omega | (dsimp only; omega)) ?_; conv => whnf) | (refine VNeed.intro (by first | rfl | (simp; omega)) ?_; conv => whnf) | (refine VMem.store rfl rfl rfl rfl ?_; conv => whnf) | (refine VSame.intro rfl ?_; conv => whnf) | (refine VDraw.go [] (by kernel_rfl) (by kernel_rfl) ?_; conv => whnf) | (refine VIte.dec (fun _ => ?_) (fun _ => ?_) <;> conv => whnf) | (refine VIte.ndec (fun _ => ?_) (fun _ => ?_) <;> conv => whnf) | (refine VIte.beq (fun _ => ?_) (fun _ => ?_) <;> conv => whnf) | (refine VIte.bne (fun _ => ?_) (fun _ => ?_) <;> conv => whnf) | (refine VIte.intro (fun _ => ?_) (fun _ => ?_) <;> conv => whnf) | (refine VCall.intro (vc_free l _) ?_; conv => whnf))
            refine VWpA.block ?_
            refine VWpA.tell [(3, .fp (encX x)), (7, .ptr (.out (.loc 0)) 0), (8, .ptr (.out (.loc 1)) 0), (9, .fp [DI i]), (10, .fp (encT s)), (18, vFree l)] [] (marks' := []) ?_ ?_
            · conv => whnf
              refine Retell.turn ⟨[], 2, [(0, [DI i]), (1, encT s)], []⟩ (TurnOk.mk' _ _ [(0, [DI i]), (1, encT s)] [] (OutOk.outR (OutOk.lift _) (ren_busy hlp)) rfl (by decide) BTos.nil (FzAll.flat rfl (FzAll.flat rfl FzAll.nil)) trivial rfl) (by repeat' (first | exact VTo.undef | exact FrTo.leaf | refine FrTo.node ?_ ?_ ?_ | refine FrTo.none ?_ ?_ | exact VTo.sc (by first | rfl | (congr 1; omega) | (congr 1; simp; omega)) | exact VTos_dv _ _ | refine VTos.cons ?_ ?_ | exact VTos.nil | refine VTo.agg ?_ | refine VTo.tuple ?_ | refine VTo.func ?_ ?_ | exact VTo.fs | exact VTo.fp | exact VTo.nilptr | exact VTo.nilslice | exact VTo.nilfunc | exact VTo.ptr rfl | exact VTo.gl rfl | exact VTo.map rfl | exact VTo.yld rfl | exact VTo.fmMap rfl | exact VTo.fm | exact VTo.glNil' (by decide) rfl rfl | exact VTo.fsNil (by decide) | exact VTo.fsSl rfl rfl (by simp [flat_len encE_len]) | exact VTo.fpPtr rfl | exact VTo.fsGl rfl (by first | rfl | exact flat_len encI_len _ | exact flat_len encT_len _ | exact flat_len encS_len _ | exact flat_len encP_len _ | exact flat_len encL_len _ | exact flat_len encE_len _ | (simp [flat_len encP_len]; done) | simp [flat_len encI_len, flat_len encS_len]))) (by first | rfl | (repeat' (first | exact MkTo.nil | refine MkTo.keep rfl ?_ | refine MkTo.drop (by decide) rfl ?_)))
            · conv => whnf
              refine VWpA.iterN l.ss.length (frY l) (fun k g' => g'.outer = outW g.lift (.loc 3) _ ∧ wsR (wsB l x i) k (l.ss.length - k) = none) (fun _ _ => False) _ (.loc 0) rfl (outW_get _ _ _ _) (iter_free l o) rfl rfl ⟨rfl, hR⟩ ?_ ?_ ?_ ?_
              · rintro k g' hk hy' ⟨hO, hk2⟩
                rw [show l.ss.length - k = (l.ss.length - (k + 1)) + 1 by omega, wsR] at hk2
                refine ⟨hO, ?_⟩
                split at hk2
                · cases hk2
                · exact hk2
              · rintro k g' vs hk hy' ⟨hO, hk2⟩ hlp'
                have ht : l.ss[k]? = some l.ss[k] := List.getElem?_eq_getElem hk
                have hq : x.ps[k]? = some x.ps[k] := List.getElem?_eq_getElem (by omega)
                have q2 := o.ss _ (List.getElem_mem hk)
                rw [frY_eq ht] at hy'
                rw [show l.ss.length - k = (l.ss.length - (k + 1)) + 1 by omega, wsR] at hk2
                have et := sAt_eq ht
                have eq := pAt_eq hq
                generalize l.ss[k] = t at ht hy' q2 et
                generalize x.ps[k] = q at hq eq
                have r1 := q1.no
                have r2 := q1.so
                have r3 := q2.no
                have r4 := q2.so
                have m1 := mul_le (a := s.no) (b := t.so) (A := 1000) (B := 1000) (by omega) (by omega)
                have m2 := mul_le (a := s.so) (b := t.no) (A := 1000) (B := 1000) (by omega) (by omega)
                have ca := fun h => vc_ahead s.no s.so t.no t.so h (by omega) (by omega) (by omega) (by omega)
                cases hft : isFree t
                · rw [hft] at hy'; cases hy'
                · rw [hft] at hy'
                  cases hy'
                  have hwb : wsB l x i k = false := by
                    cases hwb : wsB l x i k
                    · rfl
                    · rw [hwb] at hk2; cases hk2
                  rw [hwb, if_neg (by decide)] at hk2
                  have hbw : ¬ ((p < x.w ∧ 0 < q) ∧ s.so * t.no < s.no * t.so) := by
                    unfold wsB fst2 at hwb
                    rw [es, et, ep, eq, hf, hft, Bool.true_and, Bool.true_and] at hwb
                    intro hc
                    rw [decide_eq_true hc.1, decide_eq_true hc.2] at hwb
                    cases hwb
                  refine Rnd.go hlp' g' hlp' ?_ ⟨hO, hk2⟩
                  refine VRound.vy' hlp' rfl rfl rfl g'.grows_refl fun l1 => ?_
                  refine VRound.tell [(3, .fp (encX x)), (7, .ptr (.out (.out (.loc 0))) 0), (8, .ptr (.out (.out (.loc 1))) 0), (9, .fp [DI i]), (10, .fp (encT s)), (19, I k), (20, aggT t)] ?_ ?_
                  · conv => whnf
                    refine Retell.turn ⟨[], 0, [], []⟩ (TurnOk.mk' _ _ [] [] (OutOk.lift _) rfl (by decide) (by repeat' (first | exact BTos.nil | refine BTos.flat rfl rfl (by first | rfl | simp) ?_ | refine BTos.new rfl ?_ | refine BTos.dead rfl rfl ?_ | refine BTos.esE rfl rfl ?_ | refine BTos.row rfl rfl rfl (RowTo.snoc (RowTo.one rfl (by simp))) ?_ | refine BTos.cells rfl rfl rfl (by repeat' (first | exact VTo.undef | exact FrTo.leaf | refine FrTo.node ?_ ?_ ?_ | refine FrTo.none ?_ ?_ | exact VTo.sc (by first | rfl | (congr 1; omega) | (congr 1; simp; omega)) | exact VTos_dv _ _ | refine VTos.cons ?_ ?_ | exact VTos.nil | refine VTo.agg ?_ | refine VTo.tuple ?_ | refine VTo.func ?_ ?_ | exact VTo.fs | exact VTo.fp | exact VTo.nilptr | exact VTo.nilslice | exact VTo.nilfunc | exact VTo.ptr rfl | exact VTo.gl rfl | exact VTo.map rfl | exact VTo.yld rfl | exact VTo.fmMap rfl | exact VTo.fm | exact VTo.glNil' (by decide) rfl rfl | exact VTo.fsNil (by decide) | exact VTo.fsSl rfl rfl (by simp [flat_len encE_len]) | exact VTo.fpPtr rfl | exact VTo.fsGl rfl (by first | rfl | exact flat_len encI_len _ | exact flat_len encT_len _ | exact flat_len encS_len _ | exact flat_len encP_len _ | exact flat_len encL_len _ | exact flat_len encE_len _ | (simp [flat_len encP_len]; done) | simp [flat_len encI_len, flat_len encS_len]))) ?_)) trivial trivial rfl) (by repeat' (first | exact VTo.undef | exact FrTo.leaf | refine FrTo.node ?_ ?_ ?_ | refine FrTo.none ?_ ?_ | exact VTo.sc (by first | rfl | (congr 1; omega) | (congr 1; simp; omega)) | exact VTos_dv _ _ | refine VTos.cons ?_ ?_ | exact VTos.nil | refine VTo.agg ?_ | refine VTo.tuple ?_ | refine VTo.func ?_ ?_ | exact VTo.fs | exact VTo.fp | exact VTo.nilptr | exact VTo.nilslice | exact VTo.nilfunc | exact VTo.ptr rfl | exact VTo.gl rfl | exact VTo.map rfl | exact VTo.yld rfl | exact VTo.fmMap rfl | exact VTo.fm | exact VTo.glNil' (by decide) rfl rfl | exact VTo.fsNil (by decide) | exact VTo.fsSl rfl rfl (by simp [flat_len encE_len]) | exact VTo.fpPtr rfl | exact VTo.fsGl rfl (by first | rfl | exact flat_len encI_len _ | exact flat_len encT_len _ | exact flat_len encS_len _ | exact flat_len encP_len _ | exact flat_len encL_len _ | exact flat_len encE_len _ | (simp [flat_len encP_len]; done) | simp [flat_len encI_len, flat_len encS_len]))) (by first | rfl | (repeat' (first | exact MkTo.nil | refine MkTo.keep rfl ?_ | refine MkTo.drop (by decide) rfl ?_)))
                  · conv => whnf
                    repeat (first | (refine VLd.intro rfl ?_; conv => whnf) | (refine VArith.i64 (by first | omega | (dsimp only; omega)) ?_; conv => whnf) | (refine VNeed.intro (by first | rfl | (simp; omega)) ?_; conv => whnf) | (refine VMem.store rfl rfl rfl rfl ?_; conv => whnf) | (refine VSame.intro rfl ?_; conv => whnf) | (refine VDraw.go [] (by kernel_rfl) (by kernel_rfl) ?_; conv => whnf))
                    refine VBegin.intro (get_out hlp' _) rfl ?_
                    conv => whnf
                    repeat' (first | (refine VLd.intro rfl ?_; conv => whnf) | (refine VArith.i64 (by first | omega | (dsimp only; omega)) ?_; conv => whnf) | (refine VNeed.intro (by first | rfl | (simp; omega)) ?_; conv => whnf) | (refine VMem.store rfl rfl rfl rfl ?_; conv => whnf) | (refine VSame.intro rfl ?_; conv => whnf) | (refine VDraw.go [(18, 19)] (by kernel_rfl) (by kernel_rfl) ?_; conv => whnf) | (refine VIte.dec (fun _ => ?_) (fun _ => ?_) <;> conv => whnf) | (refine VIte.ndec (fun _ => ?_) (fun _ => ?_) <;> conv => whnf) | (refine VIte.beq (fun _ => ?_) (fun _ => ?_) <;> conv => whnf) | (refine VIte.bne (fun _ => ?_) (fun _ => ?_) <;> conv => whnf) | (refine VIte.intro (fun _ => ?_) (fun _ => ?_) <;> conv => whnf) | (refine VAny.ix encI_len i rfl rfl hp ?_; conv => whnf) | (refine VAny.ix encI_len k rfl rfl hq ?_; conv => whnf) | (refine VCall.intro (vc_worth _ _) ?_; conv => whnf) | (refine VCall.intro (ca _) ?_; conv => whnf))
                    all_goals try (exfalso; omega)
                    all_goals exact RFin.on (outW_get _ _ _ _) (VOut.back (get_out hlp' []) rfl)
              · rintro g' ⟨hO, _⟩ hlp'
                obtain ⟨go, gl⟩ := g'
                dsimp only at hO
                subst hO
                refine Told.mk [] [] (marks' := []) ?_ ?_
                · conv => whnf
                  refine Retell.turn ⟨[], gl.length, [], []⟩ (TurnOk.mk' _ _ [] [] (OutOk.outR (OutOk.lift _) (ren_busy hlp)) (Nat.ble_eq_true_of_le (by simp)) (by decide) BTos.nil trivial trivial rfl) (by repeat' (first | exact VTo.undef | exact FrTo.leaf | refine FrTo.node ?_ ?_ ?_ | refine FrTo.none ?_ ?_ | exact VTo.sc (by first | rfl | (congr 1; omega) | (congr 1; simp; omega)) | exact VTos_dv _ _ | refine VTos.cons ?_ ?_ | exact VTos.nil | refine VTo.agg ?_ | refine VTo.tuple ?_ | refine VTo.func ?_ ?_ | exact VTo.fs | exact VTo.fp | exact VTo.nilptr | exact VTo.nilslice | exact VTo.nilfunc | exact VTo.ptr rfl | exact VTo.gl rfl | exact VTo.map rfl | exact VTo.yld rfl | exact VTo.fmMap rfl | exact VTo.fm | exact VTo.glNil' (by decide) rfl rfl | exact VTo.fsNil (by decide) | exact VTo.fsSl rfl rfl (by simp [flat_len encE_len]) | exact VTo.fpPtr rfl | exact VTo.fsGl rfl (by first | rfl | exact flat_len encI_len _ | exact flat_len encT_len _ | exact flat_len encS_len _ | exact flat_len encP_len _ | exact flat_len encL_len _ | exact flat_len encE_len _ | (simp [flat_len encP_len]; done) | simp [flat_len encI_len, flat_len encS_len]))) (by first | rfl | (repeat' (first | exact MkTo.nil | refine MkTo.keep rfl ?_ | refine MkTo.drop (by decide) rfl ?_)))
                · conv => whnf
                  exact RFin.on (outW_get _ _ _ _) (VOut.back (get_out hlp []) rfl)
              · rintro e g' _ hF
                exact hF.elim
        | some k0 =>
          rw [hR] at hWi
          have n0 : g.get (.loc 0) ≠ none := by rw [j1]; simp
          have n1 : (g.set (.loc 0) (.flat true [DI i])).get (.loc 1) ≠ none := by rw [Hp.get_set g _ _ _ n0, if_neg (by decide), j2]; simp
          have n2 : ((g.set (.loc 0) (.flat true [DI i])).set (.loc 1) (.flat true [DI k0])).get (.loc 3) ≠ none := by rw [Hp.get_set _ _ _ _ n1, if_neg (by decide), Hp.get_set g _ _ _ n0, if_neg (by decide), hlp]; simp
          refine Rnd.stop (.exit 0) rfl hlp ((g.set (.loc 0) (.flat true [DI i])).set (.loc 1) (.flat true [DI k0])) n2 ?_ ⟨rfl, i, k0, ⟨j0, ?_, ?_, ?_⟩, hWi⟩
          · refine VRoundA.vy' hlp rfl rfl rfl ?_ fun l0 => ?_
            · exact grows_set3
            refine VRoundA.tell [(2, .fp [.pt (encN l)]), (3, .fp (encX x)), (7, .ptr (.out (.loc 0)) 0), (8, .ptr (.out (.loc 1)) 0), (15, I i), (16, aggT s)] ?_ ?_
            · conv => whnf
              refine Retell.turn ⟨[], 0, [], []⟩ (TurnOk.mk' _ _ [] [] (OutOk.lift _) rfl (by decide) (by repeat' (first | exact BTos.nil | refine BTos.flat rfl rfl (by first | rfl | simp) ?_ | refine BTos.new rfl ?_ | refine BTos.dead rfl rfl ?_ | refine BTos.esE rfl rfl ?_ | refine BTos.row rfl rfl rfl (RowTo.snoc (RowTo.one rfl (by simp))) ?_ | refine BTos.cells rfl rfl rfl (by repeat' (first | exact VTo.undef | exact FrTo.leaf | refine FrTo.node ?_ ?_ ?_ | refine FrTo.none ?_ ?_ | exact VTo.sc (by first | rfl | (congr 1; omega) | (congr 1; simp; omega)) | exact VTos_dv _ _ | refine VTos.cons ?_ ?_ | exact VTos.nil | refine VTo.agg ?_ | refine VTo.tuple ?_ | refine VTo.func ?_ ?_ | exact VTo.fs | exact VTo.fp | exact VTo.nilptr | exact VTo.nilslice | exact VTo.nilfunc | exact VTo.ptr rfl | exact VTo.gl rfl | exact VTo.map rfl | exact VTo.yld rfl | exact VTo.fmMap rfl | exact VTo.fm | exact VTo.glNil' (by decide) rfl rfl | exact VTo.fsNil (by decide) | exact VTo.fsSl rfl rfl (by simp [flat_len encE_len]) | exact VTo.fpPtr rfl | exact VTo.fsGl rfl (by first | rfl | exact flat_len encI_len _ | exact flat_len encT_len _ | exact flat_len encS_len _ | exact flat_len encP_len _ | exact flat_len encL_len _ | exact flat_len encE_len _ | (simp [flat_len encP_len]; done) | simp [flat_len encI_len, flat_len encS_len]))) ?_)) trivial trivial rfl) (by repeat' (first | exact VTo.undef | exact FrTo.leaf | refine FrTo.node ?_ ?_ ?_ | refine FrTo.none ?_ ?_ | exact VTo.sc (by first | rfl | (congr 1; omega) | (congr 1; simp; omega)) | exact VTos_dv _ _ | refine VTos.cons ?_ ?_ | exact VTos.nil | refine VTo.agg ?_ | refine VTo.tuple ?_ | refine VTo.func ?_ ?_ | exact VTo.fs | exact VTo.fp | exact VTo.nilptr | exact VTo.nilslice | exact VTo.nilfunc | exact VTo.ptr rfl | exact VTo.gl rfl | exact VTo.map rfl | exact VTo.yld rfl | exact VTo.fmMap rfl | exact VTo.fm | exact VTo.glNil' (by decide) rfl rfl | exact VTo.fsNil (by decide) | exact VTo.fsSl rfl rfl (by simp [flat_len encE_len]) | exact VTo.fpPtr rfl | exact VTo.fsGl rfl (by first | rfl | exact flat_len encI_len _ | exact flat_len encT_len _ | exact flat_len encS_len _ | exact flat_len encP_len _ | exact flat_len encL_len _ | exact flat_len encE_len _ | (simp [flat_len encP_len]; done) | simp [flat_len encI_len, flat_len encS_len]))) (by first | rfl | (repeat' (first | exact MkTo.nil | refine MkTo.keep rfl ?_ | refine MkTo.drop (by decide) rfl ?_)))
            · conv => whnf
              repeat (first | (refine VLd.intro rfl ?_; conv => whnf) | (refine VArith.i64 (by first | omega | (dsimp only; omega)) ?_; conv => whnf) | (refine VNeed.intro (by first | rfl | (simp; omega)) ?_; conv => whnf) | (refine VMem.store rfl rfl rfl rfl ?_; conv => whnf) | (refine VSame.intro rfl ?_; conv => whnf) | (refine VDraw.go [] (by kernel_rfl) (by kernel_rfl) ?_; conv => whnf))
              refine VBeginA.intro (get_out hlp _) rfl ?_
              refine VWpA.block ?_
              refine VWpA.go ?_
              conv => whnf
              repeat' (first | (refine VLd.intro rfl ?_; conv => whnf) | (refine VArith.i64 (by first | omega | (dsimp only; omega)) ?_; conv => whnf) | (refine VNeed.intro (by first | rfl | (simp; omega)) ?_; conv => whnf) | (refine VMem.store rfl rfl rfl rfl ?_; conv => whnf) | (refine VSame.intro rfl ?_; conv => whnf) | (refine VDraw.go [] (by kernel_rfl) (by kernel_rfl) ?_; conv => whnf) | (refine VIte.dec (fun _ => ?_) (fun _ => ?_) <;> conv => whnf) | (refine VIte.ndec (fun _ => ?_) (fun _ => ?_) <;> conv => whnf) | (refine VIte.beq (fun _ => ?_) (fun _ => ?_) <;> conv => whnf) | (refine VIte.bne (fun _ => ?_) (fun _ => ?_) <;> conv => whnf) | (refine VIte.intro (fun _ => ?_) (fun _ => ?_) <;> conv => whnf) | (refine VCall.intro (vc_free l _) ?_; conv => whnf))
              refine VWpA.block ?_
              refine VWpA.tell [(3, .fp (encX x)), (7, .ptr (.out (.loc 0)) 0), (8, .ptr (.out (.loc 1)) 0), (9, .fp [DI i]), (10, .fp (encT s)), (18, vFree l)] [] (marks' := []) ?_ ?_
              · conv => whnf
                refine Retell.turn ⟨[], 2, [(0, [DI i]), (1, encT s)], []⟩ (TurnOk.mk' _ _ [(0, [DI i]), (1, encT s)] [] (OutOk.outR (OutOk.lift _) (ren_busy hlp)) rfl (by decide) BTos.nil (FzAll.flat rfl (FzAll.flat rfl FzAll.nil)) trivial rfl) (by repeat' (first | exact VTo.undef | exact FrTo.leaf | refine FrTo.node ?_ ?_ ?_ | refine FrTo.none ?_ ?_ | exact VTo.sc (by first | rfl | (congr 1; omega) | (congr 1; simp; omega)) | exact VTos_dv _ _ | refine VTos.cons ?_ ?_ | exact VTos.nil | refine VTo.agg ?_ | refine VTo.tuple ?_ | refine VTo.func ?_ ?_ | exact VTo.fs | exact VTo.fp | exact VTo.nilptr | exact VTo.nilslice | exact VTo.nilfunc | exact VTo.ptr rfl | exact VTo.gl rfl | exact VTo.map rfl | exact VTo.yld rfl | exact VTo.fmMap rfl | exact VTo.fm | exact VTo.glNil' (by decide) rfl rfl | exact VTo.fsNil (by decide) | exact VTo.fsSl rfl rfl (by simp [flat_len encE_len]) | exact VTo.fpPtr rfl | exact VTo.fsGl rfl (by first | rfl | exact flat_len encI_len _ | exact flat_len encT_len _ | exact flat_len encS_len _ | exact flat_len encP_len _ | exact flat_len encL_len _ | exact flat_len encE_len _ | (simp [flat_len encP_len]; done) | simp [flat_len encI_len, flat_len encS_len]))) (by first | rfl | (repeat' (first | exact MkTo.nil | refine MkTo.keep rfl ?_ | refine MkTo.drop (by decide) rfl ?_)))
              · conv => whnf
                refine VWpA.withO fun O hO0 => ?_
                have hOa := get_out j1 []
                have hOb := get_out j2 []
                have hO1 : O (.loc 0) = some (.flat true [DI (-1)]) := by rw [hO0, outW_ne (by decide)]; exact hOa
                have hO2 : O (.loc 1) = some (.flat true [DI (-1)]) := by rw [hO0, outW_ne (by decide)]; exact hOb
                refine VWpA.iterN l.ss.length (frY l) (fun k g' => g'.outer = O ∧ wsR (wsB l x i) k (l.ss.length - k) = some k0) (fun e g' => e = .exit 0 ∧ g'.outer = outW (outW O (.loc 0) (.flat true [DI i])) (.loc 1) (.flat true [DI k0])) _ (.loc 0) rfl (by subst hO0; exact outW_get _ _ _ _) (iter_free l o) rfl rfl ⟨rfl, hR⟩ ?_ ?_ ?_ ?_
                · rintro k g' hk hy' ⟨hO, hk2⟩
                  rw [show l.ss.length - k = (l.ss.length - (k + 1)) + 1 by omega, wsR] at hk2
                  refine ⟨hO, ?_⟩
                  have ht : l.ss[k]? = some l.ss[k] := List.getElem?_eq_getElem hk
                  rw [frY_eq ht] at hy'
                  have hft : isFree l.ss[k] = false := by
                    cases hft : isFree l.ss[k]
                    · rfl
                    · rw [hft] at hy'; cases hy'
                  have hwb : wsB l x i k = false := by unfold wsB; rw [sAt_eq ht, hft, es, hf]; rfl
                  rw [hwb, if_neg (by decide)] at hk2
                  exact hk2
                · rintro k g' vs hk hy' ⟨hO, hk2⟩ hlp'
                  have ht : l.ss[k]? = some l.ss[k] := List.getElem?_eq_getElem hk
                  have hq : x.ps[k]? = some x.ps[k] := List.getElem?_eq_getElem (by omega)
                  have q2 := o.ss _ (List.getElem_mem hk)
                  rw [frY_eq ht] at hy'
                  rw [show l.ss.length - k = (l.ss.length - (k + 1)) + 1 by omega, wsR] at hk2
                  have et := sAt_eq ht
                  have eq := pAt_eq hq
                  generalize l.ss[k] = t at ht hy' q2 et
                  generalize x.ps[k] = q at hq eq
                  have r1 := q1.no
                  have r2 := q1.so
                  have r3 := q2.no
                  have r4 := q2.so
                  have m1 := mul_le (a := s.no) (b := t.so) (A := 1000) (B := 1000) (by omega) (by omega)
                  have m2 := mul_le (a := s.so) (b := t.no) (A := 1000) (B := 1000) (by omega) (by omega)
                  have ca := fun h => vc_ahead s.no s.so t.no t.so h (by omega) (by omega) (by omega) (by omega)
                  cases hft : isFree t
                  · rw [hft] at hy'; cases hy'
                  · rw [hft] at hy'
                    cases hy'
                    cases hwb : wsB l x i k
                    · rw [hwb, if_neg (by decide)] at hk2
                      have hbw : ¬ ((p < x.w ∧ 0 < q) ∧ s.so * t.no < s.no * t.so) := by
                        unfold wsB fst2 at hwb
                        rw [es, et, ep, eq, hf, hft, Bool.true_and, Bool.true_and] at hwb
                        intro hc
                        rw [decide_eq_true hc.1, decide_eq_true hc.2] at hwb
                        cases hwb
                      refine Rnd.go hlp' g' hlp' ?_ ⟨hO, hk2⟩
                      refine VRound.vy' hlp' rfl rfl rfl g'.grows_refl fun l1 => ?_
                      refine VRound.tell [(3, .fp (encX x)), (7, .ptr (.out (.out (.loc 0))) 0), (8, .ptr (.out (.out (.loc 1))) 0), (9, .fp [DI i]), (10, .fp (encT s)), (19, I k), (20, aggT t)] ?_ ?_
                      · conv => whnf
                        refine Retell.turn ⟨[], 0, [], []⟩ (TurnOk.mk' _ _ [] [] (OutOk.lift _) rfl (by decide) (by repeat' (first | exact BTos.nil | refine BTos.flat rfl rfl (by first | rfl | simp) ?_ | refine BTos.new rfl ?_ | refine BTos.dead rfl rfl ?_ | refine BTos.esE rfl rfl ?_ | refine BTos.row rfl rfl rfl (RowTo.snoc (RowTo.one rfl (by simp))) ?_ | refine BTos.cells rfl rfl rfl (by repeat' (first | exact VTo.undef | exact FrTo.leaf | refine FrTo.node ?_ ?_ ?_ | refine FrTo.none ?_ ?_ | exact VTo.sc (by first | rfl | (congr 1; omega) | (congr 1; simp; omega)) | exact VTos_dv _ _ | refine VTos.cons ?_ ?_ | exact VTos.nil | refine VTo.agg ?_ | refine VTo.tuple ?_ | refine VTo.func ?_ ?_ | exact VTo.fs | exact VTo.fp | exact VTo.nilptr | exact VTo.nilslice | exact VTo.nilfunc | exact VTo.ptr rfl | exact VTo.gl rfl | exact VTo.map rfl | exact VTo.yld rfl | exact VTo.fmMap rfl | exact VTo.fm | exact VTo.glNil' (by decide) rfl rfl | exact VTo.fsNil (by decide) | exact VTo.fsSl rfl rfl (by simp [flat_len encE_len]) | exact VTo.fpPtr rfl | exact VTo.fsGl rfl (by first | rfl | exact flat_len encI_len _ | exact flat_len encT_len _ | exact flat_len encS_len _ | exact flat_len encP_len _ | exact flat_len encL_len _ | exact flat_len encE_len _ | (simp [flat_len encP_len]; done) | simp [flat_len encI_len, flat_len encS_len]))) ?_)) trivial trivial rfl) (by repeat' (first | exact VTo.undef | exact FrTo.leaf | refine FrTo.node ?_ ?_ ?_ | refine FrTo.none ?_ ?_ | exact VTo.sc (by first | rfl | (congr 1; omega) | (congr 1; simp; omega)) | exact VTos_dv _ _ | refine VTos.cons ?_ ?_ | exact VTos.nil | refine VTo.agg ?_ | refine VTo.tuple ?_ | refine VTo.func ?_ ?_ | exact VTo.fs | exact VTo.fp | exact VTo.nilptr | exact VTo.nilslice | exact VTo.nilfunc | exact VTo.ptr rfl | exact VTo.gl rfl | exact VTo.map rfl | exact VTo.yld rfl | exact VTo.fmMap rfl | exact VTo.fm | exact VTo.glNil' (by decide) rfl rfl | exact VTo.fsNil (by decide) | exact VTo.fsSl rfl rfl (by simp [flat_len encE_len]) | exact VTo.fpPtr rfl | exact VTo.fsGl rfl (by first | rfl | exact flat_len encI_len _ | exact flat_len encT_len _ | exact flat_len encS_len _ | exact flat_len encP_len _ | exact flat_len encL_len _ | exact flat_len encE_len _ | (simp [flat_len encP_len]; done) | simp [flat_len encI_len, flat_len encS_len]))) (by first | rfl | (repeat' (first | exact MkTo.nil | refine MkTo.keep rfl ?_ | refine MkTo.drop (by decide) rfl ?_)))
                      · conv => whnf
                        repeat (first | (refine VLd.intro rfl ?_; conv => whnf) | (refine VArith.i64 (by first | omega | (dsimp only; omega)) ?_; conv => whnf) | (refine VNeed.intro (by first | rfl | (simp; omega)) ?_; conv => whnf) | (refine VMem.store rfl rfl rfl rfl ?_; conv => whnf) | (refine VSame.intro rfl ?_; conv => whnf) | (refine VDraw.go [] (by kernel_rfl) (by kernel_rfl) ?_; conv => whnf))
                        refine VBegin.intro (get_out hlp' _) rfl ?_
                        conv => whnf
                        repeat' (first | (refine VLd.intro rfl ?_; conv => whnf) | (refine VArith.i64 (by first | omega | (dsimp only; omega)) ?_; conv => whnf) | (refine VNeed.intro (by first | rfl | (simp; omega)) ?_; conv => whnf) | (refine VMem.store rfl rfl rfl rfl ?_; conv => whnf) | (refine VSame.intro rfl ?_; conv => whnf) | (refine VDraw.go [(18, 19)] (by kernel_rfl) (by kernel_rfl) ?_; conv => whnf) | (refine VIte.dec (fun _ => ?_) (fun _ => ?_) <;> conv => whnf) | (refine VIte.ndec (fun _ => ?_) (fun _ => ?_) <;> conv => whnf) | (refine VIte.beq (fun _ => ?_) (fun _ => ?_) <;> conv => whnf) | (refine VIte.bne (fun _ => ?_) (fun _ => ?_) <;> conv => whnf) | (refine VIte.intro (fun _ => ?_) (fun _ => ?_) <;> conv => whnf) | (refine VAny.ix encI_len i rfl rfl hp ?_; conv => whnf) | (refine VAny.ix encI_len k rfl rfl hq ?_; conv => whnf) | (refine VCall.intro (vc_worth _ _) ?_; conv => whnf) | (refine VCall.intro (ca _) ?_; conv => whnf))
                        all_goals try (exfalso; omega)
                        all_goals exact RFin.on (outW_get _ _ _ _) (VOut.back (get_out hlp' []) rfl)
                    · rw [hwb, if_pos rfl] at hk2
                      have hkk : k = k0 := Option.some.inj hk2
                      subst hkk
                      have x0 : g'.get (.out (.loc 0)) = some (.flat true [DI (-1)]) := by
                        show g'.outer (.loc 0) = _
                        rw [hO]; exact hO1
                      have x1 : g'.get (.out (.loc 1)) = some (.flat true [DI (-1)]) := by
                        show g'.outer (.loc 1) = _
                        rw [hO]; exact hO2
                      have y0 : g'.get (.out (.loc 0)) ≠ none := by rw [x0]; simp
                      have y1 : (g'.set (.out (.loc 0)) (.flat true [DI i])).get (.out (.loc 1)) ≠ none := by rw [Hp.get_set g' _ _ _ y0, if_neg (by decide), x1]; simp
                      have y3 : g'.get (.loc 0) ≠ none := by rw [hlp']; simp
                      have y2 : ((g'.set (.out (.loc 0)) (.flat true [DI i])).set (.out (.loc 1)) (.flat true [DI k])).get (.loc 0) ≠ none := by rw [Hp.get_set _ _ _ _ y1, if_neg (by decide), Hp.get_set g' _ _ _ y0, if_neg (by decide)]; exact y3
                      refine Rnd.stop (.exit 0) rfl hlp' ((g'.set (.out (.loc 0)) (.flat true [DI i])).set (.out (.loc 1)) (.flat true [DI k])) y2 ?_ ⟨rfl, ?_⟩
                      · refine VRound.vy' hlp' rfl rfl rfl ?_ fun l1 => ?_
                        · exact grows_set3
                        refine VRound.tell [(3, .fp (encX x)), (7, .ptr (.out (.out (.loc 0))) 0), (8, .ptr (.out (.out (.loc 1))) 0), (9, .fp [DI i]), (10, .fp (encT s)), (19, I k), (20, aggT t)] ?_ ?_
                        · conv => whnf
                          refine Retell.turn ⟨[], 0, [], []⟩ (TurnOk.mk' _ _ [] [] (OutOk.lift _) rfl (by decide) (by repeat' (first | exact BTos.nil | refine BTos.flat rfl rfl (by first | rfl | simp) ?_ | refine BTos.new rfl ?_ | refine BTos.dead rfl rfl ?_ | refine BTos.esE rfl rfl ?_ | refine BTos.row rfl rfl rfl (RowTo.snoc (RowTo.one rfl (by simp))) ?_ | refine BTos.cells rfl rfl rfl (by repeat' (first | exact VTo.undef | exact FrTo.leaf | refine FrTo.node ?_ ?_ ?_ | refine FrTo.none ?_ ?_ | exact VTo.sc (by first | rfl | (congr 1; omega) | (congr 1; simp; omega)) | exact VTos_dv _ _ | refine VTos.cons ?_ ?_ | exact VTos.nil | refine VTo.agg ?_ | refine VTo.tuple ?_ | refine VTo.func ?_ ?_ | exact VTo.fs | exact VTo.fp | exact VTo.nilptr | exact VTo.nilslice | exact VTo.nilfunc | exact VTo.ptr rfl | exact VTo.gl rfl | exact VTo.map rfl | exact VTo.yld rfl | exact VTo.fmMap rfl | exact VTo.fm | exact VTo.glNil' (by decide) rfl rfl | exact VTo.fsNil (by decide) | exact VTo.fsSl rfl rfl (by simp [flat_len encE_len]) | exact VTo.fpPtr rfl | exact VTo.fsGl rfl (by first | rfl | exact flat_len encI_len _ | exact flat_len encT_len _ | exact flat_len encS_len _ | exact flat_len encP_len _ | exact flat_len encL_len _ | exact flat_len encE_len _ | (simp [flat_len encP_len]; done) | simp [flat_len encI_len, flat_len encS_len]))) ?_)) trivial trivial rfl) (by repeat' (first | exact VTo.undef | exact FrTo.leaf | refine FrTo.node ?_ ?_ ?_ | refine FrTo.none ?_ ?_ | exact VTo.sc (by first | rfl | (congr 1; omega) | (congr 1; simp; omega)) | exact VTos_dv _ _ | refine VTos.cons ?_ ?_ | exact VTos.nil | refine VTo.agg ?_ | refine VTo.tuple ?_ | refine VTo.func ?_ ?_ | exact VTo.fs | exact VTo.fp | exact VTo.nilptr | exact VTo.nilslice | exact VTo.nilfunc | exact VTo.ptr rfl | exact VTo.gl rfl | exact VTo.map rfl | exact VTo.yld rfl | exact VTo.fmMap rfl | exact VTo.fm | exact VTo.glNil' (by decide) rfl rfl | exact VTo.fsNil (by decide) | exact VTo.fsSl rfl rfl (by simp [flat_len encE_len]) | exact VTo.fpPtr rfl | exact VTo.fsGl rfl (by first | rfl | exact flat_len encI_len _ | exact flat_len encT_len _ | exact flat_len encS_len _ | exact flat_len encP_len _ | exact flat_len encL_len _ | exact flat_len encE_len _ | (simp [flat_len encP_len]; done) | simp [flat_len encI_len, flat_len encS_len]))) (by first | rfl | (repeat' (first | exact MkTo.nil | refine MkTo.keep rfl ?_ | refine MkTo.drop (by decide) rfl ?_)))
                        · conv => whnf
                          repeat (first | (refine VLd.intro rfl ?_; conv => whnf) | (refine VArith.i64 (by first | omega | (dsimp only; omega)) ?_; conv => whnf) | (refine VNeed.intro (by first | rfl | (simp; omega)) ?_; conv => whnf) | (refine VMem.store rfl rfl rfl rfl ?_; conv => whnf) | (refine VSame.intro rfl ?_; conv => whnf) | (refine VDraw.go [] (by kernel_rfl) (by kernel_rfl) ?_; conv => whnf))
                          refine VBegin.intro (get_out hlp' _) rfl ?_
                          conv => whnf
                          have hbw : (p < x.w ∧ 0 < q) ∧ s.so * t.no < s.no * t.so := by
                            unfold wsB fst2 at hwb
                            rw [es, et, ep, eq, hf, hft, Bool.true_and, Bool.true_and, Bool.and_eq_true, decide_eq_true_eq, decide_eq_true_eq] at hwb
                            exact hwb
                          repeat' (first | (refine VLd.intro rfl ?_; conv => whnf) | (refine VArith.i64 (by first | omega | (dsimp only; omega)) ?_; conv => whnf) | (refine VNeed.intro (by first | rfl | (simp; omega)) ?_; conv => whnf) | (refine VMem.store rfl rfl rfl rfl ?_; conv => whnf) | (refine VSame.intro rfl ?_; conv => whnf) | (refine VDraw.go [(18, 19)] (by kernel_rfl) (by kernel_rfl) ?_; conv => whnf) | (refine VIte.dec (fun _ => ?_) (fun _ => ?_) <;> conv => whnf) | (refine VIte.ndec (fun _ => ?_) (fun _ => ?_) <;> conv => whnf) | (refine VIte.beq (fun _ => ?_) (fun _ => ?_) <;> conv => whnf) | (refine VIte.bne (fun _ => ?_) (fun _ => ?_) <;> conv => whnf) | (refine VIte.intro (fun _ => ?_) (fun _ => ?_) <;> conv => whnf) | (refine VAny.ix encI_len i rfl rfl hp ?_; conv => whnf) | (refine VAny.ix encI_len k rfl rfl hq ?_; conv => whnf) | (refine VCall.intro (vc_worth _ _) ?_; conv => whnf) | (refine VCall.intro (ca _) ?_; conv => whnf) | (refine VMem.st1 rfl rfl rfl (get_outNe (by decide) (get_out x0 _)) rfl ?_; conv => whnf) | (refine VMem.st1 rfl rfl rfl (get_outNe (by decide) (get_outNe (by decide) (get_out x1 _))) rfl ?_; conv => whnf))
                          all_goals try (exfalso; omega)
                          refine RFin.off rfl (get_outNe (by decide) (get_outNe (by decide) (outW_get _ _ _ _))) (VOut.liftS ?_ ?_)
                          · rw [lift_set y2, lift_set y1, lift_set y0]; exact outW_two (by decide) (by decide)
                          · exact grows_set3
                      · show outW (outW g'.outer _ _) _ _ = _
                        rw [hO]
                · rintro g' ⟨hO, hk2⟩ hlp'
                  rw [Nat.sub_self, wsR] at hk2
                  cases hk2
                · rintro e g' _ ⟨rfl, hO⟩ hlp'
                  obtain ⟨go, gl⟩ := g'
                  dsimp only at hO
                  subst hO
                  subst hO0
                  refine Told.mk [] [] (marks' := []) ?_ ?_
                  · conv => whnf
                    refine Retell.turn ⟨[], gl.length, [], []⟩ (TurnOk.mk' _ _ [] [] (OutOk.outR (OutOk.outR (OutOk.outR (OutOk.lift _) (ren_busy hlp)) ⟨.flat true [DI i], rfl⟩) ⟨.flat true [DI k0], rfl⟩) (Nat.ble_eq_true_of_le (by simp)) (by decide) BTos.nil trivial trivial rfl) (by repeat' (first | exact VTo.undef | exact FrTo.leaf | refine FrTo.node ?_ ?_ ?_ | refine FrTo.none ?_ ?_ | exact VTo.sc (by first | rfl | (congr 1; omega) | (congr 1; simp; omega)) | exact VTos_dv _ _ | refine VTos.cons ?_ ?_ | exact VTos.nil | refine VTo.agg ?_ | refine VTo.tuple ?_ | refine VTo.func ?_ ?_ | exact VTo.fs | exact VTo.fp | exact VTo.nilptr | exact VTo.nilslice | exact VTo.nilfunc | exact VTo.ptr rfl | exact VTo.gl rfl | exact VTo.map rfl | exact VTo.yld rfl | exact VTo.fmMap rfl | exact VTo.fm | exact VTo.glNil' (by decide) rfl rfl | exact VTo.fsNil (by decide) | exact VTo.fsSl rfl rfl (by simp [flat_len encE_len]) | exact VTo.fpPtr rfl | exact VTo.fsGl rfl (by first | rfl | exact flat_len encI_len _ | exact flat_len encT_len _ | exact flat_len encS_len _ | exact flat_len encP_len _ | exact flat_len encL_len _ | exact flat_len encE_len _ | (simp [flat_len encP_len]; done) | simp [flat_len encI_len, flat_len encS_len]))) (by first | rfl | (repeat' (first | exact MkTo.nil | refine MkTo.keep rfl ?_ | refine MkTo.drop (by decide) rfl ?_)))
                  · conv => whnf
                    refine RFin.off rfl (get_outNe (by decide) (get_outNe (by decide) (outW_get _ _ _ _))) (VOut.liftS ?_ ?_)
                    · rw [lift_set n2, lift_set n1, lift_set n0]; exact outW_two (by decide) (by decide)
                    · exact grows_set3
          · rw [Hp.get_set _ _ _ _ n2, if_neg (by decide), Hp.get_set _ _ _ _ n1, if_neg (by decide), Hp.get_set g _ _ _ n0, if_pos rfl]
          · rw [Hp.get_set _ _ _ _ n2, if_neg (by decide), Hp.get_set _ _ _ _ n1, if_pos rfl]
          · rw [Hp.get_set _ _ _ _ n2, if_neg (by decide), Hp.get_set _ _ _ _ n1, if_neg (by decide), Hp.get_set g _ _ _ n0, if_neg (by decide), j3]
    · rintro g ⟨⟨j0, j1, j2, j3⟩, hWi⟩ hlp
      rw [Nat.sub_self, wsO] at hWi
      subst hWi
      obtain ⟨go, gl⟩ := g
      dsimp only at j0
      subst j0
      have j1 : gl[0]? = some _ := j1
      have j2 : gl[1]? = some _ := j2
      have j3 : gl[2]? = some _ := j3
      have l0 := (List.getElem?_eq_some_iff.1 j1).1
      have l1 := (List.getElem?_eq_some_iff.1 j2).1
      have key : ∀ (x : Nat) (A : Blk), x ≠ 3 → (gl.set 3 A)[x]? = gl[x]? := fun x A hx => List.getElem?_set_ne (Ne.symm hx)
      refine Told.mk [(7, .ptr (.loc 0) 0), (8, .ptr (.loc 1) 0)] [.flat true [DI (-1)], .flat true [DI (-1)]] (marks' := []) ?_ ?_
      · conv => whnf
        refine Retell.turn ⟨[0, 1], gl.length, [], []⟩ (TurnOk.mk' _ _ [] [] (OutOk.lift _) (Nat.ble_eq_true_of_le (by simp)) (by decide)
          (BTos.flat (blt_of l0) ((key 0 _ (by omega)).trans j1) rfl (BTos.flat (blt_of l1) ((key 1 _ (by omega)).trans j2) rfl BTos.nil)) trivial trivial rfl) (by repeat' (first | exact VTo.undef | exact FrTo.leaf | refine FrTo.node ?_ ?_ ?_ | refine FrTo.none ?_ ?_ | exact VTo.sc (by first | rfl | (congr 1; omega) | (congr 1; simp; omega)) | exact VTos_dv _ _ | refine VTos.cons ?_ ?_ | exact VTos.nil | refine VTo.agg ?_ | refine VTo.tuple ?_ | refine VTo.func ?_ ?_ | exact VTo.fs | exact VTo.fp | exact VTo.nilptr | exact VTo.nilslice | exact VTo.nilfunc | exact VTo.ptr rfl | exact VTo.gl rfl | exact VTo.map rfl | exact VTo.yld rfl | exact VTo.fmMap rfl | exact VTo.fm | exact VTo.glNil' (by decide) rfl rfl | exact VTo.fsNil (by decide) | exact VTo.fsSl rfl rfl (by simp [flat_len encE_len]) | exact VTo.fpPtr rfl | exact VTo.fsGl rfl (by first | rfl | exact flat_len encI_len _ | exact flat_len encT_len _ | exact flat_len encS_len _ | exact flat_len encP_len _ | exact flat_len encL_len _ | exact flat_len encE_len _ | (simp [flat_len encP_len]; done) | simp [flat_len encI_len, flat_len encS_len])))
          (MkTo.drop (show 2 ∉ ([0, 1] : List Nat) by decide) ((key 2 _ (by omega)).trans j3) MkTo.nil)
      · conv => whnf
        repeat' (first | (refine VLd.intro rfl ?_; conv => whnf) | (refine VArith.i64 (by first | omega | (dsimp only; omega)) ?_; conv => whnf) | (refine VNeed.intro (by first | rfl | (simp; omega)) ?_; conv => whnf) | (refine VMem.store rfl rfl rfl rfl ?_; conv => whnf) | (refine VSame.intro rfl ?_; conv => whnf) | (refine VDraw.go [] (by kernel_rfl) (by kernel_rfl) ?_; conv => whnf) | (refine VIte.dec (fun _ => ?_) (fun _ => ?_) <;> conv => whnf) | (refine VIte.ndec (fun _ => ?_) (fun _ => ?_) <;> conv => whnf) | (refine VIte.beq (fun _ => ?_) (fun _ => ?_) <;> conv => whnf) | (refine VIte.bne (fun _ => ?_) (fun _ => ?_) <;> conv => whnf) | (refine VIte.intro (fun _ => ?_) (fun _ => ?_) <;> conv => whnf))
        exact VOut.same rfl
    · rintro e g hne ⟨rfl, i, k, ⟨j0, j1, j2, j3⟩, hWi⟩ hlp
      subst hWi
      obtain ⟨go, gl⟩ := g
      dsimp only at j0
      subst j0
      have j1 : gl[0]? = some _ := j1
      have j2 : gl[1]? = some _ := j2
      have j3 : gl[2]? = some _ := j3
      have l0 := (List.getElem?_eq_some_iff.1 j1).1
      have l1 := (List.getElem?_eq_some_iff.1 j2).1
      have key : ∀ (x : Nat) (A : Blk), x ≠ 3 → (gl.set 3 A)[x]? = gl[x]? := fun x A hx => List.getElem?_set_ne (Ne.symm hx)
      refine Told.mk [(7, .ptr (.loc 0) 0), (8, .ptr (.loc 1) 0)] [.flat true [DI (i)], .flat true [DI (k)]] (marks' := []) ?_ ?_
      · conv => whnf
        refine Retell.turn ⟨[0, 1], gl.length, [], []⟩ (TurnOk.mk' _ _ [] [] (OutOk.lift _) (Nat.ble_eq_true_of_le (by simp)) (by decide)
          (BTos.flat (blt_of l0) ((key 0 _ (by omega)).trans j1) rfl (BTos.flat (blt_of l1) ((key 1 _ (by omega)).trans j2) rfl BTos.nil)) trivial trivial rfl) (by repeat' (first | exact VTo.undef | exact FrTo.leaf | refine FrTo.node ?_ ?_ ?_ | refine FrTo.none ?_ ?_ | exact VTo.sc (by first | rfl | (congr 1; omega) | (congr 1; simp; omega)) | exact VTos_dv _ _ | refine VTos.cons ?_ ?_ | exact VTos.nil | refine VTo.agg ?_ | refine VTo.tuple ?_ | refine VTo.func ?_ ?_ | exact VTo.fs | exact VTo.fp | exact VTo.nilptr | exact VTo.nilslice | exact VTo.nilfunc | exact VTo.ptr rfl | exact VTo.gl rfl | exact VTo.map rfl | exact VTo.yld rfl | exact VTo.fmMap rfl | exact VTo.fm | exact VTo.glNil' (by decide) rfl rfl | exact VTo.fsNil (by decide) | exact VTo.fsSl rfl rfl (by simp [flat_len encE_len]) | exact VTo.fpPtr rfl | exact VTo.fsGl rfl (by first | rfl | exact flat_len encI_len _ | exact flat_len encT_len _ | exact flat_len encS_len _ | exact flat_len encP_len _ | exact flat_len encL_len _ | exact flat_len encE_len _ | (simp [flat_len encP_len]; done) | simp [flat_len encI_len, flat_len encS_len])))
          (MkTo.drop (show 2 ∉ ([0, 1] : List Nat) by decide) ((key 2 _ (by omega)).trans j3) MkTo.nil)
      · conv => whnf
        repeat' (first | (refine VLd.intro rfl ?_; conv => whnf) | (refine VArith.i64 (by first | omega | (dsimp only; omega)) ?_; conv => whnf) | (refine VNeed.intro (by first | rfl | (simp; omega)) ?_; conv => whnf) | (refine VMem.store rfl rfl rfl rfl ?_; conv => whnf) | (refine VSame.intro rfl ?_; conv => whnf) | (refine VDraw.go [] (by kernel_rfl) (by kernel_rfl) ?_; conv => whnf) | (refine VIte.dec (fun _ => ?_) (fun _ => ?_) <;> conv => whnf) | (refine VIte.ndec (fun _ => ?_) (fun _ => ?_) <;> conv => whnf) | (refine VIte.beq (fun _ => ?_) (fun _ => ?_) <;> conv => whnf) | (refine VIte.bne (fun _ => ?_) (fun _ => ?_) <;> conv => whnf) | (refine VIte.intro (fun _ => ?_) (fun _ => ?_) <;> conv => whnf))
        refine VOut.same ?_
        simp only [wstR, V.ren, V.rens]
        congr 5
end Go.Proofs.Ytmpjpjfkbmlmfaa

open Go.Vm
namespace Go.Vm

theorem VOut.setF {h : Hp} {loc : List Blk} {i : Id} {b0 : Blk} {l : List D} {rw : Bool} {r : V} {L : Nat} (hL : Nat.ble loc.length L = true) (hb : h.get i = some b0) (hr : ∀ ρ, r.ren ρ = r) : VOut h ⟨outW h.lift i (.flat rw l), loc⟩ r r (h.set i (.flat rw l)) := by
  have hd : ∀ p ∈ [(i, Blk.flat rw l)], h.get p.1 ≠ none := by
    intro p hp
    simp only [List.mem_cons, List.not_mem_nil, or_false] at hp
    subst hp; simp only; rw [hb]; simp
  have := VOut.upd (loc := loc) (r1 := r) (r := r) [(i, .flat rw l)] [] [] L hL hd (by simp) rfl (by intro k b hk; simp at hk) (fun σ x hx => by rw [hr]; exact hx) (outer := outW h.lift i (.flat rw l)) rfl
  have he : (h.sets [(i, Blk.flat rw l)]).pushes [] = h.set i (.flat rw l) := by simp [Hp.sets, Hp.pushes]
  rw [he] at this
  exact this
end Go.Vm
namespace Go.Proofs.Ytmpjpjfkbmlmfaa
set_option maxRecDepth 20000
set_option maxHeartbeats 2000000
theorem vc_isNaN (x : Int) (h : Hp) : VC Try.prog 93 [I x] h (B false) h := by
  refine VC.body Try.func93 rfl Try.ntmps93 Try.call93 (h.grows_refl) rfl ?_; conv => whnf
  repeat' (first | (refine VLd.intro rfl ?_; conv => whnf) | (refine VArith.i64 (by first | omega | (dsimp only; omega)) ?_; conv => whnf) | (refine VNeed.intro (by first | rfl | (simp; omega)) ?_; conv => whnf) | (refine VMem.store rfl rfl rfl rfl ?_; conv => whnf) | (refine VSame.intro rfl ?_; conv => whnf) | (refine VDraw.go [] (by kernel_rfl) (by kernel_rfl) ?_; conv => whnf) | (refine VIte.dec (fun _ => ?_) (fun _ => ?_) <;> conv => whnf) | (refine VIte.ndec (fun _ => ?_) (fun _ => ?_) <;> conv => whnf) | (refine VIte.beq (fun _ => ?_) (fun _ => ?_) <;> conv => whnf) | (refine VIte.bne (fun _ => ?_) (fun _ => ?_) <;> conv => whnf) | (refine VIte.intro (fun _ => ?_) (fun _ => ?_) <;> conv => whnf))
  refine VOut.same ?_
  simp [V.ren]
def cmpI (a b : Int) : Int := if a < b then -1 else if b < a then 1 else 0
theorem vc_Compare (a b : Int) (h : Hp) : VC Try.prog 85 [I a, I b] h (I (cmpI a b)) h := by
  unfold cmpI
  refine VC.body Try.func85 rfl Try.ntmps85 Try.call85 (h.grows_refl) rfl ?_; conv => whnf
  repeat' (first | (refine VLd.intro rfl ?_; conv => whnf) | (refine VArith.i64 (by first | omega | (dsimp only; omega)) ?_; conv => whnf) | (refine VNeed.intro (by first | rfl | (simp; omega)) ?_; conv => whnf) | (refine VMem.store rfl rfl rfl rfl ?_; conv => whnf) | (refine VSame.intro rfl ?_; conv => whnf) | (refine VDraw.go [] (by kernel_rfl) (by kernel_rfl) ?_; conv => whnf) | (refine VIte.dec (fun _ => ?_) (fun _ => ?_) <;> conv => whnf) | (refine VIte.ndec (fun _ => ?_) (fun _ => ?_) <;> conv => whnf) | (refine VIte.beq (fun _ => ?_) (fun _ => ?_) <;> conv => whnf) | (refine VIte.bne (fun _ => ?_) (fun _ => ?_) <;> conv => whnf) | (refine VIte.intro (fun _ => ?_) (fun _ => ?_) <;> conv => whnf) | (refine VCall.intro (vc_isNaN _ _) ?_; conv => whnf))
  · rename_i h1; rw [if_pos h1]; exact VOut.same rfl
  · rename_i h1 h2; rw [if_neg h1, if_pos h2]; exact VOut.same rfl
  · rename_i h1 h2; rw [if_neg h1, if_neg h2]; exact VOut.same rfl
/-! ### Insertion -/
def posS (q : Int → Bool) (out : List Int) : Nat → Nat
  | 0 => 0
  | j + 1 => if q (out.getD j 0) then posS q out j else j + 1
theorem posS_le (q : Int → Bool) (out : List Int) : ∀ j, posS q out j ≤ j
  | 0 => Nat.le_refl _
  | j + 1 => by
    rw [posS]; split
    · exact Nat.le_succ_of_le (posS_le q out j)
    · exact Nat.le_refl _
def insS (q : Int → Bool) (out : List Int) (x : Int) : List Int := out.take (posS q out out.length) ++ x :: out.drop (posS q out out.length)
theorem insS_len (q : Int → Bool) (out : List Int) (x : Int) : (insS q out x).length = out.length + 1 := by
  have := posS_le q out out.length
  simp [insS]; omega
/-- A list on the way. -/
def midS (pre : List Int) (x : Int) (rest : List Int) (j : Nat) : List Int := pre.take j ++ x :: (pre.drop j ++ rest)
theorem midS_len {pre : List Int} {x : Int} {rest : List Int} {j : Nat} (hj : j ≤ pre.length) : (midS pre x rest j).length = pre.length + 1 + rest.length := by simp [midS]; omega
theorem midS_at {pre : List Int} {x : Int} {rest : List Int} {j : Nat} (hj : j ≤ pre.length) : (midS pre x rest j)[j]? = some x := by
  unfold midS
  have : (pre.take j).length = j := by simp; omega
  rw [List.getElem?_append_right (by omega), this, Nat.sub_self]; rfl
theorem midS_at1 {pre : List Int} {x : Int} {rest : List Int} {j : Nat} (hj : j + 1 ≤ pre.length) : (midS pre x rest (j + 1))[j]? = some (pre.getD j 0) := by
  unfold midS
  have : (pre.take (j + 1)).length = j + 1 := by simp; omega
  rw [List.getElem?_append_left (by omega), List.getElem?_take, if_pos (by omega), List.getElem?_eq_getElem (by omega)]
  simp [List.getD_eq_getElem?_getD, List.getElem?_eq_getElem (show j < pre.length by omega)]
theorem midS_swap {pre : List Int} {x : Int} {rest : List Int} {j : Nat} (hj : j + 1 ≤ pre.length) : ((midS pre x rest (j + 1)).set (j + 1) (pre.getD j 0)).set j x = midS pre x rest j := by
  have hp : pre[j]? = some pre[j] := List.getElem?_eq_getElem (by omega)
  have hd : pre.getD j 0 = pre[j] := by simp [List.getD_eq_getElem?_getD, hp]
  have h1 : (pre.take (j + 1)).length = j + 1 := by simp; omega
  have h2 : (pre.take j).length = j := by simp; omega
  unfold midS
  rw [List.set_append_right _ _ (by omega), h1, Nat.sub_self, List.set_cons_zero, List.take_add_one, hp, Option.toList, List.append_assoc, List.set_append_right _ _ (by omega), h2, Nat.sub_self]
  simp only [List.singleton_append, List.set_cons_zero, hd]
  rw [List.drop_eq_getElem_cons (show j < pre.length by omega)]
  rfl
theorem midS_end {q : Int → Bool} {pre : List Int} {x : Int} {rest : List Int} : midS pre x rest (posS q pre pre.length) = insS q pre x ++ rest := by simp [midS, insS]
theorem midS_top {pre : List Int} {x : Int} {rest : List Int} : midS pre x rest pre.length = pre ++ x :: rest := by simp [midS]
/-- The first ones, in their order. -/
def isGo (q : Int → Int → Bool) (l : List Int) : Nat → List Int
  | 0 => []
  | m + 1 => insS (fun y => q (l.getD m 0) y) (isGo q l m) (l.getD m 0)
def isrt (q : Int → Int → Bool) (l : List Int) : List Int := isGo q l l.length
theorem isGo_len (q : Int → Int → Bool) (l : List Int) : ∀ m, (isGo q l m).length = m
  | 0 => rfl
  | m + 1 => by rw [isGo, insS_len, isGo_len q l m]
theorem insS_mem {q : Int → Bool} {out : List Int} {x y : Int} : y ∈ insS q out x ↔ y = x ∨ y ∈ out := by
  unfold insS
  rw [List.mem_append, List.mem_cons]
  have : y ∈ out ↔ y ∈ out.take (posS q out out.length) ∨ y ∈ out.drop (posS q out out.length) := by
    rw [← List.mem_append, List.take_append_drop]
  rw [this]
  constructor
  · rintro (h | h | h)
    · exact .inr (.inl h)
    · exact .inl h
    · exact .inr (.inr h)
  · rintro (h | h | h)
    · exact .inr (.inl h)
    · exact .inl h
    · exact .inr (.inr h)
theorem isGo_mem {q : Int → Int → Bool} {l : List Int} : ∀ {m : Nat}, m ≤ l.length → ∀ y ∈ isGo q l m, y ∈ l
  | 0, _, y, h => by cases h
  | m + 1, hm, y, h => by
    rw [isGo] at h
    rcases insS_mem.1 h with rfl | h
    · have : l[m]? = some l[m] := List.getElem?_eq_getElem (by omega)
      rw [List.getD_eq_getElem?_getD, this]; exact List.getElem_mem _
    · exact isGo_mem (by omega) y h
theorem vc_isort (l : List Int) (q : Int → Int → Bool) (c : Int → Int → Int) (f : FuncId) (caps : List D) (i : Vm.Id) (h : Hp) (hb : h.get i = some (.flat true (l.flatMap encI))) (hn : l.length ≤ 4000000)
    (hc : ∀ a b, a ∈ l → b ∈ l → (∀ h, VC Try.prog f ([I a, I b] ++ D.vs caps) h (I (c a b)) h) ∧ (c a b < 0 ↔ q a b = true)) :
    VC Try.prog 98 [.gl i 1 l.length, I 0, I l.length, .func (.func f) [] (D.vs caps)] h (.tuple []) (h.set i (.flat true ((isrt q l).flatMap encI))) := by
  have hlift : h.lift i = some (.flat true (l.flatMap encI)) := get_out hb []
  refine VC.body Try.func98 rfl Try.ntmps98 Try.call98 (h.grows_set _ _) rfl ?_
  conv => whnf
  rw [rens_dvs]
  repeat (first | (refine VLd.intro rfl ?_; conv => whnf) | (refine VArith.i64 (by first | omega | (dsimp only; omega)) ?_; conv => whnf) | (refine VNeed.intro (by first | rfl | (simp; omega)) ?_; conv => whnf) | (refine VMem.store rfl rfl rfl rfl ?_; conv => whnf) | (refine VSame.intro rfl ?_; conv => whnf) | (refine VDraw.go [] (by kernel_rfl) (by kernel_rfl) ?_; conv => whnf))
  refine VCode.lpo (fun x : Nat × List Int => [(0, .gl (.out i) 1 l.length), (1, I 0), (2, I l.length), (3, .func (.func f) [] (D.vs caps)), (8, I x.1)]) (fun x => outW h.lift i (.flat true (x.2.flatMap encI))) (fun _ => []) (fun x => (x.1 ≤ l.length ∧ x.2 = isGo q l x.1 ++ l.drop x.1) ∨ (l = [] ∧ x = (1, []))) (fun x => l.length - x.1) (1, l) ?_ (outW_id hlift) ?_ ?_
  · rcases Nat.eq_zero_or_pos l.length with hz | hz
    · have := List.length_eq_zero_iff.1 hz
      subst this; exact .inr ⟨rfl, rfl⟩
    · left
      refine ⟨hz, ?_⟩
      cases l with
      | nil => cases hz
      | cons a r => simp [isGo, insS, posS]
  · conv => whnf
    refine Retell.turn ⟨[], 0, [], []⟩ (TurnOk.mk' _ _ [] [] (OutOk.outW (OutOk.lift _) rfl) rfl (by decide) (by repeat' (first | exact BTos.nil | refine BTos.flat rfl rfl (by first | rfl | simp) ?_ | refine BTos.new rfl ?_ | refine BTos.dead rfl rfl ?_ | refine BTos.esE rfl rfl ?_ | refine BTos.row rfl rfl rfl (RowTo.snoc (RowTo.one rfl (by simp))) ?_ | refine BTos.cells rfl rfl rfl (by repeat' (first | exact VTo.undef | exact FrTo.leaf | refine FrTo.node ?_ ?_ ?_ | refine FrTo.none ?_ ?_ | exact VTo.sc (by first | rfl | (congr 1; omega) | (congr 1; simp; omega)) | exact VTos_dv _ _ | refine VTos.cons ?_ ?_ | exact VTos.nil | refine VTo.agg ?_ | refine VTo.tuple ?_ | refine VTo.func ?_ ?_ | exact VTo.fs | exact VTo.fp | exact VTo.nilptr | exact VTo.nilslice | exact VTo.nilfunc | exact VTo.ptr rfl | exact VTo.gl rfl | exact VTo.map rfl | exact VTo.yld rfl | exact VTo.fmMap rfl | exact VTo.fm | exact VTo.glNil' (by decide) rfl rfl | exact VTo.fsNil (by decide) | exact VTo.fsSl rfl rfl (by simp [flat_len encE_len]) | exact VTo.fpPtr rfl | exact VTo.fsGl rfl (by first | rfl | exact flat_len encI_len _ | exact flat_len encT_len _ | exact flat_len encS_len _ | exact flat_len encP_len _ | exact flat_len encL_len _ | exact flat_len encE_len _ | (simp [flat_len encP_len]; done) | simp [flat_len encI_len, flat_len encS_len]))) ?_)) trivial trivial rfl) (by repeat' (first | exact VTo.undef | exact FrTo.leaf | refine FrTo.node ?_ ?_ ?_ | refine FrTo.none ?_ ?_ | exact VTo.sc (by first | rfl | (congr 1; omega) | (congr 1; simp; omega)) | exact VTos_dv _ _ | refine VTos.cons ?_ ?_ | exact VTos.nil | refine VTo.agg ?_ | refine VTo.tuple ?_ | refine VTo.func ?_ ?_ | exact VTo.fs | exact VTo.fp | exact VTo.nilptr | exact VTo.nilslice | exact VTo.nilfunc | exact VTo.ptr rfl | exact VTo.gl rfl | exact VTo.map rfl | exact VTo.yld rfl | exact VTo.fmMap rfl | exact VTo.fm | exact VTo.glNil' (by decide) rfl rfl | exact VTo.fsNil (by decide) | exact VTo.fsSl rfl rfl (by simp [flat_len encE_len]) | exact VTo.fpPtr rfl | exact VTo.fsGl rfl (by first | rfl | exact flat_len encI_len _ | exact flat_len encT_len _ | exact flat_len encS_len _ | exact flat_len encP_len _ | exact flat_len encL_len _ | exact flat_len encE_len _ | (simp [flat_len encP_len]; done) | simp [flat_len encI_len, flat_len encS_len]))) (by first | rfl | (repeat' (first | exact MkTo.nil | refine MkTo.keep rfl ?_ | refine MkTo.drop (by decide) rfl ?_)))
  · rintro ⟨m, w⟩ hm
    conv => whnf
    repeat (first | (refine VLd.intro rfl ?_; conv => whnf) | (refine VArith.i64 (by first | omega | (dsimp only; omega)) ?_; conv => whnf) | (refine VNeed.intro (by first | rfl | (simp; omega)) ?_; conv => whnf) | (refine VMem.store rfl rfl rfl rfl ?_; conv => whnf) | (refine VSame.intro rfl ?_; conv => whnf) | (refine VDraw.go [] (by kernel_rfl) (by kernel_rfl) ?_; conv => whnf))
    refine VIte.dec (fun h3 => ?_) (fun h3 => ?_)
    · dsimp only at h3
      obtain ⟨hm1, hw⟩ : m ≤ l.length ∧ w = isGo q l m ++ l.drop m := by
        rcases hm with h | ⟨h1, h2⟩
        · exact h
        · exfalso; subst h1; cases h2; simp at h3
      have hx : l[m]? = some l[m] := List.getElem?_eq_getElem (by omega)
      have hxm : l[m] ∈ l := List.getElem_mem _
      have hgd : l.getD m 0 = l[m] := by simp [List.getD_eq_getElem?_getD, hx]
      have hpl := isGo_len q l m
      have hpm := isGo_mem (q := q) (l := l) hm1
      have hnext : isGo q l (m + 1) = insS (fun y => q l[m] y) (isGo q l m) l[m] := by rw [isGo, hgd]
      rw [List.drop_eq_getElem_cons (by omega)] at hw
      generalize l[m] = x at hx hxm hw hnext
      generalize isGo q l m = pre at hw hpl hpm hnext
      generalize hrest : l.drop (m + 1) = rest at hw
      have hrl : rest.length = l.length - (m + 1) := by rw [← hrest]; simp
      subst hw
      conv => whnf
      repeat (first | (refine VLd.intro rfl ?_; conv => whnf) | (refine VArith.i64 (by first | omega | (dsimp only; omega)) ?_; conv => whnf) | (refine VNeed.intro (by first | rfl | (simp; omega)) ?_; conv => whnf) | (refine VMem.store rfl rfl rfl rfl ?_; conv => whnf) | (refine VSame.intro rfl ?_; conv => whnf) | (refine VDraw.go [] (by kernel_rfl) (by kernel_rfl) ?_; conv => whnf))
      refine VCode.lpo (fun j : Nat => [(0, .gl (.out i) 1 l.length), (1, I 0), (2, I l.length), (3, .func (.func f) [] (D.vs caps)), (8, I m), (9, I j)]) (fun j => outW h.lift i (.flat true ((midS pre x rest j).flatMap encI))) (fun _ => []) (fun j => j ≤ m ∧ posS (fun y => q x y) pre m = posS (fun y => q x y) pre j) (fun j => j) m ⟨Nat.le_refl _, rfl⟩ (by rw [← hpl, midS_top]) ?_ ?_
      · conv => whnf
        refine Retell.turn ⟨[], 0, [], []⟩ (TurnOk.mk' _ _ [] [] (OutOk.outW (OutOk.lift _) rfl) rfl (by decide) (by repeat' (first | exact BTos.nil | refine BTos.flat rfl rfl (by first | rfl | simp) ?_ | refine BTos.new rfl ?_ | refine BTos.dead rfl rfl ?_ | refine BTos.esE rfl rfl ?_ | refine BTos.row rfl rfl rfl (RowTo.snoc (RowTo.one rfl (by simp))) ?_ | refine BTos.cells rfl rfl rfl (by repeat' (first | exact VTo.undef | exact FrTo.leaf | refine FrTo.node ?_ ?_ ?_ | refine FrTo.none ?_ ?_ | exact VTo.sc (by first | rfl | (congr 1; omega) | (congr 1; simp; omega)) | exact VTos_dv _ _ | refine VTos.cons ?_ ?_ | exact VTos.nil | refine VTo.agg ?_ | refine VTo.tuple ?_ | refine VTo.func ?_ ?_ | exact VTo.fs | exact VTo.fp | exact VTo.nilptr | exact VTo.nilslice | exact VTo.nilfunc | exact VTo.ptr rfl | exact VTo.gl rfl | exact VTo.map rfl | exact VTo.yld rfl | exact VTo.fmMap rfl | exact VTo.fm | exact VTo.glNil' (by decide) rfl rfl | exact VTo.fsNil (by decide) | exact VTo.fsSl rfl rfl (by simp [flat_len encE_len]) | exact VTo.fpPtr rfl | exact VTo.fsGl rfl (by first | rfl | exact flat_len encI_len _ | exact flat_len encT_len _ | exact flat_len encS_len _ | exact flat_len encP_len _ | exact flat_len encL_len _ | exact flat_len encE_len _ | (simp [flat_len encP_len]; done) | simp [flat_len encI_len, flat_len encS_len]))) ?_)) trivial trivial rfl) (by repeat' (first | exact VTo.undef | exact FrTo.leaf | refine FrTo.node ?_ ?_ ?_ | refine FrTo.none ?_ ?_ | exact VTo.sc (by first | rfl | (congr 1; omega) | (congr 1; simp; omega)) | exact VTos_dv _ _ | refine VTos.cons ?_ ?_ | exact VTos.nil | refine VTo.agg ?_ | refine VTo.tuple ?_ | refine VTo.func ?_ ?_ | exact VTo.fs | exact VTo.fp | exact VTo.nilptr | exact VTo.nilslice | exact VTo.nilfunc | exact VTo.ptr rfl | exact VTo.gl rfl | exact VTo.map rfl | exact VTo.yld rfl | exact VTo.fmMap rfl | exact VTo.fm | exact VTo.glNil' (by decide) rfl rfl | exact VTo.fsNil (by decide) | exact VTo.fsSl rfl rfl (by simp [flat_len encE_len]) | exact VTo.fpPtr rfl | exact VTo.fsGl rfl (by first | rfl | exact flat_len encI_len _ | exact flat_len encT_len _ | exact flat_len encS_len _ | exact flat_len encP_len _ | exact flat_len encL_len _ | exact flat_len encE_len _ | (simp [flat_len encP_len]; done) | simp [flat_len encI_len, flat_len encS_len]))) (by first | rfl | (repeat' (first | exact MkTo.nil | refine MkTo.keep rfl ?_ | refine MkTo.drop (by decide) rfl ?_)))
      · rintro j ⟨hj, hpos⟩
        have fin : ∀ (_ : posS (fun y => q x y) pre j = j), midS pre x rest j = isGo q l (m + 1) ++ l.drop (m + 1) := fun hp => by
          rw [hnext, hrest, ← midS_end, hpl, hpos, hp]
        cases j with
        | zero =>
          conv => whnf
          repeat' (first | (refine VLd.intro rfl ?_; conv => whnf) | (refine VArith.i64 (by first | omega | (dsimp only; omega)) ?_; conv => whnf) | (refine VNeed.intro (by first | rfl | (simp; omega)) ?_; conv => whnf) | (refine VMem.store rfl rfl rfl rfl ?_; conv => whnf) | (refine VSame.intro rfl ?_; conv => whnf) | (refine VDraw.go [] (by kernel_rfl) (by kernel_rfl) ?_; conv => whnf) | (refine VIte.dec (fun _ => ?_) (fun _ => ?_) <;> conv => whnf) | (refine VIte.ndec (fun _ => ?_) (fun _ => ?_) <;> conv => whnf) | (refine VIte.beq (fun _ => ?_) (fun _ => ?_) <;> conv => whnf) | (refine VIte.bne (fun _ => ?_) (fun _ => ?_) <;> conv => whnf) | (refine VIte.intro (fun _ => ?_) (fun _ => ?_) <;> conv => whnf))
          all_goals try (exfalso; omega)
          refine LEndO.intro (m + 1, isGo q l (m + 1) ++ l.drop (m + 1)) (.inl ⟨by dsimp only; omega, rfl⟩) (by dsimp only; omega) (by rw [fin rfl]) ?_
          conv => whnf
          refine Retell.turn ⟨[], 0, [], []⟩ (TurnOk.mk' _ _ [] [] (OutOk.outW (OutOk.lift _) rfl) rfl (by decide) (by repeat' (first | exact BTos.nil | refine BTos.flat rfl rfl (by first | rfl | simp) ?_ | refine BTos.new rfl ?_ | refine BTos.dead rfl rfl ?_ | refine BTos.esE rfl rfl ?_ | refine BTos.row rfl rfl rfl (RowTo.snoc (RowTo.one rfl (by simp))) ?_ | refine BTos.cells rfl rfl rfl (by repeat' (first | exact VTo.undef | exact FrTo.leaf | refine FrTo.node ?_ ?_ ?_ | refine FrTo.none ?_ ?_ | exact VTo.sc (by first | rfl | (congr 1; omega) | (congr 1; simp; omega)) | exact VTos_dv _ _ | refine VTos.cons ?_ ?_ | exact VTos.nil | refine VTo.agg ?_ | refine VTo.tuple ?_ | refine VTo.func ?_ ?_ | exact VTo.fs | exact VTo.fp | exact VTo.nilptr | exact VTo.nilslice | exact VTo.nilfunc | exact VTo.ptr rfl | exact VTo.gl rfl | exact VTo.map rfl | exact VTo.yld rfl | exact VTo.fmMap rfl | exact VTo.fm | exact VTo.glNil' (by decide) rfl rfl | exact VTo.fsNil (by decide) | exact VTo.fsSl rfl rfl (by simp [flat_len encE_len]) | exact VTo.fpPtr rfl | exact VTo.fsGl rfl (by first | rfl | exact flat_len encI_len _ | exact flat_len encT_len _ | exact flat_len encS_len _ | exact flat_len encP_len _ | exact flat_len encL_len _ | exact flat_len encE_len _ | (simp [flat_len encP_len]; done) | simp [flat_len encI_len, flat_len encS_len]))) ?_)) trivial trivial rfl) (by repeat' (first | exact VTo.undef | exact FrTo.leaf | refine FrTo.node ?_ ?_ ?_ | refine FrTo.none ?_ ?_ | exact VTo.sc (by first | rfl | (congr 1; omega) | (congr 1; simp; omega)) | exact VTos_dv _ _ | refine VTos.cons ?_ ?_ | exact VTos.nil | refine VTo.agg ?_ | refine VTo.tuple ?_ | refine VTo.func ?_ ?_ | exact VTo.fs | exact VTo.fp | exact VTo.nilptr | exact VTo.nilslice | exact VTo.nilfunc | exact VTo.ptr rfl | exact VTo.gl rfl | exact VTo.map rfl | exact VTo.yld rfl | exact VTo.fmMap rfl | exact VTo.fm | exact VTo.glNil' (by decide) rfl rfl | exact VTo.fsNil (by decide) | exact VTo.fsSl rfl rfl (by simp [flat_len encE_len]) | exact VTo.fpPtr rfl | exact VTo.fsGl rfl (by first | rfl | exact flat_len encI_len _ | exact flat_len encT_len _ | exact flat_len encS_len _ | exact flat_len encP_len _ | exact flat_len encL_len _ | exact flat_len encE_len _ | (simp [flat_len encP_len]; done) | simp [flat_len encI_len, flat_len encS_len]))) (by first | rfl | (repeat' (first | exact MkTo.nil | refine MkTo.keep rfl ?_ | refine MkTo.drop (by decide) rfl ?_)))
        | succ j =>
          have ha := midS_at (pre := pre) (x := x) (rest := rest) (j := j + 1) (by omega)
          have hb1 := midS_at1 (pre := pre) (x := x) (rest := rest) (j := j) (by omega)
          have hsw := midS_swap (pre := pre) (x := x) (rest := rest) (j := j) (by omega)
          have hps : posS (fun y => q x y) pre (j + 1) = if q x (pre.getD j 0) then posS (fun y => q x y) pre j else j + 1 := rfl
          have hym : pre.getD j 0 ∈ l := by
            have : pre[j]? = some pre[j] := List.getElem?_eq_getElem (by omega)
            rw [List.getD_eq_getElem?_getD, this]
            exact hpm _ (List.getElem_mem _)
          obtain ⟨hc1, hc2⟩ := hc x (pre.getD j 0) hxm hym
          have hlm := midS_len (pre := pre) (x := x) (rest := rest) (j := j + 1) (by omega)
          have hset : ((midS pre x rest (j + 1)).set (j + 1) (pre.getD j 0))[j]? = some (pre.getD j 0) := by rw [List.getElem?_set_ne (by omega)]; exact hb1
          generalize pre.getD j 0 = y at ha hb1 hsw hps hym hc1 hc2 hset
          generalize midS pre x rest (j + 1) = w at ha hb1 hsw hlm hset fin
          generalize c x y = r at hc1 hc2
          conv => whnf
          repeat' (first | (refine VLd.intro rfl ?_; conv => whnf) | (refine VArith.i64 (by first | omega | (dsimp only; omega)) ?_; conv => whnf) | (refine VNeed.intro (by first | rfl | (simp; omega)) ?_; conv => whnf) | (refine VMem.store rfl rfl rfl rfl ?_; conv => whnf) | (refine VSame.intro rfl ?_; conv => whnf) | (refine VDraw.go [] (by kernel_rfl) (by kernel_rfl) ?_; conv => whnf) | (refine VIte.dec (fun _ => ?_) (fun _ => ?_) <;> conv => whnf) | (refine VIte.ndec (fun _ => ?_) (fun _ => ?_) <;> conv => whnf) | (refine VIte.beq (fun _ => ?_) (fun _ => ?_) <;> conv => whnf) | (refine VIte.bne (fun _ => ?_) (fun _ => ?_) <;> conv => whnf) | (refine VIte.intro (fun _ => ?_) (fun _ => ?_) <;> conv => whnf) | (refine VLd.recc encI_len (j + 1) 0 rfl rfl (outW_get _ _ _ _) ha (by decide) rfl (by simp only [Nat.zero_add, Nat.mul_one]; omega) ?_; conv => whnf) | (refine VLd.recc encI_len j 0 rfl rfl (outW_get _ _ _ _) hb1 (by decide) rfl (by simp only [Nat.zero_add, Nat.mul_one]; omega) ?_; conv => whnf) | (refine VCall.intro (hc1 _) ?_; conv => whnf))
          all_goals try (exfalso; omega)
          · rename_i hr
            rw [if_pos (hc2.1 hr)] at hps
            refine VMem.setRec encI_len (j + 1) 0 y rfl rfl (outW_get _ _ _ _) ha (by decide) rfl (by simp only [Nat.zero_add, Nat.mul_one]; omega) ?_
            conv => whnf
            repeat (first | (refine VLd.intro rfl ?_; conv => whnf) | (refine VArith.i64 (by first | omega | (dsimp only; omega)) ?_; conv => whnf) | (refine VNeed.intro (by first | rfl | (simp; omega)) ?_; conv => whnf) | (refine VMem.store rfl rfl rfl rfl ?_; conv => whnf) | (refine VSame.intro rfl ?_; conv => whnf) | (refine VDraw.go [] (by kernel_rfl) (by kernel_rfl) ?_; conv => whnf))
            refine VMem.setRec encI_len j 0 x rfl rfl (outW_get _ _ _ _) hset (by decide) rfl (by simp only [Nat.zero_add, Nat.mul_one]; omega) ?_
            conv => whnf
            repeat (first | (refine VLd.intro rfl ?_; conv => whnf) | (refine VArith.i64 (by first | omega | (dsimp only; omega)) ?_; conv => whnf) | (refine VNeed.intro (by first | rfl | (simp; omega)) ?_; conv => whnf) | (refine VMem.store rfl rfl rfl rfl ?_; conv => whnf) | (refine VSame.intro rfl ?_; conv => whnf) | (refine VDraw.go [] (by kernel_rfl) (by kernel_rfl) ?_; conv => whnf))
            refine LEndO.intro j ⟨by omega, by rw [hpos, hps]⟩ (by omega) (((outW_same (outW _ _ _) _ _ _).trans (outW_same _ _ _ _)).trans (by rw [hsw])) ?_
            conv => whnf
            refine Retell.turn ⟨[], 0, [], []⟩ (TurnOk.mk' _ _ [] [] (OutOk.outW (OutOk.lift _) rfl) rfl (by decide) (by repeat' (first | exact BTos.nil | refine BTos.flat rfl rfl (by first | rfl | simp) ?_ | refine BTos.new rfl ?_ | refine BTos.dead rfl rfl ?_ | refine BTos.esE rfl rfl ?_ | refine BTos.row rfl rfl rfl (RowTo.snoc (RowTo.one rfl (by simp))) ?_ | refine BTos.cells rfl rfl rfl (by repeat' (first | exact VTo.undef | exact FrTo.leaf | refine FrTo.node ?_ ?_ ?_ | refine FrTo.none ?_ ?_ | exact VTo.sc (by first | rfl | (congr 1; omega) | (congr 1; simp; omega)) | exact VTos_dv _ _ | refine VTos.cons ?_ ?_ | exact VTos.nil | refine VTo.agg ?_ | refine VTo.tuple ?_ | refine VTo.func ?_ ?_ | exact VTo.fs | exact VTo.fp | exact VTo.nilptr | exact VTo.nilslice | exact VTo.nilfunc | exact VTo.ptr rfl | exact VTo.gl rfl | exact VTo.map rfl | exact VTo.yld rfl | exact VTo.fmMap rfl | exact VTo.fm | exact VTo.glNil' (by decide) rfl rfl | exact VTo.fsNil (by decide) | exact VTo.fsSl rfl rfl (by simp [flat_len encE_len]) | exact VTo.fpPtr rfl | exact VTo.fsGl rfl (by first | rfl | exact flat_len encI_len _ | exact flat_len encT_len _ | exact flat_len encS_len _ | exact flat_len encP_len _ | exact flat_len encL_len _ | exact flat_len encE_len _ | (simp [flat_len encP_len]; done) | simp [flat_len encI_len, flat_len encS_len]))) ?_)) trivial trivial rfl) (by repeat' (first | exact VTo.undef | exact FrTo.leaf | refine FrTo.node ?_ ?_ ?_ | refine FrTo.none ?_ ?_ | exact VTo.sc (by first | rfl | (congr 1; omega) | (congr 1; simp; omega)) | exact VTos_dv _ _ | refine VTos.cons ?_ ?_ | exact VTos.nil | refine VTo.agg ?_ | refine VTo.tuple ?_ | refine VTo.func ?_ ?_ | exact VTo.fs | exact VTo.fp | exact VTo.nilptr | exact VTo.nilslice | exact VTo.nilfunc | exact VTo.ptr rfl | exact VTo.gl rfl | exact VTo.map rfl | exact VTo.yld rfl | exact VTo.fmMap rfl | exact VTo.fm | exact VTo.glNil' (by decide) rfl rfl | exact VTo.fsNil (by decide) | exact VTo.fsSl rfl rfl (by simp [flat_len encE_len]) | exact VTo.fpPtr rfl | exact VTo.fsGl rfl (by first | rfl | exact flat_len encI_len _ | exact flat_len encT_len _ | exact flat_len encS_len _ | exact flat_len encP_len _ | exact flat_len encL_len _ | exact flat_len encE_len _ | (simp [flat_len encP_len]; done) | simp [flat_len encI_len, flat_len encS_len]))) (by first | rfl | (repeat' (first | exact MkTo.nil | refine MkTo.keep rfl ?_ | refine MkTo.drop (by decide) rfl ?_)))
          · rename_i hr
            rw [if_neg (fun hq => hr (hc2.2 hq))] at hps
            refine LEndO.intro (m + 1, isGo q l (m + 1) ++ l.drop (m + 1)) (.inl ⟨by dsimp only; omega, rfl⟩) (by dsimp only; omega) (by rw [fin hps]) ?_
            conv => whnf
            refine Retell.turn ⟨[], 0, [], []⟩ (TurnOk.mk' _ _ [] [] (OutOk.outW (OutOk.lift _) rfl) rfl (by decide) (by repeat' (first | exact BTos.nil | refine BTos.flat rfl rfl (by first | rfl | simp) ?_ | refine BTos.new rfl ?_ | refine BTos.dead rfl rfl ?_ | refine BTos.esE rfl rfl ?_ | refine BTos.row rfl rfl rfl (RowTo.snoc (RowTo.one rfl (by simp))) ?_ | refine BTos.cells rfl rfl rfl (by repeat' (first | exact VTo.undef | exact FrTo.leaf | refine FrTo.node ?_ ?_ ?_ | refine FrTo.none ?_ ?_ | exact VTo.sc (by first | rfl | (congr 1; omega) | (congr 1; simp; omega)) | exact VTos_dv _ _ | refine VTos.cons ?_ ?_ | exact VTos.nil | refine VTo.agg ?_ | refine VTo.tuple ?_ | refine VTo.func ?_ ?_ | exact VTo.fs | exact VTo.fp | exact VTo.nilptr | exact VTo.nilslice | exact VTo.nilfunc | exact VTo.ptr rfl | exact VTo.gl rfl | exact VTo.map rfl | exact VTo.yld rfl | exact VTo.fmMap rfl | exact VTo.fm | exact VTo.glNil' (by decide) rfl rfl | exact VTo.fsNil (by decide) | exact VTo.fsSl rfl rfl (by simp [flat_len encE_len]) | exact VTo.fpPtr rfl | exact VTo.fsGl rfl (by first | rfl | exact flat_len encI_len _ | exact flat_len encT_len _ | exact flat_len encS_len _ | exact flat_len encP_len _ | exact flat_len encL_len _ | exact flat_len encE_len _ | (simp [flat_len encP_len]; done) | simp [flat_len encI_len, flat_len encS_len]))) ?_)) trivial trivial rfl) (by repeat' (first | exact VTo.undef | exact FrTo.leaf | refine FrTo.node ?_ ?_ ?_ | refine FrTo.none ?_ ?_ | exact VTo.sc (by first | rfl | (congr 1; omega) | (congr 1; simp; omega)) | exact VTos_dv _ _ | refine VTos.cons ?_ ?_ | exact VTos.nil | refine VTo.agg ?_ | refine VTo.tuple ?_ | refine VTo.func ?_ ?_ | exact VTo.fs | exact VTo.fp | exact VTo.nilptr | exact VTo.nilslice | exact VTo.nilfunc | exact VTo.ptr rfl | exact VTo.gl rfl | exact VTo.map rfl | exact VTo.yld rfl | exact VTo.fmMap rfl | exact VTo.fm | exact VTo.glNil' (by decide) rfl rfl | exact VTo.fsNil (by decide) | exact VTo.fsSl rfl rfl (by simp [flat_len encE_len]) | exact VTo.fpPtr rfl | exact VTo.fsGl rfl (by first | rfl | exact flat_len encI_len _ | exact flat_len encT_len _ | exact flat_len encS_len _ | exact flat_len encP_len _ | exact flat_len encL_len _ | exact flat_len encE_len _ | (simp [flat_len encP_len]; done) | simp [flat_len encI_len, flat_len encS_len]))) (by first | rfl | (repeat' (first | exact MkTo.nil | refine MkTo.keep rfl ?_ | refine MkTo.drop (by decide) rfl ?_)))
    · have hw : w = isrt q l := by
        rcases hm with ⟨h1, h2⟩ | ⟨h1, h2⟩
        · dsimp only at h1 h2 h3
          have : m = l.length := by omega
          rw [h2, this, List.drop_of_length_le (Nat.le_refl _), List.append_nil]; rfl
        · cases h2; subst h1; rfl
      subst hw
      conv => whnf
      repeat (first | (refine VLd.intro rfl ?_; conv => whnf) | (refine VArith.i64 (by first | omega | (dsimp only; omega)) ?_; conv => whnf) | (refine VNeed.intro (by first | rfl | (simp; omega)) ?_; conv => whnf) | (refine VMem.store rfl rfl rfl rfl ?_; conv => whnf) | (refine VSame.intro rfl ?_; conv => whnf) | (refine VDraw.go [] (by kernel_rfl) (by kernel_rfl) ?_; conv => whnf))
      exact VOut.setF (L := 0) rfl hb fun _ => rfl
theorem isrt_len (q : Int → Int → Bool) (l : List Int) : (isrt q l).length = l.length := isGo_len q l _
theorem vc_stable (l : List Int) (q : Int → Int → Bool) (c : Int → Int → Int) (f : FuncId) (caps : List D) (i : Vm.Id) (h : Hp) (hb : h.get i = some (.flat true (l.flatMap encI))) (hn : l.length ≤ 19)
    (hc : ∀ a b, a ∈ l → b ∈ l → (∀ h, VC Try.prog f ([I a, I b] ++ D.vs caps) h (I (c a b)) h) ∧ (c a b < 0 ↔ q a b = true)) :
    VC Try.prog 92 [.gl i 1 l.length, I l.length, .func (.func f) [] (D.vs caps)] h (.tuple []) (h.set i (.flat true ((isrt q l).flatMap encI))) := by
  have hs := fun (i : Vm.Id) (h : Hp) hh => vc_isort l q c f caps i h hh (by omega) hc
  refine VC.body Try.func92 rfl Try.ntmps92 Try.call92 (h.grows_set _ _) rfl ?_
  conv => whnf
  rw [rens_dvs]
  repeat (first | (refine VLd.intro rfl ?_; conv => whnf) | (refine VArith.i64 (by first | omega | (dsimp only; omega)) ?_; conv => whnf) | (refine VNeed.intro (by first | rfl | (simp; omega)) ?_; conv => whnf) | (refine VMem.store rfl rfl rfl rfl ?_; conv => whnf) | (refine VSame.intro rfl ?_; conv => whnf) | (refine VDraw.go [] (by kernel_rfl) (by kernel_rfl) ?_; conv => whnf))
  have hlift : h.lift i = some (.flat true (l.flatMap encI)) := get_out hb []
  refine VCode.lpo (fun _ : Unit => [(0, .gl (.out i) 1 l.length), (1, I l.length), (2, .func (.func f) [] (D.vs caps)), (6, I 20), (7, I 0), (8, I 20)]) (fun _ => h.lift) (fun _ => []) (fun _ => True) (fun _ => 0) () trivial rfl ?_ ?_
  · conv => whnf
    refine Retell.turn ⟨[], 0, [], []⟩ (TurnOk.mk' _ _ [] [] (OutOk.lift _) rfl (by decide) (by repeat' (first | exact BTos.nil | refine BTos.flat rfl rfl (by first | rfl | simp) ?_ | refine BTos.new rfl ?_ | refine BTos.dead rfl rfl ?_ | refine BTos.esE rfl rfl ?_ | refine BTos.row rfl rfl rfl (RowTo.snoc (RowTo.one rfl (by simp))) ?_ | refine BTos.cells rfl rfl rfl (by repeat' (first | exact VTo.undef | exact FrTo.leaf | refine FrTo.node ?_ ?_ ?_ | refine FrTo.none ?_ ?_ | exact VTo.sc (by first | rfl | (congr 1; omega) | (congr 1; simp; omega)) | exact VTos_dv _ _ | refine VTos.cons ?_ ?_ | exact VTos.nil | refine VTo.agg ?_ | refine VTo.tuple ?_ | refine VTo.func ?_ ?_ | exact VTo.fs | exact VTo.fp | exact VTo.nilptr | exact VTo.nilslice | exact VTo.nilfunc | exact VTo.ptr rfl | exact VTo.gl rfl | exact VTo.map rfl | exact VTo.yld rfl | exact VTo.fmMap rfl | exact VTo.fm | exact VTo.glNil' (by decide) rfl rfl | exact VTo.fsNil (by decide) | exact VTo.fsSl rfl rfl (by simp [flat_len encE_len]) | exact VTo.fpPtr rfl | exact VTo.fsGl rfl (by first | rfl | exact flat_len encI_len _ | exact flat_len encT_len _ | exact flat_len encS_len _ | exact flat_len encP_len _ | exact flat_len encL_len _ | exact flat_len encE_len _ | (simp [flat_len encP_len]; done) | simp [flat_len encI_len, flat_len encS_len]))) ?_)) trivial trivial rfl) (by repeat' (first | exact VTo.undef | exact FrTo.leaf | refine FrTo.node ?_ ?_ ?_ | refine FrTo.none ?_ ?_ | exact VTo.sc (by first | rfl | (congr 1; omega) | (congr 1; simp; omega)) | exact VTos_dv _ _ | refine VTos.cons ?_ ?_ | exact VTos.nil | refine VTo.agg ?_ | refine VTo.tuple ?_ | refine VTo.func ?_ ?_ | exact VTo.fs | exact VTo.fp | exact VTo.nilptr | exact VTo.nilslice | exact VTo.nilfunc | exact VTo.ptr rfl | exact VTo.gl rfl | exact VTo.map rfl | exact VTo.yld rfl | exact VTo.fmMap rfl | exact VTo.fm | exact VTo.glNil' (by decide) rfl rfl | exact VTo.fsNil (by decide) | exact VTo.fsSl rfl rfl (by simp [flat_len encE_len]) | exact VTo.fpPtr rfl | exact VTo.fsGl rfl (by first | rfl | exact flat_len encI_len _ | exact flat_len encT_len _ | exact flat_len encS_len _ | exact flat_len encP_len _ | exact flat_len encL_len _ | exact flat_len encE_len _ | (simp [flat_len encP_len]; done) | simp [flat_len encI_len, flat_len encS_len]))) (by first | rfl | (repeat' (first | exact MkTo.nil | refine MkTo.keep rfl ?_ | refine MkTo.drop (by decide) rfl ?_)))
  · rintro _ _
    conv => whnf
    repeat (first | (refine VLd.intro rfl ?_; conv => whnf) | (refine VArith.i64 (by first | omega | (dsimp only; omega)) ?_; conv => whnf) | (refine VNeed.intro (by first | rfl | (simp; omega)) ?_; conv => whnf) | (refine VMem.store rfl rfl rfl rfl ?_; conv => whnf) | (refine VSame.intro rfl ?_; conv => whnf) | (refine VDraw.go [] (by kernel_rfl) (by kernel_rfl) ?_; conv => whnf))
    refine VIte.dec (fun h3 => ?_) (fun h3 => ?_)
    · exfalso; omega
    · have h1 := hs (.out i) ⟨h.lift, []⟩ (get_out hb [])
      conv => whnf
      repeat' (first | (refine VLd.intro rfl ?_; conv => whnf) | (refine VArith.i64 (by first | omega | (dsimp only; omega)) ?_; conv => whnf) | (refine VNeed.intro (by first | rfl | (simp; omega)) ?_; conv => whnf) | (refine VMem.store rfl rfl rfl rfl ?_; conv => whnf) | (refine VSame.intro rfl ?_; conv => whnf) | (refine VIte.dec (fun _ => ?_) (fun _ => ?_) <;> conv => whnf) | (refine VIte.ndec (fun _ => ?_) (fun _ => ?_) <;> conv => whnf) | (refine VIte.beq (fun _ => ?_) (fun _ => ?_) <;> conv => whnf) | (refine VIte.bne (fun _ => ?_) (fun _ => ?_) <;> conv => whnf) | (refine VIte.intro (fun _ => ?_) (fun _ => ?_) <;> conv => whnf) | (refine VCall.intro (h1) ?_; conv => whnf))
      refine VCode.lpo (fun _ : Unit => [(0, .gl (.out i) 1 l.length), (1, I l.length), (2, .func (.func f) [] (D.vs caps)), (6, I 20)]) (fun _ => outW h.lift i (.flat true ((isrt q l).flatMap encI))) (fun _ => []) (fun _ => True) (fun _ => 0) () trivial rfl ?_ ?_
      · conv => whnf
        refine Retell.turn ⟨[], 0, [], []⟩ (TurnOk.mk' _ _ [] [] (OutOk.outW (OutOk.lift _) rfl) rfl (by decide) (by repeat' (first | exact BTos.nil | refine BTos.flat rfl rfl (by first | rfl | simp) ?_ | refine BTos.new rfl ?_ | refine BTos.dead rfl rfl ?_ | refine BTos.esE rfl rfl ?_ | refine BTos.row rfl rfl rfl (RowTo.snoc (RowTo.one rfl (by simp))) ?_ | refine BTos.cells rfl rfl rfl (by repeat' (first | exact VTo.undef | exact FrTo.leaf | refine FrTo.node ?_ ?_ ?_ | refine FrTo.none ?_ ?_ | exact VTo.sc (by first | rfl | (congr 1; omega) | (congr 1; simp; omega)) | exact VTos_dv _ _ | refine VTos.cons ?_ ?_ | exact VTos.nil | refine VTo.agg ?_ | refine VTo.tuple ?_ | refine VTo.func ?_ ?_ | exact VTo.fs | exact VTo.fp | exact VTo.nilptr | exact VTo.nilslice | exact VTo.nilfunc | exact VTo.ptr rfl | exact VTo.gl rfl | exact VTo.map rfl | exact VTo.yld rfl | exact VTo.fmMap rfl | exact VTo.fm | exact VTo.glNil' (by decide) rfl rfl | exact VTo.fsNil (by decide) | exact VTo.fsSl rfl rfl (by simp [flat_len encE_len]) | exact VTo.fpPtr rfl | exact VTo.fsGl rfl (by first | rfl | exact flat_len encI_len _ | exact flat_len encT_len _ | exact flat_len encS_len _ | exact flat_len encP_len _ | exact flat_len encL_len _ | exact flat_len encE_len _ | (simp [flat_len encP_len]; done) | simp [flat_len encI_len, flat_len encS_len]))) ?_)) trivial trivial rfl) (by repeat' (first | exact VTo.undef | exact FrTo.leaf | refine FrTo.node ?_ ?_ ?_ | refine FrTo.none ?_ ?_ | exact VTo.sc (by first | rfl | (congr 1; omega) | (congr 1; simp; omega)) | exact VTos_dv _ _ | refine VTos.cons ?_ ?_ | exact VTos.nil | refine VTo.agg ?_ | refine VTo.tuple ?_ | refine VTo.func ?_ ?_ | exact VTo.fs | exact VTo.fp | exact VTo.nilptr | exact VTo.nilslice | exact VTo.nilfunc | exact VTo.ptr rfl | exact VTo.gl rfl | exact VTo.map rfl | exact VTo.yld rfl | exact VTo.fmMap rfl | exact VTo.fm | exact VTo.glNil' (by decide) rfl rfl | exact VTo.fsNil (by decide) | exact VTo.fsSl rfl rfl (by simp [flat_len encE_len]) | exact VTo.fpPtr rfl | exact VTo.fsGl rfl (by first | rfl | exact flat_len encI_len _ | exact flat_len encT_len _ | exact flat_len encS_len _ | exact flat_len encP_len _ | exact flat_len encL_len _ | exact flat_len encE_len _ | (simp [flat_len encP_len]; done) | simp [flat_len encI_len, flat_len encS_len]))) (by first | rfl | (repeat' (first | exact MkTo.nil | refine MkTo.keep rfl ?_ | refine MkTo.drop (by decide) rfl ?_)))
      · rintro _ _
        conv => whnf
        repeat (first | (refine VLd.intro rfl ?_; conv => whnf) | (refine VArith.i64 (by first | omega | (dsimp only; omega)) ?_; conv => whnf) | (refine VNeed.intro (by first | rfl | (simp; omega)) ?_; conv => whnf) | (refine VMem.store rfl rfl rfl rfl ?_; conv => whnf) | (refine VSame.intro rfl ?_; conv => whnf) | (refine VDraw.go [] (by kernel_rfl) (by kernel_rfl) ?_; conv => whnf))
        refine VIte.dec (fun h3 => ?_) (fun h3 => ?_)
        · exfalso; omega
        · conv => whnf
          exact VOut.setF (L := 0) rfl hb fun _ => rfl
theorem vc_sort (l : List Int) (q : Int → Int → Bool) (c : Int → Int → Int) (f : FuncId) (caps : List D) (i : Vm.Id) (h : Hp) (hb : h.get i = some (.flat true (l.flatMap encI))) (hn : l.length ≤ 19)
    (hc : ∀ a b, a ∈ l → b ∈ l → (∀ h, VC Try.prog f ([I a, I b] ++ D.vs caps) h (I (c a b)) h) ∧ (c a b < 0 ↔ q a b = true)) :
    VC Try.prog 83 [.gl i 1 l.length, .func (.func f) [] (D.vs caps)] h (.tuple []) (h.set i (.flat true ((isrt q l).flatMap encI))) := by
  have h1 := vc_stable l q c f caps (.out i) ⟨h.lift, []⟩ (get_out hb []) hn hc
  refine VC.body Try.func83 rfl Try.ntmps83 Try.call83 (h.grows_set _ _) rfl ?_
  conv => whnf
  rw [rens_dvs]
  repeat' (first | (refine VLd.intro rfl ?_; conv => whnf) | (refine VArith.i64 (by first | omega | (dsimp only; omega)) ?_; conv => whnf) | (refine VNeed.intro (by first | rfl | (simp; omega)) ?_; conv => whnf) | (refine VMem.store rfl rfl rfl rfl ?_; conv => whnf) | (refine VSame.intro rfl ?_; conv => whnf) | (refine VIte.dec (fun _ => ?_) (fun _ => ?_) <;> conv => whnf) | (refine VIte.ndec (fun _ => ?_) (fun _ => ?_) <;> conv => whnf) | (refine VIte.beq (fun _ => ?_) (fun _ => ?_) <;> conv => whnf) | (refine VIte.bne (fun _ => ?_) (fun _ => ?_) <;> conv => whnf) | (refine VIte.intro (fun _ => ?_) (fun _ => ?_) <;> conv => whnf) | (refine VCall.intro (h1) ?_; conv => whnf))
  exact VOut.setF (L := 0) rfl hb fun _ => rfl
end Go.Proofs.Ytmpjpjfkbmlmfaa

open Go.Vm
namespace Go.Proofs.Ytmpjpjfkbmlmfaa
set_option maxRecDepth 20000
set_option maxHeartbeats 2000000

/-! ### The map of worths -/
abbrev AW := List (Int × Spn)
def esW (a : AW) : List (V × V) := a.map fun x => (I x.1, .agg [I x.2.lo, I x.2.hi])
def keysW (a : AW) : List D := a.map fun x => DI x.1
def valsW (a : AW) : List D := a.map fun x => .agg (encS x.2)
theorem esW_fst (a : AW) : (esW a).map (·.1) = (keysW a).map D.v := by simp only [esW, keysW, List.map_map]; rfl
theorem esW_snd (a : AW) : (esW a).map (·.2) = (valsW a).map D.v := by simp only [esW, valsW, List.map_map]; rfl
theorem esW_zip (a : AW) : (D.vs (keysW a)).zip (D.vs (valsW a)) = esW a := by
  rw [D.vs_eq, D.vs_eq, ← esW_fst, ← esW_snd]
  induction a with
  | nil => rfl
  | cons x a ih => simpa [esW] using ih
theorem esW_ren (a : AW) (ρ : Vm.Id → Vm.Id) : (Blk.map (esW a)).ren ρ = .map (esW a) := by
  unfold Blk.ren
  congr 1
  simp only [esW, List.map_map]
  rfl
theorem EsTo.esW {c : TCtx} (a : AW) : EsTo c (esW a) (keysW a) (valsW a) := ⟨by rw [esW_fst]; exact RowTo.dv c _, by rw [esW_snd]; exact RowTo.dv c _⟩
theorem top3 : eqTop Try.prog 3 = some Sh.int := by kernel_rfl
theorem veqI3 (x y : Int) : veqSh Sh.int (I x) (I y) = some (decide (x = y)) := by
  have : (x == y) = decide (x = y) := by rw [Bool.eq_iff_iff]; simp
  rw [← this]; rfl
def hasW (a : AW) (e : Int) : Bool := a.any fun x => decide (x.1 = e)
theorem foundW_none {a : AW} {e : Int} (h : hasW a e = false) : Vm.Found Sh.int (I e) (esW a) none := by
  intro j p hp
  simp only [esW, List.getElem?_map, Option.map_eq_some_iff] at hp
  obtain ⟨x, hx, rfl⟩ := hp
  simp only [veqI3]
  have : x ∈ a := List.mem_of_getElem? hx
  unfold hasW at h
  rw [List.any_eq_false] at h
  have := h x this
  simp only [decide_eq_true_eq] at this
  rw [decide_eq_false (fun e1 => this e1.symm)]
theorem foundW_some : ∀ {a : AW} {e : Int} {v : Spn}, (e, v) ∈ a → (∀ w, (e, w) ∈ a → w = v) → ∃ i, Vm.Found Sh.int (I e) (esW a) (some (i, .agg [I v.lo, I v.hi]))
  | [], e, v, h, _ => by cases h
  | x :: a, e, v, h, hu => by
    by_cases hx : x.1 = e
    · have : x.2 = v := hu x.2 (by rw [← hx]; simp)
      refine ⟨0, I x.1, by simp [esW, this], by rw [veqI3]; simp [hx], fun j p hj => by omega⟩
    · have h' : (e, v) ∈ a := by
        rcases List.mem_cons.1 h with rfl | h
        · exact absurd rfl hx
        · exact h
      obtain ⟨i, k0, h1, h2, h3⟩ := foundW_some h' fun w hw => hu w (List.mem_cons_of_mem _ hw)
      refine ⟨i + 1, k0, by simpa [esW] using h1, h2, fun j p hj hp => ?_⟩
      cases j with
      | zero =>
        simp only [esW, List.map_cons, List.getElem?_cons_zero, Option.some.injEq] at hp
        subst hp
        rw [veqI3, decide_eq_false (fun e1 => hx e1.symm)]
      | succ j => exact h3 j p (by omega) (by simpa [esW] using hp)
theorem VMem.newW {a : AW} {e : Int} {v : Spn} {h : Hp} {i : Vm.Id} {K : V → Hp → Prop} (hb : h.get i = some (.map (esW a))) (hf : hasW a e = false) (hK : K .undef (h.set i (.map (esW (a ++ [(e, v)]))))) : VMem Try.prog (opMapUpdate 119) [.map i, I e, .agg [I v.lo, I v.hi]] h K := by
  have : esW (a ++ [(e, v)]) = esW a ++ [(I e, .agg [I v.lo, I v.hi])] := by simp [esW]
  rw [this] at hK
  exact VMem.intro (does_mapNew (tiOf_ok _) (t := 119) rfl rfl top3 (by rw [veqI3]) (foundW_none hf) hb) hK
theorem look_esW {a : AW} {e : Int} {v : Spn} (h : (e, v) ∈ a) (hu : ∀ w, (e, w) ∈ a → w = v) : Look Try.prog (tiOf Try.prog) 119 false (I e) ((D.vs (keysW a)).zip (D.vs (valsW a))) (.agg [I v.lo, I v.hi]) := by
  rw [esW_zip]
  obtain ⟨i, hi⟩ := foundW_some h hu
  exact ⟨_, 3, 89, _, Sh.int, true, some (i, .agg [I v.lo, I v.hi]), rfl, rfl, top3, by rw [veqI3]; simp, hi, rfl⟩
/-- The free ones, with their worths. -/
def freeQ (l : Lnd) (i : Nat) : Bool := isFree (sAt l i)
def frL (l : Lnd) (k : Nat) : List Int := selS (freeQ l) k
def wOf (l : Lnd) (i : Int) : Spn := ⟨(sAt l i.toNat).no, (sAt l i.toNat).so⟩
def wMap (l : Lnd) (k : Nat) : AW := (frL l k).map fun i => (i, wOf l i)
/-- Whether one stretch comes ahead of another one. -/
def ahB (l : Lnd) (i j : Int) : Bool := fst2 (sAt l i.toNat) (sAt l j.toNat)
def ordL (l : Lnd) : List Int := isrt (ahB l) (frL l l.ss.length)
theorem mem_selS {q : Nat → Bool} {x : Int} : ∀ {k : Nat}, x ∈ selS q k ↔ ∃ j : Nat, j < k ∧ x = j ∧ q j = true
  | 0 => by simp [selS]
  | k + 1 => by
    rw [selS]
    split
    · rename_i h
      rw [List.mem_append, mem_selS, List.mem_singleton]
      constructor
      · rintro (⟨j, h1, h2, h3⟩ | rfl)
        · exact ⟨j, by omega, h2, h3⟩
        · exact ⟨k, by omega, rfl, h⟩
      · rintro ⟨j, h1, h2, h3⟩
        rcases Nat.lt_or_ge j k with h4 | h4
        · exact .inl ⟨j, h4, h2, h3⟩
        · right; rw [h2, show j = k by omega]
    · rename_i h
      rw [mem_selS]
      constructor
      · rintro ⟨j, h1, h2, h3⟩; exact ⟨j, by omega, h2, h3⟩
      · rintro ⟨j, h1, h2, h3⟩
        refine ⟨j, ?_, h2, h3⟩
        rcases Nat.lt_or_ge j k with h4 | h4
        · exact h4
        · exact absurd (by rw [← show j = k by omega]; exact h3) h
theorem wMap_mem {l : Lnd} {k : Nat} {i : Int} (h : i ∈ frL l k) : (i, wOf l i) ∈ wMap l k ∧ ∀ w, (i, w) ∈ wMap l k → w = wOf l i := by
  refine ⟨List.mem_map.2 ⟨i, h, rfl⟩, fun w hw => ?_⟩
  obtain ⟨j, _, hj⟩ := List.mem_map.1 hw
  simp only [Prod.mk.injEq] at hj
  rw [← hj.2, hj.1]
theorem wMap_has {l : Lnd} {k : Nat} : hasW (wMap l k) (k : Int) = false := by
  unfold hasW
  rw [List.any_eq_false]
  intro x hx
  obtain ⟨j, hj, rfl⟩ := List.mem_map.1 hx
  obtain ⟨m, h1, h2, _⟩ := mem_selS.1 hj
  simp only [decide_eq_true_eq]; omega
theorem vc_cmp (l : Lnd) (o : Ok l) (a b : Int) (h : Hp) (ha : a ∈ frL l l.ss.length) (hb : b ∈ frL l l.ss.length) :
    VC Try.prog 84 [I a, I b, .fp [.mp (keysW (wMap l l.ss.length)) (valsW (wMap l l.ss.length))]] h (I (cmpI ((wOf l b).lo * (wOf l a).hi - (wOf l b).hi * (wOf l a).lo) 0)) h := by
  obtain ⟨a1, a2⟩ := wMap_mem ha
  obtain ⟨b1, b2⟩ := wMap_mem hb
  have hA := look_esW a1 a2
  have hB := look_esW b1 b2
  have ra : (1 ≤ (wOf l a).lo ∧ (wOf l a).lo ≤ 1000) ∧ 1 ≤ (wOf l a).hi ∧ (wOf l a).hi ≤ 1000 := by
    obtain ⟨m, h1, rfl, _⟩ := mem_selS.1 ha
    have hs : l.ss[m]? = some l.ss[m] := List.getElem?_eq_getElem h1
    have := o.ss _ (List.getElem_mem h1)
    unfold wOf; rw [Int.toNat_natCast, sAt_eq hs]; exact ⟨this.no, this.so⟩
  have rb : (1 ≤ (wOf l b).lo ∧ (wOf l b).lo ≤ 1000) ∧ 1 ≤ (wOf l b).hi ∧ (wOf l b).hi ≤ 1000 := by
    obtain ⟨m, h1, rfl, _⟩ := mem_selS.1 hb
    have hs : l.ss[m]? = some l.ss[m] := List.getElem?_eq_getElem h1
    have := o.ss _ (List.getElem_mem h1)
    unfold wOf; rw [Int.toNat_natCast, sAt_eq hs]; exact ⟨this.no, this.so⟩
  generalize wOf l a = A at hA ra
  generalize wOf l b = B' at hB rb
  have ca := fun h => vc_ahead B'.lo B'.hi A.lo A.hi h (by omega) (by omega) (by omega) (by omega)
  refine VC.body Try.func84 rfl Try.ntmps84 Try.call84 (h.grows_refl) rfl ?_; conv => whnf
  repeat' (first | (refine VLd.intro rfl ?_; conv => whnf) | (refine VArith.i64 (by first | omega | (dsimp only; omega)) ?_; conv => whnf) | (refine VNeed.intro (by first | rfl | (simp; omega)) ?_; conv => whnf) | (refine VMem.store rfl rfl rfl rfl ?_; conv => whnf) | (refine VSame.intro rfl ?_; conv => whnf) | (refine VDraw.go [] (by kernel_rfl) (by kernel_rfl) ?_; conv => whnf) | (refine VIte.dec (fun _ => ?_) (fun _ => ?_) <;> conv => whnf) | (refine VIte.ndec (fun _ => ?_) (fun _ => ?_) <;> conv => whnf) | (refine VIte.beq (fun _ => ?_) (fun _ => ?_) <;> conv => whnf) | (refine VIte.bne (fun _ => ?_) (fun _ => ?_) <;> conv => whnf) | (refine VIte.intro (fun _ => ?_) (fun _ => ?_) <;> conv => whnf) | (refine VLookF.intro hA ?_; conv => whnf) | (refine VLookF.intro hB ?_; conv => whnf) | (refine VCall.intro (ca _) ?_; conv => whnf) | (refine VCall.intro (vc_Compare _ _ _) ?_; conv => whnf))
  exact VOut.same rfl
end Go.Proofs.Ytmpjpjfkbmlmfaa

open Go.Vm
namespace Go.Proofs.Ytmpjpjfkbmlmfaa
set_option maxRecDepth 20000
set_option maxHeartbeats 4000000

structure OJ (o : Vm.Id → Option Blk) (a : AW) (n : List Int) (g : Hp) : Prop where
  o : g.outer = o
  c : g.get (.loc 0) = some (.cells true [.map (.loc 1)])
  mp : g.get (.loc 1) = some (.map (esW a))
  li : ∃ m, (m = 3 ∨ 6 ≤ m) ∧ g.get (.loc 2) = some (.cells true [.gl (.loc m) 1 n.length]) ∧ g.get (.loc m) = some (.flat true (n.flatMap encI))
  mar : g.get (.loc 4) = some .mark
theorem updW_ok {g : Hp} {m : Nat} {a2 b2 : AW} {n2 : List Int} {b : Blk} (jb : g.get (.loc 2) = some (.cells true [.gl (.loc m) 1 n2.length])) (jm : g.get (.loc 1) = some (.map (esW a2))) (jl : g.get (.loc m) = some (.flat true (n2.flatMap encI))) :
    ∀ p ∈ [(Vm.Id.loc 1, Blk.map (esW b2)), (.loc m, .dead), (.loc 2, b)], g.get p.1 ≠ none := by
  intro p hp
  simp only [List.mem_cons, List.not_mem_nil, or_false] at hp
  rcases hp with rfl | rfl | rfl <;> simp only
  · rw [jm]; simp
  · rw [jl]; simp
  · rw [jb]; simp
theorem OJ.step {o : Vm.Id → Option Blk} {a2 : AW} {n2 : List Int} {e : Int} {v : Spn} {g : Hp} {m : Nat} (jo : g.outer = o) (jc : g.get (.loc 0) = some (.cells true [.map (.loc 1)])) (jm : g.get (.loc 1) = some (.map (esW a2)))
    (jb : g.get (.loc 2) = some (.cells true [.gl (.loc m) 1 n2.length])) (jl : g.get (.loc m) = some (.flat true (n2.flatMap encI))) (jk : g.get (.loc 4) = some .mark) (hm : m = 3 ∨ 6 ≤ m) {b5 : Blk} (j5 : g.get (.loc 5) = some b5) :
    g.grows ((g.sets [(.loc 1, .map (esW (a2 ++ [(e, v)]))), (.loc m, .dead), (.loc 2, .cells true [.gl g.fresh 1 (n2.length + 1)])]).pushes [.flat true ((n2 ++ [e]).flatMap encI)]) ∧
    OJ o (a2 ++ [(e, v)]) (n2 ++ [e]) ((g.sets [(.loc 1, .map (esW (a2 ++ [(e, v)]))), (.loc m, .dead), (.loc 2, .cells true [.gl g.fresh 1 (n2.length + 1)])]).pushes [.flat true ((n2 ++ [e]).flatMap encI)]) ∧
    ∀ b, g.get (.loc 5) = some b → ((g.sets [(.loc 1, .map (esW (a2 ++ [(e, v)]))), (.loc m, .dead), (.loc 2, .cells true [.gl g.fresh 1 (n2.length + 1)])]).pushes [.flat true ((n2 ++ [e]).flatMap encI)]).get (.loc 5) = some b := by
  obtain ⟨go, gl⟩ := g
  simp only [Hp.get] at jc jm jb jl jk j5
  have l5 := (List.getElem?_eq_some_iff.1 j5).1
  have l0 := (List.getElem?_eq_some_iff.1 jc).1
  have l1 := (List.getElem?_eq_some_iff.1 jm).1
  have l2 := (List.getElem?_eq_some_iff.1 jb).1
  have l4 := (List.getElem?_eq_some_iff.1 jk).1
  have key : ∀ x, x < gl.length → x ≠ 1 → x ≠ m → x ≠ 2 → ∀ (A B C N : Blk), ((((gl.set 1 A).set m B).set 2 C) ++ [N])[x]? = gl[x]? := by
    intro x hx h1 h2 h3 A B C N
    rw [List.getElem?_append_left (by simpa using hx), List.getElem?_set_ne (Ne.symm h3), List.getElem?_set_ne (Ne.symm h2), List.getElem?_set_ne (Ne.symm h1)]
  refine ⟨Hp.grows_sets (updW_ok (g := ⟨go, gl⟩) jb jm jl), ⟨jo, ?_, ?_, ⟨gl.length, .inr (by omega), ?_, ?_⟩, ?_⟩, fun b hb => ?_⟩
  · show (_ ++ _)[_]? = _
    exact (key 0 l0 (by omega) (by omega) (by omega) _ _ _ _).trans jc
  · show ((((gl.set 1 _).set m _).set 2 _) ++ [_])[1]? = _
    rw [List.getElem?_append_left (by simpa using l1), List.getElem?_set_ne (show (2 : Nat) ≠ 1 by omega), List.getElem?_set_ne (show m ≠ 1 by omega), List.getElem?_set_self l1]
  · show ((((gl.set 1 _).set m _).set 2 _) ++ [_])[2]? = _
    rw [List.getElem?_append_left (by simpa using l2), List.getElem?_set_self (by simpa using l2)]
    simp [Hp.fresh]
  · show ((((gl.set 1 _).set m _).set 2 _) ++ [_])[gl.length]? = _
    rw [List.getElem?_append_right (by simp)]
    simp
  · show (_ ++ _)[_]? = _
    exact (key 4 l4 (by omega) (by omega) (by omega) _ _ _ _).trans jk
  · have hb : gl[5]? = some b := hb
    show (_ ++ _)[_]? = _
    exact (key 5 (List.getElem?_eq_some_iff.1 hb).1 (by omega) (by omega) (by omega) _ _ _ _).trans hb
theorem outer_fix {o : Vm.Id → Option Blk} {iy i1 i2 i3 : Vm.Id} {b0 b b1 b2 b3 : Blk} (h : o iy = some b) (n1 : iy ≠ i1) (n2 : iy ≠ i2) (n3 : iy ≠ i3) : outW (outW (outW (outW (outW o iy b0) i1 b1) i2 b2) i3 b3) iy b = outW (outW (outW o i1 b1) i2 b2) i3 b3 := by
  funext j
  unfold outW
  by_cases e : j = iy
  · subst e; rw [if_pos rfl, if_neg n3, if_neg n2, if_neg n1, h]
  · rw [if_neg e, if_neg e]
theorem cmpI_neg {x : Int} : cmpI x 0 < 0 ↔ x < 0 := by unfold cmpI; omega
theorem ahB_iff {l : Lnd} {a b : Int} : ahB l a b = true ↔ (wOf l b).lo * (wOf l a).hi - (wOf l b).hi * (wOf l a).lo < 0 := by
  unfold ahB fst2 wOf
  dsimp only
  rw [decide_eq_true_eq, Int.mul_comm (sAt l b.toNat).no, Int.mul_comm (sAt l b.toNat).so]
  omega
theorem vc_order (l : Lnd) (h : Hp) (o : Ok l) : VC Try.prog 53 [.fp (encN l)] h (ints (ordL l)) h := by
  have hn := o.n
  have hfl := selS_len (freeQ l) l.ss.length
  refine VC.body Try.func53 rfl Try.ntmps53 Try.call53 (h.grows_refl) rfl ?_; conv => whnf
  repeat' (first | (refine VLd.intro rfl ?_; conv => whnf) | (refine VArith.i64 (by first | omega | (dsimp only; omega)) ?_; conv => whnf) | (refine VNeed.intro (by first | rfl | (simp; omega)) ?_; conv => whnf) | (refine VMem.store rfl rfl rfl rfl ?_; conv => whnf) | (refine VSame.intro rfl ?_; conv => whnf) | (refine VDraw.go [] (by kernel_rfl) (by kernel_rfl) ?_; conv => whnf) | (refine VIte.dec (fun _ => ?_) (fun _ => ?_) <;> conv => whnf) | (refine VIte.ndec (fun _ => ?_) (fun _ => ?_) <;> conv => whnf) | (refine VIte.beq (fun _ => ?_) (fun _ => ?_) <;> conv => whnf) | (refine VIte.bne (fun _ => ?_) (fun _ => ?_) <;> conv => whnf) | (refine VIte.intro (fun _ => ?_) (fun _ => ?_) <;> conv => whnf) | (refine VCall.intro (vc_free l _) ?_; conv => whnf))
  refine VCode.tell [(3, .ptr (.loc 2) 0), (4, .ptr (.loc 0) 0), (9, vFree l)] [.cells true [.map (.loc 1)], .map [], .cells true [.gl (.loc 3) 1 0], .flat true []] (marks' := []) ?_ ?_
  · conv => whnf
    refine Retell.turn ⟨[2, 1, 0, 3], 3, [], []⟩ (TurnOk.mk' _ _ [] [] (OutOk.lift _) rfl (by decide) (BTos.cells rfl rfl rfl (by repeat' (first | exact VTo.undef | exact FrTo.leaf | refine FrTo.node ?_ ?_ ?_ | refine FrTo.none ?_ ?_ | exact VTo.sc (by first | rfl | (congr 1; omega) | (congr 1; simp; omega)) | exact VTos_dv _ _ | refine VTos.cons ?_ ?_ | exact VTos.nil | refine VTo.agg ?_ | refine VTo.tuple ?_ | refine VTo.func ?_ ?_ | exact VTo.fs | exact VTo.fp | exact VTo.nilptr | exact VTo.nilslice | exact VTo.nilfunc | exact VTo.ptr rfl | exact VTo.gl rfl | exact VTo.map rfl | exact VTo.yld rfl | exact VTo.fmMap rfl | exact VTo.fm | exact VTo.glNil' (by decide) rfl rfl | exact VTo.fsNil (by decide) | exact VTo.fsSl rfl rfl (by simp [flat_len encE_len]) | exact VTo.fpPtr rfl | exact VTo.fsGl rfl (by first | rfl | exact flat_len encI_len _ | exact flat_len encT_len _ | exact flat_len encS_len _ | exact flat_len encP_len _ | exact flat_len encL_len _ | exact flat_len encE_len _ | (simp [flat_len encP_len]; done) | simp [flat_len encI_len, flat_len encS_len]))) (BTos.map rfl rfl (RowTo.nil _) (RowTo.nil _) (BTos.cells rfl rfl rfl (by repeat' (first | exact VTo.undef | exact FrTo.leaf | refine FrTo.node ?_ ?_ ?_ | refine FrTo.none ?_ ?_ | exact VTo.sc (by first | rfl | (congr 1; omega) | (congr 1; simp; omega)) | exact VTos_dv _ _ | refine VTos.cons ?_ ?_ | exact VTos.nil | refine VTo.agg ?_ | refine VTo.tuple ?_ | refine VTo.func ?_ ?_ | exact VTo.fs | exact VTo.fp | exact VTo.nilptr | exact VTo.nilslice | exact VTo.nilfunc | exact VTo.ptr rfl | exact VTo.gl rfl | exact VTo.map rfl | exact VTo.yld rfl | exact VTo.fmMap rfl | exact VTo.fm | exact VTo.glNil' (by decide) rfl rfl | exact VTo.fsNil (by decide) | exact VTo.fsSl rfl rfl (by simp [flat_len encE_len]) | exact VTo.fpPtr rfl | exact VTo.fsGl rfl (by first | rfl | exact flat_len encI_len _ | exact flat_len encT_len _ | exact flat_len encS_len _ | exact flat_len encP_len _ | exact flat_len encL_len _ | exact flat_len encE_len _ | (simp [flat_len encP_len]; done) | simp [flat_len encI_len, flat_len encS_len]))) (BTos.new rfl BTos.nil)))) trivial trivial rfl) (by repeat' (first | exact VTo.undef | exact FrTo.leaf | refine FrTo.node ?_ ?_ ?_ | refine FrTo.none ?_ ?_ | exact VTo.sc (by first | rfl | (congr 1; omega) | (congr 1; simp; omega)) | exact VTos_dv _ _ | refine VTos.cons ?_ ?_ | exact VTos.nil | refine VTo.agg ?_ | refine VTo.tuple ?_ | refine VTo.func ?_ ?_ | exact VTo.fs | exact VTo.fp | exact VTo.nilptr | exact VTo.nilslice | exact VTo.nilfunc | exact VTo.ptr rfl | exact VTo.gl rfl | exact VTo.map rfl | exact VTo.yld rfl | exact VTo.fmMap rfl | exact VTo.fm | exact VTo.glNil' (by decide) rfl rfl | exact VTo.fsNil (by decide) | exact VTo.fsSl rfl rfl (by simp [flat_len encE_len]) | exact VTo.fpPtr rfl | exact VTo.fsGl rfl (by first | rfl | exact flat_len encI_len _ | exact flat_len encT_len _ | exact flat_len encS_len _ | exact flat_len encP_len _ | exact flat_len encL_len _ | exact flat_len encE_len _ | (simp [flat_len encP_len]; done) | simp [flat_len encI_len, flat_len encS_len]))) (by first | rfl | (repeat' (first | exact MkTo.nil | refine MkTo.keep rfl ?_ | refine MkTo.drop (by decide) rfl ?_)))
  · conv => whnf
    refine VCode.iterN l.ss.length (frY l) (fun k g => OJ h.lift (wMap l k) (frL l k) g) (fun _ _ => False) _ (.loc 5) rfl (iter_free l o) rfl rfl ⟨rfl, rfl, rfl, ⟨3, .inl rfl, rfl, rfl⟩, rfl⟩ ?_ ?_ ?_ ?_
    · rintro k g hk hy hJ
      have hs : l.ss[k]? = some l.ss[k] := List.getElem?_eq_getElem hk
      rw [frY_eq hs] at hy
      have hf : freeQ l k = false := by
        unfold freeQ
        rw [sAt_eq hs]
        cases hf : isFree l.ss[k]
        · rfl
        · rw [hf] at hy; cases hy
      have e1 : frL l (k + 1) = frL l k := by unfold frL; rw [selS, if_neg (by rw [hf]; decide)]
      unfold wMap at hJ ⊢
      rw [e1]; exact hJ
    · rintro k g vs hk hy hJ hlp
      have hs : l.ss[k]? = some l.ss[k] := List.getElem?_eq_getElem hk
      rw [frY_eq hs] at hy
      have es := sAt_eq hs
      have q1 := o.ss _ (List.getElem_mem hk)
      generalize l.ss[k] = s at hs hy es q1
      cases hft : isFree s
      · rw [hft] at hy; cases hy
      · rw [hft] at hy
        cases hy
        have hf : freeQ l k = true := by unfold freeQ; rw [es, hft]
        have e1 : frL l (k + 1) = frL l k ++ [(k : Int)] := by unfold frL; rw [selS, if_pos hf]
        have e2 : wMap l (k + 1) = wMap l k ++ [((k : Int), ⟨s.no, s.so⟩)] := by
          unfold wMap; rw [e1, List.map_append, List.map_cons, List.map_nil]; unfold wOf; rw [Int.toNat_natCast, es]
        have hh := wMap_has (l := l) (k := k)
        have hnl := selS_len (freeQ l) k
        have e3 : frL l k = selS (freeQ l) k := rfl
        rw [← e3] at hnl
        rw [e1, e2]
        generalize wMap l k = a2 at hJ hh
        generalize frL l k = n2 at hJ hnl
        obtain ⟨jo, jc, jm, ⟨m, hm, jb, jl⟩, jk⟩ := hJ
        have hm1 : Vm.Id.loc m ≠ .loc 1 := by intro h0; injection h0; omega
        have hm2 : Vm.Id.loc 2 ≠ .loc m := by intro h0; injection h0; omega
        have hm5 : Vm.Id.loc m ≠ .loc 5 := by intro h0; injection h0; omega
        have hm5' : Vm.Id.loc 5 ≠ .loc m := fun h0 => hm5 h0.symm
        obtain ⟨s1, s2, s3⟩ := OJ.step (e := (k : Int)) (v := ⟨s.no, s.so⟩) jo jc jm jb jl jk hm hlp
        refine Rnd.go hlp _ (s3 _ hlp) ?_ s2
        refine VRound.vy' hlp rfl rfl rfl s1 fun l0 => ?_
        refine VRound.tell [(3, .ptr (.out (.loc 2)) 0), (4, .ptr (.out (.loc 0)) 0), (10, I k), (11, aggT s)] ?_ ?_
        · conv => whnf
          refine Retell.turn ⟨[], 0, [], []⟩ (TurnOk.mk' _ _ [] [] (OutOk.lift _) rfl (by decide) (by repeat' (first | exact BTos.nil | refine BTos.flat rfl rfl (by first | rfl | simp) ?_ | refine BTos.new rfl ?_ | refine BTos.dead rfl rfl ?_ | refine BTos.esE rfl rfl ?_ | refine BTos.row rfl rfl rfl (RowTo.snoc (RowTo.one rfl (by simp))) ?_ | refine BTos.cells rfl rfl rfl (by repeat' (first | exact VTo.undef | exact FrTo.leaf | refine FrTo.node ?_ ?_ ?_ | refine FrTo.none ?_ ?_ | exact VTo.sc (by first | rfl | (congr 1; omega) | (congr 1; simp; omega)) | exact VTos_dv _ _ | refine VTos.cons ?_ ?_ | exact VTos.nil | refine VTo.agg ?_ | refine VTo.tuple ?_ | refine VTo.func ?_ ?_ | exact VTo.fs | exact VTo.fp | exact VTo.nilptr | exact VTo.nilslice | exact VTo.nilfunc | exact VTo.ptr rfl | exact VTo.gl rfl | exact VTo.map rfl | exact VTo.yld rfl | exact VTo.fmMap rfl | exact VTo.fm | exact VTo.glNil' (by decide) rfl rfl | exact VTo.fsNil (by decide) | exact VTo.fsSl rfl rfl (by simp [flat_len encE_len]) | exact VTo.fpPtr rfl | exact VTo.fsGl rfl (by first | rfl | exact flat_len encI_len _ | exact flat_len encT_len _ | exact flat_len encS_len _ | exact flat_len encP_len _ | exact flat_len encL_len _ | exact flat_len encE_len _ | (simp [flat_len encP_len]; done) | simp [flat_len encI_len, flat_len encS_len]))) ?_)) trivial trivial rfl) (by repeat' (first | exact VTo.undef | exact FrTo.leaf | refine FrTo.node ?_ ?_ ?_ | refine FrTo.none ?_ ?_ | exact VTo.sc (by first | rfl | (congr 1; omega) | (congr 1; simp; omega)) | exact VTos_dv _ _ | refine VTos.cons ?_ ?_ | exact VTos.nil | refine VTo.agg ?_ | refine VTo.tuple ?_ | refine VTo.func ?_ ?_ | exact VTo.fs | exact VTo.fp | exact VTo.nilptr | exact VTo.nilslice | exact VTo.nilfunc | exact VTo.ptr rfl | exact VTo.gl rfl | exact VTo.map rfl | exact VTo.yld rfl | exact VTo.fmMap rfl | exact VTo.fm | exact VTo.glNil' (by decide) rfl rfl | exact VTo.fsNil (by decide) | exact VTo.fsSl rfl rfl (by simp [flat_len encE_len]) | exact VTo.fpPtr rfl | exact VTo.fsGl rfl (by first | rfl | exact flat_len encI_len _ | exact flat_len encT_len _ | exact flat_len encS_len _ | exact flat_len encP_len _ | exact flat_len encL_len _ | exact flat_len encE_len _ | (simp [flat_len encP_len]; done) | simp [flat_len encI_len, flat_len encS_len]))) (by first | rfl | (repeat' (first | exact MkTo.nil | refine MkTo.keep rfl ?_ | refine MkTo.drop (by decide) rfl ?_)))
        · conv => whnf
          repeat (first | (refine VLd.intro rfl ?_; conv => whnf) | (refine VArith.i64 (by first | omega | (dsimp only; omega)) ?_; conv => whnf) | (refine VNeed.intro (by first | rfl | (simp; omega)) ?_; conv => whnf) | (refine VMem.store rfl rfl rfl rfl ?_; conv => whnf) | (refine VSame.intro rfl ?_; conv => whnf) | (refine VDraw.go [] (by kernel_rfl) (by kernel_rfl) ?_; conv => whnf))
          refine VBegin.intro (get_out hlp _) rfl ?_
          conv => whnf
          refine VDraw.go [(0, 3)] (by kernel_rfl) (by kernel_rfl) ?_
          conv => whnf
          refine VLd.cell rfl rfl (get_setO (by decide) jc _) rfl ?_
          conv => whnf
          repeat' (first | (refine VLd.intro rfl ?_; conv => whnf) | (refine VArith.i64 (by first | omega | (dsimp only; omega)) ?_; conv => whnf) | (refine VNeed.intro (by first | rfl | (simp; omega)) ?_; conv => whnf) | (refine VMem.store rfl rfl rfl rfl ?_; conv => whnf) | (refine VSame.intro rfl ?_; conv => whnf) | (refine VIte.dec (fun _ => ?_) (fun _ => ?_) <;> conv => whnf) | (refine VIte.ndec (fun _ => ?_) (fun _ => ?_) <;> conv => whnf) | (refine VIte.beq (fun _ => ?_) (fun _ => ?_) <;> conv => whnf) | (refine VIte.bne (fun _ => ?_) (fun _ => ?_) <;> conv => whnf) | (refine VIte.intro (fun _ => ?_) (fun _ => ?_) <;> conv => whnf) | (refine VCall.intro (vc_worth s _) ?_; conv => whnf))
          refine VMem.newW (a := a2) (e := (k : Int)) (v := ⟨s.no, s.so⟩) ((get_setO (by decide) jm _).trans (by rw [esW_ren])) hh ?_
          conv => whnf
          repeat' (first | (refine VLd.intro rfl ?_; conv => whnf) | (refine VArith.i64 (by first | omega | (dsimp only; omega)) ?_; conv => whnf) | (refine VNeed.intro (by first | rfl | (simp; omega)) ?_; conv => whnf) | (refine VMem.store rfl rfl rfl rfl ?_; conv => whnf) | (refine VSame.intro rfl ?_; conv => whnf) | (refine VIte.dec (fun _ => ?_) (fun _ => ?_) <;> conv => whnf) | (refine VIte.ndec (fun _ => ?_) (fun _ => ?_) <;> conv => whnf) | (refine VIte.beq (fun _ => ?_) (fun _ => ?_) <;> conv => whnf) | (refine VIte.bne (fun _ => ?_) (fun _ => ?_) <;> conv => whnf) | (refine VIte.intro (fun _ => ?_) (fun _ => ?_) <;> conv => whnf))
          refine VLd.cell rfl rfl (get_outNe (by decide) (get_setO (by decide) jb _)) rfl ?_
          conv => whnf
          repeat (first | (refine VLd.intro rfl ?_; conv => whnf) | (refine VArith.i64 (by first | omega | (dsimp only; omega)) ?_; conv => whnf) | (refine VNeed.intro (by first | rfl | (simp; omega)) ?_; conv => whnf) | (refine VMem.store rfl rfl rfl rfl ?_; conv => whnf) | (refine VSame.intro rfl ?_; conv => whnf) | (refine VDraw.go [] (by kernel_rfl) (by kernel_rfl) ?_; conv => whnf))
          refine VMem.app1B (α := Int) (l := n2) (k : Int) encI_len rfl (get_outNe hm1 (get_setO hm5 jl _)) rfl rfl rfl (by omega) ?_
          conv => whnf
          repeat (first | (refine VLd.intro rfl ?_; conv => whnf) | (refine VArith.i64 (by first | omega | (dsimp only; omega)) ?_; conv => whnf) | (refine VNeed.intro (by first | rfl | (simp; omega)) ?_; conv => whnf) | (refine VMem.store rfl rfl rfl rfl ?_; conv => whnf) | (refine VSame.intro rfl ?_; conv => whnf) | (refine VDraw.go [] (by kernel_rfl) (by kernel_rfl) ?_; conv => whnf))
          refine VMem.st1 rfl rfl rfl (b := .cells true [.gl (.out (.loc m)) 1 n2.length]) (get_outNe hm2 (get_outNe (by decide) (get_setO (by decide) jb _))) rfl ?_
          conv => whnf
          refine RFin.on (get_outNe (by decide) (get_outNe hm5' (get_outNe (by decide) (outW_get _ _ _ _)))) ?_
          refine VOut.upd [(.loc 1, .map (esW (a2 ++ [((k : Int), ⟨s.no, s.so⟩)]))), (.loc m, .dead), (.loc 2, .cells true [.gl g.fresh 1 (n2.length + 1)])] [.flat true ((n2 ++ ([(k : Int)] : List Int)).flatMap encI)] [2] 3 ?_ (updW_ok jb jm jl) ?_ ?_ ?_ ?_ ?_
          · rfl
          · decide
          · rfl
          · intro k b hk
            cases k with
            | zero => rw [List.getElem?_cons_zero, Option.some.injEq] at hk; subst hk; exact ⟨2, rfl, rfl⟩
            | succ k => simp at hk
          · intro σ x hx; exact hx
          · have e1 : (Blk.cells true [V.gl g.fresh 1 (n2.length + 1)]).ren (backR g.loc.length [2] 3) = .cells true [.gl (.loc 2) 1 (n2.length + 1)] := by simp [Blk.ren, V.ren, backR, Hp.fresh]
            simp only [List.map_cons, List.map_nil, e1, esW_ren]
            exact outer_fix (get_out hlp []) (by decide) hm5' (by decide)
    · rintro g hJ hlp
      have hs := fun (i : Vm.Id) (h : Hp) hh => vc_sort (frL l l.ss.length) (ahB l) (fun a b => cmpI ((wOf l b).lo * (wOf l a).hi - (wOf l b).hi * (wOf l a).lo) 0) 84 [.pt [.mp (keysW (wMap l l.ss.length)) (valsW (wMap l l.ss.length))]] i h hh (by show (selS _ _).length ≤ 19; omega)
        (fun a b ha hb => ⟨fun h => vc_cmp l o a b h ha hb, (cmpI_neg (x := (wOf l b).lo * (wOf l a).hi - (wOf l b).hi * (wOf l a).lo)).trans ahB_iff.symm⟩)
      have hol : (ordL l).length = (frL l l.ss.length).length := isrt_len _ _
      have e : isrt (ahB l) (frL l l.ss.length) = ordL l := rfl
      rw [e] at hs
      generalize wMap l l.ss.length = a2 at hJ hs
      generalize frL l l.ss.length = n2 at hJ hs hol
      obtain ⟨go, gl⟩ := g
      obtain ⟨jo, jc, jm, ⟨m, hm, jb, jl⟩, jk⟩ := hJ
      dsimp only at jo
      subst jo
      simp only [Hp.get] at jc jm jb jl jk
      have l0 := (List.getElem?_eq_some_iff.1 jc).1
      have l1 := (List.getElem?_eq_some_iff.1 jm).1
      have l2 := (List.getElem?_eq_some_iff.1 jb).1
      have lm := (List.getElem?_eq_some_iff.1 jl).1
      have key : ∀ (x : Nat) (A : Blk), x ≠ 5 → (gl.set 5 A)[x]? = gl[x]? := fun x A hx => List.getElem?_set_ne (Ne.symm hx)
      refine Told.mk [(3, .ptr (.loc 0) 0), (4, .fp [.mp (keysW a2) (valsW a2)])] [.cells true [.gl (.loc 1) 1 n2.length], .flat true (n2.flatMap encI)] (marks' := []) ?_ ?_
      · conv => whnf
        have hmn : ([2, m] : List Nat).Nodup := by simp; omega
        have hm4 : 4 ∉ ([2, m] : List Nat) := by simp; omega
        have ho : outsOk [(0, [D.mp (keysW a2) (valsW a2)])] [(1, keysW a2, valsW a2)] [2, m] [.cells true [.gl (.loc 1) 1 n2.length], .flat true (n2.flatMap encI)] = true := by
          have h9 : ∀ m' : Nat, outsOk [(0, [D.mp (keysW a2) (valsW a2)])] [(1, keysW a2, valsW a2)] [2, m' + 2] [.cells true [.gl (.loc 1) 1 n2.length], .flat true (n2.flatMap encI)] = true := fun _ => rfl
          have := h9 (m - 2)
          rw [show m - 2 + 2 = m by omega] at this
          exact this
        refine Retell.turn ⟨[2, m], gl.length, [(0, [.mp (keysW a2) (valsW a2)])], [(1, keysW a2, valsW a2)]⟩ (TurnOk.mk' _ _ [(0, [.mp (keysW a2) (valsW a2)])] [(1, keysW a2, valsW a2)] (OutOk.lift _) (Nat.ble_eq_true_of_le (by simp)) hmn
          (BTos.cells (blt_of l2) ((key 2 _ (by omega)).trans jb) rfl (by repeat' (first | exact VTo.undef | exact FrTo.leaf | refine FrTo.node ?_ ?_ ?_ | refine FrTo.none ?_ ?_ | exact VTo.sc (by first | rfl | (congr 1; omega) | (congr 1; simp; omega)) | exact VTos_dv _ _ | refine VTos.cons ?_ ?_ | exact VTos.nil | refine VTo.agg ?_ | refine VTo.tuple ?_ | refine VTo.func ?_ ?_ | exact VTo.fs | exact VTo.fp | exact VTo.nilptr | exact VTo.nilslice | exact VTo.nilfunc | exact VTo.ptr rfl | exact VTo.gl rfl | exact VTo.map rfl | exact VTo.yld rfl | exact VTo.fmMap rfl | exact VTo.fm | exact VTo.glNil' (by decide) rfl rfl | exact VTo.fsNil (by decide) | exact VTo.fsSl rfl rfl (by simp [flat_len encE_len]) | exact VTo.fpPtr rfl | exact VTo.fsGl rfl (by first | rfl | exact flat_len encI_len _ | exact flat_len encT_len _ | exact flat_len encS_len _ | exact flat_len encP_len _ | exact flat_len encL_len _ | exact flat_len encE_len _ | (simp [flat_len encP_len]; done) | simp [flat_len encI_len, flat_len encS_len]))) (BTos.flat (blt_of lm) ((key m _ (by omega)).trans jl) rfl BTos.nil))
          (FzAll.row ((key 0 _ (by omega)).trans jc) rfl (RowTo.vtos (VTos.cons (VTo.fmMap rfl) VTos.nil)) FzAll.nil) ⟨⟨esW a2, ((key 1 _ (by omega)).trans jm), EsTo.esW a2⟩, trivial⟩ ho) (by repeat' (first | exact VTo.undef | exact FrTo.leaf | refine FrTo.node ?_ ?_ ?_ | refine FrTo.none ?_ ?_ | exact VTo.sc (by first | rfl | (congr 1; omega) | (congr 1; simp; omega)) | exact VTos_dv _ _ | refine VTos.cons ?_ ?_ | exact VTos.nil | refine VTo.agg ?_ | refine VTo.tuple ?_ | refine VTo.func ?_ ?_ | exact VTo.fs | exact VTo.fp | exact VTo.nilptr | exact VTo.nilslice | exact VTo.nilfunc | exact VTo.ptr rfl | exact VTo.gl rfl | exact VTo.map rfl | exact VTo.yld rfl | exact VTo.fmMap rfl | exact VTo.fm | exact VTo.glNil' (by decide) rfl rfl | exact VTo.fsNil (by decide) | exact VTo.fsSl rfl rfl (by simp [flat_len encE_len]) | exact VTo.fpPtr rfl | exact VTo.fsGl rfl (by first | rfl | exact flat_len encI_len _ | exact flat_len encT_len _ | exact flat_len encS_len _ | exact flat_len encP_len _ | exact flat_len encL_len _ | exact flat_len encE_len _ | (simp [flat_len encP_len]; done) | simp [flat_len encI_len, flat_len encS_len])))
          (MkTo.drop hm4 ((key 4 _ (by omega)).trans jk) MkTo.nil)
      · conv => whnf
        repeat' (first | (refine VLd.intro rfl ?_; conv => whnf) | (refine VArith.i64 (by first | omega | (dsimp only; omega)) ?_; conv => whnf) | (refine VNeed.intro (by first | rfl | (simp; omega)) ?_; conv => whnf) | (refine VMem.store rfl rfl rfl rfl ?_; conv => whnf) | (refine VSame.intro rfl ?_; conv => whnf) | (refine VIte.dec (fun _ => ?_) (fun _ => ?_) <;> conv => whnf) | (refine VIte.ndec (fun _ => ?_) (fun _ => ?_) <;> conv => whnf) | (refine VIte.beq (fun _ => ?_) (fun _ => ?_) <;> conv => whnf) | (refine VIte.bne (fun _ => ?_) (fun _ => ?_) <;> conv => whnf) | (refine VIte.intro (fun _ => ?_) (fun _ => ?_) <;> conv => whnf) | (refine VCall.intro (hs _ _ rfl) ?_; conv => whnf))
        rw [← hol]
        refine VOut.data 2 [(1, (ordL l).flatMap encI)] [] rfl (by repeat' (first | exact FzAll.nil | refine FzAll.flat rfl ?_ | refine FzAll.row rfl rfl (RowTo.one rfl (by simp)) ?_)) (by exact FmAll.nil) (by repeat' (first | exact VTo.undef | exact FrTo.leaf | refine FrTo.node ?_ ?_ ?_ | refine FrTo.none ?_ ?_ | exact VTo.sc (by first | rfl | (congr 1; omega) | (congr 1; simp; omega)) | exact VTos_dv _ _ | refine VTos.cons ?_ ?_ | exact VTos.nil | refine VTo.agg ?_ | refine VTo.tuple ?_ | refine VTo.func ?_ ?_ | exact VTo.fs | exact VTo.fp | exact VTo.nilptr | exact VTo.nilslice | exact VTo.nilfunc | exact VTo.ptr rfl | exact VTo.gl rfl | exact VTo.map rfl | exact VTo.yld rfl | exact VTo.fmMap rfl | exact VTo.fm | exact VTo.glNil' (by decide) rfl rfl | exact VTo.fsNil (by decide) | exact VTo.fsSl rfl rfl (by simp [flat_len encE_len]) | exact VTo.fpPtr rfl | exact VTo.fsGl rfl (by first | rfl | exact flat_len encI_len _ | exact flat_len encT_len _ | exact flat_len encS_len _ | exact flat_len encP_len _ | exact flat_len encL_len _ | exact flat_len encE_len _ | (simp [flat_len encP_len]; done) | simp [flat_len encI_len, flat_len encS_len])))
    · rintro e g _ hF
      exact hF.elim
end Go.Proofs.Ytmpjpjfkbmlmfaa

