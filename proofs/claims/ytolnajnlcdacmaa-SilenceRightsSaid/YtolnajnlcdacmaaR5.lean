/- Part 5 of the proof that SilenceRights returns true for every file and every truth. No condition. -/
import Derived.Test.YtolnajnlcdacmaaR4
set_option linter.unusedVariables false
set_option linter.unusedSimpArgs false
open Go.Vm
namespace Go.Proofs.Ytolnajnlcdacmaa
set_option maxRecDepth 20000
set_option maxHeartbeats 2000000

theorem VOut.own1 {h : Hp} {loc : List Blk} {esz n : Nat} {ds : List D} (j L : Nat) (hL : Nat.ble loc.length L = true) (hj : loc[j]? = some (.flat true ds)) : VOut h ⟨h.lift, loc⟩ (.gl (.loc j) esz n) (.gl h.fresh esz n) (h.push (.flat true ds)) := by
  refine VOut.upd [] [.flat true ds] [j] L hL (by intro p hp; cases hp) (by simp) rfl ?_ ?_ rfl
  · intro k b hk
    cases k with
    | zero => rw [List.getElem?_cons_zero, Option.some.injEq] at hk; subst hk; exact ⟨j, rfl, hj⟩
    | succ k => simp at hk
  · intro σ x hx
    have : (V.gl h.fresh esz n).ren (backR h.loc.length [j] L) = .gl (.loc j) esz n := by simp [V.ren, backR, Hp.fresh]
    rw [this]; exact hx
theorem VOut.own2 {h : Hp} {loc : List Blk} {esz n : Nat} {ds : List D} {s : S} (j L : Nat) (hL : Nat.ble loc.length L = true) (hj : loc[j]? = some (.flat true ds)) : VOut h ⟨h.lift, loc⟩ (.tuple [.gl (.loc j) esz n, .s s]) (.tuple [.gl h.fresh esz n, .s s]) (h.push (.flat true ds)) := by
  refine VOut.upd [] [.flat true ds] [j] L hL (by intro p hp; cases hp) (by simp) rfl ?_ ?_ rfl
  · intro k b hk
    cases k with
    | zero => rw [List.getElem?_cons_zero, Option.some.injEq] at hk; subst hk; exact ⟨j, rfl, hj⟩
    | succ k => simp at hk
  · intro σ x hx
    have : (V.tuple [.gl h.fresh esz n, .s s]).ren (backR h.loc.length [j] L) = .tuple [.gl (.loc j) esz n, .s s] := by simp [V.ren, V.rens, backR, Hp.fresh]
    rw [this]; exact hx
theorem VOut.own3 {h : Hp} {loc : List Blk} {esz n : Nat} {ds : List D} {a b : S} (j L : Nat) (hL : Nat.ble loc.length L = true) (hj : loc[j]? = some (.flat true ds)) : VOut h ⟨h.lift, loc⟩ (.agg [.s a, .s b, .gl (.loc j) esz n]) (.agg [.s a, .s b, .gl h.fresh esz n]) (h.push (.flat true ds)) := by
  refine VOut.upd [] [.flat true ds] [j] L hL (by intro p hp; cases hp) (by simp) rfl ?_ ?_ rfl
  · intro k b hk
    cases k with
    | zero => rw [List.getElem?_cons_zero, Option.some.injEq] at hk; subst hk; exact ⟨j, rfl, hj⟩
    | succ k => simp at hk
  · intro σ x hx
    have : (V.agg [.s a, .s b, .gl h.fresh esz n]).ren (backR h.loc.length [j] L) = .agg [.s a, .s b, .gl (.loc j) esz n] := by simp [V.ren, V.rens, backR, Hp.fresh]
    rw [this]; exact hx
theorem vc_darisesO (f : Fil) (t : List Int) (h : Hp) (o : Okt f t) : VC Try.prog 69 [.fp (encDk f t)] h (.gl h.fresh 1 (arL f t).length) (h.push (.flat true ((arL f t).flatMap encI))) := by
  have hn := o.n
  have hlen := o.len
  unfold arL
  refine VC.body Try.func69 rfl Try.ntmps69 Try.call69 (h.grows_push _) rfl ?_
  conv => whnf
  repeat (first | (refine VLd.intro rfl ?_; conv => whnf) | (refine VArith.i64 (by omega) ?_; conv => whnf) | (refine VNeed.intro (by first | rfl | (simp; omega)) ?_; conv => whnf) | (refine VMem.store rfl rfl rfl rfl ?_; conv => whnf) | (refine VSame.intro rfl ?_; conv => whnf) | (refine VDraw.go [] (by kernel_rfl) (by kernel_rfl) ?_; conv => whnf))
  refine VCode.lp (fun k : Nat => [(0, .fp (encDk f t)), (3, .gl (.loc 0) 1 (selS (arB f t) k).length), (11, I t.length), (12, I k)]) (fun k => [.flat true ((selS (arB f t) k).flatMap encI)]) (fun k => k ≤ t.length) (fun k => t.length - k) 0 (Nat.zero_le _) ?_ ?_
  · conv => whnf
    refine Retell.turn ⟨[0], 0, [], []⟩ (TurnOk.mk' _ _ [] [] (OutOk.lift _) rfl (by decide) (by repeat' (first | exact BTos.nil | refine BTos.flat rfl rfl (by first | rfl | simp) ?_ | refine BTos.new rfl ?_ | refine BTos.dead rfl rfl ?_ | refine BTos.esE rfl rfl ?_ | refine BTos.row rfl rfl rfl (RowTo.snoc (RowTo.one rfl (by simp))) ?_ | refine BTos.cells rfl rfl rfl (by repeat' (first | exact VTo.undef | exact FrTo.leaf | refine FrTo.node ?_ ?_ ?_ | refine FrTo.none ?_ ?_ | exact VTo.sc (by first | rfl | (congr 1; omega) | (congr 1; simp; omega)) | exact VTos_dv _ _ | refine VTos.cons ?_ ?_ | exact VTos.nil | refine VTo.agg ?_ | refine VTo.tuple ?_ | refine VTo.func ?_ ?_ | exact VTo.fs | exact VTo.fp | exact VTo.nilptr | exact VTo.nilslice | exact VTo.nilfunc | exact VTo.ptr rfl | exact VTo.gl rfl | exact VTo.map rfl | exact VTo.yld rfl | exact VTo.fmMap rfl | exact VTo.fm | exact VTo.glNil' (by decide) rfl rfl | exact VTo.fsNil (by decide) | exact VTo.fsSl rfl rfl (by simp [flat_len encE_len]) | exact VTo.fpPtr rfl | exact VTo.fsGl rfl (by first | rfl | exact flat_len encI_len _ | exact flat_len encS_len _ | exact flat_len encP_len _ | exact flat_len encL_len _ | exact flat_len encE_len _ | (simp [flat_len encP_len]; done) | simp [flat_len encI_len, flat_len encS_len]))) ?_)) trivial trivial rfl) (by repeat' (first | exact VTo.undef | exact FrTo.leaf | refine FrTo.node ?_ ?_ ?_ | refine FrTo.none ?_ ?_ | exact VTo.sc (by first | rfl | (congr 1; omega) | (congr 1; simp; omega)) | exact VTos_dv _ _ | refine VTos.cons ?_ ?_ | exact VTos.nil | refine VTo.agg ?_ | refine VTo.tuple ?_ | refine VTo.func ?_ ?_ | exact VTo.fs | exact VTo.fp | exact VTo.nilptr | exact VTo.nilslice | exact VTo.nilfunc | exact VTo.ptr rfl | exact VTo.gl rfl | exact VTo.map rfl | exact VTo.yld rfl | exact VTo.fmMap rfl | exact VTo.fm | exact VTo.glNil' (by decide) rfl rfl | exact VTo.fsNil (by decide) | exact VTo.fsSl rfl rfl (by simp [flat_len encE_len]) | exact VTo.fpPtr rfl | exact VTo.fsGl rfl (by first | rfl | exact flat_len encI_len _ | exact flat_len encS_len _ | exact flat_len encP_len _ | exact flat_len encL_len _ | exact flat_len encE_len _ | (simp [flat_len encP_len]; done) | simp [flat_len encI_len, flat_len encS_len]))) (by first | rfl | (repeat' (first | exact MkTo.nil | refine MkTo.keep rfl ?_ | refine MkTo.drop (by decide) rfl ?_)))
  · intro k hk
    have hsl := selS_len (arB f t) k
    conv => whnf
    refine VIte.dec (fun h3 => ?_) (fun h3 => ?_)
    · conv => whnf
      repeat (first | (refine VLd.intro rfl ?_; conv => whnf) | (refine VArith.i64 (by omega) ?_; conv => whnf) | (refine VNeed.intro (by first | rfl | (simp; omega)) ?_; conv => whnf) | (refine VMem.store rfl rfl rfl rfl ?_; conv => whnf) | (refine VSame.intro rfl ?_; conv => whnf) | (refine VDraw.go [] (by kernel_rfl) (by kernel_rfl) ?_; conv => whnf))
      refine VCall.intro (vc_chn f t k _ o) ?_
      cases ha : arB f t k
      · rw [chn_none o (by omega) ha]
        conv => whnf
        repeat (first | (refine VLd.intro rfl ?_; conv => whnf) | (refine VArith.i64 (by omega) ?_; conv => whnf) | (refine VNeed.intro (by first | rfl | (simp; omega)) ?_; conv => whnf) | (refine VMem.store rfl rfl rfl rfl ?_; conv => whnf) | (refine VSame.intro rfl ?_; conv => whnf) | (refine VDraw.go [] (by kernel_rfl) (by kernel_rfl) ?_; conv => whnf))
        refine LEnd.intro (k + 1) (by omega) (by omega) ?_
        conv => whnf
        rw [selS, ha, if_neg (by simp)]
        refine Retell.turn ⟨[0], 2, [], []⟩ (TurnOk.mk' _ _ [] [] (OutOk.lift _) rfl (by decide) (by repeat' (first | exact BTos.nil | refine BTos.flat rfl rfl (by first | rfl | simp) ?_ | refine BTos.new rfl ?_ | refine BTos.dead rfl rfl ?_ | refine BTos.esE rfl rfl ?_ | refine BTos.row rfl rfl rfl (RowTo.snoc (RowTo.one rfl (by simp))) ?_ | refine BTos.cells rfl rfl rfl (by repeat' (first | exact VTo.undef | exact FrTo.leaf | refine FrTo.node ?_ ?_ ?_ | refine FrTo.none ?_ ?_ | exact VTo.sc (by first | rfl | (congr 1; omega) | (congr 1; simp; omega)) | exact VTos_dv _ _ | refine VTos.cons ?_ ?_ | exact VTos.nil | refine VTo.agg ?_ | refine VTo.tuple ?_ | refine VTo.func ?_ ?_ | exact VTo.fs | exact VTo.fp | exact VTo.nilptr | exact VTo.nilslice | exact VTo.nilfunc | exact VTo.ptr rfl | exact VTo.gl rfl | exact VTo.map rfl | exact VTo.yld rfl | exact VTo.fmMap rfl | exact VTo.fm | exact VTo.glNil' (by decide) rfl rfl | exact VTo.fsNil (by decide) | exact VTo.fsSl rfl rfl (by simp [flat_len encE_len]) | exact VTo.fpPtr rfl | exact VTo.fsGl rfl (by first | rfl | exact flat_len encI_len _ | exact flat_len encS_len _ | exact flat_len encP_len _ | exact flat_len encL_len _ | exact flat_len encE_len _ | (simp [flat_len encP_len]; done) | simp [flat_len encI_len, flat_len encS_len]))) ?_)) trivial trivial rfl) (by repeat' (first | exact VTo.undef | exact FrTo.leaf | refine FrTo.node ?_ ?_ ?_ | refine FrTo.none ?_ ?_ | exact VTo.sc (by first | rfl | (congr 1; omega) | (congr 1; simp; omega)) | exact VTos_dv _ _ | refine VTos.cons ?_ ?_ | exact VTos.nil | refine VTo.agg ?_ | refine VTo.tuple ?_ | refine VTo.func ?_ ?_ | exact VTo.fs | exact VTo.fp | exact VTo.nilptr | exact VTo.nilslice | exact VTo.nilfunc | exact VTo.ptr rfl | exact VTo.gl rfl | exact VTo.map rfl | exact VTo.yld rfl | exact VTo.fmMap rfl | exact VTo.fm | exact VTo.glNil' (by decide) rfl rfl | exact VTo.fsNil (by decide) | exact VTo.fsSl rfl rfl (by simp [flat_len encE_len]) | exact VTo.fpPtr rfl | exact VTo.fsGl rfl (by first | rfl | exact flat_len encI_len _ | exact flat_len encS_len _ | exact flat_len encP_len _ | exact flat_len encL_len _ | exact flat_len encE_len _ | (simp [flat_len encP_len]; done) | simp [flat_len encI_len, flat_len encS_len]))) (by first | rfl | (repeat' (first | exact MkTo.nil | refine MkTo.keep rfl ?_ | refine MkTo.drop (by decide) rfl ?_)))
      · obtain ⟨hi, hc, _⟩ := chn_some o (by omega) ha
        rw [hc]
        conv => whnf
        repeat (first | (refine VLd.intro rfl ?_; conv => whnf) | (refine VArith.i64 (by omega) ?_; conv => whnf) | (refine VNeed.intro (by first | rfl | (simp; omega)) ?_; conv => whnf) | (refine VMem.store rfl rfl rfl rfl ?_; conv => whnf) | (refine VSame.intro rfl ?_; conv => whnf) | (refine VDraw.go [] (by kernel_rfl) (by kernel_rfl) ?_; conv => whnf))
        refine VMem.app1 (k : Int) encI_len rfl rfl rfl rfl rfl (by omega) ?_
        conv => whnf
        repeat (first | (refine VLd.intro rfl ?_; conv => whnf) | (refine VArith.i64 (by omega) ?_; conv => whnf) | (refine VNeed.intro (by first | rfl | (simp; omega)) ?_; conv => whnf) | (refine VMem.store rfl rfl rfl rfl ?_; conv => whnf) | (refine VSame.intro rfl ?_; conv => whnf) | (refine VDraw.go [] (by kernel_rfl) (by kernel_rfl) ?_; conv => whnf))
        refine LEnd.intro (k + 1) (by omega) (by omega) ?_
        conv => whnf
        rw [selS, ha, if_pos rfl, List.length_append]
        refine Retell.turn ⟨[3], 4, [], []⟩ (TurnOk.mk' _ _ [] [] (OutOk.lift _) rfl (by decide) (by repeat' (first | exact BTos.nil | refine BTos.flat rfl rfl (by first | rfl | simp) ?_ | refine BTos.new rfl ?_ | refine BTos.dead rfl rfl ?_ | refine BTos.esE rfl rfl ?_ | refine BTos.row rfl rfl rfl (RowTo.snoc (RowTo.one rfl (by simp))) ?_ | refine BTos.cells rfl rfl rfl (by repeat' (first | exact VTo.undef | exact FrTo.leaf | refine FrTo.node ?_ ?_ ?_ | refine FrTo.none ?_ ?_ | exact VTo.sc (by first | rfl | (congr 1; omega) | (congr 1; simp; omega)) | exact VTos_dv _ _ | refine VTos.cons ?_ ?_ | exact VTos.nil | refine VTo.agg ?_ | refine VTo.tuple ?_ | refine VTo.func ?_ ?_ | exact VTo.fs | exact VTo.fp | exact VTo.nilptr | exact VTo.nilslice | exact VTo.nilfunc | exact VTo.ptr rfl | exact VTo.gl rfl | exact VTo.map rfl | exact VTo.yld rfl | exact VTo.fmMap rfl | exact VTo.fm | exact VTo.glNil' (by decide) rfl rfl | exact VTo.fsNil (by decide) | exact VTo.fsSl rfl rfl (by simp [flat_len encE_len]) | exact VTo.fpPtr rfl | exact VTo.fsGl rfl (by first | rfl | exact flat_len encI_len _ | exact flat_len encS_len _ | exact flat_len encP_len _ | exact flat_len encL_len _ | exact flat_len encE_len _ | (simp [flat_len encP_len]; done) | simp [flat_len encI_len, flat_len encS_len]))) ?_)) trivial trivial rfl) (by repeat' (first | exact VTo.undef | exact FrTo.leaf | refine FrTo.node ?_ ?_ ?_ | refine FrTo.none ?_ ?_ | exact VTo.sc (by first | rfl | (congr 1; omega) | (congr 1; simp; omega)) | exact VTos_dv _ _ | refine VTos.cons ?_ ?_ | exact VTos.nil | refine VTo.agg ?_ | refine VTo.tuple ?_ | refine VTo.func ?_ ?_ | exact VTo.fs | exact VTo.fp | exact VTo.nilptr | exact VTo.nilslice | exact VTo.nilfunc | exact VTo.ptr rfl | exact VTo.gl rfl | exact VTo.map rfl | exact VTo.yld rfl | exact VTo.fmMap rfl | exact VTo.fm | exact VTo.glNil' (by decide) rfl rfl | exact VTo.fsNil (by decide) | exact VTo.fsSl rfl rfl (by simp [flat_len encE_len]) | exact VTo.fpPtr rfl | exact VTo.fsGl rfl (by first | rfl | exact flat_len encI_len _ | exact flat_len encS_len _ | exact flat_len encP_len _ | exact flat_len encL_len _ | exact flat_len encE_len _ | (simp [flat_len encP_len]; done) | simp [flat_len encI_len, flat_len encS_len]))) (by first | rfl | (repeat' (first | exact MkTo.nil | refine MkTo.keep rfl ?_ | refine MkTo.drop (by decide) rfl ?_)))
    · conv => whnf
      have hk' : k = t.length := by omega
      subst hk'
      repeat (first | (refine VLd.intro rfl ?_; conv => whnf) | (refine VArith.i64 (by omega) ?_; conv => whnf) | (refine VNeed.intro (by first | rfl | (simp; omega)) ?_; conv => whnf) | (refine VMem.store rfl rfl rfl rfl ?_; conv => whnf) | (refine VSame.intro rfl ?_; conv => whnf) | (refine VDraw.go [] (by kernel_rfl) (by kernel_rfl) ?_; conv => whnf))
      exact VOut.own1 0 1 rfl rfl
theorem vc_ArisesO (f : Fil) (t : List Int) (h : Hp) (hn : f.ps.length ≤ 4000000) (hl : t.length ≤ 4000000) (h0 : toldE f t = 0) : VC Try.prog 29 [vF f, ints t] h (.tuple [.gl h.fresh 1 (arL f t).length, I 0]) (h.push (.flat true ((arL f t).flatMap encI))) := by
  refine VC.body Try.func29 rfl Try.ntmps29 Try.call29 (h.grows_push _) rfl ?_
  conv => whnf
  repeat' (first | (refine VLd.intro rfl ?_; conv => whnf) | (refine VArith.i64 (by omega) ?_; conv => whnf) | (refine VNeed.intro (by first | rfl | (simp; omega)) ?_; conv => whnf) | (refine VMem.store rfl rfl rfl rfl ?_; conv => whnf) | (refine VSame.intro rfl ?_; conv => whnf) | (refine VDraw.go [] (by kernel_rfl) (by kernel_rfl) ?_; conv => whnf) | (refine VIte.dec (fun _ => ?_) (fun _ => ?_) <;> conv => whnf) | (refine VIte.ndec (fun _ => ?_) (fun _ => ?_) <;> conv => whnf) | (refine VIte.beq (fun _ => ?_) (fun _ => ?_) <;> conv => whnf) | (refine VIte.bne (fun _ => ?_) (fun _ => ?_) <;> conv => whnf) | (refine VIte.intro (fun _ => ?_) (fun _ => ?_) <;> conv => whnf) | (refine VCall.intro (vc_begun_ok f t _ hn hl h0) ?_; conv => whnf))
  refine VCall.intro (vc_darisesO f t _ (told_ok h0)) ?_
  conv => whnf
  repeat (first | (refine VLd.intro rfl ?_; conv => whnf) | (refine VArith.i64 (by omega) ?_; conv => whnf) | (refine VNeed.intro (by first | rfl | (simp; omega)) ?_; conv => whnf) | (refine VMem.store rfl rfl rfl rfl ?_; conv => whnf) | (refine VSame.intro rfl ?_; conv => whnf) | (refine VDraw.go [] (by kernel_rfl) (by kernel_rfl) ?_; conv => whnf))
  exact VOut.own2 1 2 rfl rfl
theorem vc_FewestO (f : Fil) (t : List Int) (p : Nat) (h : Hp) (hl : t.length ≤ 4000000) (h0 : toldE f t = 0) (o : Shw f t p) : VC Try.prog 30 [vF f, ints t, I p] h (.tuple [.gl h.fresh 1 (few f t p).length, I 0]) (h.push (.flat true ((few f t p).flatMap encI))) := by
  have hlen := o.len
  have hn' := o.n
  have hlt := o.lt
  have hY := o.y
  obtain ⟨hi, c⟩ := InCh.of o
  have hfar := o.far
  have hph := c.ph
  have hhl := c.hl
  have hfl := fst_le f t p
  have hfin : few f t p = (fewS f t (fst f t p) p p p).reverse := rfl
  have hff : tAt t (fst f t p) ≤ tAt t p := by omega
  rw [hfin]
  have hfl2 := fewS_len f t (fst f t p) p p p
  obtain ⟨F, hF⟩ : ∃ F, F = fewS f t (fst f t p) p p p := ⟨_, rfl⟩
  rw [← hF] at hfl2 ⊢
  obtain ⟨lo, hlo⟩ : ∃ lo, lo = fst f t p := ⟨_, rfl⟩
  refine VC.body Try.func30 rfl Try.ntmps30 Try.call30 (h.grows_push _) rfl ?_
  conv => whnf
  repeat' (first | (refine VLd.intro rfl ?_; conv => whnf) | (refine VArith.i64 (by omega) ?_; conv => whnf) | (refine VNeed.intro (by first | rfl | (simp; omega)) ?_; conv => whnf) | (refine VMem.store rfl rfl rfl rfl ?_; conv => whnf) | (refine VSame.intro rfl ?_; conv => whnf) | (refine VDraw.go [] (by kernel_rfl) (by kernel_rfl) ?_; conv => whnf) | (refine VIte.dec (fun _ => ?_) (fun _ => ?_) <;> conv => whnf) | (refine VIte.ndec (fun _ => ?_) (fun _ => ?_) <;> conv => whnf) | (refine VIte.beq (fun _ => ?_) (fun _ => ?_) <;> conv => whnf) | (refine VIte.bne (fun _ => ?_) (fun _ => ?_) <;> conv => whnf) | (refine VIte.intro (fun _ => ?_) (fun _ => ?_) <;> conv => whnf) | (refine VCall.intro (vc_shown_ok f t p hi _ hl o h0 c.hc) ?_; conv => whnf))
  rw [← hlo] at hfl hfar hF hff ⊢
  refine VCode.lp (fun x : Nat × List Int => [(1, ints t), (2, I p), (8, .fp (encDk f t)), (9, .ptr (.loc 0) 0), (11, .gl (.loc 1) 1 (x.2 ++ [(x.1 : Int)]).length), (12, I x.1)])
    (fun x => [.flat true [DI lo, DI hi], .flat true ((x.2 ++ [(x.1 : Int)]).flatMap encI)]) (fun x => lo ≤ x.1 ∧ x.1 ≤ p ∧ ∃ n, x.1 ≤ n ∧ F = x.2 ++ fewS f t lo p n x.1) (fun x => x.1) (p, []) ⟨hfl, Nat.le_refl _, p, Nat.le_refl _, hF⟩ ?_ ?_
  · conv => whnf
    refine Retell.turn ⟨[1,2], 3, [], []⟩ (TurnOk.mk' _ _ [] [] (OutOk.lift _) rfl (by decide) (by repeat' (first | exact BTos.nil | refine BTos.flat rfl rfl (by first | rfl | simp) ?_ | refine BTos.new rfl ?_ | refine BTos.dead rfl rfl ?_ | refine BTos.esE rfl rfl ?_ | refine BTos.row rfl rfl rfl (RowTo.snoc (RowTo.one rfl (by simp))) ?_ | refine BTos.cells rfl rfl rfl (by repeat' (first | exact VTo.undef | exact FrTo.leaf | refine FrTo.node ?_ ?_ ?_ | refine FrTo.none ?_ ?_ | exact VTo.sc (by first | rfl | (congr 1; omega) | (congr 1; simp; omega)) | exact VTos_dv _ _ | refine VTos.cons ?_ ?_ | exact VTos.nil | refine VTo.agg ?_ | refine VTo.tuple ?_ | refine VTo.func ?_ ?_ | exact VTo.fs | exact VTo.fp | exact VTo.nilptr | exact VTo.nilslice | exact VTo.nilfunc | exact VTo.ptr rfl | exact VTo.gl rfl | exact VTo.map rfl | exact VTo.yld rfl | exact VTo.fmMap rfl | exact VTo.fm | exact VTo.glNil' (by decide) rfl rfl | exact VTo.fsNil (by decide) | exact VTo.fsSl rfl rfl (by simp [flat_len encE_len]) | exact VTo.fpPtr rfl | exact VTo.fsGl rfl (by first | rfl | exact flat_len encI_len _ | exact flat_len encS_len _ | exact flat_len encP_len _ | exact flat_len encL_len _ | exact flat_len encE_len _ | (simp [flat_len encP_len]; done) | simp [flat_len encI_len, flat_len encS_len]))) ?_)) trivial trivial rfl) (by repeat' (first | exact VTo.undef | exact FrTo.leaf | refine FrTo.node ?_ ?_ ?_ | refine FrTo.none ?_ ?_ | exact VTo.sc (by first | rfl | (congr 1; omega) | (congr 1; simp; omega)) | exact VTos_dv _ _ | refine VTos.cons ?_ ?_ | exact VTos.nil | refine VTo.agg ?_ | refine VTo.tuple ?_ | refine VTo.func ?_ ?_ | exact VTo.fs | exact VTo.fp | exact VTo.nilptr | exact VTo.nilslice | exact VTo.nilfunc | exact VTo.ptr rfl | exact VTo.gl rfl | exact VTo.map rfl | exact VTo.yld rfl | exact VTo.fmMap rfl | exact VTo.fm | exact VTo.glNil' (by decide) rfl rfl | exact VTo.fsNil (by decide) | exact VTo.fsSl rfl rfl (by simp [flat_len encE_len]) | exact VTo.fpPtr rfl | exact VTo.fsGl rfl (by first | rfl | exact flat_len encI_len _ | exact flat_len encS_len _ | exact flat_len encP_len _ | exact flat_len encL_len _ | exact flat_len encE_len _ | (simp [flat_len encP_len]; done) | simp [flat_len encI_len, flat_len encS_len]))) (by first | rfl | (repeat' (first | exact MkTo.nil | refine MkTo.keep rfl ?_ | refine MkTo.drop (by decide) rfl ?_)))
  · rintro ⟨a, pre⟩ ⟨h1, h2, n, h3, h4⟩
    simp only at h1 h2 h3 h4
    have ha : t[a]? = some t[a] := List.getElem?_eq_getElem (by omega)
    have hp : t[p]? = some t[p] := List.getElem?_eq_getElem (by omega)
    have b1 := o.yr ha
    have b2 := o.yr hp
    have e1 := tAt_eq ha
    have e2 := tAt_eq hp
    have hla : lo < a → jmp f t lo a a < a := by intro h5; have := c.jmp_lt (a := a) (by omega) (by omega); rw [← hlo] at this; exact this
    have hJ := jmp_ge f t lo a a h1
    generalize t[a] = y at ha b1 e1
    generalize t[p] = z at hp b2 e2
    conv => whnf
    repeat' (first | (refine VLd.intro rfl ?_; conv => whnf) | (refine VArith.i64 (by omega) ?_; conv => whnf) | (refine VNeed.intro (by first | rfl | (simp; omega)) ?_; conv => whnf) | (refine VMem.store rfl rfl rfl rfl ?_; conv => whnf) | (refine VSame.intro rfl ?_; conv => whnf) | (refine VDraw.go [] (by kernel_rfl) (by kernel_rfl) ?_; conv => whnf) | (refine VIte.dec (fun _ => ?_) (fun _ => ?_) <;> conv => whnf) | (refine VIte.ndec (fun _ => ?_) (fun _ => ?_) <;> conv => whnf) | (refine VIte.beq (fun _ => ?_) (fun _ => ?_) <;> conv => whnf) | (refine VIte.bne (fun _ => ?_) (fun _ => ?_) <;> conv => whnf) | (refine VIte.intro (fun _ => ?_) (fun _ => ?_) <;> conv => whnf) | (refine VAny.ix encI_len a rfl rfl ha ?_; conv => whnf) | (refine VAny.ix encI_len p rfl rfl hp ?_; conv => whnf))
    · rename_i h5
      have hlo2 : lo < a := by
        rcases Nat.eq_or_lt_of_le h1 with h6 | h6
        · subst h6; omega
        · exact h6
      have hja := hla hlo2
      obtain ⟨n, rfl⟩ : ∃ m, n = m + 1 := ⟨n - 1, by omega⟩
      rw [fewS, if_pos (by omega)] at h4
      obtain ⟨J, hJe⟩ : ∃ J, J = jmp f t lo a a := ⟨_, rfl⟩
      rw [← hJe] at h4 hja hJ
      have hpl : pre.length ≤ 16 := by
        have := congrArg List.length h4
        simp at this; omega
      refine VCode.lp (fun x : Nat => [(1, ints t), (2, I p), (8, .fp (encDk f t)), (9, .ptr (.loc 0) 0), (11, .gl (.loc 1) 1 (pre ++ [(a : Int)]).length), (12, I a), (13, I x)])
        (fun _ => [.flat true [DI lo, DI hi], .flat true ((pre ++ [(a : Int)]).flatMap encI)]) (fun x => lo ≤ x ∧ x ≤ a ∧ J = jmp f t lo a x) (fun x => x) a ⟨h1, Nat.le_refl _, hJe⟩ ?_ ?_
      · conv => whnf
        refine Retell.turn ⟨[0,1], 2, [], []⟩ (TurnOk.mk' _ _ [] [] (OutOk.lift _) rfl (by decide) (by repeat' (first | exact BTos.nil | refine BTos.flat rfl rfl (by first | rfl | simp) ?_ | refine BTos.new rfl ?_ | refine BTos.dead rfl rfl ?_ | refine BTos.esE rfl rfl ?_ | refine BTos.row rfl rfl rfl (RowTo.snoc (RowTo.one rfl (by simp))) ?_ | refine BTos.cells rfl rfl rfl (by repeat' (first | exact VTo.undef | exact FrTo.leaf | refine FrTo.node ?_ ?_ ?_ | refine FrTo.none ?_ ?_ | exact VTo.sc (by first | rfl | (congr 1; omega) | (congr 1; simp; omega)) | exact VTos_dv _ _ | refine VTos.cons ?_ ?_ | exact VTos.nil | refine VTo.agg ?_ | refine VTo.tuple ?_ | refine VTo.func ?_ ?_ | exact VTo.fs | exact VTo.fp | exact VTo.nilptr | exact VTo.nilslice | exact VTo.nilfunc | exact VTo.ptr rfl | exact VTo.gl rfl | exact VTo.map rfl | exact VTo.yld rfl | exact VTo.fmMap rfl | exact VTo.fm | exact VTo.glNil' (by decide) rfl rfl | exact VTo.fsNil (by decide) | exact VTo.fsSl rfl rfl (by simp [flat_len encE_len]) | exact VTo.fpPtr rfl | exact VTo.fsGl rfl (by first | rfl | exact flat_len encI_len _ | exact flat_len encS_len _ | exact flat_len encP_len _ | exact flat_len encL_len _ | exact flat_len encE_len _ | (simp [flat_len encP_len]; done) | simp [flat_len encI_len, flat_len encS_len]))) ?_)) trivial trivial rfl) (by repeat' (first | exact VTo.undef | exact FrTo.leaf | refine FrTo.node ?_ ?_ ?_ | refine FrTo.none ?_ ?_ | exact VTo.sc (by first | rfl | (congr 1; omega) | (congr 1; simp; omega)) | exact VTos_dv _ _ | refine VTos.cons ?_ ?_ | exact VTos.nil | refine VTo.agg ?_ | refine VTo.tuple ?_ | refine VTo.func ?_ ?_ | exact VTo.fs | exact VTo.fp | exact VTo.nilptr | exact VTo.nilslice | exact VTo.nilfunc | exact VTo.ptr rfl | exact VTo.gl rfl | exact VTo.map rfl | exact VTo.yld rfl | exact VTo.fmMap rfl | exact VTo.fm | exact VTo.glNil' (by decide) rfl rfl | exact VTo.fsNil (by decide) | exact VTo.fsSl rfl rfl (by simp [flat_len encE_len]) | exact VTo.fpPtr rfl | exact VTo.fsGl rfl (by first | rfl | exact flat_len encI_len _ | exact flat_len encS_len _ | exact flat_len encP_len _ | exact flat_len encL_len _ | exact flat_len encE_len _ | (simp [flat_len encP_len]; done) | simp [flat_len encI_len, flat_len encS_len]))) (by first | rfl | (repeat' (first | exact MkTo.nil | refine MkTo.keep rfl ?_ | refine MkTo.drop (by decide) rfl ?_)))
      · rintro x ⟨g1, g2, g3⟩
        have hx : t[x - 1]? = some t[x - 1] := List.getElem?_eq_getElem (by omega)
        have b3 := o.yr hx
        have e3 := tAt_eq hx
        generalize t[x - 1] = w at hx b3 e3
        have hne : ¬ (lo < x ∧ y - w ≤ f.G) → J = x := by
          intro hg
          rw [g3]
          cases x with
          | zero => rfl
          | succ x =>
            simp only [Nat.add_sub_cancel] at e3
            rw [jmp, if_neg (by omega)]
        have hfin2 : J = x → F = (pre ++ [(a : Int)]) ++ fewS f t lo p n x := by intro hg; rw [h4, hg, List.append_assoc]; rfl
        conv => whnf
        repeat' (first | (refine VLd.intro rfl ?_; conv => whnf) | (refine VArith.i64 (by omega) ?_; conv => whnf) | (refine VNeed.intro (by first | rfl | (simp; omega)) ?_; conv => whnf) | (refine VMem.store rfl rfl rfl rfl ?_; conv => whnf) | (refine VSame.intro rfl ?_; conv => whnf) | (refine VDraw.go [] (by kernel_rfl) (by kernel_rfl) ?_; conv => whnf) | (refine VIte.dec (fun _ => ?_) (fun _ => ?_) <;> conv => whnf) | (refine VIte.ndec (fun _ => ?_) (fun _ => ?_) <;> conv => whnf) | (refine VIte.beq (fun _ => ?_) (fun _ => ?_) <;> conv => whnf) | (refine VIte.bne (fun _ => ?_) (fun _ => ?_) <;> conv => whnf) | (refine VIte.intro (fun _ => ?_) (fun _ => ?_) <;> conv => whnf) | (refine VAny.ix encI_len a rfl rfl ha ?_; conv => whnf) | (refine VAny.ix encI_len (x - 1) (by omega) rfl hx ?_; conv => whnf))
        · obtain ⟨x, rfl⟩ : ∃ m, x = m + 1 := ⟨x - 1, by omega⟩
          simp only [Nat.add_sub_cancel] at e3
          rw [jmp, if_pos (by omega)] at g3
          refine LEnd.intro x ⟨by omega, by omega, g3⟩ (by omega) ?_
          conv => whnf
          refine Retell.turn ⟨[0,1], 2, [], []⟩ (TurnOk.mk' _ _ [] [] (OutOk.lift _) rfl (by decide) (by repeat' (first | exact BTos.nil | refine BTos.flat rfl rfl (by first | rfl | simp) ?_ | refine BTos.new rfl ?_ | refine BTos.dead rfl rfl ?_ | refine BTos.esE rfl rfl ?_ | refine BTos.row rfl rfl rfl (RowTo.snoc (RowTo.one rfl (by simp))) ?_ | refine BTos.cells rfl rfl rfl (by repeat' (first | exact VTo.undef | exact FrTo.leaf | refine FrTo.node ?_ ?_ ?_ | refine FrTo.none ?_ ?_ | exact VTo.sc (by first | rfl | (congr 1; omega) | (congr 1; simp; omega)) | exact VTos_dv _ _ | refine VTos.cons ?_ ?_ | exact VTos.nil | refine VTo.agg ?_ | refine VTo.tuple ?_ | refine VTo.func ?_ ?_ | exact VTo.fs | exact VTo.fp | exact VTo.nilptr | exact VTo.nilslice | exact VTo.nilfunc | exact VTo.ptr rfl | exact VTo.gl rfl | exact VTo.map rfl | exact VTo.yld rfl | exact VTo.fmMap rfl | exact VTo.fm | exact VTo.glNil' (by decide) rfl rfl | exact VTo.fsNil (by decide) | exact VTo.fsSl rfl rfl (by simp [flat_len encE_len]) | exact VTo.fpPtr rfl | exact VTo.fsGl rfl (by first | rfl | exact flat_len encI_len _ | exact flat_len encS_len _ | exact flat_len encP_len _ | exact flat_len encL_len _ | exact flat_len encE_len _ | (simp [flat_len encP_len]; done) | simp [flat_len encI_len, flat_len encS_len]))) ?_)) trivial trivial rfl) (by repeat' (first | exact VTo.undef | exact FrTo.leaf | refine FrTo.node ?_ ?_ ?_ | refine FrTo.none ?_ ?_ | exact VTo.sc (by first | rfl | (congr 1; omega) | (congr 1; simp; omega)) | exact VTos_dv _ _ | refine VTos.cons ?_ ?_ | exact VTos.nil | refine VTo.agg ?_ | refine VTo.tuple ?_ | refine VTo.func ?_ ?_ | exact VTo.fs | exact VTo.fp | exact VTo.nilptr | exact VTo.nilslice | exact VTo.nilfunc | exact VTo.ptr rfl | exact VTo.gl rfl | exact VTo.map rfl | exact VTo.yld rfl | exact VTo.fmMap rfl | exact VTo.fm | exact VTo.glNil' (by decide) rfl rfl | exact VTo.fsNil (by decide) | exact VTo.fsSl rfl rfl (by simp [flat_len encE_len]) | exact VTo.fpPtr rfl | exact VTo.fsGl rfl (by first | rfl | exact flat_len encI_len _ | exact flat_len encS_len _ | exact flat_len encP_len _ | exact flat_len encL_len _ | exact flat_len encE_len _ | (simp [flat_len encP_len]; done) | simp [flat_len encI_len, flat_len encS_len]))) (by first | rfl | (repeat' (first | exact MkTo.nil | refine MkTo.keep rfl ?_ | refine MkTo.drop (by decide) rfl ?_)))
        · have hJx := hne (by omega)
          refine VMem.app1 (x : Int) encI_len rfl rfl rfl rfl rfl (by simp; omega) ?_
          conv => whnf
          repeat (first | (refine VLd.intro rfl ?_; conv => whnf) | (refine VArith.i64 (by omega) ?_; conv => whnf) | (refine VNeed.intro (by first | rfl | (simp; omega)) ?_; conv => whnf) | (refine VMem.store rfl rfl rfl rfl ?_; conv => whnf) | (refine VSame.intro rfl ?_; conv => whnf) | (refine VDraw.go [] (by kernel_rfl) (by kernel_rfl) ?_; conv => whnf))
          refine LEnd.intro (x, pre ++ [(a : Int)]) ⟨by omega, by omega, n, by omega, hfin2 hJx⟩ (by simp only; omega) ?_
          conv => whnf
          rw [List.length_append (bs := [(x : Int)])]
          refine Retell.turn ⟨[0,3], 4, [], []⟩ (TurnOk.mk' _ _ [] [] (OutOk.lift _) rfl (by decide) (by repeat' (first | exact BTos.nil | refine BTos.flat rfl rfl (by first | rfl | simp) ?_ | refine BTos.new rfl ?_ | refine BTos.dead rfl rfl ?_ | refine BTos.esE rfl rfl ?_ | refine BTos.row rfl rfl rfl (RowTo.snoc (RowTo.one rfl (by simp))) ?_ | refine BTos.cells rfl rfl rfl (by repeat' (first | exact VTo.undef | exact FrTo.leaf | refine FrTo.node ?_ ?_ ?_ | refine FrTo.none ?_ ?_ | exact VTo.sc (by first | rfl | (congr 1; omega) | (congr 1; simp; omega)) | exact VTos_dv _ _ | refine VTos.cons ?_ ?_ | exact VTos.nil | refine VTo.agg ?_ | refine VTo.tuple ?_ | refine VTo.func ?_ ?_ | exact VTo.fs | exact VTo.fp | exact VTo.nilptr | exact VTo.nilslice | exact VTo.nilfunc | exact VTo.ptr rfl | exact VTo.gl rfl | exact VTo.map rfl | exact VTo.yld rfl | exact VTo.fmMap rfl | exact VTo.fm | exact VTo.glNil' (by decide) rfl rfl | exact VTo.fsNil (by decide) | exact VTo.fsSl rfl rfl (by simp [flat_len encE_len]) | exact VTo.fpPtr rfl | exact VTo.fsGl rfl (by first | rfl | exact flat_len encI_len _ | exact flat_len encS_len _ | exact flat_len encP_len _ | exact flat_len encL_len _ | exact flat_len encE_len _ | (simp [flat_len encP_len]; done) | simp [flat_len encI_len, flat_len encS_len]))) ?_)) trivial trivial rfl) (by repeat' (first | exact VTo.undef | exact FrTo.leaf | refine FrTo.node ?_ ?_ ?_ | refine FrTo.none ?_ ?_ | exact VTo.sc (by first | rfl | (congr 1; omega) | (congr 1; simp; omega)) | exact VTos_dv _ _ | refine VTos.cons ?_ ?_ | exact VTos.nil | refine VTo.agg ?_ | refine VTo.tuple ?_ | refine VTo.func ?_ ?_ | exact VTo.fs | exact VTo.fp | exact VTo.nilptr | exact VTo.nilslice | exact VTo.nilfunc | exact VTo.ptr rfl | exact VTo.gl rfl | exact VTo.map rfl | exact VTo.yld rfl | exact VTo.fmMap rfl | exact VTo.fm | exact VTo.glNil' (by decide) rfl rfl | exact VTo.fsNil (by decide) | exact VTo.fsSl rfl rfl (by simp [flat_len encE_len]) | exact VTo.fpPtr rfl | exact VTo.fsGl rfl (by first | rfl | exact flat_len encI_len _ | exact flat_len encS_len _ | exact flat_len encP_len _ | exact flat_len encL_len _ | exact flat_len encE_len _ | (simp [flat_len encP_len]; done) | simp [flat_len encI_len, flat_len encS_len]))) (by first | rfl | (repeat' (first | exact MkTo.nil | refine MkTo.keep rfl ?_ | refine MkTo.drop (by decide) rfl ?_)))
        · have hJx := hne (by omega)
          refine VMem.app1 (x : Int) encI_len rfl rfl rfl rfl rfl (by simp; omega) ?_
          conv => whnf
          repeat (first | (refine VLd.intro rfl ?_; conv => whnf) | (refine VArith.i64 (by omega) ?_; conv => whnf) | (refine VNeed.intro (by first | rfl | (simp; omega)) ?_; conv => whnf) | (refine VMem.store rfl rfl rfl rfl ?_; conv => whnf) | (refine VSame.intro rfl ?_; conv => whnf) | (refine VDraw.go [] (by kernel_rfl) (by kernel_rfl) ?_; conv => whnf))
          refine LEnd.intro (x, pre ++ [(a : Int)]) ⟨by omega, by omega, n, by omega, hfin2 hJx⟩ (by simp only; omega) ?_
          conv => whnf
          rw [List.length_append (bs := [(x : Int)])]
          refine Retell.turn ⟨[0,3], 4, [], []⟩ (TurnOk.mk' _ _ [] [] (OutOk.lift _) rfl (by decide) (by repeat' (first | exact BTos.nil | refine BTos.flat rfl rfl (by first | rfl | simp) ?_ | refine BTos.new rfl ?_ | refine BTos.dead rfl rfl ?_ | refine BTos.esE rfl rfl ?_ | refine BTos.row rfl rfl rfl (RowTo.snoc (RowTo.one rfl (by simp))) ?_ | refine BTos.cells rfl rfl rfl (by repeat' (first | exact VTo.undef | exact FrTo.leaf | refine FrTo.node ?_ ?_ ?_ | refine FrTo.none ?_ ?_ | exact VTo.sc (by first | rfl | (congr 1; omega) | (congr 1; simp; omega)) | exact VTos_dv _ _ | refine VTos.cons ?_ ?_ | exact VTos.nil | refine VTo.agg ?_ | refine VTo.tuple ?_ | refine VTo.func ?_ ?_ | exact VTo.fs | exact VTo.fp | exact VTo.nilptr | exact VTo.nilslice | exact VTo.nilfunc | exact VTo.ptr rfl | exact VTo.gl rfl | exact VTo.map rfl | exact VTo.yld rfl | exact VTo.fmMap rfl | exact VTo.fm | exact VTo.glNil' (by decide) rfl rfl | exact VTo.fsNil (by decide) | exact VTo.fsSl rfl rfl (by simp [flat_len encE_len]) | exact VTo.fpPtr rfl | exact VTo.fsGl rfl (by first | rfl | exact flat_len encI_len _ | exact flat_len encS_len _ | exact flat_len encP_len _ | exact flat_len encL_len _ | exact flat_len encE_len _ | (simp [flat_len encP_len]; done) | simp [flat_len encI_len, flat_len encS_len]))) ?_)) trivial trivial rfl) (by repeat' (first | exact VTo.undef | exact FrTo.leaf | refine FrTo.node ?_ ?_ ?_ | refine FrTo.none ?_ ?_ | exact VTo.sc (by first | rfl | (congr 1; omega) | (congr 1; simp; omega)) | exact VTos_dv _ _ | refine VTos.cons ?_ ?_ | exact VTos.nil | refine VTo.agg ?_ | refine VTo.tuple ?_ | refine VTo.func ?_ ?_ | exact VTo.fs | exact VTo.fp | exact VTo.nilptr | exact VTo.nilslice | exact VTo.nilfunc | exact VTo.ptr rfl | exact VTo.gl rfl | exact VTo.map rfl | exact VTo.yld rfl | exact VTo.fmMap rfl | exact VTo.fm | exact VTo.glNil' (by decide) rfl rfl | exact VTo.fsNil (by decide) | exact VTo.fsSl rfl rfl (by simp [flat_len encE_len]) | exact VTo.fpPtr rfl | exact VTo.fsGl rfl (by first | rfl | exact flat_len encI_len _ | exact flat_len encS_len _ | exact flat_len encP_len _ | exact flat_len encL_len _ | exact flat_len encE_len _ | (simp [flat_len encP_len]; done) | simp [flat_len encI_len, flat_len encS_len]))) (by first | rfl | (repeat' (first | exact MkTo.nil | refine MkTo.keep rfl ?_ | refine MkTo.drop (by decide) rfl ?_)))
    · have hF2 : F = pre ++ [(a : Int)] := by
        rw [h4]
        cases n with
        | zero => rfl
        | succ n => rw [fewS, if_neg (by omega)]
      rw [← hF2]
      refine VMem.make (n := F.length) (0 : Int) encI_len rfl rfl rfl rfl rfl rfl (by omega) ?_
      conv => whnf
      repeat (first | (refine VLd.intro rfl ?_; conv => whnf) | (refine VArith.i64 (by omega) ?_; conv => whnf) | (refine VNeed.intro (by first | rfl | (simp; omega)) ?_; conv => whnf) | (refine VMem.store rfl rfl rfl rfl ?_; conv => whnf) | (refine VSame.intro rfl ?_; conv => whnf) | (refine VDraw.go [] (by kernel_rfl) (by kernel_rfl) ?_; conv => whnf))
      refine VMem.copyGl (l2 := F) encI_len rfl rfl rfl (by simp) rfl rfl ?_
      conv => whnf
      repeat (first | (refine VLd.intro rfl ?_; conv => whnf) | (refine VArith.i64 (by omega) ?_; conv => whnf) | (refine VNeed.intro (by first | rfl | (simp; omega)) ?_; conv => whnf) | (refine VMem.store rfl rfl rfl rfl ?_; conv => whnf) | (refine VSame.intro rfl ?_; conv => whnf) | (refine VDraw.go [] (by kernel_rfl) (by kernel_rfl) ?_; conv => whnf))
      refine VCall.intro (vc_reverse F (.loc 2) _ rfl (by omega)) ?_
      conv => whnf
      repeat (first | (refine VLd.intro rfl ?_; conv => whnf) | (refine VArith.i64 (by omega) ?_; conv => whnf) | (refine VNeed.intro (by first | rfl | (simp; omega)) ?_; conv => whnf) | (refine VMem.store rfl rfl rfl rfl ?_; conv => whnf) | (refine VSame.intro rfl ?_; conv => whnf) | (refine VDraw.go [] (by kernel_rfl) (by kernel_rfl) ?_; conv => whnf))
      rw [List.length_reverse]
      exact VOut.own2 2 3 rfl rfl
theorem vc_DatedO (Y G : Int) (l : List Int) (h : Hp) (hl : l.length ≤ 4000000) (hb : ∀ y ∈ l, -100000 ≤ y ∧ y ≤ 100000) : VC Try.prog 52 [I Y, I G, ints l] h (.agg [I Y, I G, .gl h.fresh 3 l.length]) (h.push (.flat true ((l.map datP).flatMap encP))) := by
  refine VC.body Try.func52 rfl Try.ntmps52 Try.call52 (h.grows_push _) rfl ?_
  conv => whnf
  repeat (first | (refine VLd.intro rfl ?_; conv => whnf) | (refine VArith.i64 (by omega) ?_; conv => whnf) | (refine VNeed.intro (by first | rfl | (simp; omega)) ?_; conv => whnf) | (refine VMem.store rfl rfl rfl rfl ?_; conv => whnf) | (refine VSame.intro rfl ?_; conv => whnf) | (refine VDraw.go [] (by kernel_rfl) (by kernel_rfl) ?_; conv => whnf))
  refine VCode.lp (fun k : Nat => [(6, .ptr (.loc 0) 0), (7, .ptr (.loc 1) 0), (14, ints l), (15, I l.length), (16, I k)])
    (fun k => [.flat true [DI 0, DI 0, .nilslice], .cells true [I Y, I G, .gl (.loc 2) 3 k], .flat true (((l.take k).map datP).flatMap encP)]) (fun k => k ≤ l.length) (fun k => l.length - k) 0 (Nat.zero_le _) ?_ ?_
  · conv => whnf
    refine Retell.turn ⟨[0,1,2], 2, [], []⟩ (TurnOk.mk' _ _ [] [] (OutOk.lift _) rfl (by decide) (by repeat' (first | exact BTos.nil | refine BTos.flat rfl rfl (by first | rfl | simp) ?_ | refine BTos.new rfl ?_ | refine BTos.dead rfl rfl ?_ | refine BTos.esE rfl rfl ?_ | refine BTos.row rfl rfl rfl (RowTo.snoc (RowTo.one rfl (by simp))) ?_ | refine BTos.cells rfl rfl rfl (by repeat' (first | exact VTo.undef | exact FrTo.leaf | refine FrTo.node ?_ ?_ ?_ | refine FrTo.none ?_ ?_ | exact VTo.sc (by first | rfl | (congr 1; omega) | (congr 1; simp; omega)) | exact VTos_dv _ _ | refine VTos.cons ?_ ?_ | exact VTos.nil | refine VTo.agg ?_ | refine VTo.tuple ?_ | refine VTo.func ?_ ?_ | exact VTo.fs | exact VTo.fp | exact VTo.nilptr | exact VTo.nilslice | exact VTo.nilfunc | exact VTo.ptr rfl | exact VTo.gl rfl | exact VTo.map rfl | exact VTo.yld rfl | exact VTo.fmMap rfl | exact VTo.fm | exact VTo.glNil' (by decide) rfl rfl | exact VTo.fsNil (by decide) | exact VTo.fsSl rfl rfl (by simp [flat_len encE_len]) | exact VTo.fpPtr rfl | exact VTo.fsGl rfl (by first | rfl | exact flat_len encI_len _ | exact flat_len encS_len _ | exact flat_len encP_len _ | exact flat_len encL_len _ | exact flat_len encE_len _ | (simp [flat_len encP_len]; done) | simp [flat_len encI_len, flat_len encS_len]))) ?_)) trivial trivial rfl) (by repeat' (first | exact VTo.undef | exact FrTo.leaf | refine FrTo.node ?_ ?_ ?_ | refine FrTo.none ?_ ?_ | exact VTo.sc (by first | rfl | (congr 1; omega) | (congr 1; simp; omega)) | exact VTos_dv _ _ | refine VTos.cons ?_ ?_ | exact VTos.nil | refine VTo.agg ?_ | refine VTo.tuple ?_ | refine VTo.func ?_ ?_ | exact VTo.fs | exact VTo.fp | exact VTo.nilptr | exact VTo.nilslice | exact VTo.nilfunc | exact VTo.ptr rfl | exact VTo.gl rfl | exact VTo.map rfl | exact VTo.yld rfl | exact VTo.fmMap rfl | exact VTo.fm | exact VTo.glNil' (by decide) rfl rfl | exact VTo.fsNil (by decide) | exact VTo.fsSl rfl rfl (by simp [flat_len encE_len]) | exact VTo.fpPtr rfl | exact VTo.fsGl rfl (by first | rfl | exact flat_len encI_len _ | exact flat_len encS_len _ | exact flat_len encP_len _ | exact flat_len encL_len _ | exact flat_len encE_len _ | (simp [flat_len encP_len]; done) | simp [flat_len encI_len, flat_len encS_len]))) (by first | rfl | (repeat' (first | exact MkTo.nil | refine MkTo.keep rfl ?_ | refine MkTo.drop (by decide) rfl ?_)))
  · intro k hk
    conv => whnf
    refine VIte.dec (fun h3 => ?_) (fun h3 => ?_)
    · have hp : l[k]? = some l[k] := List.getElem?_eq_getElem (by omega)
      have hts : l.take (k + 1) = l.take k ++ [l[k]] := by rw [List.take_add_one, hp]; rfl
      have hbk := hb l[k] (List.getElem_mem (by omega))
      generalize l[k] = y at hp hts hbk
      have hlk : ((l.take k).map datP).length = k := by simp; omega
      conv => whnf
      repeat' (first | (refine VLd.intro rfl ?_; conv => whnf) | (refine VArith.i64 (by omega) ?_; conv => whnf) | (refine VNeed.intro (by first | rfl | (simp; omega)) ?_; conv => whnf) | (refine VMem.store rfl rfl rfl rfl ?_; conv => whnf) | (refine VSame.intro rfl ?_; conv => whnf) | (refine VDraw.go [] (by kernel_rfl) (by kernel_rfl) ?_; conv => whnf) | (refine VIte.dec (fun _ => ?_) (fun _ => ?_) <;> conv => whnf) | (refine VIte.ndec (fun _ => ?_) (fun _ => ?_) <;> conv => whnf) | (refine VIte.beq (fun _ => ?_) (fun _ => ?_) <;> conv => whnf) | (refine VIte.bne (fun _ => ?_) (fun _ => ?_) <;> conv => whnf) | (refine VIte.intro (fun _ => ?_) (fun _ => ?_) <;> conv => whnf) | (refine VAny.ix encI_len k rfl rfl hp ?_; conv => whnf))
      · rename_i hy
        have hd : datP y = ⟨1, 0 - y, 0 - y⟩ := by rw [datP, if_pos hy]; simp
        refine VMem.app1 (l := (l.take k).map datP) (⟨1, 0 - y, 0 - y⟩ : Pap) encP_len rfl rfl rfl hlk.symm rfl (by omega) ?_
        conv => whnf
        repeat (first | (refine VLd.intro rfl ?_; conv => whnf) | (refine VArith.i64 (by omega) ?_; conv => whnf) | (refine VNeed.intro (by first | rfl | (simp; omega)) ?_; conv => whnf) | (refine VMem.store rfl rfl rfl rfl ?_; conv => whnf) | (refine VSame.intro rfl ?_; conv => whnf) | (refine VDraw.go [] (by kernel_rfl) (by kernel_rfl) ?_; conv => whnf))
        refine LEnd.intro (k + 1) (by omega) (by omega) ?_
        conv => whnf
        rw [hts, List.map_append, List.map_cons, List.map_nil, hd]
        refine Retell.turn ⟨[0,1,5], 6, [], []⟩ (TurnOk.mk' _ _ [] [] (OutOk.lift _) rfl (by decide) (by repeat' (first | exact BTos.nil | refine BTos.flat rfl rfl (by first | rfl | simp) ?_ | refine BTos.new rfl ?_ | refine BTos.dead rfl rfl ?_ | refine BTos.esE rfl rfl ?_ | refine BTos.row rfl rfl rfl (RowTo.snoc (RowTo.one rfl (by simp))) ?_ | refine BTos.cells rfl rfl rfl (by repeat' (first | exact VTo.undef | exact FrTo.leaf | refine FrTo.node ?_ ?_ ?_ | refine FrTo.none ?_ ?_ | exact VTo.sc (by first | rfl | (congr 1; omega) | (congr 1; simp; omega)) | exact VTos_dv _ _ | refine VTos.cons ?_ ?_ | exact VTos.nil | refine VTo.agg ?_ | refine VTo.tuple ?_ | refine VTo.func ?_ ?_ | exact VTo.fs | exact VTo.fp | exact VTo.nilptr | exact VTo.nilslice | exact VTo.nilfunc | exact VTo.ptr rfl | exact VTo.gl rfl | exact VTo.map rfl | exact VTo.yld rfl | exact VTo.fmMap rfl | exact VTo.fm | exact VTo.glNil' (by decide) rfl rfl | exact VTo.fsNil (by decide) | exact VTo.fsSl rfl rfl (by simp [flat_len encE_len]) | exact VTo.fpPtr rfl | exact VTo.fsGl rfl (by first | rfl | exact flat_len encI_len _ | exact flat_len encS_len _ | exact flat_len encP_len _ | exact flat_len encL_len _ | exact flat_len encE_len _ | (simp [flat_len encP_len]; done) | simp [flat_len encI_len, flat_len encS_len]))) ?_)) trivial trivial rfl) (by repeat' (first | exact VTo.undef | exact FrTo.leaf | refine FrTo.node ?_ ?_ ?_ | refine FrTo.none ?_ ?_ | exact VTo.sc (by first | rfl | (congr 1; omega) | (congr 1; simp; omega)) | exact VTos_dv _ _ | refine VTos.cons ?_ ?_ | exact VTos.nil | refine VTo.agg ?_ | refine VTo.tuple ?_ | refine VTo.func ?_ ?_ | exact VTo.fs | exact VTo.fp | exact VTo.nilptr | exact VTo.nilslice | exact VTo.nilfunc | exact VTo.ptr rfl | exact VTo.gl rfl | exact VTo.map rfl | exact VTo.yld rfl | exact VTo.fmMap rfl | exact VTo.fm | exact VTo.glNil' (by decide) rfl rfl | exact VTo.fsNil (by decide) | exact VTo.fsSl rfl rfl (by simp [flat_len encE_len]) | exact VTo.fpPtr rfl | exact VTo.fsGl rfl (by first | rfl | exact flat_len encI_len _ | exact flat_len encS_len _ | exact flat_len encP_len _ | exact flat_len encL_len _ | exact flat_len encE_len _ | (simp [flat_len encP_len]; done) | simp [flat_len encI_len, flat_len encS_len]))) (by first | rfl | (repeat' (first | exact MkTo.nil | refine MkTo.keep rfl ?_ | refine MkTo.drop (by decide) rfl ?_)))
      · rename_i hy
        have hd : datP y = ⟨0, y, y⟩ := if_neg hy
        refine VMem.app1 (l := (l.take k).map datP) (⟨0, y, y⟩ : Pap) encP_len rfl rfl rfl hlk.symm rfl (by omega) ?_
        conv => whnf
        repeat (first | (refine VLd.intro rfl ?_; conv => whnf) | (refine VArith.i64 (by omega) ?_; conv => whnf) | (refine VNeed.intro (by first | rfl | (simp; omega)) ?_; conv => whnf) | (refine VMem.store rfl rfl rfl rfl ?_; conv => whnf) | (refine VSame.intro rfl ?_; conv => whnf) | (refine VDraw.go [] (by kernel_rfl) (by kernel_rfl) ?_; conv => whnf))
        refine LEnd.intro (k + 1) (by omega) (by omega) ?_
        conv => whnf
        rw [hts, List.map_append, List.map_cons, List.map_nil, hd]
        refine Retell.turn ⟨[0,1,5], 6, [], []⟩ (TurnOk.mk' _ _ [] [] (OutOk.lift _) rfl (by decide) (by repeat' (first | exact BTos.nil | refine BTos.flat rfl rfl (by first | rfl | simp) ?_ | refine BTos.new rfl ?_ | refine BTos.dead rfl rfl ?_ | refine BTos.esE rfl rfl ?_ | refine BTos.row rfl rfl rfl (RowTo.snoc (RowTo.one rfl (by simp))) ?_ | refine BTos.cells rfl rfl rfl (by repeat' (first | exact VTo.undef | exact FrTo.leaf | refine FrTo.node ?_ ?_ ?_ | refine FrTo.none ?_ ?_ | exact VTo.sc (by first | rfl | (congr 1; omega) | (congr 1; simp; omega)) | exact VTos_dv _ _ | refine VTos.cons ?_ ?_ | exact VTos.nil | refine VTo.agg ?_ | refine VTo.tuple ?_ | refine VTo.func ?_ ?_ | exact VTo.fs | exact VTo.fp | exact VTo.nilptr | exact VTo.nilslice | exact VTo.nilfunc | exact VTo.ptr rfl | exact VTo.gl rfl | exact VTo.map rfl | exact VTo.yld rfl | exact VTo.fmMap rfl | exact VTo.fm | exact VTo.glNil' (by decide) rfl rfl | exact VTo.fsNil (by decide) | exact VTo.fsSl rfl rfl (by simp [flat_len encE_len]) | exact VTo.fpPtr rfl | exact VTo.fsGl rfl (by first | rfl | exact flat_len encI_len _ | exact flat_len encS_len _ | exact flat_len encP_len _ | exact flat_len encL_len _ | exact flat_len encE_len _ | (simp [flat_len encP_len]; done) | simp [flat_len encI_len, flat_len encS_len]))) ?_)) trivial trivial rfl) (by repeat' (first | exact VTo.undef | exact FrTo.leaf | refine FrTo.node ?_ ?_ ?_ | refine FrTo.none ?_ ?_ | exact VTo.sc (by first | rfl | (congr 1; omega) | (congr 1; simp; omega)) | exact VTos_dv _ _ | refine VTos.cons ?_ ?_ | exact VTos.nil | refine VTo.agg ?_ | refine VTo.tuple ?_ | refine VTo.func ?_ ?_ | exact VTo.fs | exact VTo.fp | exact VTo.nilptr | exact VTo.nilslice | exact VTo.nilfunc | exact VTo.ptr rfl | exact VTo.gl rfl | exact VTo.map rfl | exact VTo.yld rfl | exact VTo.fmMap rfl | exact VTo.fm | exact VTo.glNil' (by decide) rfl rfl | exact VTo.fsNil (by decide) | exact VTo.fsSl rfl rfl (by simp [flat_len encE_len]) | exact VTo.fpPtr rfl | exact VTo.fsGl rfl (by first | rfl | exact flat_len encI_len _ | exact flat_len encS_len _ | exact flat_len encP_len _ | exact flat_len encL_len _ | exact flat_len encE_len _ | (simp [flat_len encP_len]; done) | simp [flat_len encI_len, flat_len encS_len]))) (by first | rfl | (repeat' (first | exact MkTo.nil | refine MkTo.keep rfl ?_ | refine MkTo.drop (by decide) rfl ?_)))
    · have hk2 : k = l.length := by omega
      subst hk2
      rw [List.take_of_length_le (Nat.le_refl _)]
      conv => whnf
      repeat (first | (refine VLd.intro rfl ?_; conv => whnf) | (refine VArith.i64 (by omega) ?_; conv => whnf) | (refine VNeed.intro (by first | rfl | (simp; omega)) ?_; conv => whnf) | (refine VMem.store rfl rfl rfl rfl ?_; conv => whnf) | (refine VSame.intro rfl ?_; conv => whnf) | (refine VDraw.go [] (by kernel_rfl) (by kernel_rfl) ?_; conv => whnf))
      exact VOut.own3 2 3 rfl rfl
end Go.Proofs.Ytolnajnlcdacmaa

open Go.Vm
namespace Go.Proofs.Ytolnajnlcdacmaa
set_option maxRecDepth 20000
set_option maxHeartbeats 2000000

theorem encI_map : ∀ l : List Int, l.flatMap encI = (l.map fun y => S.int .i64 y).map D.s
  | [] => rfl
  | a :: l => by rw [List.flatMap_cons, encI_map l]; rfl
theorem VC.lendI {f : FuncId} {args : List V} {outer : Vm.Id → Option Blk} {loc : List Blk} {n : Nat} {l : List Int} {s : S} (ds : List D) (fz : List (Nat × List D)) (fm : List (Nat × List D × List D))
    (h0 : FzAll ⟨[], loc.length, fz, fm⟩ loc fz) (h0' : FmAll ⟨[], loc.length, fz, fm⟩ loc fm) (hv : VTos ⟨[], loc.length, fz, fm⟩ args (D.vs ds)) (hc : VC Try.prog f (D.vs ds) Hp.bare (.tuple [.gl (.loc 0) 1 n, .s s]) (Hp.bare.push (.flat true (l.flatMap encI)))) :
    VC Try.prog f args ⟨outer, loc⟩ (.tuple [.gl (.loc loc.length) 1 n, .s s]) ⟨outer, loc ++ [.flat true (l.flatMap encI)]⟩ := by
  rw [encI_map] at hc ⊢
  exact VC.lendL ds fz fm h0 h0' hv hc
def yl : List Int := [1700, 1715, 1730, 1745, 1760]
def f1 : Fil := ⟨50, 20, yl.map datP⟩
def f3 : Fil := ⟨50, 30, yl.map datP⟩
def f2 : Fil := ⟨50, 15, [⟨0, 1700, 1700⟩, ⟨0, 1715, 1715⟩, ⟨0, 1728, 1731⟩, ⟨0, 1745, 1745⟩, ⟨0, 1760, 1760⟩]⟩
def y6 : List Int := [1700, 1715, 1730, 1738, 1745, 1760]
def f4 : Fil := ⟨50, 20, [1700, 1715, 1730, -1738, 1745, 1760].map datP⟩
theorem told1 : toldE f1 yl = 0 := by decide +kernel
theorem told3 : toldE f3 yl = 0 := by decide +kernel
theorem told4 : toldE f4 y6 = 0 := by decide +kernel
theorem ar1 : arL f1 yl = [4] := by decide +kernel
theorem few1 : (few f1 yl 4).length = 5 := by decide +kernel
theorem few3 : (few f3 yl 4).length = 3 := by decide +kernel
theorem shw1 : Shw f1 yl 4 := by
  obtain ⟨q, h1, h2⟩ := show_ok (f := f1) (t := yl) (p := 4) (by decide +kernel)
  have : q = 4 := by omega
  rw [← this]; exact h2
theorem shw3 : Shw f3 yl 4 := by
  obtain ⟨q, h1, h2⟩ := show_ok (f := f3) (t := yl) (p := 4) (by decide +kernel)
  have : q = 4 := by omega
  rw [← this]; exact h2
theorem pv1 : pvE f1 yl 4 [1700, 1715, 1730] = 0 := by decide +kernel
theorem pv3 : pvE f3 yl 4 [1715] = 0 := by decide +kernel
theorem chk2 : chk f2 = 0 := by decide +kernel
theorem os2 : osG f2 = [0, 2] := by decide +kernel
theorem tru2 : truE f2 0 = 0 := by decide +kernel
theorem truG2 : truG f2 0 = yl := by decide +kernel
theorem sn2 : sinceE f2 0 = 0 ∧ (sn f2 0).lo = 1760 ∧ (sn f2 0).hi = 1760 := by decide +kernel
theorem chS4 : chS f4 y6 6 = [⟨0, 2⟩, ⟨3, 3⟩, ⟨4, 5⟩] := by decide +kernel
end Go.Proofs.Ytolnajnlcdacmaa

open Go.Vm
namespace Go.Proofs.Ytolnajnlcdacmaa
set_option maxRecDepth 20000
set_option maxHeartbeats 2000000

def dF (f : Fil) : D := .agg (encF f)
def dL (l : List Int) : D := .sl 1 l.length (l.flatMap encI)
theorem prv1 (h : Hp) : VC Try.prog 50 [vF f1, ints yl, I 4, ints [1700, 1715, 1730]] h (.tuple [I 5, I 0]) h := by
  have := vc_Proves_ok f1 yl 4 [1700, 1715, 1730] h (by decide) (by decide) told1 shw1
  rw [pv1] at this; exact this
theorem prv3 (h : Hp) : VC Try.prog 50 [vF f3, ints yl, I 4, ints [1715]] h (.tuple [I 3, I 0]) h := by
  have := vc_Proves_ok f3 yl 4 [1715] h (by decide) (by decide) told3 shw3
  rw [pv3] at this; exact this
def s4 : List Spn := [⟨0, 2⟩, ⟨3, 3⟩, ⟨4, 5⟩]
theorem ch4 (h : Hp) : VC Try.prog 31 [vF f4, ints y6] h (.tuple [spans s4, I 0]) h := by
  have := vc_Chains f4 y6 h (by decide) (by decide)
  rw [told4, if_pos rfl, show y6.length = 6 from rfl, chS4] at this; exact this
theorem vc_awake (h : Hp) : VC Try.prog 13 [] h (B true) h := by
  refine VC.bodyC 11 Try.func13 rfl Try.ntmps13 Try.call13 (h.grows_refl) rfl ?_; conv => whnf
  repeat (first | (refine VLd.intro rfl ?_; conv => whnf) | (refine VArith.i64 (by omega) ?_; conv => whnf) | (refine VNeed.intro (by first | rfl | (simp; omega)) ?_; conv => whnf) | (refine VMem.store rfl rfl rfl rfl ?_; conv => whnf) | (refine VSame.intro rfl ?_; conv => whnf) | (refine VDraw.go [] (by kernel_rfl) (by kernel_rfl) ?_; conv => whnf))
  refine VCall.intro (VC.give (args' := [I 50, I 20, ints yl]) (loc' := [.dead]) [(0, yl.flatMap encI)] [] (OutOk.lift _) (by repeat' (first | exact BTos.nil | refine BTos.flat rfl rfl (by first | rfl | simp) ?_ | refine BTos.new rfl ?_ | refine BTos.dead rfl rfl ?_ | refine BTos.esE rfl rfl ?_ | refine BTos.row rfl rfl rfl (RowTo.snoc (RowTo.one rfl (by simp))) ?_ | refine BTos.cells rfl rfl rfl (by repeat' (first | exact VTo.undef | exact FrTo.leaf | refine FrTo.node ?_ ?_ ?_ | refine FrTo.none ?_ ?_ | exact VTo.sc (by first | rfl | (congr 1; omega) | (congr 1; simp; omega)) | exact VTos_dv _ _ | refine VTos.cons ?_ ?_ | exact VTos.nil | refine VTo.agg ?_ | refine VTo.tuple ?_ | refine VTo.func ?_ ?_ | exact VTo.fs | exact VTo.fp | exact VTo.nilptr | exact VTo.nilslice | exact VTo.nilfunc | exact VTo.ptr rfl | exact VTo.gl rfl | exact VTo.map rfl | exact VTo.yld rfl | exact VTo.fmMap rfl | exact VTo.fm | exact VTo.glNil' (by decide) rfl rfl | exact VTo.fsNil (by decide) | exact VTo.fsSl rfl rfl (by simp [flat_len encE_len]) | exact VTo.fpPtr rfl | exact VTo.fsGl rfl (by first | rfl | exact flat_len encI_len _ | exact flat_len encS_len _ | exact flat_len encP_len _ | exact flat_len encL_len _ | exact flat_len encE_len _ | (simp [flat_len encP_len]; done) | simp [flat_len encI_len, flat_len encS_len]))) ?_)) (by repeat' (first | exact FzAll.nil | refine FzAll.flat rfl ?_ | refine FzAll.row rfl rfl (RowTo.one rfl (by simp)) ?_)) (by exact FmAll.nil) rfl (by repeat' (first | exact VTo.undef | exact FrTo.leaf | refine FrTo.node ?_ ?_ ?_ | refine FrTo.none ?_ ?_ | exact VTo.sc (by first | rfl | (congr 1; omega) | (congr 1; simp; omega)) | exact VTos_dv _ _ | refine VTos.cons ?_ ?_ | exact VTos.nil | refine VTo.agg ?_ | refine VTo.tuple ?_ | refine VTo.func ?_ ?_ | exact VTo.fs | exact VTo.fp | exact VTo.nilptr | exact VTo.nilslice | exact VTo.nilfunc | exact VTo.ptr rfl | exact VTo.gl rfl | exact VTo.map rfl | exact VTo.yld rfl | exact VTo.fmMap rfl | exact VTo.fm | exact VTo.glNil' (by decide) rfl rfl | exact VTo.fsNil (by decide) | exact VTo.fsSl rfl rfl (by simp [flat_len encE_len]) | exact VTo.fpPtr rfl | exact VTo.fsGl rfl (by first | rfl | exact flat_len encI_len _ | exact flat_len encS_len _ | exact flat_len encP_len _ | exact flat_len encL_len _ | exact flat_len encE_len _ | (simp [flat_len encP_len]; done) | simp [flat_len encI_len, flat_len encS_len]))) (vc_DatedO 50 20 yl _ (by decide) (by decide))) ?_
  conv => whnf
  repeat (first | (refine VLd.intro rfl ?_; conv => whnf) | (refine VArith.i64 (by omega) ?_; conv => whnf) | (refine VNeed.intro (by first | rfl | (simp; omega)) ?_; conv => whnf) | (refine VMem.store rfl rfl rfl rfl ?_; conv => whnf) | (refine VSame.intro rfl ?_; conv => whnf) | (refine VDraw.go [] (by kernel_rfl) (by kernel_rfl) ?_; conv => whnf))
  refine VCall.intro (VC.lendI [dF f1, dL yl] [(1, f1.ps.flatMap encP), (2, yl.flatMap encI)] [] (by repeat' (first | exact FzAll.nil | refine FzAll.flat rfl ?_ | refine FzAll.row rfl rfl (RowTo.one rfl (by simp)) ?_)) trivial (by repeat' (first | exact VTo.undef | exact FrTo.leaf | refine FrTo.node ?_ ?_ ?_ | refine FrTo.none ?_ ?_ | exact VTo.sc (by first | rfl | (congr 1; omega) | (congr 1; simp; omega)) | exact VTos_dv _ _ | refine VTos.cons ?_ ?_ | exact VTos.nil | refine VTo.agg ?_ | refine VTo.tuple ?_ | refine VTo.func ?_ ?_ | exact VTo.fs | exact VTo.fp | exact VTo.nilptr | exact VTo.nilslice | exact VTo.nilfunc | exact VTo.ptr rfl | exact VTo.gl rfl | exact VTo.map rfl | exact VTo.yld rfl | exact VTo.fmMap rfl | exact VTo.fm | exact VTo.glNil' (by decide) rfl rfl | exact VTo.fsNil (by decide) | exact VTo.fsSl rfl rfl (by simp [flat_len encE_len]) | exact VTo.fpPtr rfl | exact VTo.fsGl rfl (by first | rfl | exact flat_len encI_len _ | exact flat_len encS_len _ | exact flat_len encP_len _ | exact flat_len encL_len _ | exact flat_len encE_len _ | (simp [flat_len encP_len]; done) | simp [flat_len encI_len, flat_len encS_len]))) (vc_ArisesO f1 yl Hp.bare (by decide) (by decide) told1)) ?_
  rw [ar1]
  conv => whnf
  repeat (first | (refine VLd.intro rfl ?_; conv => whnf) | (refine VArith.i64 (by omega) ?_; conv => whnf) | (refine VNeed.intro (by first | rfl | (simp; omega)) ?_; conv => whnf) | (refine VMem.store rfl rfl rfl rfl ?_; conv => whnf) | (refine VSame.intro rfl ?_; conv => whnf) | (refine VDraw.go [] (by kernel_rfl) (by kernel_rfl) ?_; conv => whnf))
  refine VCall.intro (VC.lendI [dF f1, dL yl, DI 4] [(1, f1.ps.flatMap encP), (2, yl.flatMap encI)] [] (by repeat' (first | exact FzAll.nil | refine FzAll.flat rfl ?_ | refine FzAll.row rfl rfl (RowTo.one rfl (by simp)) ?_)) trivial (by repeat' (first | exact VTo.undef | exact FrTo.leaf | refine FrTo.node ?_ ?_ ?_ | refine FrTo.none ?_ ?_ | exact VTo.sc (by first | rfl | (congr 1; omega) | (congr 1; simp; omega)) | exact VTos_dv _ _ | refine VTos.cons ?_ ?_ | exact VTos.nil | refine VTo.agg ?_ | refine VTo.tuple ?_ | refine VTo.func ?_ ?_ | exact VTo.fs | exact VTo.fp | exact VTo.nilptr | exact VTo.nilslice | exact VTo.nilfunc | exact VTo.ptr rfl | exact VTo.gl rfl | exact VTo.map rfl | exact VTo.yld rfl | exact VTo.fmMap rfl | exact VTo.fm | exact VTo.glNil' (by decide) rfl rfl | exact VTo.fsNil (by decide) | exact VTo.fsSl rfl rfl (by simp [flat_len encE_len]) | exact VTo.fpPtr rfl | exact VTo.fsGl rfl (by first | rfl | exact flat_len encI_len _ | exact flat_len encS_len _ | exact flat_len encP_len _ | exact flat_len encL_len _ | exact flat_len encE_len _ | (simp [flat_len encP_len]; done) | simp [flat_len encI_len, flat_len encS_len]))) (vc_FewestO f1 yl 4 Hp.bare (by decide) told1 shw1)) ?_
  have hf1 := few1
  generalize few f1 yl 4 = w1 at hf1
  rw [hf1]
  conv => whnf
  repeat (first | (refine VLd.intro rfl ?_; conv => whnf) | (refine VArith.i64 (by omega) ?_; conv => whnf) | (refine VNeed.intro (by first | rfl | (simp; omega)) ?_; conv => whnf) | (refine VMem.store rfl rfl rfl rfl ?_; conv => whnf) | (refine VSame.intro rfl ?_; conv => whnf) | (refine VDraw.go [] (by kernel_rfl) (by kernel_rfl) ?_; conv => whnf))
  refine VCall.intro (VC.lendS [dF f1, dL yl, DI 4, dL [1700, 1715, 1730]] [(1, f1.ps.flatMap encP), (2, yl.flatMap encI), (6, [1700, 1715, 1730].flatMap encI)] [] (by repeat' (first | exact FzAll.nil | refine FzAll.flat rfl ?_ | refine FzAll.row rfl rfl (RowTo.one rfl (by simp)) ?_)) trivial (by repeat' (first | exact VTo.undef | exact FrTo.leaf | refine FrTo.node ?_ ?_ ?_ | refine FrTo.none ?_ ?_ | exact VTo.sc (by first | rfl | (congr 1; omega) | (congr 1; simp; omega)) | exact VTos_dv _ _ | refine VTos.cons ?_ ?_ | exact VTos.nil | refine VTo.agg ?_ | refine VTo.tuple ?_ | refine VTo.func ?_ ?_ | exact VTo.fs | exact VTo.fp | exact VTo.nilptr | exact VTo.nilslice | exact VTo.nilfunc | exact VTo.ptr rfl | exact VTo.gl rfl | exact VTo.map rfl | exact VTo.yld rfl | exact VTo.fmMap rfl | exact VTo.fm | exact VTo.glNil' (by decide) rfl rfl | exact VTo.fsNil (by decide) | exact VTo.fsSl rfl rfl (by simp [flat_len encE_len]) | exact VTo.fpPtr rfl | exact VTo.fsGl rfl (by first | rfl | exact flat_len encI_len _ | exact flat_len encS_len _ | exact flat_len encP_len _ | exact flat_len encL_len _ | exact flat_len encE_len _ | (simp [flat_len encP_len]; done) | simp [flat_len encI_len, flat_len encS_len]))) (prv1 Hp.bare)) ?_
  conv => whnf
  repeat (first | (refine VLd.intro rfl ?_; conv => whnf) | (refine VArith.i64 (by omega) ?_; conv => whnf) | (refine VNeed.intro (by first | rfl | (simp; omega)) ?_; conv => whnf) | (refine VMem.store rfl rfl rfl rfl ?_; conv => whnf) | (refine VSame.intro rfl ?_; conv => whnf) | (refine VDraw.go [] (by kernel_rfl) (by kernel_rfl) ?_; conv => whnf))
  refine VCall.intro (VC.lend1 [dL [4], dL [4]] [(4, [4].flatMap encI), (7, [4].flatMap encI)] [] (by repeat' (first | exact FzAll.nil | refine FzAll.flat rfl ?_ | refine FzAll.row rfl rfl (RowTo.one rfl (by simp)) ?_)) trivial (by repeat' (first | exact VTo.undef | exact FrTo.leaf | refine FrTo.node ?_ ?_ ?_ | refine FrTo.none ?_ ?_ | exact VTo.sc (by first | rfl | (congr 1; omega) | (congr 1; simp; omega)) | exact VTos_dv _ _ | refine VTos.cons ?_ ?_ | exact VTos.nil | refine VTo.agg ?_ | refine VTo.tuple ?_ | refine VTo.func ?_ ?_ | exact VTo.fs | exact VTo.fp | exact VTo.nilptr | exact VTo.nilslice | exact VTo.nilfunc | exact VTo.ptr rfl | exact VTo.gl rfl | exact VTo.map rfl | exact VTo.yld rfl | exact VTo.fmMap rfl | exact VTo.fm | exact VTo.glNil' (by decide) rfl rfl | exact VTo.fsNil (by decide) | exact VTo.fsSl rfl rfl (by simp [flat_len encE_len]) | exact VTo.fpPtr rfl | exact VTo.fsGl rfl (by first | rfl | exact flat_len encI_len _ | exact flat_len encS_len _ | exact flat_len encP_len _ | exact flat_len encL_len _ | exact flat_len encE_len _ | (simp [flat_len encP_len]; done) | simp [flat_len encI_len, flat_len encS_len]))) (vc_equalI [4] [4] Hp.bare (by decide) (by decide))) ?_
  conv => whnf
  repeat (first | (refine VLd.intro rfl ?_; conv => whnf) | (refine VArith.i64 (by omega) ?_; conv => whnf) | (refine VNeed.intro (by first | rfl | (simp; omega)) ?_; conv => whnf) | (refine VMem.store rfl rfl rfl rfl ?_; conv => whnf) | (refine VSame.intro rfl ?_; conv => whnf) | (refine VDraw.go [] (by kernel_rfl) (by kernel_rfl) ?_; conv => whnf))
  refine VCall.intro (VC.lendI [dF f3, dL yl, DI 4] [(1, f3.ps.flatMap encP), (2, yl.flatMap encI)] [] (by repeat' (first | exact FzAll.nil | refine FzAll.flat rfl ?_ | refine FzAll.row rfl rfl (RowTo.one rfl (by simp)) ?_)) trivial (by repeat' (first | exact VTo.undef | exact FrTo.leaf | refine FrTo.node ?_ ?_ ?_ | refine FrTo.none ?_ ?_ | exact VTo.sc (by first | rfl | (congr 1; omega) | (congr 1; simp; omega)) | exact VTos_dv _ _ | refine VTos.cons ?_ ?_ | exact VTos.nil | refine VTo.agg ?_ | refine VTo.tuple ?_ | refine VTo.func ?_ ?_ | exact VTo.fs | exact VTo.fp | exact VTo.nilptr | exact VTo.nilslice | exact VTo.nilfunc | exact VTo.ptr rfl | exact VTo.gl rfl | exact VTo.map rfl | exact VTo.yld rfl | exact VTo.fmMap rfl | exact VTo.fm | exact VTo.glNil' (by decide) rfl rfl | exact VTo.fsNil (by decide) | exact VTo.fsSl rfl rfl (by simp [flat_len encE_len]) | exact VTo.fpPtr rfl | exact VTo.fsGl rfl (by first | rfl | exact flat_len encI_len _ | exact flat_len encS_len _ | exact flat_len encP_len _ | exact flat_len encL_len _ | exact flat_len encE_len _ | (simp [flat_len encP_len]; done) | simp [flat_len encI_len, flat_len encS_len]))) (vc_FewestO f3 yl 4 Hp.bare (by decide) told3 shw3)) ?_
  have hf3 := few3
  generalize few f3 yl 4 = w3 at hf3
  rw [hf3]
  conv => whnf
  repeat (first | (refine VLd.intro rfl ?_; conv => whnf) | (refine VArith.i64 (by omega) ?_; conv => whnf) | (refine VNeed.intro (by first | rfl | (simp; omega)) ?_; conv => whnf) | (refine VMem.store rfl rfl rfl rfl ?_; conv => whnf) | (refine VSame.intro rfl ?_; conv => whnf) | (refine VDraw.go [] (by kernel_rfl) (by kernel_rfl) ?_; conv => whnf))
  refine VCall.intro (VC.lendS [dF f3, dL yl, DI 4, dL [1715]] [(1, f3.ps.flatMap encP), (2, yl.flatMap encI), (9, [1715].flatMap encI)] [] (by repeat' (first | exact FzAll.nil | refine FzAll.flat rfl ?_ | refine FzAll.row rfl rfl (RowTo.one rfl (by simp)) ?_)) trivial (by repeat' (first | exact VTo.undef | exact FrTo.leaf | refine FrTo.node ?_ ?_ ?_ | refine FrTo.none ?_ ?_ | exact VTo.sc (by first | rfl | (congr 1; omega) | (congr 1; simp; omega)) | exact VTos_dv _ _ | refine VTos.cons ?_ ?_ | exact VTos.nil | refine VTo.agg ?_ | refine VTo.tuple ?_ | refine VTo.func ?_ ?_ | exact VTo.fs | exact VTo.fp | exact VTo.nilptr | exact VTo.nilslice | exact VTo.nilfunc | exact VTo.ptr rfl | exact VTo.gl rfl | exact VTo.map rfl | exact VTo.yld rfl | exact VTo.fmMap rfl | exact VTo.fm | exact VTo.glNil' (by decide) rfl rfl | exact VTo.fsNil (by decide) | exact VTo.fsSl rfl rfl (by simp [flat_len encE_len]) | exact VTo.fpPtr rfl | exact VTo.fsGl rfl (by first | rfl | exact flat_len encI_len _ | exact flat_len encS_len _ | exact flat_len encP_len _ | exact flat_len encL_len _ | exact flat_len encE_len _ | (simp [flat_len encP_len]; done) | simp [flat_len encI_len, flat_len encS_len]))) (prv3 Hp.bare)) ?_
  conv => whnf
  repeat (first | (refine VLd.intro rfl ?_; conv => whnf) | (refine VArith.i64 (by omega) ?_; conv => whnf) | (refine VNeed.intro (by first | rfl | (simp; omega)) ?_; conv => whnf) | (refine VMem.store rfl rfl rfl rfl ?_; conv => whnf) | (refine VSame.intro rfl ?_; conv => whnf) | (refine VDraw.go [] (by kernel_rfl) (by kernel_rfl) ?_; conv => whnf))
  refine VCut.at [(1, .fp (encF f2)), (2, ints yl)] [] ?_ ?_
  · conv => whnf
    refine Retell.turn ⟨[], 10, [(1, f2.ps.flatMap encP), (2, yl.flatMap encI), (3, encF f2)], []⟩ (TurnOk.mk' _ _ [(1, f2.ps.flatMap encP), (2, yl.flatMap encI), (3, encF f2)] [] (OutOk.lift _) rfl (by decide) BTos.nil (FzAll.flat rfl (FzAll.flat rfl (FzAll.row rfl rfl (RowTo.vtos (l' := [I 50, I 15, .fs 3 5 (f2.ps.flatMap encP)]) (by repeat' (first | exact VTo.undef | exact FrTo.leaf | refine FrTo.node ?_ ?_ ?_ | refine FrTo.none ?_ ?_ | exact VTo.sc (by first | rfl | (congr 1; omega) | (congr 1; simp; omega)) | exact VTos_dv _ _ | refine VTos.cons ?_ ?_ | exact VTos.nil | refine VTo.agg ?_ | refine VTo.tuple ?_ | refine VTo.func ?_ ?_ | exact VTo.fs | exact VTo.fp | exact VTo.nilptr | exact VTo.nilslice | exact VTo.nilfunc | exact VTo.ptr rfl | exact VTo.gl rfl | exact VTo.map rfl | exact VTo.yld rfl | exact VTo.fmMap rfl | exact VTo.fm | exact VTo.glNil' (by decide) rfl rfl | exact VTo.fsNil (by decide) | exact VTo.fsSl rfl rfl (by simp [flat_len encE_len]) | exact VTo.fpPtr rfl | exact VTo.fsGl rfl (by first | rfl | exact flat_len encI_len _ | exact flat_len encS_len _ | exact flat_len encP_len _ | exact flat_len encL_len _ | exact flat_len encE_len _ | (simp [flat_len encP_len]; done) | simp [flat_len encI_len, flat_len encS_len])))) FzAll.nil))) trivial rfl) (by repeat' (first | exact VTo.undef | exact FrTo.leaf | refine FrTo.node ?_ ?_ ?_ | refine FrTo.none ?_ ?_ | exact VTo.sc (by first | rfl | (congr 1; omega) | (congr 1; simp; omega)) | exact VTos_dv _ _ | refine VTos.cons ?_ ?_ | exact VTos.nil | refine VTo.agg ?_ | refine VTo.tuple ?_ | refine VTo.func ?_ ?_ | exact VTo.fs | exact VTo.fp | exact VTo.nilptr | exact VTo.nilslice | exact VTo.nilfunc | exact VTo.ptr rfl | exact VTo.gl rfl | exact VTo.map rfl | exact VTo.yld rfl | exact VTo.fmMap rfl | exact VTo.fm | exact VTo.glNil' (by decide) rfl rfl | exact VTo.fsNil (by decide) | exact VTo.fsSl rfl rfl (by simp [flat_len encE_len]) | exact VTo.fpPtr rfl | exact VTo.fsGl rfl (by first | rfl | exact flat_len encI_len _ | exact flat_len encS_len _ | exact flat_len encP_len _ | exact flat_len encL_len _ | exact flat_len encE_len _ | (simp [flat_len encP_len]; done) | simp [flat_len encI_len, flat_len encS_len]))) (by first | rfl | (repeat' (first | exact MkTo.nil | refine MkTo.keep rfl ?_ | refine MkTo.drop (by decide) rfl ?_)))
  · conv => whnf
    repeat (first | (refine VLd.intro rfl ?_; conv => whnf) | (refine VArith.i64 (by omega) ?_; conv => whnf) | (refine VNeed.intro (by first | rfl | (simp; omega)) ?_; conv => whnf) | (refine VMem.store rfl rfl rfl rfl ?_; conv => whnf) | (refine VSame.intro rfl ?_; conv => whnf) | (refine VDraw.go [] (by kernel_rfl) (by kernel_rfl) ?_; conv => whnf))
    refine VCall.intro (vc_Owners_ok f2 _ chk2) ?_
    rw [os2]
    conv => whnf
    repeat (first | (refine VLd.intro rfl ?_; conv => whnf) | (refine VArith.i64 (by omega) ?_; conv => whnf) | (refine VNeed.intro (by first | rfl | (simp; omega)) ?_; conv => whnf) | (refine VMem.store rfl rfl rfl rfl ?_; conv => whnf) | (refine VSame.intro rfl ?_; conv => whnf) | (refine VDraw.go [] (by kernel_rfl) (by kernel_rfl) ?_; conv => whnf))
    refine VCall.intro (vc_Truth_ok f2 0 _ tru2) ?_
    rw [truG2]
    conv => whnf
    repeat (first | (refine VLd.intro rfl ?_; conv => whnf) | (refine VArith.i64 (by omega) ?_; conv => whnf) | (refine VNeed.intro (by first | rfl | (simp; omega)) ?_; conv => whnf) | (refine VMem.store rfl rfl rfl rfl ?_; conv => whnf) | (refine VSame.intro rfl ?_; conv => whnf) | (refine VDraw.go [] (by kernel_rfl) (by kernel_rfl) ?_; conv => whnf))
    refine VCall.intro (vc_Since f2 0 _ (by decide)) ?_
    rw [show sinceR f2 0 = .tuple [.agg [I 1760, I 1760], I 0] from by unfold sinceR; rw [sn2.1, sn2.2.1, sn2.2.2]; rfl]
    conv => whnf
    repeat (first | (refine VLd.intro rfl ?_; conv => whnf) | (refine VArith.i64 (by omega) ?_; conv => whnf) | (refine VNeed.intro (by first | rfl | (simp; omega)) ?_; conv => whnf) | (refine VMem.store rfl rfl rfl rfl ?_; conv => whnf) | (refine VSame.intro rfl ?_; conv => whnf) | (refine VDraw.go [] (by kernel_rfl) (by kernel_rfl) ?_; conv => whnf))
    refine VCall.intro (VC.lend1 [dL [0, 2], dL [0, 2]] [(1, [0, 2].flatMap encI)] [] (by repeat' (first | exact FzAll.nil | refine FzAll.flat rfl ?_ | refine FzAll.row rfl rfl (RowTo.one rfl (by simp)) ?_)) trivial (by repeat' (first | exact VTo.undef | exact FrTo.leaf | refine FrTo.node ?_ ?_ ?_ | refine FrTo.none ?_ ?_ | exact VTo.sc (by first | rfl | (congr 1; omega) | (congr 1; simp; omega)) | exact VTos_dv _ _ | refine VTos.cons ?_ ?_ | exact VTos.nil | refine VTo.agg ?_ | refine VTo.tuple ?_ | refine VTo.func ?_ ?_ | exact VTo.fs | exact VTo.fp | exact VTo.nilptr | exact VTo.nilslice | exact VTo.nilfunc | exact VTo.ptr rfl | exact VTo.gl rfl | exact VTo.map rfl | exact VTo.yld rfl | exact VTo.fmMap rfl | exact VTo.fm | exact VTo.glNil' (by decide) rfl rfl | exact VTo.fsNil (by decide) | exact VTo.fsSl rfl rfl (by simp [flat_len encE_len]) | exact VTo.fpPtr rfl | exact VTo.fsGl rfl (by first | rfl | exact flat_len encI_len _ | exact flat_len encS_len _ | exact flat_len encP_len _ | exact flat_len encL_len _ | exact flat_len encE_len _ | (simp [flat_len encP_len]; done) | simp [flat_len encI_len, flat_len encS_len]))) (vc_equalI [0, 2] [0, 2] Hp.bare (by decide) (by decide))) ?_
    conv => whnf
    repeat (first | (refine VLd.intro rfl ?_; conv => whnf) | (refine VArith.i64 (by omega) ?_; conv => whnf) | (refine VNeed.intro (by first | rfl | (simp; omega)) ?_; conv => whnf) | (refine VMem.store rfl rfl rfl rfl ?_; conv => whnf) | (refine VSame.intro rfl ?_; conv => whnf) | (refine VDraw.go [] (by kernel_rfl) (by kernel_rfl) ?_; conv => whnf))
    refine VCall.intro (vc_equalI yl yl _ (by decide) (by decide)) ?_
    conv => whnf
    repeat (first | (refine VLd.intro rfl ?_; conv => whnf) | (refine VArith.i64 (by omega) ?_; conv => whnf) | (refine VNeed.intro (by first | rfl | (simp; omega)) ?_; conv => whnf) | (refine VMem.store rfl rfl rfl rfl ?_; conv => whnf) | (refine VSame.intro rfl ?_; conv => whnf) | (refine VDraw.go [] (by kernel_rfl) (by kernel_rfl) ?_; conv => whnf))
    rw [show vaggeq Try.prog BinOp.neq 43 (V.agg [V.s (S.int IntKind.i64 1760), V.s (S.int IntKind.i64 1760)]) (V.agg [V.s (S.int IntKind.i64 1760), V.s (S.int IntKind.i64 1760)]) = some (B false) from vneqS ⟨1760, 1760⟩ ⟨1760, 1760⟩]
    conv => whnf
    repeat (first | (refine VLd.intro rfl ?_; conv => whnf) | (refine VArith.i64 (by omega) ?_; conv => whnf) | (refine VNeed.intro (by first | rfl | (simp; omega)) ?_; conv => whnf) | (refine VMem.store rfl rfl rfl rfl ?_; conv => whnf) | (refine VSame.intro rfl ?_; conv => whnf) | (refine VDraw.go [] (by kernel_rfl) (by kernel_rfl) ?_; conv => whnf))
    refine VCall.intro (VC.give (args' := [I 50, I 20, ints [1700, 1715, 1730, -1738, 1745, 1760]]) (loc' := [.dead, .dead, .dead]) [(2, [1700, 1715, 1730, -1738, 1745, 1760].flatMap encI)] [] (OutOk.lift _) (by repeat' (first | exact BTos.nil | refine BTos.flat rfl rfl (by first | rfl | simp) ?_ | refine BTos.new rfl ?_ | refine BTos.dead rfl rfl ?_ | refine BTos.esE rfl rfl ?_ | refine BTos.row rfl rfl rfl (RowTo.snoc (RowTo.one rfl (by simp))) ?_ | refine BTos.cells rfl rfl rfl (by repeat' (first | exact VTo.undef | exact FrTo.leaf | refine FrTo.node ?_ ?_ ?_ | refine FrTo.none ?_ ?_ | exact VTo.sc (by first | rfl | (congr 1; omega) | (congr 1; simp; omega)) | exact VTos_dv _ _ | refine VTos.cons ?_ ?_ | exact VTos.nil | refine VTo.agg ?_ | refine VTo.tuple ?_ | refine VTo.func ?_ ?_ | exact VTo.fs | exact VTo.fp | exact VTo.nilptr | exact VTo.nilslice | exact VTo.nilfunc | exact VTo.ptr rfl | exact VTo.gl rfl | exact VTo.map rfl | exact VTo.yld rfl | exact VTo.fmMap rfl | exact VTo.fm | exact VTo.glNil' (by decide) rfl rfl | exact VTo.fsNil (by decide) | exact VTo.fsSl rfl rfl (by simp [flat_len encE_len]) | exact VTo.fpPtr rfl | exact VTo.fsGl rfl (by first | rfl | exact flat_len encI_len _ | exact flat_len encS_len _ | exact flat_len encP_len _ | exact flat_len encL_len _ | exact flat_len encE_len _ | (simp [flat_len encP_len]; done) | simp [flat_len encI_len, flat_len encS_len]))) ?_)) (by repeat' (first | exact FzAll.nil | refine FzAll.flat rfl ?_ | refine FzAll.row rfl rfl (RowTo.one rfl (by simp)) ?_)) (by exact FmAll.nil) rfl (by repeat' (first | exact VTo.undef | exact FrTo.leaf | refine FrTo.node ?_ ?_ ?_ | refine FrTo.none ?_ ?_ | exact VTo.sc (by first | rfl | (congr 1; omega) | (congr 1; simp; omega)) | exact VTos_dv _ _ | refine VTos.cons ?_ ?_ | exact VTos.nil | refine VTo.agg ?_ | refine VTo.tuple ?_ | refine VTo.func ?_ ?_ | exact VTo.fs | exact VTo.fp | exact VTo.nilptr | exact VTo.nilslice | exact VTo.nilfunc | exact VTo.ptr rfl | exact VTo.gl rfl | exact VTo.map rfl | exact VTo.yld rfl | exact VTo.fmMap rfl | exact VTo.fm | exact VTo.glNil' (by decide) rfl rfl | exact VTo.fsNil (by decide) | exact VTo.fsSl rfl rfl (by simp [flat_len encE_len]) | exact VTo.fpPtr rfl | exact VTo.fsGl rfl (by first | rfl | exact flat_len encI_len _ | exact flat_len encS_len _ | exact flat_len encP_len _ | exact flat_len encL_len _ | exact flat_len encE_len _ | (simp [flat_len encP_len]; done) | simp [flat_len encI_len, flat_len encS_len]))) (vc_Dated 50 20 [1700, 1715, 1730, -1738, 1745, 1760] _ (by decide) (by decide))) ?_
    conv => whnf
    repeat (first | (refine VLd.intro rfl ?_; conv => whnf) | (refine VArith.i64 (by omega) ?_; conv => whnf) | (refine VNeed.intro (by first | rfl | (simp; omega)) ?_; conv => whnf) | (refine VMem.store rfl rfl rfl rfl ?_; conv => whnf) | (refine VSame.intro rfl ?_; conv => whnf) | (refine VDraw.go [] (by kernel_rfl) (by kernel_rfl) ?_; conv => whnf))
    refine VCall.intro (VC.give (args' := [vF f4, ints y6]) (loc' := [.dead, .dead, .dead, .dead]) [(3, y6.flatMap encI)] [] (OutOk.lift _) (by repeat' (first | exact BTos.nil | refine BTos.flat rfl rfl (by first | rfl | simp) ?_ | refine BTos.new rfl ?_ | refine BTos.dead rfl rfl ?_ | refine BTos.esE rfl rfl ?_ | refine BTos.row rfl rfl rfl (RowTo.snoc (RowTo.one rfl (by simp))) ?_ | refine BTos.cells rfl rfl rfl (by repeat' (first | exact VTo.undef | exact FrTo.leaf | refine FrTo.node ?_ ?_ ?_ | refine FrTo.none ?_ ?_ | exact VTo.sc (by first | rfl | (congr 1; omega) | (congr 1; simp; omega)) | exact VTos_dv _ _ | refine VTos.cons ?_ ?_ | exact VTos.nil | refine VTo.agg ?_ | refine VTo.tuple ?_ | refine VTo.func ?_ ?_ | exact VTo.fs | exact VTo.fp | exact VTo.nilptr | exact VTo.nilslice | exact VTo.nilfunc | exact VTo.ptr rfl | exact VTo.gl rfl | exact VTo.map rfl | exact VTo.yld rfl | exact VTo.fmMap rfl | exact VTo.fm | exact VTo.glNil' (by decide) rfl rfl | exact VTo.fsNil (by decide) | exact VTo.fsSl rfl rfl (by simp [flat_len encE_len]) | exact VTo.fpPtr rfl | exact VTo.fsGl rfl (by first | rfl | exact flat_len encI_len _ | exact flat_len encS_len _ | exact flat_len encP_len _ | exact flat_len encL_len _ | exact flat_len encE_len _ | (simp [flat_len encP_len]; done) | simp [flat_len encI_len, flat_len encS_len]))) ?_)) (by repeat' (first | exact FzAll.nil | refine FzAll.flat rfl ?_ | refine FzAll.row rfl rfl (RowTo.one rfl (by simp)) ?_)) (by exact FmAll.nil) rfl (by repeat' (first | exact VTo.undef | exact FrTo.leaf | refine FrTo.node ?_ ?_ ?_ | refine FrTo.none ?_ ?_ | exact VTo.sc (by first | rfl | (congr 1; omega) | (congr 1; simp; omega)) | exact VTos_dv _ _ | refine VTos.cons ?_ ?_ | exact VTos.nil | refine VTo.agg ?_ | refine VTo.tuple ?_ | refine VTo.func ?_ ?_ | exact VTo.fs | exact VTo.fp | exact VTo.nilptr | exact VTo.nilslice | exact VTo.nilfunc | exact VTo.ptr rfl | exact VTo.gl rfl | exact VTo.map rfl | exact VTo.yld rfl | exact VTo.fmMap rfl | exact VTo.fm | exact VTo.glNil' (by decide) rfl rfl | exact VTo.fsNil (by decide) | exact VTo.fsSl rfl rfl (by simp [flat_len encE_len]) | exact VTo.fpPtr rfl | exact VTo.fsGl rfl (by first | rfl | exact flat_len encI_len _ | exact flat_len encS_len _ | exact flat_len encP_len _ | exact flat_len encL_len _ | exact flat_len encE_len _ | (simp [flat_len encP_len]; done) | simp [flat_len encI_len, flat_len encS_len]))) (ch4 _)) ?_
    conv => whnf
    repeat (first | (refine VLd.intro rfl ?_; conv => whnf) | (refine VArith.i64 (by omega) ?_; conv => whnf) | (refine VNeed.intro (by first | rfl | (simp; omega)) ?_; conv => whnf) | (refine VMem.store rfl rfl rfl rfl ?_; conv => whnf) | (refine VSame.intro rfl ?_; conv => whnf) | (refine VDraw.go [] (by kernel_rfl) (by kernel_rfl) ?_; conv => whnf))
    refine VCall.intro (VC.lend1 [.sl 2 3 (s4.flatMap encS), .sl 2 3 (s4.flatMap encS)] [(4, s4.flatMap encS)] [] (by repeat' (first | exact FzAll.nil | refine FzAll.flat rfl ?_ | refine FzAll.row rfl rfl (RowTo.one rfl (by simp)) ?_)) trivial (by repeat' (first | exact VTo.undef | exact FrTo.leaf | refine FrTo.node ?_ ?_ ?_ | refine FrTo.none ?_ ?_ | exact VTo.sc (by first | rfl | (congr 1; omega) | (congr 1; simp; omega)) | exact VTos_dv _ _ | refine VTos.cons ?_ ?_ | exact VTos.nil | refine VTo.agg ?_ | refine VTo.tuple ?_ | refine VTo.func ?_ ?_ | exact VTo.fs | exact VTo.fp | exact VTo.nilptr | exact VTo.nilslice | exact VTo.nilfunc | exact VTo.ptr rfl | exact VTo.gl rfl | exact VTo.map rfl | exact VTo.yld rfl | exact VTo.fmMap rfl | exact VTo.fm | exact VTo.glNil' (by decide) rfl rfl | exact VTo.fsNil (by decide) | exact VTo.fsSl rfl rfl (by simp [flat_len encE_len]) | exact VTo.fpPtr rfl | exact VTo.fsGl rfl (by first | rfl | exact flat_len encI_len _ | exact flat_len encS_len _ | exact flat_len encP_len _ | exact flat_len encL_len _ | exact flat_len encE_len _ | (simp [flat_len encP_len]; done) | simp [flat_len encI_len, flat_len encS_len]))) (vc_equalS s4 s4 Hp.bare (by decide) (by decide))) ?_
    conv => whnf
    repeat (first | (refine VLd.intro rfl ?_; conv => whnf) | (refine VArith.i64 (by omega) ?_; conv => whnf) | (refine VNeed.intro (by first | rfl | (simp; omega)) ?_; conv => whnf) | (refine VMem.store rfl rfl rfl rfl ?_; conv => whnf) | (refine VSame.intro rfl ?_; conv => whnf) | (refine VDraw.go [] (by kernel_rfl) (by kernel_rfl) ?_; conv => whnf))
    exact VOut.same rfl
end Go.Proofs.Ytolnajnlcdacmaa

open Go.Vm
namespace Go.Proofs.Ytolnajnlcdacmaa
set_option maxRecDepth 20000
set_option maxHeartbeats 2000000

theorem eqNilI (h : Hp) : VC Try.prog 18 [.nilslice, .nilslice] h (B true) h := by
  obtain ⟨o, l⟩ := h
  refine VC.lend1 [dL [], dL []] [] [] trivial trivial (by repeat' (first | exact VTo.undef | exact FrTo.leaf | refine FrTo.node ?_ ?_ ?_ | refine FrTo.none ?_ ?_ | exact VTo.sc (by first | rfl | (congr 1; omega) | (congr 1; simp; omega)) | exact VTos_dv _ _ | refine VTos.cons ?_ ?_ | exact VTos.nil | refine VTo.agg ?_ | refine VTo.tuple ?_ | refine VTo.func ?_ ?_ | exact VTo.fs | exact VTo.fp | exact VTo.nilptr | exact VTo.nilslice | exact VTo.nilfunc | exact VTo.ptr rfl | exact VTo.gl rfl | exact VTo.map rfl | exact VTo.yld rfl | exact VTo.fmMap rfl | exact VTo.fm | exact VTo.glNil' (by decide) rfl rfl | exact VTo.fsNil (by decide) | exact VTo.fsSl rfl rfl (by simp [flat_len encE_len]) | exact VTo.fpPtr rfl | exact VTo.fsGl rfl (by first | rfl | exact flat_len encI_len _ | exact flat_len encS_len _ | exact flat_len encP_len _ | exact flat_len encL_len _ | exact flat_len encE_len _ | (simp [flat_len encP_len]; done) | simp [flat_len encI_len, flat_len encS_len]))) ?_
  exact vc_equalI [] [] Hp.bare (by decide) (by decide)
theorem eqNilS (h : Hp) : VC Try.prog 39 [.nilslice, .nilslice] h (B true) h := by
  obtain ⟨o, l⟩ := h
  refine VC.lend1 [.sl 2 0 [], .sl 2 0 []] [] [] trivial trivial (by repeat' (first | exact VTo.undef | exact FrTo.leaf | refine FrTo.node ?_ ?_ ?_ | refine FrTo.none ?_ ?_ | exact VTo.sc (by first | rfl | (congr 1; omega) | (congr 1; simp; omega)) | exact VTos_dv _ _ | refine VTos.cons ?_ ?_ | exact VTos.nil | refine VTo.agg ?_ | refine VTo.tuple ?_ | refine VTo.func ?_ ?_ | exact VTo.fs | exact VTo.fp | exact VTo.nilptr | exact VTo.nilslice | exact VTo.nilfunc | exact VTo.ptr rfl | exact VTo.gl rfl | exact VTo.map rfl | exact VTo.yld rfl | exact VTo.fmMap rfl | exact VTo.fm | exact VTo.glNil' (by decide) rfl rfl | exact VTo.fsNil (by decide) | exact VTo.fsSl rfl rfl (by simp [flat_len encE_len]) | exact VTo.fpPtr rfl | exact VTo.fsGl rfl (by first | rfl | exact flat_len encI_len _ | exact flat_len encS_len _ | exact flat_len encP_len _ | exact flat_len encL_len _ | exact flat_len encE_len _ | (simp [flat_len encP_len]; done) | simp [flat_len encI_len, flat_len encS_len]))) ?_
  exact vc_equalS [] [] Hp.bare (by decide) (by decide)
theorem eqI (l : List Int) (h : Hp) (hl : l.length ≤ 4000000) : VC Try.prog 18 [ints l, ints l] h (B true) h := by
  have := vc_equalI l l h hl hl
  rw [decide_eq_true rfl] at this; exact this
theorem eqS (l : List Spn) (h : Hp) (hl : l.length ≤ 4000000) : VC Try.prog 39 [spans l, spans l] h (B true) h := by
  have := vc_equalS l l h hl hl
  rw [decide_eq_true rfl] at this; exact this
theorem eqF (f : Fil) (h : Hp) (hl : f.ps.length ≤ 4000000) : VC Try.prog 24 [vF f, vF f] h (B true) h := by
  have := vc_equal f f h hl hl
  rw [decide_eq_true ⟨rfl, rfl, rfl⟩] at this; exact this
theorem vc_SilenceRights (f : Fil) (t : List Int) (h : Hp) : VC Try.prog 6 [vF f, ints t] h (B true) h := by
  refine VC.body Try.func6 rfl Try.ntmps6 Try.call6 (h.grows_refl) rfl ?_; conv => whnf
  repeat' (first | (refine VLd.intro rfl ?_; conv => whnf) | (refine VArith.i64 (by omega) ?_; conv => whnf) | (refine VNeed.intro (by first | rfl | (simp; omega)) ?_; conv => whnf) | (refine VMem.store rfl rfl rfl rfl ?_; conv => whnf) | (refine VSame.intro rfl ?_; conv => whnf) | (refine VIte.dec (fun _ => ?_) (fun _ => ?_) <;> conv => whnf) | (refine VIte.ndec (fun _ => ?_) (fun _ => ?_) <;> conv => whnf) | (refine VIte.beq (fun _ => ?_) (fun _ => ?_) <;> conv => whnf) | (refine VIte.bne (fun _ => ?_) (fun _ => ?_) <;> conv => whnf) | (refine VIte.intro (fun _ => ?_) (fun _ => ?_) <;> conv => whnf) | (refine VCall.intro (vc_awake _) ?_; conv => whnf))
  · exact VOut.same rfl
  · exact VOut.same rfl
  · have hn : f.ps.length ≤ 20 := by omega
    have hl : t.length ≤ 20 := by omega
    have hcl := (chS_le f t t.length).1
    have hal := selS_len (arB f t) t.length
    have a1 := fun h => vc_Arises f t h (by omega) (by omega)
    have a2 := fun h => vc_rArises f t h (by omega) (by omega)
    have a3 : ∀ h, VC Try.prog 18 [if toldE f t = 0 then ints (arL f t) else .nilslice, if toldE f t = 0 then ints (arL f t) else .nilslice] h (B true) h := fun h => by
      split
      · exact eqI _ h (by unfold arL; omega)
      · exact eqNilI h
    have b1 := fun h => vc_Chains f t h (by omega) (by omega)
    have b2 := fun h => vc_rChains f t h (by omega) (by omega)
    have b3 : ∀ h, VC Try.prog 39 [if toldE f t = 0 then spans (chS f t t.length) else .nilslice, if toldE f t = 0 then spans (chS f t t.length) else .nilslice] h (B true) h := fun h => by
      split
      · exact eqS _ h (by omega)
      · exact eqNilS h
    obtain ⟨VA, VB, hA, hB, hv⟩ : ∃ VA VB, VA = (if toldE f t = 0 then ints (arL f t) else .nilslice) ∧ VB = (if toldE f t = 0 then spans (chS f t t.length) else .nilslice) ∧ ((VA = ints (arL f t) ∧ VB = spans (chS f t t.length)) ∨ (VA = .nilslice ∧ VB = .nilslice)) := by
      refine ⟨_, _, rfl, rfl, ?_⟩
      split
      · exact .inl ⟨rfl, rfl⟩
      · exact .inr ⟨rfl, rfl⟩
    rw [← hA] at a1 a2 a3
    rw [← hB] at b1 b2 b3
    clear hA hB
    rcases hv with ⟨rfl, rfl⟩ | ⟨rfl, rfl⟩
    all_goals (
      refine VDraw.go [(1, 4), (3, 4)] (by kernel_rfl) (by kernel_rfl) ?_
      conv => whnf
      repeat' (first | (refine VLd.intro rfl ?_; conv => whnf) | (refine VArith.i64 (by omega) ?_; conv => whnf) | (refine VNeed.intro (by first | rfl | (simp; omega)) ?_; conv => whnf) | (refine VMem.store rfl rfl rfl rfl ?_; conv => whnf) | (refine VSame.intro rfl ?_; conv => whnf) | (refine VIte.dec (fun _ => ?_) (fun _ => ?_) <;> conv => whnf) | (refine VIte.ndec (fun _ => ?_) (fun _ => ?_) <;> conv => whnf) | (refine VIte.beq (fun _ => ?_) (fun _ => ?_) <;> conv => whnf) | (refine VIte.bne (fun _ => ?_) (fun _ => ?_) <;> conv => whnf) | (refine VIte.intro (fun _ => ?_) (fun _ => ?_) <;> conv => whnf) | (refine VCall.intro (vc_CloneFile f _ (by omega)) ?_; conv => whnf) | (refine VCall.intro (vc_cloneI t _ (by omega)) ?_; conv => whnf) | (refine VCall.intro (vc_File f _ (by omega)) ?_; conv => whnf))
      refine VDraw.go [(1, 2)] (by kernel_rfl) (by kernel_rfl) ?_
      conv => whnf
      repeat' (first | (refine VLd.intro rfl ?_; conv => whnf) | (refine VArith.i64 (by omega) ?_; conv => whnf) | (refine VNeed.intro (by first | rfl | (simp; omega)) ?_; conv => whnf) | (refine VMem.store rfl rfl rfl rfl ?_; conv => whnf) | (refine VSame.intro rfl ?_; conv => whnf) | (refine VIte.dec (fun _ => ?_) (fun _ => ?_) <;> conv => whnf) | (refine VIte.ndec (fun _ => ?_) (fun _ => ?_) <;> conv => whnf) | (refine VIte.beq (fun _ => ?_) (fun _ => ?_) <;> conv => whnf) | (refine VIte.bne (fun _ => ?_) (fun _ => ?_) <;> conv => whnf) | (refine VIte.intro (fun _ => ?_) (fun _ => ?_) <;> conv => whnf) | (refine VCall.intro (vc_check f _ (by omega)) ?_; conv => whnf) | (refine VCall.intro (vc_rcheck f _ (by omega)) ?_; conv => whnf) | (refine VCall.intro (vc_Holds f t _ (by omega) (by omega)) ?_; conv => whnf) | (refine VCall.intro (vc_rHolds f t _ (by omega) (by omega)) ?_; conv => whnf) | (refine VCall.intro (a1 _) ?_; conv => whnf) | (refine VCall.intro (a2 _) ?_; conv => whnf) | (refine VCall.intro (a3 _) ?_; conv => whnf) | (refine VCall.intro (b1 _) ?_; conv => whnf) | (refine VCall.intro (b2 _) ?_; conv => whnf) | (refine VCall.intro (b3 _) ?_; conv => whnf) | (refine VCall.intro (vc_Owner f t _ (by omega) (by omega)) ?_; conv => whnf) | (refine VCall.intro (vc_rOwner f t _ (by omega) (by omega)) ?_; conv => whnf) | (refine VCall.intro (eqF f _ (by omega)) ?_; conv => whnf) | (refine VCall.intro (eqI t _ (by omega)) ?_; conv => whnf) | (refine VCall.intro (vc_awake _) ?_; conv => whnf))
      all_goals first | exact VOut.same rfl | (rename_i hx; exact absurd rfl hx))
end Go.Proofs.Ytolnajnlcdacmaa

open Go.Vm
namespace Go.Proofs.Ytolnajnlcdacmaa
open Go.ChangeShapes Go.WideShapes Go.ChangeAt Go.RowKit

theorem open3 : Opens Try.prog 3 (fun n : Int => [DI n]) := Opens.int Try.underlying3
theorem open43 : Opens Try.prog 43 (fun x : Int × Int => [DI x.1] ++ [DI x.2]) := Opens.struct2 1 1 Try.underlying43 (by kernel_rfl) rfl rfl (by kernel_rfl) (by kernel_rfl) open3 open3
theorem open55 : Opens Try.prog 55 encP := (Opens.struct2 1 2 Try.underlying55 (by kernel_rfl) rfl rfl (by kernel_rfl) (by kernel_rfl) open3 open43).as (fun x => ⟨x.1, x.2.1, x.2.2⟩) encP fun _ => rfl
theorem open22 : Opens Try.prog 22 (fun l : List Pap => [D.sl 3 l.length (l.flatMap encP)]) := Opens.slice Try.underlying22 encP_len (by kernel_rfl) (by decide) open55
theorem open24 : Opens Try.prog 24 encF := (Opens.struct3 1 1 1 Try.underlying24 (by kernel_rfl) rfl rfl rfl (by kernel_rfl) (by kernel_rfl) (by kernel_rfl) open3 open3 open22).as (fun x => ⟨x.1, x.2.1, x.2.2⟩) encF fun _ => rfl
theorem open32 : Opens Try.prog 32 (fun l : List Int => [dL l]) := Opens.slice Try.underlying32 encI_len (by kernel_rfl) (by decide) open3
theorem openF : OpenV Try.prog 24 dF := OpenV.struct Try.underlying24 open24
theorem openL : OpenV Try.prog 32 dL := OpenV.slice Try.underlying32 open32
theorem ownKn : ownKnob Try.prog.godebug = none := by kernel_rfl
theorem laidOut : laidOutB Try.prog = true := by kernel_rfl
theorem open6 : OpenAll Try.prog Try.f6.params.toList (fun x : Fil × List Int × Unit => [dF x.1, dL x.2.1]) := by
  rw [Try.params6]
  exact OpenAll.cons openF (OpenAll.cons openL OpenAll.nil)
set_option maxRecDepth 100000 in
theorem contract6 (H : Type) (enc : TypeId × Value → H) (W : World) (base : Nat) (args : Array Value) (ds gs : List (DataW H)) (before : List MemPlace)
    (hval : ∀ (j : Nat) t v, Try.f6.params[j]? = some t → args[j]? = some v → Value.okWide Try.prog W .any base t v)
    (hW : DataW.Whole enc Try.prog Try.f6.params.toList Rows.silenceRightsSpec.vars false W args.toList ds gs before) :
    Calls Try.prog 6 args W fun e W' => ∃ v, e = .returned v ∧ Rows.silenceRightsSpec.post enc Try.prog Try.f6 false true false false W args v W' := by
  refine contract_of_vc open6 (fun g => vc_SilenceRights g.1 g.2.1 Hp.bare) laidOut ?_ (tb := 4) (by kernel_rfl) Try.underlying4 rfl ?_ hval hW
  · rw [Try.params6]
    intro t ht
    simp only [List.mem_cons, List.not_mem_nil, or_false] at ht
    rcases ht with rfl | rfl
    · exact ⟨by kernel_rfl, of_decide_eq_true (by kernel_rfl)⟩
    · exact ⟨by kernel_rfl, of_decide_eq_true (by kernel_rfl)⟩
  · intro H dd hl
    rw [Try.params6] at hl
    match dd, hl with
    | [d1, d2], _ => rfl
set_option maxRecDepth 100000 in
theorem lifted6 (os : Os) (started : os.Started) (H : Type) (enc : TypeId × Value → H) :
    ReturnsInHanded {} Try.checked os 6 .any (Rows.silenceRightsSpec.pre6 enc Try.prog Try.f6 Rows.silenceRightsRow.domain false) (Rows.silenceRightsSpec.post enc Try.prog Try.f6 false true false false) := by
  refine returnsInHanded_of_change (C := Try.checked) ownKn started (by kernel_rfl) Try.func6
    (ChangeSpec.witness6 (enc := enc) (C := Try.checked) false ⟨#[], #[.agg #[.int .i64 0, .int .i64 0, .slice none 0 0], .slice none 0 0], []⟩ 8 (by kernel_rfl) (by kernel_rfl) (by kernel_rfl) (by kernel_rfl)) ?_
  intro W base args ds gs before hval hW _ _
  exact contract6 H enc W base args ds gs before hval hW
theorem silenceRights_said : Rows.SilenceRightsSaid :=
  OpenClaim.holds_of_wide 6 Try.f6 rfl rfl rfl rfl rfl rfl rfl ⟨rfl, rfl, rfl, rfl, rfl⟩ rfl rfl rfl rfl rfl (by kernel_rfl) Try.func6 (by kernel_rfl)
    (of_decide_eq_true (by kernel_rfl)) (by unfold Func.isWrapper; first | (rw [if_pos (by decide +kernel)]; kernel_rfl) | (rw [if_neg (by decide +kernel)]; exact ⟨rfl, rfl⟩))
    (fun os started H enc _ => lifted6 os started H enc)
end Go.Proofs.Ytolnajnlcdacmaa

