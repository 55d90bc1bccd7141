/- Part 5 of the proof that an exchange is best just if some price holds for it. No condition. -/
import Derived.Test.YtmpjpjfkbmlmfaaBe4
set_option linter.unusedVariables false
set_option linter.unusedSimpArgs false
open Go.Vm
namespace Go.Vm

theorem Hp.set_set (h : Hp) (i : Id) (b c : Blk) : (h.set i b).set i c = h.set i c := by
  cases i with
  | out i =>
    obtain ⟨o, l⟩ := h
    simp only [Hp.set]
    congr 1
    funext j
    split <;> rfl
  | loc k => simp [Hp.set]
/-- A store of a pair. -/
theorem VMem.st2 {P : Program} {t : TypeId} {i : Id} {off : Nat} {v v1 v2 : V} {ti : TI} {h : Hp} {b b1 b2 : Blk} {K : V → Hp → Prop} (hTt : tiOf P t = some ti) (hp : v.parts = some [v1, v2]) (hl : ti.size = 2) (hb : h.get i = some b) (hw1 : b.wr1 off v1 = some b1) (hw2 : b1.wr1 (off + 1) v2 = some b2) (hK : K .undef (h.set i b2)) :
    VMem P (opStore t) [.ptr i off, v] h K := by
  refine VMem.intro (does_store (cs := [v1, v2]) (tiOf_ok P) hTt hp (by simp [hl]) ?_) hK
  have hn : h.get i ≠ none := by rw [hb]; simp
  have h2 : (h.set i b1).get i = some b1 := (Hp.get_set h i _ _ hn).trans (if_pos rfl)
  simp only [Hp.wrN, Hp.wr1, hb, hw1, h2, hw2, Hp.set_set]
end Go.Vm
namespace Go.Proofs.Ytmpjpjfkbmlmfaa
set_option maxRecDepth 20000
set_option maxHeartbeats 4000000

structure PJ (o : Vm.Id → Option Blk) (a : Spn) (g : Hp) : Prop where
  o : g.outer = o
  b0 : g.get (.loc 0) = some (.flat true [DI a.lo, DI a.hi])
  b1 : g.get (.loc 1) = some .mark
theorem outer_fix1 {o : Vm.Id → Option Blk} {iy i1 : Vm.Id} {b0 b b1 : Blk} (h : o iy = some b) (n1 : iy ≠ i1) : outW (outW (outW o iy b0) i1 b1) iy b = outW o i1 b1 := by
  funext j
  unfold outW
  by_cases e : j = iy
  · subst e; rw [if_pos rfl, if_neg n1, h]
  · rw [if_neg e, if_neg e]
theorem PrI.bd {l : Lnd} {x : Exc} {k : Nat} {a : Spn} (h : PrI l x k a) : (0 ≤ a.lo ∧ a.lo ≤ 4000) ∧ 0 ≤ a.hi ∧ a.hi ≤ 4000 := by
  have := h.lo; have := h.hi; omega
theorem vc_Price_bad (l : Lnd) (x : Exc) (h : Hp) (o : Ok l) (ox : XOk l x) (hb : (alB l x && (wst l x).isNone) = false) : VC Try.prog 33 [vL l, vX x] h (.tuple [I 0, I 0, I 9]) h := by
  have c := fun h => vc_Best_ok l x h o ox
  rw [hb] at c
  refine VC.body Try.func33 rfl Try.ntmps33 Try.call33 (h.grows_refl) rfl ?_; conv => whnf
  repeat' (first | (refine VLd.intro rfl ?_; conv => whnf) | (refine VArith.i64 (by first | omega | (dsimp only; omega)) ?_; conv => whnf) | (refine VNeed.intro (by first | rfl | (simp; omega) | (simp; done)) ?_; conv => whnf) | (refine VMem.store rfl rfl rfl rfl ?_; conv => whnf) | (refine VSame.intro rfl ?_; conv => whnf) | (refine VDraw.go [] (by kernel_rfl) (by kernel_rfl) ?_; conv => whnf) | (refine VIte.dec (fun _ => ?_) (fun _ => ?_) <;> conv => whnf) | (refine VIte.ndec (fun _ => ?_) (fun _ => ?_) <;> conv => whnf) | (refine VIte.beq (fun _ => ?_) (fun _ => ?_) <;> conv => whnf) | (refine VIte.bne (fun _ => ?_) (fun _ => ?_) <;> conv => whnf) | (refine VIte.intro (fun _ => ?_) (fun _ => ?_) <;> conv => whnf) | (refine VCall.intro (c _) ?_; conv => whnf))
  all_goals first | exact VOut.same rfl | (rename_i hz; exact absurd rfl hz)
theorem vc_Price_ok (l : Lnd) (x : Exc) (h : Hp) (o : Ok l) (ox : XOk l x) (hb : (alB l x && (wst l x).isNone) = true) : VC Try.prog 33 [vL l, vX x] h (.tuple [I (prX l x).hi, I (prX l x).lo, I 0]) h := by
  have c := fun h => vc_Best_ok l x h o ox
  rw [hb] at c
  have hn := o.n
  have hl := ox.len
  have hw := ox.w
  obtain ⟨R, hR⟩ : ∃ R, R = prX l x := ⟨_, rfl⟩
  rw [← hR]
  have hR0 : R = prGo x.w ⟨1, 1001⟩ (l.ss.drop 0) (x.ps.drop 0) := hR
  have hI0 : PrI l x 0 ⟨1, 1001⟩ := ⟨by decide, by decide, .inl rfl, fun i s p h => by omega⟩
  clear hR
  refine VC.body Try.func33 rfl Try.ntmps33 Try.call33 (h.grows_refl) rfl ?_; conv => whnf
  repeat' (first | (refine VLd.intro rfl ?_; conv => whnf) | (refine VArith.i64 (by first | omega | (dsimp only; omega)) ?_; conv => whnf) | (refine VNeed.intro (by first | rfl | (simp; omega) | (simp; done)) ?_; conv => whnf) | (refine VMem.store rfl rfl rfl rfl ?_; conv => whnf) | (refine VSame.intro rfl ?_; conv => whnf) | (refine VIte.dec (fun _ => ?_) (fun _ => ?_) <;> conv => whnf) | (refine VIte.ndec (fun _ => ?_) (fun _ => ?_) <;> conv => whnf) | (refine VIte.beq (fun _ => ?_) (fun _ => ?_) <;> conv => whnf) | (refine VIte.bne (fun _ => ?_) (fun _ => ?_) <;> conv => whnf) | (refine VIte.intro (fun _ => ?_) (fun _ => ?_) <;> conv => whnf) | (refine VCall.intro (c _) ?_; conv => whnf))
  refine VCall.intro (VC.give (args' := [.fp (encN l)]) (loc' := [.flat true (encN l), .flat true (encX x), .flat true [DI 1, DI 1001], .dead]) [(3, encN l)] [] (OutOk.lift _) (by repeat' (first | exact BTos.nil | refine BTos.flat rfl rfl (by first | rfl | simp) ?_ | refine BTos.new rfl ?_ | refine BTos.dead rfl rfl ?_ | refine BTos.esE rfl rfl ?_ | refine BTos.row rfl rfl rfl (RowTo.snoc (RowTo.one rfl (by simp))) ?_ | refine BTos.cells rfl rfl rfl (by repeat' (first | exact VTo.undef | exact FrTo.leaf | refine FrTo.node ?_ ?_ ?_ | refine FrTo.none ?_ ?_ | exact VTo.sc (by first | rfl | (congr 1; omega) | (congr 1; simp; omega)) | exact VTos_dv _ _ | refine VTos.cons ?_ ?_ | exact VTos.nil | refine VTo.agg ?_ | refine VTo.tuple ?_ | refine VTo.func ?_ ?_ | exact VTo.fs | exact VTo.fp | exact VTo.nilptr | exact VTo.nilslice | exact VTo.nilfunc | exact VTo.ptr rfl | exact VTo.gl rfl | exact VTo.map rfl | exact VTo.yld rfl | exact VTo.fmMap rfl | exact VTo.fm | exact VTo.glNil' (by decide) rfl rfl | exact VTo.fsNil (by decide) | exact VTo.fsSl rfl rfl (by simp [flat_len encE_len]) | exact VTo.fpPtr rfl | exact VTo.fsGl rfl (by first | rfl | exact flat_len encI_len _ | exact flat_len encT_len _ | exact flat_len encS_len _ | exact flat_len encP_len _ | exact flat_len encL_len _ | exact flat_len encE_len _ | (simp [flat_len encP_len]; done) | simp [flat_len encI_len, flat_len encS_len]))) ?_)) (by repeat' (first | exact FzAll.nil | refine FzAll.flat rfl ?_ | refine FzAll.row rfl rfl (RowTo.one rfl (by simp)) ?_)) (by exact FmAll.nil) rfl (by repeat' (first | exact VTo.undef | exact FrTo.leaf | refine FrTo.node ?_ ?_ ?_ | refine FrTo.none ?_ ?_ | exact VTo.sc (by first | rfl | (congr 1; omega) | (congr 1; simp; omega)) | exact VTos_dv _ _ | refine VTos.cons ?_ ?_ | exact VTos.nil | refine VTo.agg ?_ | refine VTo.tuple ?_ | refine VTo.func ?_ ?_ | exact VTo.fs | exact VTo.fp | exact VTo.nilptr | exact VTo.nilslice | exact VTo.nilfunc | exact VTo.ptr rfl | exact VTo.gl rfl | exact VTo.map rfl | exact VTo.yld rfl | exact VTo.fmMap rfl | exact VTo.fm | exact VTo.glNil' (by decide) rfl rfl | exact VTo.fsNil (by decide) | exact VTo.fsSl rfl rfl (by simp [flat_len encE_len]) | exact VTo.fpPtr rfl | exact VTo.fsGl rfl (by first | rfl | exact flat_len encI_len _ | exact flat_len encT_len _ | exact flat_len encS_len _ | exact flat_len encP_len _ | exact flat_len encL_len _ | exact flat_len encE_len _ | (simp [flat_len encP_len]; done) | simp [flat_len encI_len, flat_len encS_len]))) (vc_free l _)) ?_
  conv => whnf
  repeat (first | (refine VLd.intro rfl ?_; conv => whnf) | (refine VArith.i64 (by first | omega | (dsimp only; omega)) ?_; conv => whnf) | (refine VNeed.intro (by first | rfl | (simp; omega) | (simp; done)) ?_; conv => whnf) | (refine VMem.store rfl rfl rfl rfl ?_; conv => whnf) | (refine VSame.intro rfl ?_; conv => whnf) | (refine VDraw.go [] (by kernel_rfl) (by kernel_rfl) ?_; conv => whnf))
  refine VCode.tell [(3, .fp (encX x)), (8, .ptr (.loc 0) 0), (29, vFree l)] [.flat true [DI 1, DI 1001]] (marks' := []) ?_ ?_
  · conv => whnf
    refine Retell.turn ⟨[2], 4, [(1, encX x)], []⟩ (TurnOk.mk' _ _ [(1, encX x)] [] (OutOk.lift _) rfl (by decide) (by repeat' (first | exact BTos.nil | refine BTos.flat rfl rfl (by first | rfl | simp) ?_ | refine BTos.new rfl ?_ | refine BTos.dead rfl rfl ?_ | refine BTos.esE rfl rfl ?_ | refine BTos.row rfl rfl rfl (RowTo.snoc (RowTo.one rfl (by simp))) ?_ | refine BTos.cells rfl rfl rfl (by repeat' (first | exact VTo.undef | exact FrTo.leaf | refine FrTo.node ?_ ?_ ?_ | refine FrTo.none ?_ ?_ | exact VTo.sc (by first | rfl | (congr 1; omega) | (congr 1; simp; omega)) | exact VTos_dv _ _ | refine VTos.cons ?_ ?_ | exact VTos.nil | refine VTo.agg ?_ | refine VTo.tuple ?_ | refine VTo.func ?_ ?_ | exact VTo.fs | exact VTo.fp | exact VTo.nilptr | exact VTo.nilslice | exact VTo.nilfunc | exact VTo.ptr rfl | exact VTo.gl rfl | exact VTo.map rfl | exact VTo.yld rfl | exact VTo.fmMap rfl | exact VTo.fm | exact VTo.glNil' (by decide) rfl rfl | exact VTo.fsNil (by decide) | exact VTo.fsSl rfl rfl (by simp [flat_len encE_len]) | exact VTo.fpPtr rfl | exact VTo.fsGl rfl (by first | rfl | exact flat_len encI_len _ | exact flat_len encT_len _ | exact flat_len encS_len _ | exact flat_len encP_len _ | exact flat_len encL_len _ | exact flat_len encE_len _ | (simp [flat_len encP_len]; done) | simp [flat_len encI_len, flat_len encS_len]))) ?_)) (by repeat' (first | exact FzAll.nil | refine FzAll.flat rfl ?_ | refine FzAll.row rfl rfl (RowTo.one rfl (by simp)) ?_)) trivial rfl) (by repeat' (first | exact VTo.undef | exact FrTo.leaf | refine FrTo.node ?_ ?_ ?_ | refine FrTo.none ?_ ?_ | exact VTo.sc (by first | rfl | (congr 1; omega) | (congr 1; simp; omega)) | exact VTos_dv _ _ | refine VTos.cons ?_ ?_ | exact VTos.nil | refine VTo.agg ?_ | refine VTo.tuple ?_ | refine VTo.func ?_ ?_ | exact VTo.fs | exact VTo.fp | exact VTo.nilptr | exact VTo.nilslice | exact VTo.nilfunc | exact VTo.ptr rfl | exact VTo.gl rfl | exact VTo.map rfl | exact VTo.yld rfl | exact VTo.fmMap rfl | exact VTo.fm | exact VTo.glNil' (by decide) rfl rfl | exact VTo.fsNil (by decide) | exact VTo.fsSl rfl rfl (by simp [flat_len encE_len]) | exact VTo.fpPtr rfl | exact VTo.fsGl rfl (by first | rfl | exact flat_len encI_len _ | exact flat_len encT_len _ | exact flat_len encS_len _ | exact flat_len encP_len _ | exact flat_len encL_len _ | exact flat_len encE_len _ | (simp [flat_len encP_len]; done) | simp [flat_len encI_len, flat_len encS_len]))) (by first | rfl | (repeat' (first | exact MkTo.nil | refine MkTo.keep rfl ?_ | refine MkTo.drop (by decide) rfl ?_)))
  · conv => whnf
    refine VCode.iterN l.ss.length (frY l) (fun k g => ∃ a, PJ h.lift a g ∧ R = prGo x.w a (l.ss.drop k) (x.ps.drop k) ∧ PrI l x k a) (fun _ _ => False) _ (.loc 2) rfl (iter_free l o) rfl rfl ⟨⟨1, 1001⟩, ⟨rfl, rfl, rfl⟩, hR0, hI0⟩ ?_ ?_ ?_ ?_
    · rintro k g hk hy ⟨a, hJ, hRk, hI⟩
      have hs : l.ss[k]? = some l.ss[k] := List.getElem?_eq_getElem hk
      have hp : x.ps[k]? = some x.ps[k] := List.getElem?_eq_getElem (by omega)
      rw [frY_eq hs] at hy
      rw [prGo_at hs hp] at hRk
      have hI2 := hI.step o hs hp
      refine ⟨_, ?_, hRk, hI2⟩
      cases hf : isFree l.ss[k]
      · unfold prN; rw [hf, Bool.false_and, cond_false]; exact hJ
      · rw [hf] at hy; cases hy
    · rintro k g vs hk hy ⟨a, hJ, hRk, hI⟩ hlp
      have hs : l.ss[k]? = some l.ss[k] := List.getElem?_eq_getElem hk
      have hp : x.ps[k]? = some x.ps[k] := List.getElem?_eq_getElem (by omega)
      have q1 := o.ss _ (List.getElem_mem (by omega : k < l.ss.length))
      have hI2 := hI.step o hs hp
      have hbd := hI.bd
      rw [frY_eq hs] at hy
      rw [prGo_at hs hp] at hRk
      generalize l.ss[k] = s at hs hy hRk q1 hI2
      generalize x.ps[k] = p at hp hRk hI2
      have q3 := q1.no
      have q4 := q1.so
      have ca := fun h => vc_ahead s.no s.so a.lo a.hi h (by omega) (by omega) hbd.1 hbd.2
      cases hf : isFree s
      · rw [hf] at hy; cases hy
      · rw [hf] at hy
        cases hy
        obtain ⟨j0, j1, j2⟩ := hJ
        have n0 : g.get (.loc 0) ≠ none := by rw [j1]; simp
        by_cases hc : p < x.w ∧ 0 < s.no * a.hi - s.so * a.lo
        · have hpr : prN a x.w s p = ⟨s.no, s.so⟩ := by unfold prN; rw [hf, decide_eq_true hc]; rfl
          rw [hpr] at hRk hI2
          refine Rnd.go hlp (g.set (.loc 0) (.flat true [DI s.no, DI s.so])) ((Hp.get_set g _ _ _ n0).trans ((if_neg (by decide)).trans hlp)) ?_ ⟨⟨s.no, s.so⟩, ⟨j0, (Hp.get_set g _ _ _ n0).trans (if_pos rfl), (Hp.get_set g _ _ _ n0).trans ((if_neg (by decide)).trans j2)⟩, hRk, hI2⟩
          refine VRound.vy' hlp rfl rfl rfl (g.grows_set _ _) fun l0 => ?_
          refine VRound.tell [(3, .fp (encX x)), (8, .ptr (.out (.loc 0)) 0), (30, I k), (31, aggT s)] ?_ ?_
          · conv => whnf
            refine Retell.turn ⟨[], 0, [], []⟩ (TurnOk.mk' _ _ [] [] (OutOk.lift _) rfl (by decide) (by repeat' (first | exact BTos.nil | refine BTos.flat rfl rfl (by first | rfl | simp) ?_ | refine BTos.new rfl ?_ | refine BTos.dead rfl rfl ?_ | refine BTos.esE rfl rfl ?_ | refine BTos.row rfl rfl rfl (RowTo.snoc (RowTo.one rfl (by simp))) ?_ | refine BTos.cells rfl rfl rfl (by repeat' (first | exact VTo.undef | exact FrTo.leaf | refine FrTo.node ?_ ?_ ?_ | refine FrTo.none ?_ ?_ | exact VTo.sc (by first | rfl | (congr 1; omega) | (congr 1; simp; omega)) | exact VTos_dv _ _ | refine VTos.cons ?_ ?_ | exact VTos.nil | refine VTo.agg ?_ | refine VTo.tuple ?_ | refine VTo.func ?_ ?_ | exact VTo.fs | exact VTo.fp | exact VTo.nilptr | exact VTo.nilslice | exact VTo.nilfunc | exact VTo.ptr rfl | exact VTo.gl rfl | exact VTo.map rfl | exact VTo.yld rfl | exact VTo.fmMap rfl | exact VTo.fm | exact VTo.glNil' (by decide) rfl rfl | exact VTo.fsNil (by decide) | exact VTo.fsSl rfl rfl (by simp [flat_len encE_len]) | exact VTo.fpPtr rfl | exact VTo.fsGl rfl (by first | rfl | exact flat_len encI_len _ | exact flat_len encT_len _ | exact flat_len encS_len _ | exact flat_len encP_len _ | exact flat_len encL_len _ | exact flat_len encE_len _ | (simp [flat_len encP_len]; done) | simp [flat_len encI_len, flat_len encS_len]))) ?_)) trivial trivial rfl) (by repeat' (first | exact VTo.undef | exact FrTo.leaf | refine FrTo.node ?_ ?_ ?_ | refine FrTo.none ?_ ?_ | exact VTo.sc (by first | rfl | (congr 1; omega) | (congr 1; simp; omega)) | exact VTos_dv _ _ | refine VTos.cons ?_ ?_ | exact VTos.nil | refine VTo.agg ?_ | refine VTo.tuple ?_ | refine VTo.func ?_ ?_ | exact VTo.fs | exact VTo.fp | exact VTo.nilptr | exact VTo.nilslice | exact VTo.nilfunc | exact VTo.ptr rfl | exact VTo.gl rfl | exact VTo.map rfl | exact VTo.yld rfl | exact VTo.fmMap rfl | exact VTo.fm | exact VTo.glNil' (by decide) rfl rfl | exact VTo.fsNil (by decide) | exact VTo.fsSl rfl rfl (by simp [flat_len encE_len]) | exact VTo.fpPtr rfl | exact VTo.fsGl rfl (by first | rfl | exact flat_len encI_len _ | exact flat_len encT_len _ | exact flat_len encS_len _ | exact flat_len encP_len _ | exact flat_len encL_len _ | exact flat_len encE_len _ | (simp [flat_len encP_len]; done) | simp [flat_len encI_len, flat_len encS_len]))) (by first | rfl | (repeat' (first | exact MkTo.nil | refine MkTo.keep rfl ?_ | refine MkTo.drop (by decide) rfl ?_)))
          · conv => whnf
            repeat (first | (refine VLd.intro rfl ?_; conv => whnf) | (refine VArith.i64 (by first | omega | (dsimp only; omega)) ?_; conv => whnf) | (refine VNeed.intro (by first | rfl | (simp; omega) | (simp; done)) ?_; conv => whnf) | (refine VMem.store rfl rfl rfl rfl ?_; conv => whnf) | (refine VSame.intro rfl ?_; conv => whnf) | (refine VDraw.go [] (by kernel_rfl) (by kernel_rfl) ?_; conv => whnf))
            refine VBegin.intro (get_out hlp _) rfl ?_
            conv => whnf
            repeat' (first | (refine VLd.intro rfl ?_; conv => whnf) | (refine VArith.i64 (by first | omega | (dsimp only; omega)) ?_; conv => whnf) | (refine VNeed.intro (by first | rfl | (simp; omega) | (simp; done)) ?_; conv => whnf) | (refine VMem.store rfl rfl rfl rfl ?_; conv => whnf) | (refine VSame.intro rfl ?_; conv => whnf) | (refine VIte.dec (fun _ => ?_) (fun _ => ?_) <;> conv => whnf) | (refine VIte.ndec (fun _ => ?_) (fun _ => ?_) <;> conv => whnf) | (refine VIte.beq (fun _ => ?_) (fun _ => ?_) <;> conv => whnf) | (refine VIte.bne (fun _ => ?_) (fun _ => ?_) <;> conv => whnf) | (refine VIte.intro (fun _ => ?_) (fun _ => ?_) <;> conv => whnf) | (refine VCall.intro (vc_worth s _) ?_; conv => whnf))
            refine VDraw.go [] (by kernel_rfl) (by kernel_rfl) ?_
            conv => whnf
            repeat' (first | (refine VLd.intro rfl ?_; conv => whnf) | (refine VArith.i64 (by first | omega | (dsimp only; omega)) ?_; conv => whnf) | (refine VNeed.intro (by first | rfl | (simp; omega) | (simp; done)) ?_; conv => whnf) | (refine VMem.store rfl rfl rfl rfl ?_; conv => whnf) | (refine VSame.intro rfl ?_; conv => whnf) | (refine VIte.dec (fun _ => ?_) (fun _ => ?_) <;> conv => whnf) | (refine VIte.ndec (fun _ => ?_) (fun _ => ?_) <;> conv => whnf) | (refine VIte.beq (fun _ => ?_) (fun _ => ?_) <;> conv => whnf) | (refine VIte.bne (fun _ => ?_) (fun _ => ?_) <;> conv => whnf) | (refine VIte.intro (fun _ => ?_) (fun _ => ?_) <;> conv => whnf) | (refine VAny.ix encI_len k rfl rfl hp ?_; conv => whnf) | (refine VLd.recd (enc := encS) (l := [a]) encS_len 0 rfl rfl rfl (get_outNe (by decide) (get_out j1 _)) rfl rfl ?_; conv => whnf) | (refine VCall.intro (ca _) ?_; conv => whnf) | (refine VMem.st2 rfl rfl rfl (get_outNe (by decide) (get_out j1 _)) rfl rfl ?_; conv => whnf))
            all_goals try (exfalso; omega)
            refine RFin.on (get_outNe (by decide) (outW_get _ _ _ _)) (VOut.liftS ?_ (g.grows_set _ _))
            rw [lift_set n0]
            exact outer_fix1 (get_out hlp []) (by decide)
        · have hpr : prN a x.w s p = a := by unfold prN; rw [hf, decide_eq_false hc]; rfl
          rw [hpr] at hRk hI2
          left
          refine ⟨g, VRound.vy' hlp rfl rfl rfl g.grows_refl fun l0 => ?_, ⟨a, ⟨j0, j1, j2⟩, hRk, hI2⟩, hlp⟩
          refine VRound.tell [(3, .fp (encX x)), (8, .ptr (.out (.loc 0)) 0), (30, I k), (31, aggT s)] ?_ ?_
          · conv => whnf
            refine Retell.turn ⟨[], 0, [], []⟩ (TurnOk.mk' _ _ [] [] (OutOk.lift _) rfl (by decide) (by repeat' (first | exact BTos.nil | refine BTos.flat rfl rfl (by first | rfl | simp) ?_ | refine BTos.new rfl ?_ | refine BTos.dead rfl rfl ?_ | refine BTos.esE rfl rfl ?_ | refine BTos.row rfl rfl rfl (RowTo.snoc (RowTo.one rfl (by simp))) ?_ | refine BTos.cells rfl rfl rfl (by repeat' (first | exact VTo.undef | exact FrTo.leaf | refine FrTo.node ?_ ?_ ?_ | refine FrTo.none ?_ ?_ | exact VTo.sc (by first | rfl | (congr 1; omega) | (congr 1; simp; omega)) | exact VTos_dv _ _ | refine VTos.cons ?_ ?_ | exact VTos.nil | refine VTo.agg ?_ | refine VTo.tuple ?_ | refine VTo.func ?_ ?_ | exact VTo.fs | exact VTo.fp | exact VTo.nilptr | exact VTo.nilslice | exact VTo.nilfunc | exact VTo.ptr rfl | exact VTo.gl rfl | exact VTo.map rfl | exact VTo.yld rfl | exact VTo.fmMap rfl | exact VTo.fm | exact VTo.glNil' (by decide) rfl rfl | exact VTo.fsNil (by decide) | exact VTo.fsSl rfl rfl (by simp [flat_len encE_len]) | exact VTo.fpPtr rfl | exact VTo.fsGl rfl (by first | rfl | exact flat_len encI_len _ | exact flat_len encT_len _ | exact flat_len encS_len _ | exact flat_len encP_len _ | exact flat_len encL_len _ | exact flat_len encE_len _ | (simp [flat_len encP_len]; done) | simp [flat_len encI_len, flat_len encS_len]))) ?_)) trivial trivial rfl) (by repeat' (first | exact VTo.undef | exact FrTo.leaf | refine FrTo.node ?_ ?_ ?_ | refine FrTo.none ?_ ?_ | exact VTo.sc (by first | rfl | (congr 1; omega) | (congr 1; simp; omega)) | exact VTos_dv _ _ | refine VTos.cons ?_ ?_ | exact VTos.nil | refine VTo.agg ?_ | refine VTo.tuple ?_ | refine VTo.func ?_ ?_ | exact VTo.fs | exact VTo.fp | exact VTo.nilptr | exact VTo.nilslice | exact VTo.nilfunc | exact VTo.ptr rfl | exact VTo.gl rfl | exact VTo.map rfl | exact VTo.yld rfl | exact VTo.fmMap rfl | exact VTo.fm | exact VTo.glNil' (by decide) rfl rfl | exact VTo.fsNil (by decide) | exact VTo.fsSl rfl rfl (by simp [flat_len encE_len]) | exact VTo.fpPtr rfl | exact VTo.fsGl rfl (by first | rfl | exact flat_len encI_len _ | exact flat_len encT_len _ | exact flat_len encS_len _ | exact flat_len encP_len _ | exact flat_len encL_len _ | exact flat_len encE_len _ | (simp [flat_len encP_len]; done) | simp [flat_len encI_len, flat_len encS_len]))) (by first | rfl | (repeat' (first | exact MkTo.nil | refine MkTo.keep rfl ?_ | refine MkTo.drop (by decide) rfl ?_)))
          · conv => whnf
            repeat (first | (refine VLd.intro rfl ?_; conv => whnf) | (refine VArith.i64 (by first | omega | (dsimp only; omega)) ?_; conv => whnf) | (refine VNeed.intro (by first | rfl | (simp; omega) | (simp; done)) ?_; conv => whnf) | (refine VMem.store rfl rfl rfl rfl ?_; conv => whnf) | (refine VSame.intro rfl ?_; conv => whnf) | (refine VDraw.go [] (by kernel_rfl) (by kernel_rfl) ?_; conv => whnf))
            refine VBegin.intro (get_out hlp _) rfl ?_
            conv => whnf
            repeat' (first | (refine VLd.intro rfl ?_; conv => whnf) | (refine VArith.i64 (by first | omega | (dsimp only; omega)) ?_; conv => whnf) | (refine VNeed.intro (by first | rfl | (simp; omega) | (simp; done)) ?_; conv => whnf) | (refine VMem.store rfl rfl rfl rfl ?_; conv => whnf) | (refine VSame.intro rfl ?_; conv => whnf) | (refine VIte.dec (fun _ => ?_) (fun _ => ?_) <;> conv => whnf) | (refine VIte.ndec (fun _ => ?_) (fun _ => ?_) <;> conv => whnf) | (refine VIte.beq (fun _ => ?_) (fun _ => ?_) <;> conv => whnf) | (refine VIte.bne (fun _ => ?_) (fun _ => ?_) <;> conv => whnf) | (refine VIte.intro (fun _ => ?_) (fun _ => ?_) <;> conv => whnf) | (refine VCall.intro (vc_worth s _) ?_; conv => whnf))
            refine VDraw.go [] (by kernel_rfl) (by kernel_rfl) ?_
            conv => whnf
            repeat' (first | (refine VLd.intro rfl ?_; conv => whnf) | (refine VArith.i64 (by first | omega | (dsimp only; omega)) ?_; conv => whnf) | (refine VNeed.intro (by first | rfl | (simp; omega) | (simp; done)) ?_; conv => whnf) | (refine VMem.store rfl rfl rfl rfl ?_; conv => whnf) | (refine VSame.intro rfl ?_; conv => whnf) | (refine VIte.dec (fun _ => ?_) (fun _ => ?_) <;> conv => whnf) | (refine VIte.ndec (fun _ => ?_) (fun _ => ?_) <;> conv => whnf) | (refine VIte.beq (fun _ => ?_) (fun _ => ?_) <;> conv => whnf) | (refine VIte.bne (fun _ => ?_) (fun _ => ?_) <;> conv => whnf) | (refine VIte.intro (fun _ => ?_) (fun _ => ?_) <;> conv => whnf) | (refine VAny.ix encI_len k rfl rfl hp ?_; conv => whnf) | (refine VLd.recd (enc := encS) (l := [a]) encS_len 0 rfl rfl rfl (get_outNe (by decide) (get_out j1 _)) rfl rfl ?_; conv => whnf) | (refine VCall.intro (ca _) ?_; conv => whnf))
            all_goals try (exfalso; omega)
            all_goals exact RFin.on (outW_get _ _ _ _) (VOut.back (get_out hlp []) rfl)
    · rintro g ⟨a, ⟨j0, j1, j2⟩, hRk, hI⟩ hlp
      rw [prGo_end] at hRk
      subst hRk
      obtain ⟨go, gl⟩ := g
      dsimp only at j0
      subst j0
      have j1 : gl[0]? = some _ := j1
      have j2 : gl[1]? = some _ := j2
      have l0 := (List.getElem?_eq_some_iff.1 j1).1
      have key : ∀ (x : Nat) (A : Blk), x ≠ 2 → (gl.set 2 A)[x]? = gl[x]? := fun x A hx => List.getElem?_set_ne (Ne.symm hx)
      refine Told.mk [(8, .ptr (.loc 0) 0)] [.flat true [DI R.lo, DI R.hi]] (marks' := []) ?_ ?_
      · conv => whnf
        refine Retell.turn ⟨[0], gl.length, [], []⟩ (TurnOk.mk' _ _ [] [] (OutOk.lift _) (Nat.ble_eq_true_of_le (by simp)) (by decide)
          (BTos.flat (blt_of l0) ((key 0 _ (by omega)).trans j1) rfl BTos.nil) trivial trivial rfl) (by repeat' (first | exact VTo.undef | exact FrTo.leaf | refine FrTo.node ?_ ?_ ?_ | refine FrTo.none ?_ ?_ | exact VTo.sc (by first | rfl | (congr 1; omega) | (congr 1; simp; omega)) | exact VTos_dv _ _ | refine VTos.cons ?_ ?_ | exact VTos.nil | refine VTo.agg ?_ | refine VTo.tuple ?_ | refine VTo.func ?_ ?_ | exact VTo.fs | exact VTo.fp | exact VTo.nilptr | exact VTo.nilslice | exact VTo.nilfunc | exact VTo.ptr rfl | exact VTo.gl rfl | exact VTo.map rfl | exact VTo.yld rfl | exact VTo.fmMap rfl | exact VTo.fm | exact VTo.glNil' (by decide) rfl rfl | exact VTo.fsNil (by decide) | exact VTo.fsSl rfl rfl (by simp [flat_len encE_len]) | exact VTo.fpPtr rfl | exact VTo.fsGl rfl (by first | rfl | exact flat_len encI_len _ | exact flat_len encT_len _ | exact flat_len encS_len _ | exact flat_len encP_len _ | exact flat_len encL_len _ | exact flat_len encE_len _ | (simp [flat_len encP_len]; done) | simp [flat_len encI_len, flat_len encS_len])))
          (MkTo.drop (show 1 ∉ ([0] : List Nat) by decide) ((key 1 _ (by omega)).trans j2) MkTo.nil)
      · conv => whnf
        repeat' (first | (refine VLd.intro rfl ?_; conv => whnf) | (refine VArith.i64 (by first | omega | (dsimp only; omega)) ?_; conv => whnf) | (refine VNeed.intro (by first | rfl | (simp; omega) | (simp; done)) ?_; conv => whnf) | (refine VMem.store rfl rfl rfl rfl ?_; conv => whnf) | (refine VSame.intro rfl ?_; conv => whnf) | (refine VDraw.go [] (by kernel_rfl) (by kernel_rfl) ?_; conv => whnf) | (refine VIte.dec (fun _ => ?_) (fun _ => ?_) <;> conv => whnf) | (refine VIte.ndec (fun _ => ?_) (fun _ => ?_) <;> conv => whnf) | (refine VIte.beq (fun _ => ?_) (fun _ => ?_) <;> conv => whnf) | (refine VIte.bne (fun _ => ?_) (fun _ => ?_) <;> conv => whnf) | (refine VIte.intro (fun _ => ?_) (fun _ => ?_) <;> conv => whnf))
        exact VOut.same rfl
    · rintro e g _ hF
      exact hF.elim
end Go.Proofs.Ytmpjpjfkbmlmfaa

open Go.Vm
namespace Go.Proofs.Ytmpjpjfkbmlmfaa
set_option maxRecDepth 20000
set_option maxHeartbeats 4000000

abbrev DU (n : Int) : D := .s (.int .u32 n)
def encU (n : Int) : List D := [.s (.int .u8 n)]
theorem encU_len (n : Int) : (encU n).length = 1 := rfl
def bytes (l : List Int) : V := .fs 1 l.length (l.flatMap encU)
/-- A deck's cells. -/
def deckD (bs : List Int) (n s : Int) : List D := [.sl 1 bs.length (bs.flatMap encU), DI n, DU s]
theorem VOut.setS {h : Hp} {loc : List Blk} {i : Vm.Id} {b0 : Blk} {l : List D} {rw : Bool} {x : S} {L : Nat} (hL : Nat.ble loc.length L = true) (hb : h.get i = some b0) : VOut h ⟨outW h.lift i (.flat rw l), loc⟩ (.s x) (.s x) (h.set i (.flat rw l)) := by
  have hd : ∀ p ∈ [(i, Blk.flat rw l)], h.get p.1 ≠ none := by
    intro p hp
    simp only [List.mem_cons, List.not_mem_nil, or_false] at hp
    subst hp; simp only; rw [hb]; simp
  have := VOut.upd (loc := loc) (r1 := .s x) (r := .s x) [(i, .flat rw l)] [] [] L hL hd (by simp) rfl (by intro k b hk; simp at hk) (fun σ x hx => hx) (outer := outW h.lift i (.flat rw l)) rfl
  have he : (h.sets [(i, Blk.flat rw l)]).pushes [] = h.set i (.flat rw l) := by simp [Hp.sets, Hp.pushes]
  rw [he] at this
  exact this
theorem set_same {h : Hp} {i : Vm.Id} {b : Blk} (hb : h.get i = some b) : h.set i b = h := by
  cases i with
  | out i =>
    have hb : h.outer i = some b := hb
    obtain ⟨o, l⟩ := h
    simp only [Hp.set]
    congr 1
    funext j
    split
    · rename_i e; rw [e]; exact hb.symm
    · rfl
  | loc k =>
    have hb : h.loc[k]? = some b := hb
    obtain ⟨o, l⟩ := h
    simp only [Hp.set]
    congr 1
    obtain ⟨h1, h2⟩ := List.getElem?_eq_some_iff.1 hb
    rw [← h2]; exact List.set_getElem_self h1
theorem VOut.set2 {h : Hp} {loc : List Blk} {i : Vm.Id} {b0 b1 : Blk} {l : List D} {rw : Bool} {x : S} (hb : h.get i = some b0) : VOut h ⟨outW (outW h.lift i b1) i (.flat rw l), loc⟩ (.s x) (.s x) (h.set i (.flat rw l)) := by
  rw [outW_same]
  exact VOut.setS (L := loc.length) (by simp) hb
theorem vc_Draw0 (bs : List Int) (n s k : Int) (i : Vm.Id) (h : Hp) (hb : h.get i = some (.flat true (deckD bs n s))) (hk : k ≤ 1 ∨ bs = []) : VC Try.prog 27 [.ptr i 0, I k] h (I 0) (h.set i (.flat true (deckD bs n s))) := by
  rw [set_same hb]
  have hl : k ≤ 1 ∨ bs.length = 0 := by rcases hk with h1 | h1; exact .inl h1; exact .inr (by rw [h1]; rfl)
  refine VC.body Try.func27 rfl Try.ntmps27 Try.call27 (h.grows_refl) rfl ?_; conv => whnf
  repeat' (first | (refine VLd.intro rfl ?_; conv => whnf) | (refine VArith.i64 (by first | omega | (dsimp only; omega)) ?_; conv => whnf) | (refine VNeed.intro (by first | rfl | assumption | (simp; omega) | (simp; done)) ?_; conv => whnf) | (refine VMem.store rfl rfl rfl rfl ?_; conv => whnf) | (refine VSame.intro rfl ?_; conv => whnf) | (refine VIte.dec (fun _ => ?_) (fun _ => ?_) <;> conv => whnf) | (refine VIte.ndec (fun _ => ?_) (fun _ => ?_) <;> conv => whnf) | (refine VIte.beq (fun _ => ?_) (fun _ => ?_) <;> conv => whnf) | (refine VIte.bne (fun _ => ?_) (fun _ => ?_) <;> conv => whnf) | (refine VIte.intro (fun _ => ?_) (fun _ => ?_) <;> conv => whnf) | (refine VLd.flat rfl rfl (get_out hb _) rfl ?_; conv => whnf))
  · exact VOut.same rfl
  · exact VOut.same rfl
  · exfalso; omega
def dRd (bs : List Int) (N : Nat) : Int := IntKind.u32.wrap (IntKind.i64.wrap ((N : Int).tdiv (bs.length : Int)))
def dSt (bs : List Int) (N : Nat) (s c : Int) : Int := (IntKind.u32.wrap (IntKind.u32.wrap (IntKind.u32.wrap (s * 37) + IntKind.u32.wrap c) + IntKind.u32.wrap (101 * dRd bs N))).tmod 65521
def dR (bs : List Int) (N : Nat) (s k c : Int) : Int := if k ≤ 256 ∧ dRd bs N = 0 then (IntKind.i64.wrap (IntKind.u32.wrap c)).tmod k else (IntKind.i64.wrap (IntKind.u32.wrap (IntKind.u32.wrap (dSt bs N s c * 256) + IntKind.u32.wrap c))).tmod k
theorem u32_bd (n : Int) : 0 ≤ IntKind.u32.wrap n ∧ IntKind.u32.wrap n < 4294967296 := by
  unfold IntKind.wrap; simp [IntKind.bits, IntKind.signed]; omega
theorem tmod_bd {a k : Int} (ha : 0 ≤ a) (hk : 0 < k) : 0 ≤ a.tmod k ∧ a.tmod k < k := by
  rw [Int.tmod_eq_emod_of_nonneg ha]
  exact ⟨Int.emod_nonneg _ (by omega), Int.emod_lt_of_pos _ hk⟩
theorem dR_bd (bs : List Int) (N : Nat) (s c : Int) {k : Int} (hk : 0 < k) : 0 ≤ dR bs N s k c ∧ dR bs N s k c < k := by
  unfold dR
  split
  · have := u32_bd c
    rw [wrap_i64 (by omega)]
    exact tmod_bd this.1 hk
  · have := u32_bd (IntKind.u32.wrap (dSt bs N s c * 256) + IntKind.u32.wrap c)
    rw [wrap_i64 (by omega)]
    exact tmod_bd this.1 hk
theorem vc_Draw1 (bs : List Int) (N : Nat) (s k c : Int) (i : Vm.Id) (h : Hp) (hb : h.get i = some (.flat true (deckD bs N s))) (hk : 1 < k) (hc : bs[N % bs.length]? = some c) (hN : N ≤ 4000000000) :
    VC Try.prog 27 [.ptr i 0, I k] h (I (dR bs N s k c)) (h.set i (.flat true (deckD bs ((N : Int) + 1) (dSt bs N s c)))) := by
  have hlen : 0 < bs.length := by
    have := (List.getElem?_eq_some_iff.1 hc).1
    omega
  have hneB : ((bs.length : Int) != 0) = true := by rw [bne_iff_ne]; omega
  obtain ⟨R, hR⟩ : ∃ R, R = dR bs N s k c := ⟨_, rfl⟩
  rw [← hR]
  unfold dR at hR
  refine VC.body Try.func27 rfl Try.ntmps27 Try.call27 (h.grows_set _ _) rfl ?_
  conv => whnf
  repeat' (first | (refine VLd.intro rfl ?_; conv => whnf) | (refine VArith.i64 (by first | omega | (dsimp only; omega)) ?_; conv => whnf) | (refine VNeed.intro (by first | rfl | assumption | (simp; omega) | (simp; done)) ?_; conv => whnf) | (refine VMem.store rfl rfl rfl rfl ?_; conv => whnf) | (refine VSame.intro rfl ?_; conv => whnf) | (refine VDraw.go [] (by kernel_rfl) (by kernel_rfl) ?_; conv => whnf) | (refine VIte.dec (fun _ => ?_) (fun _ => ?_) <;> conv => whnf) | (refine VIte.ndec (fun _ => ?_) (fun _ => ?_) <;> conv => whnf) | (refine VIte.beq (fun _ => ?_) (fun _ => ?_) <;> conv => whnf) | (refine VIte.bne (fun _ => ?_) (fun _ => ?_) <;> conv => whnf) | (refine VIte.intro (fun _ => ?_) (fun _ => ?_) <;> conv => whnf) | (refine VLd.flat rfl rfl (get_out hb _) rfl ?_; conv => whnf) | (refine VAny.ix encU_len (N % bs.length) (by rfl) rfl hc ?_; conv => whnf) | (refine VLd.flat rfl rfl (outW_get _ _ _ _) rfl ?_; conv => whnf) | (refine VMem.st1 rfl rfl rfl (get_out hb _) rfl ?_; conv => whnf) | (refine VMem.st1 rfl rfl rfl (outW_get _ _ _ _) rfl ?_; conv => whnf) | (refine VArith.wr ?_; conv => whnf) | (refine VNeed.intro hneB ?_; conv => whnf))
  · exfalso; omega
  · exfalso; omega
  · rename_i h1 h2
    have h2 : dRd bs N = 0 := h2
    rw [if_pos ⟨h1, h2⟩] at hR
    subst hR
    refine VOut.set2 hb
  · rename_i h1 h2
    have h2 : ¬ dRd bs N = 0 := h2
    rw [if_neg (fun h => h2 h.2)] at hR
    subst hR
    refine VOut.set2 hb
  · rename_i h1
    rw [if_neg (fun h => h1 h.1)] at hR
    subst hR
    refine VOut.set2 hb
/-- What a deck deals, and the deck behind it. -/
def dNx (bs : List Int) (d : Nat × Int) (k : Int) : Int × (Nat × Int) :=
  if k ≤ 1 ∨ bs = [] then (0, d) else (dR bs d.1 d.2 k (bs.getD (d.1 % bs.length) 0), (d.1 + 1, dSt bs d.1 d.2 (bs.getD (d.1 % bs.length) 0)))
def deckB (bs : List Int) (d : Nat × Int) : Blk := .flat true (deckD bs d.1 d.2)
theorem dNx_bd (bs : List Int) (d : Nat × Int) (k : Int) : 0 ≤ (dNx bs d k).1 ∧ ((dNx bs d k).1 = 0 ∨ (dNx bs d k).1 < k) ∧ (dNx bs d k).2.1 ≤ d.1 + 1 := by
  unfold dNx
  split
  · exact ⟨Int.le_refl _, .inl rfl, by simp only; omega⟩
  · rename_i h
    obtain ⟨q1, q2⟩ := dR_bd bs d.1 d.2 (bs.getD (d.1 % bs.length) 0) (k := k) (by omega)
    exact ⟨q1, .inr q2, Nat.le_refl _⟩
theorem vc_draw (bs : List Int) (d : Nat × Int) (k : Int) (i : Vm.Id) (h : Hp) (hN : d.1 ≤ 4000000000) (hb : h.get i = some (deckB bs d)) : VC Try.prog 27 [.ptr i 0, I k] h (I (dNx bs d k).1) (h.set i (deckB bs (dNx bs d k).2)) := by
  unfold dNx deckB at *
  split
  · rename_i hk; exact vc_Draw0 bs d.1 d.2 k i h hb hk
  · rename_i hk
    have hlen := List.length_pos_iff.2 (fun h => hk (.inr h))
    have hc : bs[d.1 % bs.length]? = some (bs.getD (d.1 % bs.length) 0) := by simp [List.getElem?_eq_getElem (Nat.mod_lt d.1 hlen)]
    exact vc_Draw1 bs d.1 d.2 k _ i h hb (by omega) hc hN
theorem vc_between (bs : List Int) (d : Nat × Int) (a b : Int) (i : Vm.Id) (h : Hp) (hN : d.1 ≤ 4000000000) (ha : -1000000 ≤ a ∧ a ≤ 1000000) (hb : -1000000 ≤ b ∧ b ≤ 1000000) (hd : h.get i = some (deckB bs d)) : VC Try.prog 35 [.ptr i 0, I a, I b] h (I (a + (dNx bs d (b - a + 1)).1)) (h.set i (deckB bs (dNx bs d (b - a + 1)).2)) := by
  have hbd := dNx_bd bs d (b - a + 1)
  have hD := fun i h hh => vc_draw bs d (b - a + 1) i h hN hh
  generalize dNx bs d (b - a + 1) = x at hbd hD
  refine VC.body Try.func35 rfl Try.ntmps35 Try.call35 (h.grows_set _ _) rfl ?_
  conv => whnf
  repeat' (first | (refine VLd.intro rfl ?_; conv => whnf) | (refine VArith.i64 (by first | omega | (dsimp only; omega)) ?_; conv => whnf) | (refine VNeed.intro (by first | rfl | assumption | (simp; omega) | (simp; done)) ?_; conv => whnf) | (refine VMem.store rfl rfl rfl rfl ?_; conv => whnf) | (refine VSame.intro rfl ?_; conv => whnf) | (refine VDraw.go [] (by kernel_rfl) (by kernel_rfl) ?_; conv => whnf) | (refine VIte.dec (fun _ => ?_) (fun _ => ?_) <;> conv => whnf) | (refine VIte.ndec (fun _ => ?_) (fun _ => ?_) <;> conv => whnf) | (refine VIte.beq (fun _ => ?_) (fun _ => ?_) <;> conv => whnf) | (refine VIte.bne (fun _ => ?_) (fun _ => ?_) <;> conv => whnf) | (refine VIte.intro (fun _ => ?_) (fun _ => ?_) <;> conv => whnf) | (refine VCall.intro (hD (.out i) _ (get_out hd _)) ?_; conv => whnf))
  exact VOut.setS (L := 0) rfl hd
theorem vc_coin (bs : List Int) (d : Nat × Int) (k : Int) (i : Vm.Id) (h : Hp) (hN : d.1 ≤ 4000000000) (hd : h.get i = some (deckB bs d)) : VC Try.prog 63 [.ptr i 0, I k] h (B ((dNx bs d k).1 == 0)) (h.set i (deckB bs (dNx bs d k).2)) := by
  have hD := fun i h hh => vc_draw bs d k i h hN hh
  generalize dNx bs d k = x at hD
  refine VC.body Try.func63 rfl Try.ntmps63 Try.call63 (h.grows_set _ _) rfl ?_
  conv => whnf
  repeat' (first | (refine VLd.intro rfl ?_; conv => whnf) | (refine VArith.i64 (by first | omega | (dsimp only; omega)) ?_; conv => whnf) | (refine VNeed.intro (by first | rfl | assumption | (simp; omega) | (simp; done)) ?_; conv => whnf) | (refine VMem.store rfl rfl rfl rfl ?_; conv => whnf) | (refine VSame.intro rfl ?_; conv => whnf) | (refine VDraw.go [] (by kernel_rfl) (by kernel_rfl) ?_; conv => whnf) | (refine VIte.dec (fun _ => ?_) (fun _ => ?_) <;> conv => whnf) | (refine VIte.ndec (fun _ => ?_) (fun _ => ?_) <;> conv => whnf) | (refine VIte.beq (fun _ => ?_) (fun _ => ?_) <;> conv => whnf) | (refine VIte.bne (fun _ => ?_) (fun _ => ?_) <;> conv => whnf) | (refine VIte.intro (fun _ => ?_) (fun _ => ?_) <;> conv => whnf) | (refine VCall.intro (hD (.out i) _ (get_out hd _)) ?_; conv => whnf))
  exact VOut.setS (L := 0) rfl hd
theorem VOut.ownP {h : Hp} {loc : List Blk} {ds : List D} (j L : Nat) (hL : Nat.ble loc.length L = true) (hj : loc[j]? = some (.flat true ds)) : VOut h ⟨h.lift, loc⟩ (.ptr (.loc j) 0) (.ptr h.fresh 0) (h.push (.flat true ds)) := by
  refine VOut.upd [] [.flat true ds] [j] L hL (by intro p hp; cases hp) (by simp) rfl ?_ ?_ rfl
  · intro k b hk
    cases k with
    | zero => rw [List.getElem?_cons_zero, Option.some.injEq] at hk; subst hk; exact ⟨j, rfl, hj⟩
    | succ k => simp at hk
  · intro σ x hx
    have : (V.ptr h.fresh 0).ren (backR h.loc.length [j] L) = .ptr (.loc j) 0 := by simp [V.ren, backR, Hp.fresh]
    rw [this]; exact hx
theorem vc_Of (bs : List Int) (h : Hp) : VC Try.prog 25 [bytes bs] h (.ptr h.fresh 0) (h.push (deckB bs (0, 9))) := by
  refine VC.body Try.func25 rfl Try.ntmps25 Try.call25 (h.grows_push _) rfl ?_
  conv => whnf
  repeat (first | (refine VLd.intro rfl ?_; conv => whnf) | (refine VArith.i64 (by first | omega | (dsimp only; omega)) ?_; conv => whnf) | (refine VNeed.intro (by first | rfl | assumption | (simp; omega) | (simp; done)) ?_; conv => whnf) | (refine VMem.store rfl rfl rfl rfl ?_; conv => whnf) | (refine VSame.intro rfl ?_; conv => whnf) | (refine VDraw.go [] (by kernel_rfl) (by kernel_rfl) ?_; conv => whnf))
  exact VOut.ownP 0 1 rfl rfl
theorem VOut.setF {h : Hp} {loc : List Blk} {i : Vm.Id} {b0 : Blk} {l : List D} {rw : Bool} {r : V} {L : Nat} (hL : Nat.ble loc.length L = true) (hb : h.get i = some b0) (hr : ∀ ρ, r.ren ρ = r) : VOut h ⟨outW h.lift i (.flat rw l), loc⟩ r r (h.set i (.flat rw l)) := by
  have hd : ∀ p ∈ [(i, Blk.flat rw l)], h.get p.1 ≠ none := by
    intro p hp
    simp only [List.mem_cons, List.not_mem_nil, or_false] at hp
    subst hp; simp only; rw [hb]; simp
  have := VOut.upd (loc := loc) (r1 := r) (r := r) [(i, .flat rw l)] [] [] L hL hd (by simp) rfl (by intro k b hk; simp at hk) (fun σ x hx => by rw [hr]; exact hx) (outer := outW h.lift i (.flat rw l)) rfl
  have he : (h.sets [(i, Blk.flat rw l)]).pushes [] = h.set i (.flat rw l) := by simp [Hp.sets, Hp.pushes]
  rw [he] at this
  exact this
end Go.Proofs.Ytmpjpjfkbmlmfaa

open Go.Vm
namespace Go.Proofs.Ytmpjpjfkbmlmfaa
set_option maxRecDepth 20000
set_option maxHeartbeats 4000000

/-! A land that is made of numbers. -/
abbrev DS := Nat × Int
def vIt (bs : List Int) (x : DS × List Int) : Nat → DS × List Int
  | 0 => x
  | k + 1 => ((dNx bs (vIt bs x k).1 2).2, (vIt bs x k).2 ++ [(dNx bs (vIt bs x k).1 2).1])
structure VOk (N k : Nat) (x : DS × List Int) : Prop where
  n : x.1.1 ≤ N + k
  len : x.2.length = k
  side : ∀ v ∈ x.2, v = 0 ∨ v = 1
theorem vIt_ok {bs : List Int} {x : DS × List Int} {N : Nat} (h : VOk N 0 x) : ∀ k, VOk N k (vIt bs x k)
  | 0 => h
  | k + 1 => by
    obtain ⟨h1, h2, h3⟩ := vIt_ok (bs := bs) h k
    obtain ⟨a1, a2, a3⟩ := dNx_bd bs (vIt bs x k).1 2
    rw [vIt]
    refine ⟨by dsimp only; omega, by simp [h2], fun v hv => ?_⟩
    rcases List.mem_append.1 hv with hv | hv
    · exact h3 v hv
    · rw [List.mem_singleton] at hv; omega
def sStr (vs : List Int) (ow no so v : Int) : Str := if v < vs.length then ⟨vAt vs v, no, so, v⟩ else ⟨ow, no, so, -1⟩
def sD1 (bs : List Int) (d : DS) : Int × DS := dNx bs d 2
def sD2 (bs : List Int) (d : DS) : Int × DS := dNx bs (sD1 bs d).2 (59 - 1 + 1)
def sD3 (bs : List Int) (d : DS) : Int × DS := dNx bs (sD2 bs d).2 (59 - 1 + 1)
def sD4 (bs : List Int) (d : DS) : Int × DS := dNx bs (sD3 bs d).2 20
def sIt (bs vs : List Int) (x : DS × List Str) : Nat → DS × List Str
  | 0 => x
  | k + 1 => ((sD4 bs (sIt bs vs x k).1).2, (sIt bs vs x k).2 ++ [sStr vs (sD1 bs (sIt bs vs x k).1).1 (1 + (sD2 bs (sIt bs vs x k).1).1) (1 + (sD3 bs (sIt bs vs x k).1).1) (sD4 bs (sIt bs vs x k).1).1])
structure SOk2 (vs : List Int) (s : Str) : Prop where
  ok : Sok vs s
  no : s.no ≤ 59
  so : s.so ≤ 59
structure SSk (vs : List Int) (N k : Nat) (x : DS × List Str) : Prop where
  n : x.1.1 ≤ N + 4 * k
  len : x.2.length = k
  ss : ∀ s ∈ x.2, SOk2 vs s
theorem sIt_ok {bs vs : List Int} {x : DS × List Str} {N : Nat} (hv : ∀ v ∈ vs, v = 0 ∨ v = 1) (h : SSk vs N 0 x) : ∀ k, SSk vs N k (sIt bs vs x k)
  | 0 => h
  | k + 1 => by
    obtain ⟨h1, h2, h3⟩ := sIt_ok (bs := bs) hv h k
    obtain ⟨a1, a2, a3⟩ := dNx_bd bs (sIt bs vs x k).1 2
    obtain ⟨b1, b2, b3⟩ := dNx_bd bs (sD1 bs (sIt bs vs x k).1).2 (59 - 1 + 1)
    obtain ⟨c1, c2, c3⟩ := dNx_bd bs (sD2 bs (sIt bs vs x k).1).2 (59 - 1 + 1)
    obtain ⟨d1, d2, d3⟩ := dNx_bd bs (sD3 bs (sIt bs vs x k).1).2 20
    have e1 : dNx bs (sIt bs vs x k).1 2 = sD1 bs (sIt bs vs x k).1 := rfl
    have e2 : dNx bs (sD1 bs (sIt bs vs x k).1).2 (59 - 1 + 1) = sD2 bs (sIt bs vs x k).1 := rfl
    have e3 : dNx bs (sD2 bs (sIt bs vs x k).1).2 (59 - 1 + 1) = sD3 bs (sIt bs vs x k).1 := rfl
    have e4 : dNx bs (sD3 bs (sIt bs vs x k).1).2 20 = sD4 bs (sIt bs vs x k).1 := rfl
    rw [e1] at a1 a2 a3
    rw [e2] at b1 b2 b3
    rw [e3] at c1 c2 c3
    rw [e4] at d1 d2 d3
    rw [sIt]
    generalize sD4 bs (sIt bs vs x k).1 = y4 at *
    generalize sD3 bs (sIt bs vs x k).1 = y3 at *
    generalize sD2 bs (sIt bs vs x k).1 = y2 at *
    generalize sD1 bs (sIt bs vs x k).1 = y1 at *
    refine ⟨by dsimp only; omega, by simp [h2], fun s hs => ?_⟩
    rcases List.mem_append.1 hs with hs | hs
    · exact h3 s hs
    · rw [List.mem_singleton] at hs
      subst hs
      unfold sStr
      split
      · rename_i hlt
        refine ⟨⟨?_, by dsimp only; omega, by dsimp only; omega, .inr ⟨d1, hlt, rfl⟩⟩, by dsimp only; omega, by dsimp only; omega⟩
        show vAt vs y4.1 = 0 ∨ vAt vs y4.1 = 1
        refine hv _ ?_
        unfold vAt
        rw [List.getD_eq_getElem?_getD, List.getElem?_eq_getElem (by omega), Option.getD_some]
        exact List.getElem_mem _
      · exact ⟨⟨by dsimp only; omega, by dsimp only; omega, by dsimp only; omega, .inl rfl⟩, by dsimp only; omega, by dsimp only; omega⟩
def mdV (bs : List Int) (d : DS) : DS × List Int := vIt bs ((dNx bs d 5).2, []) (dNx bs d 5).1.toNat
def mdN (bs : List Int) (d : DS) (most : Int) : Int × DS := dNx bs (mdV bs d).1 (most - 1 + 1)
def mdS (bs : List Int) (d : DS) (most : Int) : DS × List Str := sIt bs (mdV bs d).2 ((mdN bs d most).2, []) (1 + (mdN bs d most).1).toNat
def mdL (bs : List Int) (d : DS) (most : Int) : Lnd := ⟨(mdS bs d most).2, (mdV bs d).2⟩
structure MdOk (most : Int) (l : Lnd) : Prop where
  ok : Ok l
  n : (l.ss.length : Int) ≤ most
  v : l.vs.length ≤ 4
  ss : ∀ s ∈ l.ss, s.no ≤ 59 ∧ s.so ≤ 59
theorem mdV_ok (bs : List Int) (d : DS) : (mdV bs d).1.1 ≤ d.1 + 5 ∧ (mdV bs d).2.length = (dNx bs d 5).1.toNat ∧ (mdV bs d).2.length ≤ 4 ∧ ∀ v ∈ (mdV bs d).2, v = 0 ∨ v = 1 := by
  obtain ⟨a1, a2, a3⟩ := dNx_bd bs d 5
  unfold mdV
  have := vIt_ok (bs := bs) (x := ((dNx bs d 5).2, [])) (N := d.1 + 1) ⟨by dsimp only; omega, rfl, by simp⟩ (dNx bs d 5).1.toNat
  obtain ⟨h1, h2, h3⟩ := this
  exact ⟨by omega, h2, by omega, h3⟩
theorem mdL_ok (bs : List Int) (d : DS) {most : Int} (hm : 1 ≤ most ∧ most ≤ 16) : MdOk most (mdL bs d most) ∧ (mdS bs d most).1.1 ≤ d.1 + 100 := by
  obtain ⟨q1, q2, q3, q4⟩ := mdV_ok bs d
  obtain ⟨a1, a2, a3⟩ := dNx_bd bs (mdV bs d).1 (most - 1 + 1)
  have e : dNx bs (mdV bs d).1 (most - 1 + 1) = mdN bs d most := rfl
  rw [e] at a1 a2 a3
  have := sIt_ok (bs := bs) (vs := (mdV bs d).2) (x := ((mdN bs d most).2, [])) (N := (mdN bs d most).2.1) q4 ⟨by dsimp only; omega, rfl, by simp⟩ (1 + (mdN bs d most).1).toNat
  obtain ⟨h1, h2, h3⟩ := this
  have e2 : sIt bs (mdV bs d).2 ((mdN bs d most).2, []) (1 + (mdN bs d most).1).toNat = mdS bs d most := rfl
  rw [e2] at h1 h2 h3
  refine ⟨⟨⟨?_, ?_, q4, fun s hs => (h3 s hs).ok⟩, ?_, q3, fun s hs => ⟨(h3 s hs).no, (h3 s hs).so⟩⟩, ?_⟩
  · show 1 ≤ (mdS bs d most).2.length ∧ (mdS bs d most).2.length ≤ 16
    omega
  · show (mdV bs d).2.length ≤ 8
    omega
  · show ((mdS bs d most).2.length : Int) ≤ most
    omega
  · omega
theorem vc_Made (bs : List Int) (d : DS) (most : Int) (i : Vm.Id) (h : Hp) (hN : d.1 ≤ 1000000) (hm : 1 ≤ most ∧ most ≤ 16) (hd : h.get i = some (deckB bs d)) :
    VC Try.prog 24 [.ptr i 0, I most] h (vL (mdL bs d most)) (h.set i (deckB bs (mdS bs d most).1)) := by
  have e1 := dNx_bd bs d 5
  have c1 := fun (h2 : Hp) hh => vc_draw bs d 5 (.out i) h2 (by omega) hh
  obtain ⟨q1, q2, q3, q4⟩ := mdV_ok bs d
  have eL : mdL bs d most = ⟨(mdS bs d most).2, (mdV bs d).2⟩ := rfl
  rw [eL]
  unfold mdS mdN
  have hv0 : mdV bs d = vIt bs ((dNx bs d 5).2, []) (dNx bs d 5).1.toNat := rfl
  obtain ⟨x1, hx1⟩ : ∃ x, x = dNx bs d 5 := ⟨_, rfl⟩
  rw [← hx1] at e1 c1 q2 hv0
  have hVk := fun k => vIt_ok (bs := bs) (x := (x1.2, [])) (N := d.1 + 1) ⟨by dsimp only; omega, rfl, by simp⟩ k
  obtain ⟨n, hn⟩ : ∃ n : Nat, x1.1 = n := ⟨x1.1.toNat, by omega⟩
  rw [hn] at c1 q2 hv0
  rw [Int.toNat_natCast] at q2 hv0
  obtain ⟨W, hW⟩ : ∃ W, W = mdV bs d := ⟨_, rfl⟩
  rw [← hW] at q1 q2 q3 q4 hv0 ⊢
  have e2 := dNx_bd bs W.1 (most - 1 + 1)
  have c2 := fun (h2 : Hp) hh => vc_between bs W.1 1 most (.out i) h2 (by omega) (by omega) (by omega) hh
  obtain ⟨x2, hx2⟩ : ∃ x, x = dNx bs W.1 (most - 1 + 1) := ⟨_, rfl⟩
  rw [← hx2] at e2 c2 ⊢
  have hSk := fun k => sIt_ok (bs := bs) (vs := W.2) (x := (x2.2, [])) (N := x2.2.1) q4 ⟨by dsimp only; omega, rfl, by simp⟩ k
  obtain ⟨m, hm2⟩ : ∃ m : Nat, 1 + x2.1 = m := ⟨(1 + x2.1).toNat, by omega⟩
  rw [hm2] at c2 ⊢
  rw [Int.toNat_natCast]
  obtain ⟨R, hR⟩ : ∃ R, R = sIt bs W.2 (x2.2, []) m := ⟨_, rfl⟩
  rw [← hR]
  clear hx1 hx2 hW eL
  refine VC.body Try.func24 rfl Try.ntmps24 Try.call24 (h.grows_set _ _) rfl ?_
  conv => whnf
  repeat' (first | (refine VLd.intro rfl ?_; conv => whnf) | (refine VArith.i64 (by first | omega | (dsimp only; omega)) ?_; conv => whnf) | (refine VNeed.intro (by first | rfl | assumption | (simp; omega) | (simp; done)) ?_; conv => whnf) | (refine VMem.store rfl rfl rfl rfl ?_; conv => whnf) | (refine VSame.intro rfl ?_; conv => whnf) | (refine VDraw.go [] (by kernel_rfl) (by kernel_rfl) ?_; conv => whnf) | (refine VIte.dec (fun _ => ?_) (fun _ => ?_) <;> conv => whnf) | (refine VIte.ndec (fun _ => ?_) (fun _ => ?_) <;> conv => whnf) | (refine VIte.beq (fun _ => ?_) (fun _ => ?_) <;> conv => whnf) | (refine VIte.bne (fun _ => ?_) (fun _ => ?_) <;> conv => whnf) | (refine VIte.intro (fun _ => ?_) (fun _ => ?_) <;> conv => whnf) | (refine VCall.intro (c1 _ (get_out hd _)) ?_; conv => whnf))
  refine VCode.lpo (fun y : Nat × (DS × List Int) => [(0, .ptr (.out i) 0), (1, I most), (4, .ptr (.loc 0) 0), (5, .ptr (.loc 1) 0), (9, I n), (10, I y.1)]) (fun y => outW h.lift i (deckB bs y.2.1))
    (fun y => [.flat true [.nilslice, .nilslice], .cells true [.nilslice, .gl (.loc 2) 1 y.2.2.length], .flat true (y.2.2.flatMap encI)]) (fun y => y.1 ≤ n ∧ y.2 = vIt bs (x1.2, []) y.1) (fun y => n - y.1) (0, (x1.2, [])) ⟨Nat.zero_le _, rfl⟩ ?_ ?_ ?_
  · funext j; by_cases e : j = i <;> simp [outW, e, Hp.set]
  · conv => whnf
    refine Retell.turn ⟨[0,1,2], 2, [], []⟩ (TurnOk.mk' _ _ [] [] (OutOk.outW (OutOk.lift _) rfl) rfl (by decide) (by repeat' (first | exact BTos.nil | refine BTos.flat rfl rfl (by first | rfl | simp) ?_ | refine BTos.new rfl ?_ | refine BTos.dead rfl rfl ?_ | refine BTos.esE rfl rfl ?_ | refine BTos.row rfl rfl rfl (RowTo.snoc (RowTo.one rfl (by simp))) ?_ | refine BTos.cells rfl rfl rfl (by repeat' (first | exact VTo.undef | exact FrTo.leaf | refine FrTo.node ?_ ?_ ?_ | refine FrTo.none ?_ ?_ | exact VTo.sc (by first | rfl | (congr 1; omega) | (congr 1; simp; omega)) | exact VTos_dv _ _ | refine VTos.cons ?_ ?_ | exact VTos.nil | refine VTo.agg ?_ | refine VTo.tuple ?_ | refine VTo.func ?_ ?_ | exact VTo.fs | exact VTo.fp | exact VTo.nilptr | exact VTo.nilslice | exact VTo.nilfunc | exact VTo.ptr rfl | exact VTo.gl rfl | exact VTo.map rfl | exact VTo.yld rfl | exact VTo.fmMap rfl | exact VTo.fm | exact VTo.glNil' (by decide) rfl rfl | exact VTo.fsNil (by decide) | exact VTo.fsSl rfl rfl (by simp [flat_len encE_len]) | exact VTo.fpPtr rfl | exact VTo.fsGl rfl (by first | rfl | exact flat_len encI_len _ | exact flat_len encT_len _ | exact flat_len encS_len _ | exact flat_len encP_len _ | exact flat_len encL_len _ | exact flat_len encE_len _ | (simp [flat_len encP_len]; done) | simp [flat_len encI_len, flat_len encS_len]))) ?_)) trivial trivial rfl) (by repeat' (first | exact VTo.undef | exact FrTo.leaf | refine FrTo.node ?_ ?_ ?_ | refine FrTo.none ?_ ?_ | exact VTo.sc (by first | rfl | (congr 1; omega) | (congr 1; simp; omega)) | exact VTos_dv _ _ | refine VTos.cons ?_ ?_ | exact VTos.nil | refine VTo.agg ?_ | refine VTo.tuple ?_ | refine VTo.func ?_ ?_ | exact VTo.fs | exact VTo.fp | exact VTo.nilptr | exact VTo.nilslice | exact VTo.nilfunc | exact VTo.ptr rfl | exact VTo.gl rfl | exact VTo.map rfl | exact VTo.yld rfl | exact VTo.fmMap rfl | exact VTo.fm | exact VTo.glNil' (by decide) rfl rfl | exact VTo.fsNil (by decide) | exact VTo.fsSl rfl rfl (by simp [flat_len encE_len]) | exact VTo.fpPtr rfl | exact VTo.fsGl rfl (by first | rfl | exact flat_len encI_len _ | exact flat_len encT_len _ | exact flat_len encS_len _ | exact flat_len encP_len _ | exact flat_len encL_len _ | exact flat_len encE_len _ | (simp [flat_len encP_len]; done) | simp [flat_len encI_len, flat_len encS_len]))) (by first | rfl | (repeat' (first | exact MkTo.nil | refine MkTo.keep rfl ?_ | refine MkTo.drop (by decide) rfl ?_)))
  · rintro ⟨k, w⟩ ⟨hk, hw⟩
    dsimp only at hk hw
    have hwk := hVk k
    have hnx : vIt bs (x1.2, []) (k + 1) = ((dNx bs w.1 2).2, w.2 ++ [(dNx bs w.1 2).1]) := by rw [vIt, hw]
    rw [← hw] at hwk
    obtain ⟨n1, n2, n3⟩ := hwk
    have y1 := dNx_bd bs w.1 2
    have g1 := fun (h2 : Hp) hh => vc_draw bs w.1 2 (.out i) h2 (by omega) hh
    generalize dNx bs w.1 2 = z at y1 g1 hnx
    conv => whnf
    refine VIte.dec (fun h3 => ?_) (fun h3 => ?_)
    · conv => whnf
      refine VDraw.go [(1, 3)] (by kernel_rfl) (by kernel_rfl) ?_
      conv => whnf
      repeat' (first | (refine VLd.intro rfl ?_; conv => whnf) | (refine VArith.i64 (by first | omega | (dsimp only; omega)) ?_; conv => whnf) | (refine VNeed.intro (by first | rfl | assumption | (simp; omega) | (simp; done)) ?_; conv => whnf) | (refine VMem.store rfl rfl rfl rfl ?_; conv => whnf) | (refine VSame.intro rfl ?_; conv => whnf) | (refine VIte.dec (fun _ => ?_) (fun _ => ?_) <;> conv => whnf) | (refine VIte.ndec (fun _ => ?_) (fun _ => ?_) <;> conv => whnf) | (refine VIte.beq (fun _ => ?_) (fun _ => ?_) <;> conv => whnf) | (refine VIte.bne (fun _ => ?_) (fun _ => ?_) <;> conv => whnf) | (refine VIte.intro (fun _ => ?_) (fun _ => ?_) <;> conv => whnf) | (refine VCall.intro (g1 _ (outW_get _ _ _ _)) ?_; conv => whnf))
      refine VMem.app1 (l := w.2) z.1 encI_len rfl rfl rfl rfl rfl (by omega) ?_
      conv => whnf
      repeat' (first | (refine VLd.intro rfl ?_; conv => whnf) | (refine VArith.i64 (by first | omega | (dsimp only; omega)) ?_; conv => whnf) | (refine VNeed.intro (by first | rfl | assumption | (simp; omega) | (simp; done)) ?_; conv => whnf) | (refine VMem.store rfl rfl rfl rfl ?_; conv => whnf) | (refine VSame.intro rfl ?_; conv => whnf) | (refine VIte.dec (fun _ => ?_) (fun _ => ?_) <;> conv => whnf) | (refine VIte.ndec (fun _ => ?_) (fun _ => ?_) <;> conv => whnf) | (refine VIte.beq (fun _ => ?_) (fun _ => ?_) <;> conv => whnf) | (refine VIte.bne (fun _ => ?_) (fun _ => ?_) <;> conv => whnf) | (refine VIte.intro (fun _ => ?_) (fun _ => ?_) <;> conv => whnf))
      refine LEndO.intro (k + 1, _) ⟨by dsimp only; omega, hnx.symm⟩ (by dsimp only; omega) ?_ ?_
      · funext j; by_cases e : j = i <;> simp [outW, e, Hp.set]
      · conv => whnf
        rw [List.length_append]
        refine Retell.turn ⟨[0,1,4], 5, [], []⟩ (TurnOk.mk' _ _ [] [] (OutOk.outW (OutOk.lift _) rfl) rfl (by decide) (by repeat' (first | exact BTos.nil | refine BTos.flat rfl rfl (by first | rfl | simp) ?_ | refine BTos.new rfl ?_ | refine BTos.dead rfl rfl ?_ | refine BTos.esE rfl rfl ?_ | refine BTos.row rfl rfl rfl (RowTo.snoc (RowTo.one rfl (by simp))) ?_ | refine BTos.cells rfl rfl rfl (by repeat' (first | exact VTo.undef | exact FrTo.leaf | refine FrTo.node ?_ ?_ ?_ | refine FrTo.none ?_ ?_ | exact VTo.sc (by first | rfl | (congr 1; omega) | (congr 1; simp; omega)) | exact VTos_dv _ _ | refine VTos.cons ?_ ?_ | exact VTos.nil | refine VTo.agg ?_ | refine VTo.tuple ?_ | refine VTo.func ?_ ?_ | exact VTo.fs | exact VTo.fp | exact VTo.nilptr | exact VTo.nilslice | exact VTo.nilfunc | exact VTo.ptr rfl | exact VTo.gl rfl | exact VTo.map rfl | exact VTo.yld rfl | exact VTo.fmMap rfl | exact VTo.fm | exact VTo.glNil' (by decide) rfl rfl | exact VTo.fsNil (by decide) | exact VTo.fsSl rfl rfl (by simp [flat_len encE_len]) | exact VTo.fpPtr rfl | exact VTo.fsGl rfl (by first | rfl | exact flat_len encI_len _ | exact flat_len encT_len _ | exact flat_len encS_len _ | exact flat_len encP_len _ | exact flat_len encL_len _ | exact flat_len encE_len _ | (simp [flat_len encP_len]; done) | simp [flat_len encI_len, flat_len encS_len]))) ?_)) trivial trivial rfl) (by repeat' (first | exact VTo.undef | exact FrTo.leaf | refine FrTo.node ?_ ?_ ?_ | refine FrTo.none ?_ ?_ | exact VTo.sc (by first | rfl | (congr 1; omega) | (congr 1; simp; omega)) | exact VTos_dv _ _ | refine VTos.cons ?_ ?_ | exact VTos.nil | refine VTo.agg ?_ | refine VTo.tuple ?_ | refine VTo.func ?_ ?_ | exact VTo.fs | exact VTo.fp | exact VTo.nilptr | exact VTo.nilslice | exact VTo.nilfunc | exact VTo.ptr rfl | exact VTo.gl rfl | exact VTo.map rfl | exact VTo.yld rfl | exact VTo.fmMap rfl | exact VTo.fm | exact VTo.glNil' (by decide) rfl rfl | exact VTo.fsNil (by decide) | exact VTo.fsSl rfl rfl (by simp [flat_len encE_len]) | exact VTo.fpPtr rfl | exact VTo.fsGl rfl (by first | rfl | exact flat_len encI_len _ | exact flat_len encT_len _ | exact flat_len encS_len _ | exact flat_len encP_len _ | exact flat_len encL_len _ | exact flat_len encE_len _ | (simp [flat_len encP_len]; done) | simp [flat_len encI_len, flat_len encS_len]))) (by first | rfl | (repeat' (first | exact MkTo.nil | refine MkTo.keep rfl ?_ | refine MkTo.drop (by decide) rfl ?_)))
    · have hkn : k = n := by dsimp only at h3; omega
      subst hkn
      rw [← hv0] at hw
      subst hw
      conv => whnf
      repeat' (first | (refine VLd.intro rfl ?_; conv => whnf) | (refine VArith.i64 (by first | omega | (dsimp only; omega)) ?_; conv => whnf) | (refine VNeed.intro (by first | rfl | assumption | (simp; omega) | (simp; done)) ?_; conv => whnf) | (refine VMem.store rfl rfl rfl rfl ?_; conv => whnf) | (refine VSame.intro rfl ?_; conv => whnf) | (refine VIte.dec (fun _ => ?_) (fun _ => ?_) <;> conv => whnf) | (refine VIte.ndec (fun _ => ?_) (fun _ => ?_) <;> conv => whnf) | (refine VIte.beq (fun _ => ?_) (fun _ => ?_) <;> conv => whnf) | (refine VIte.bne (fun _ => ?_) (fun _ => ?_) <;> conv => whnf) | (refine VIte.intro (fun _ => ?_) (fun _ => ?_) <;> conv => whnf) | (refine VCall.intro (c2 _ (outW_get _ _ _ _)) ?_; conv => whnf))
      refine VCode.lpo (fun y : Nat × (DS × List Str) => [(0, .ptr (.out i) 0), (4, .ptr (.loc 0) 0), (5, .ptr (.loc 1) 0), (22, I m), (23, I y.1)]) (fun y => outW h.lift i (deckB bs y.2.1))
        (fun y => [.flat true [.nilslice, .nilslice], .cells true [.gl (.loc 2) 4 y.2.2.length, ints w.2], .flat true (y.2.2.flatMap encT)]) (fun y => y.1 ≤ m ∧ y.2 = sIt bs w.2 (x2.2, []) y.1) (fun y => m - y.1) (0, (x2.2, [])) ⟨Nat.zero_le _, rfl⟩ ?_ ?_ ?_
      · funext j; by_cases e : j = i <;> simp [outW, e, Hp.set]
      · conv => whnf
        refine Retell.turn ⟨[0,1,3], 3, [(2, w.2.flatMap encI)], []⟩ (TurnOk.mk' _ _ [(2, w.2.flatMap encI)] [] (OutOk.outW (OutOk.lift _) rfl) rfl (by decide) (by repeat' (first | exact BTos.nil | refine BTos.flat rfl rfl (by first | rfl | simp) ?_ | refine BTos.new rfl ?_ | refine BTos.dead rfl rfl ?_ | refine BTos.esE rfl rfl ?_ | refine BTos.row rfl rfl rfl (RowTo.snoc (RowTo.one rfl (by simp))) ?_ | refine BTos.cells rfl rfl rfl (by repeat' (first | exact VTo.undef | exact FrTo.leaf | refine FrTo.node ?_ ?_ ?_ | refine FrTo.none ?_ ?_ | exact VTo.sc (by first | rfl | (congr 1; omega) | (congr 1; simp; omega)) | exact VTos_dv _ _ | refine VTos.cons ?_ ?_ | exact VTos.nil | refine VTo.agg ?_ | refine VTo.tuple ?_ | refine VTo.func ?_ ?_ | exact VTo.fs | exact VTo.fp | exact VTo.nilptr | exact VTo.nilslice | exact VTo.nilfunc | exact VTo.ptr rfl | exact VTo.gl rfl | exact VTo.map rfl | exact VTo.yld rfl | exact VTo.fmMap rfl | exact VTo.fm | exact VTo.glNil' (by decide) rfl rfl | exact VTo.fsNil (by decide) | exact VTo.fsSl rfl rfl (by simp [flat_len encE_len]) | exact VTo.fpPtr rfl | exact VTo.fsGl rfl (by first | rfl | exact flat_len encI_len _ | exact flat_len encT_len _ | exact flat_len encS_len _ | exact flat_len encP_len _ | exact flat_len encL_len _ | exact flat_len encE_len _ | (simp [flat_len encP_len]; done) | simp [flat_len encI_len, flat_len encS_len]))) ?_)) (by repeat' (first | exact FzAll.nil | refine FzAll.flat rfl ?_ | refine FzAll.row rfl rfl (RowTo.one rfl (by simp)) ?_)) trivial rfl) (by repeat' (first | exact VTo.undef | exact FrTo.leaf | refine FrTo.node ?_ ?_ ?_ | refine FrTo.none ?_ ?_ | exact VTo.sc (by first | rfl | (congr 1; omega) | (congr 1; simp; omega)) | exact VTos_dv _ _ | refine VTos.cons ?_ ?_ | exact VTos.nil | refine VTo.agg ?_ | refine VTo.tuple ?_ | refine VTo.func ?_ ?_ | exact VTo.fs | exact VTo.fp | exact VTo.nilptr | exact VTo.nilslice | exact VTo.nilfunc | exact VTo.ptr rfl | exact VTo.gl rfl | exact VTo.map rfl | exact VTo.yld rfl | exact VTo.fmMap rfl | exact VTo.fm | exact VTo.glNil' (by decide) rfl rfl | exact VTo.fsNil (by decide) | exact VTo.fsSl rfl rfl (by simp [flat_len encE_len]) | exact VTo.fpPtr rfl | exact VTo.fsGl rfl (by first | rfl | exact flat_len encI_len _ | exact flat_len encT_len _ | exact flat_len encS_len _ | exact flat_len encP_len _ | exact flat_len encL_len _ | exact flat_len encE_len _ | (simp [flat_len encP_len]; done) | simp [flat_len encI_len, flat_len encS_len]))) (by first | rfl | (repeat' (first | exact MkTo.nil | refine MkTo.keep rfl ?_ | refine MkTo.drop (by decide) rfl ?_)))
      · rintro ⟨k, u⟩ ⟨hk, hu⟩
        dsimp only at hk hu
        have huk := hSk k
        have hnx : sIt bs w.2 (x2.2, []) (k + 1) = ((sD4 bs u.1).2, u.2 ++ [sStr w.2 (sD1 bs u.1).1 (1 + (sD2 bs u.1).1) (1 + (sD3 bs u.1).1) (sD4 bs u.1).1]) := by rw [sIt, hu]
        rw [← hu] at huk
        obtain ⟨n1, n2, n3⟩ := huk
        have km : k ≤ 16 := by omega
        unfold sD4 sD3 sD2 sD1 at hnx
        have y1 := dNx_bd bs u.1 2
        have g1 := fun (h2 : Hp) hh => vc_draw bs u.1 2 (.out i) h2 (by omega) hh
        generalize dNx bs u.1 2 = z1 at y1 g1 hnx
        have y2 := dNx_bd bs z1.2 (59 - 1 + 1)
        have g2 := fun (h2 : Hp) hh => vc_between bs z1.2 1 59 (.out i) h2 (by omega) (by omega) (by omega) hh
        generalize dNx bs z1.2 (59 - 1 + 1) = z2 at y2 g2 hnx
        have y3 := dNx_bd bs z2.2 (59 - 1 + 1)
        have g3 := fun (h2 : Hp) hh => vc_between bs z2.2 1 59 (.out i) h2 (by omega) (by omega) (by omega) hh
        generalize dNx bs z2.2 (59 - 1 + 1) = z3 at y3 g3 hnx
        have y4 := dNx_bd bs z3.2 20
        have g4 := fun (h2 : Hp) hh => vc_draw bs z3.2 20 (.out i) h2 (by omega) hh
        generalize dNx bs z3.2 20 = z4 at y4 g4 hnx
        conv => whnf
        refine VIte.dec (fun h3 => ?_) (fun h3 => ?_)
        · conv => whnf
          repeat' (first | (refine VLd.intro rfl ?_; conv => whnf) | (refine VArith.i64 (by first | omega | (dsimp only; omega)) ?_; conv => whnf) | (refine VNeed.intro (by first | rfl | assumption | (simp; omega) | (simp; done)) ?_; conv => whnf) | (refine VMem.store rfl rfl rfl rfl ?_; conv => whnf) | (refine VSame.intro rfl ?_; conv => whnf) | (refine VIte.dec (fun _ => ?_) (fun _ => ?_) <;> conv => whnf) | (refine VIte.ndec (fun _ => ?_) (fun _ => ?_) <;> conv => whnf) | (refine VIte.beq (fun _ => ?_) (fun _ => ?_) <;> conv => whnf) | (refine VIte.bne (fun _ => ?_) (fun _ => ?_) <;> conv => whnf) | (refine VIte.intro (fun _ => ?_) (fun _ => ?_) <;> conv => whnf) | (refine VCall.intro (g1 _ (outW_get _ _ _ _)) ?_; conv => whnf) | (refine VCall.intro (g2 _ (outW_get _ _ _ _)) ?_; conv => whnf) | (refine VCall.intro (g3 _ (outW_get _ _ _ _)) ?_; conv => whnf) | (refine VCall.intro (g4 _ (outW_get _ _ _ _)) ?_; conv => whnf))
          · rename_i h5
            obtain ⟨v, hv⟩ : ∃ v : Nat, z4.1 = v := ⟨z4.1.toNat, by omega⟩
            rw [hv] at hnx h5
            have hvl : v < w.2.length := by omega
            have hva : w.2[v]? = some (w.2[v]) := List.getElem?_eq_getElem hvl
            have hst : sStr w.2 z1.1 (1 + z2.1) (1 + z3.1) (v : Int) = ⟨w.2[v], 1 + z2.1, 1 + z3.1, v⟩ := by
              unfold sStr vAt
              rw [if_pos (by omega), Int.toNat_natCast, List.getD_eq_getElem?_getD, hva, Option.getD_some]
            rw [hst] at hnx
            generalize w.2[v] = e at hva hnx
            simp only [hv]
            refine VDraw.go [(2, 7), (5, 7)] (by kernel_rfl) (by kernel_rfl) ?_
            conv => whnf
            repeat' (first | (refine VLd.intro rfl ?_; conv => whnf) | (refine VArith.i64 (by first | omega | (dsimp only; omega)) ?_; conv => whnf) | (refine VNeed.intro (by first | rfl | assumption | (simp; omega) | (simp; done)) ?_; conv => whnf) | (refine VMem.store rfl rfl rfl rfl ?_; conv => whnf) | (refine VSame.intro rfl ?_; conv => whnf) | (refine VIte.dec (fun _ => ?_) (fun _ => ?_) <;> conv => whnf) | (refine VIte.ndec (fun _ => ?_) (fun _ => ?_) <;> conv => whnf) | (refine VIte.beq (fun _ => ?_) (fun _ => ?_) <;> conv => whnf) | (refine VIte.bne (fun _ => ?_) (fun _ => ?_) <;> conv => whnf) | (refine VIte.intro (fun _ => ?_) (fun _ => ?_) <;> conv => whnf) | (refine VAny.ix encI_len v rfl rfl hva ?_; conv => whnf))
            refine VMem.app1 (l := u.2) (⟨e, 1 + z2.1, 1 + z3.1, v⟩ : Str) encT_len rfl rfl rfl rfl rfl (by omega) ?_
            conv => whnf
            repeat' (first | (refine VLd.intro rfl ?_; conv => whnf) | (refine VArith.i64 (by first | omega | (dsimp only; omega)) ?_; conv => whnf) | (refine VNeed.intro (by first | rfl | assumption | (simp; omega) | (simp; done)) ?_; conv => whnf) | (refine VMem.store rfl rfl rfl rfl ?_; conv => whnf) | (refine VSame.intro rfl ?_; conv => whnf) | (refine VIte.dec (fun _ => ?_) (fun _ => ?_) <;> conv => whnf) | (refine VIte.ndec (fun _ => ?_) (fun _ => ?_) <;> conv => whnf) | (refine VIte.beq (fun _ => ?_) (fun _ => ?_) <;> conv => whnf) | (refine VIte.bne (fun _ => ?_) (fun _ => ?_) <;> conv => whnf) | (refine VIte.intro (fun _ => ?_) (fun _ => ?_) <;> conv => whnf))
            refine LEndO.intro (k + 1, _) ⟨by dsimp only; omega, hnx.symm⟩ (by dsimp only; omega) ?_ ?_
            · funext j; by_cases e : j = i <;> simp [outW, e, Hp.set]
            · conv => whnf
              rw [List.length_append]
              refine Retell.turn ⟨[0,1,5], 6, [], []⟩ (TurnOk.mk' _ _ [] [] (OutOk.outW (OutOk.lift _) rfl) rfl (by decide) (by repeat' (first | exact BTos.nil | refine BTos.flat rfl rfl (by first | rfl | simp) ?_ | refine BTos.new rfl ?_ | refine BTos.dead rfl rfl ?_ | refine BTos.esE rfl rfl ?_ | refine BTos.row rfl rfl rfl (RowTo.snoc (RowTo.one rfl (by simp))) ?_ | refine BTos.cells rfl rfl rfl (by repeat' (first | exact VTo.undef | exact FrTo.leaf | refine FrTo.node ?_ ?_ ?_ | refine FrTo.none ?_ ?_ | exact VTo.sc (by first | rfl | (congr 1; omega) | (congr 1; simp; omega)) | exact VTos_dv _ _ | refine VTos.cons ?_ ?_ | exact VTos.nil | refine VTo.agg ?_ | refine VTo.tuple ?_ | refine VTo.func ?_ ?_ | exact VTo.fs | exact VTo.fp | exact VTo.nilptr | exact VTo.nilslice | exact VTo.nilfunc | exact VTo.ptr rfl | exact VTo.gl rfl | exact VTo.map rfl | exact VTo.yld rfl | exact VTo.fmMap rfl | exact VTo.fm | exact VTo.glNil' (by decide) rfl rfl | exact VTo.fsNil (by decide) | exact VTo.fsSl rfl rfl (by simp [flat_len encE_len]) | exact VTo.fpPtr rfl | exact VTo.fsGl rfl (by first | rfl | exact flat_len encI_len _ | exact flat_len encT_len _ | exact flat_len encS_len _ | exact flat_len encP_len _ | exact flat_len encL_len _ | exact flat_len encE_len _ | (simp [flat_len encP_len]; done) | simp [flat_len encI_len, flat_len encS_len]))) ?_)) trivial trivial rfl) (by repeat' (first | exact VTo.undef | exact FrTo.leaf | refine FrTo.node ?_ ?_ ?_ | refine FrTo.none ?_ ?_ | exact VTo.sc (by first | rfl | (congr 1; omega) | (congr 1; simp; omega)) | exact VTos_dv _ _ | refine VTos.cons ?_ ?_ | exact VTos.nil | refine VTo.agg ?_ | refine VTo.tuple ?_ | refine VTo.func ?_ ?_ | exact VTo.fs | exact VTo.fp | exact VTo.nilptr | exact VTo.nilslice | exact VTo.nilfunc | exact VTo.ptr rfl | exact VTo.gl rfl | exact VTo.map rfl | exact VTo.yld rfl | exact VTo.fmMap rfl | exact VTo.fm | exact VTo.glNil' (by decide) rfl rfl | exact VTo.fsNil (by decide) | exact VTo.fsSl rfl rfl (by simp [flat_len encE_len]) | exact VTo.fpPtr rfl | exact VTo.fsGl rfl (by first | rfl | exact flat_len encI_len _ | exact flat_len encT_len _ | exact flat_len encS_len _ | exact flat_len encP_len _ | exact flat_len encL_len _ | exact flat_len encE_len _ | (simp [flat_len encP_len]; done) | simp [flat_len encI_len, flat_len encS_len]))) (by first | rfl | (repeat' (first | exact MkTo.nil | refine MkTo.keep rfl ?_ | refine MkTo.drop (by decide) rfl ?_)))
          · rename_i h5
            have hst : sStr w.2 z1.1 (1 + z2.1) (1 + z3.1) z4.1 = ⟨z1.1, 1 + z2.1, 1 + z3.1, -1⟩ := by
              unfold sStr; rw [if_neg h5]
            rw [hst] at hnx
            refine VMem.app1 (l := u.2) (⟨z1.1, 1 + z2.1, 1 + z3.1, -1⟩ : Str) encT_len rfl rfl rfl rfl rfl (by omega) ?_
            conv => whnf
            repeat' (first | (refine VLd.intro rfl ?_; conv => whnf) | (refine VArith.i64 (by first | omega | (dsimp only; omega)) ?_; conv => whnf) | (refine VNeed.intro (by first | rfl | assumption | (simp; omega) | (simp; done)) ?_; conv => whnf) | (refine VMem.store rfl rfl rfl rfl ?_; conv => whnf) | (refine VSame.intro rfl ?_; conv => whnf) | (refine VIte.dec (fun _ => ?_) (fun _ => ?_) <;> conv => whnf) | (refine VIte.ndec (fun _ => ?_) (fun _ => ?_) <;> conv => whnf) | (refine VIte.beq (fun _ => ?_) (fun _ => ?_) <;> conv => whnf) | (refine VIte.bne (fun _ => ?_) (fun _ => ?_) <;> conv => whnf) | (refine VIte.intro (fun _ => ?_) (fun _ => ?_) <;> conv => whnf))
            refine LEndO.intro (k + 1, _) ⟨by dsimp only; omega, hnx.symm⟩ (by dsimp only; omega) ?_ ?_
            · funext j; by_cases e : j = i <;> simp [outW, e, Hp.set]
            · conv => whnf
              rw [List.length_append]
              refine Retell.turn ⟨[0,1,5], 6, [], []⟩ (TurnOk.mk' _ _ [] [] (OutOk.outW (OutOk.lift _) rfl) rfl (by decide) (by repeat' (first | exact BTos.nil | refine BTos.flat rfl rfl (by first | rfl | simp) ?_ | refine BTos.new rfl ?_ | refine BTos.dead rfl rfl ?_ | refine BTos.esE rfl rfl ?_ | refine BTos.row rfl rfl rfl (RowTo.snoc (RowTo.one rfl (by simp))) ?_ | refine BTos.cells rfl rfl rfl (by repeat' (first | exact VTo.undef | exact FrTo.leaf | refine FrTo.node ?_ ?_ ?_ | refine FrTo.none ?_ ?_ | exact VTo.sc (by first | rfl | (congr 1; omega) | (congr 1; simp; omega)) | exact VTos_dv _ _ | refine VTos.cons ?_ ?_ | exact VTos.nil | refine VTo.agg ?_ | refine VTo.tuple ?_ | refine VTo.func ?_ ?_ | exact VTo.fs | exact VTo.fp | exact VTo.nilptr | exact VTo.nilslice | exact VTo.nilfunc | exact VTo.ptr rfl | exact VTo.gl rfl | exact VTo.map rfl | exact VTo.yld rfl | exact VTo.fmMap rfl | exact VTo.fm | exact VTo.glNil' (by decide) rfl rfl | exact VTo.fsNil (by decide) | exact VTo.fsSl rfl rfl (by simp [flat_len encE_len]) | exact VTo.fpPtr rfl | exact VTo.fsGl rfl (by first | rfl | exact flat_len encI_len _ | exact flat_len encT_len _ | exact flat_len encS_len _ | exact flat_len encP_len _ | exact flat_len encL_len _ | exact flat_len encE_len _ | (simp [flat_len encP_len]; done) | simp [flat_len encI_len, flat_len encS_len]))) ?_)) trivial trivial rfl) (by repeat' (first | exact VTo.undef | exact FrTo.leaf | refine FrTo.node ?_ ?_ ?_ | refine FrTo.none ?_ ?_ | exact VTo.sc (by first | rfl | (congr 1; omega) | (congr 1; simp; omega)) | exact VTos_dv _ _ | refine VTos.cons ?_ ?_ | exact VTos.nil | refine VTo.agg ?_ | refine VTo.tuple ?_ | refine VTo.func ?_ ?_ | exact VTo.fs | exact VTo.fp | exact VTo.nilptr | exact VTo.nilslice | exact VTo.nilfunc | exact VTo.ptr rfl | exact VTo.gl rfl | exact VTo.map rfl | exact VTo.yld rfl | exact VTo.fmMap rfl | exact VTo.fm | exact VTo.glNil' (by decide) rfl rfl | exact VTo.fsNil (by decide) | exact VTo.fsSl rfl rfl (by simp [flat_len encE_len]) | exact VTo.fpPtr rfl | exact VTo.fsGl rfl (by first | rfl | exact flat_len encI_len _ | exact flat_len encT_len _ | exact flat_len encS_len _ | exact flat_len encP_len _ | exact flat_len encL_len _ | exact flat_len encE_len _ | (simp [flat_len encP_len]; done) | simp [flat_len encI_len, flat_len encS_len]))) (by first | rfl | (repeat' (first | exact MkTo.nil | refine MkTo.keep rfl ?_ | refine MkTo.drop (by decide) rfl ?_)))
        · have hkm : k = m := by dsimp only at h3; omega
          subst hkm
          rw [← hR] at hu
          subst hu
          conv => whnf
          repeat' (first | (refine VLd.intro rfl ?_; conv => whnf) | (refine VArith.i64 (by first | omega | (dsimp only; omega)) ?_; conv => whnf) | (refine VNeed.intro (by first | rfl | assumption | (simp; omega) | (simp; done)) ?_; conv => whnf) | (refine VMem.store rfl rfl rfl rfl ?_; conv => whnf) | (refine VSame.intro rfl ?_; conv => whnf) | (refine VIte.dec (fun _ => ?_) (fun _ => ?_) <;> conv => whnf) | (refine VIte.ndec (fun _ => ?_) (fun _ => ?_) <;> conv => whnf) | (refine VIte.beq (fun _ => ?_) (fun _ => ?_) <;> conv => whnf) | (refine VIte.bne (fun _ => ?_) (fun _ => ?_) <;> conv => whnf) | (refine VIte.intro (fun _ => ?_) (fun _ => ?_) <;> conv => whnf))
          refine VOut.turn ⟨[], 3, [(2, u.2.flatMap encT)], []⟩ (loc' := []) (r1' := vL ⟨u.2, w.2⟩) (TurnOk.mk' [] 3 [(2, u.2.flatMap encT)] [] (OutOk.outW (OutOk.lift _) rfl) rfl List.nodup_nil BTos.nil (FzAll.flat rfl FzAll.nil) trivial rfl) (by repeat' (first | exact VTo.undef | exact FrTo.leaf | refine FrTo.node ?_ ?_ ?_ | refine FrTo.none ?_ ?_ | exact VTo.sc (by first | rfl | (congr 1; omega) | (congr 1; simp; omega)) | exact VTos_dv _ _ | refine VTos.cons ?_ ?_ | exact VTos.nil | refine VTo.agg ?_ | refine VTo.tuple ?_ | refine VTo.func ?_ ?_ | exact VTo.fs | exact VTo.fp | exact VTo.nilptr | exact VTo.nilslice | exact VTo.nilfunc | exact VTo.ptr rfl | exact VTo.gl rfl | exact VTo.map rfl | exact VTo.yld rfl | exact VTo.fmMap rfl | exact VTo.fm | exact VTo.glNil' (by decide) rfl rfl | exact VTo.fsNil (by decide) | exact VTo.fsSl rfl rfl (by simp [flat_len encE_len]) | exact VTo.fpPtr rfl | exact VTo.fsGl rfl (by first | rfl | exact flat_len encI_len _ | exact flat_len encT_len _ | exact flat_len encS_len _ | exact flat_len encP_len _ | exact flat_len encL_len _ | exact flat_len encE_len _ | (simp [flat_len encP_len]; done) | simp [flat_len encI_len, flat_len encS_len]))) ?_
          exact VOut.setF (L := 0) rfl hd fun _ => rfl
end Go.Proofs.Ytmpjpjfkbmlmfaa

open Go.Vm
namespace Go.Proofs.Ytmpjpjfkbmlmfaa
set_option maxRecDepth 20000
set_option maxHeartbeats 4000000

/-! An exchange that is dealt. -/
def t1 (bs : List Int) (w : Int) (d : DS) : Int × DS := dNx bs d (w + 1)
def t2 (bs : List Int) (w : Int) (d : DS) : Int × DS := dNx bs (t1 bs w d).2 2
def t3 (bs : List Int) (w : Int) (d : DS) : Int × DS := dNx bs (t2 bs w d).2 2
def tP (bs : List Int) (w : Int) (s : Str) (d : DS) : Int := bif isFree s then (bif (t2 bs w d).1 == 0 then w * (t3 bs w d).1 else (t1 bs w d).1) else w * (1 - s.ow)
def tD (bs : List Int) (w : Int) (d : DS) : DS := bif (t2 bs w d).1 == 0 then (t3 bs w d).2 else (t2 bs w d).2
def tIt (bs : List Int) (w : Int) : List Str → DS × List Int → DS × List Int
  | [], x => x
  | s :: ss, x => tIt bs w ss (tD bs w x.1, x.2 ++ [tP bs w s x.1])
def tW (bs : List Int) (d : DS) : Int × DS := dNx bs d (12 - 1 + 1)
def tR (bs : List Int) (d : DS) (l : Lnd) : DS × List Int := tIt bs (1 + (tW bs d).1) l.ss ((tW bs d).2, [])
def tX (bs : List Int) (d : DS) (l : Lnd) : Exc := ⟨1 + (tW bs d).1, (tR bs d l).2⟩
theorem t_bd (bs : List Int) {w : Int} (hw : 1 ≤ w ∧ w ≤ 12) {s : Str} (d : DS) (hs : s.ow = 0 ∨ s.ow = 1) : (tD bs w d).1 ≤ d.1 + 3 ∧ 0 ≤ tP bs w s d ∧ tP bs w s d ≤ w ∧ (isFree s = true ∨ tP bs w s d = w * (1 - s.ow)) := by
  obtain ⟨a1, a2, a3⟩ := dNx_bd bs d (w + 1)
  obtain ⟨b1, b2, b3⟩ := dNx_bd bs (t1 bs w d).2 2
  obtain ⟨c1, c2, c3⟩ := dNx_bd bs (t2 bs w d).2 2
  have e1 : dNx bs d (w + 1) = t1 bs w d := rfl
  have e2 : dNx bs (t1 bs w d).2 2 = t2 bs w d := rfl
  have e3 : dNx bs (t2 bs w d).2 2 = t3 bs w d := rfl
  rw [e1] at a1 a2 a3
  rw [e2] at b1 b2 b3
  rw [e3] at c1 c2 c3
  unfold tD tP
  generalize t3 bs w d = y3 at *
  generalize t2 bs w d = y2 at *
  generalize t1 bs w d = y1 at *
  have hm : 0 ≤ w * y3.1 ∧ w * y3.1 ≤ w := by
    have : y3.1 = 0 ∨ y3.1 = 1 := by omega
    rcases this with h | h <;> rw [h] <;> omega
  have ho : 0 ≤ w * (1 - s.ow) ∧ w * (1 - s.ow) ≤ w := by rcases hs with h | h <;> rw [h] <;> omega
  cases isFree s <;> cases y2.1 == 0 <;> simp only [cond_true, cond_false] <;> exact ⟨by omega, by omega, by omega, by simp⟩
structure TOk2 (w : Int) (N k : Nat) (x : DS × List Int) : Prop where
  n : x.1.1 ≤ N + 3 * k
  len : x.2.length = k
  ps : ∀ p ∈ x.2, 0 ≤ p ∧ p ≤ w
/-- What is dealt for the first ones. -/
theorem tIt_take (bs : List Int) (w : Int) {s : Str} : ∀ {ss : List Str} {k : Nat} {x : DS × List Int}, ss[k]? = some s → tIt bs w (ss.take (k + 1)) x = (tD bs w (tIt bs w (ss.take k) x).1, (tIt bs w (ss.take k) x).2 ++ [tP bs w s (tIt bs w (ss.take k) x).1])
  | [], _, _, h => by simp at h
  | t :: ss, 0, x, h => by simp at h; subst h; simp [tIt]
  | t :: ss, k + 1, x, h => by
    rw [List.take_succ_cons, List.take_succ_cons, tIt, tIt, tIt_take bs w (by simpa using h)]
structure TA (l : Lnd) (w : Int) (k : Nat) (ps : List Int) : Prop where
  al : ∀ (i : Nat) (s : Str) (p : Int), i < k → l.ss[i]? = some s → ps[i]? = some p → isFree s = true ∨ p = w * (1 - s.ow)
theorem tIt_ok {bs : List Int} {l : Lnd} (o : Ok l) {w : Int} (hw : 1 ≤ w ∧ w ≤ 12) {d : DS} : ∀ k, k ≤ l.ss.length → TOk2 w d.1 k (tIt bs w (l.ss.take k) (d, [])) ∧ TA l w k (tIt bs w (l.ss.take k) (d, [])).2
  | 0, _ => ⟨⟨by simp [tIt], by simp [tIt], by simp [tIt]⟩, ⟨fun i s p h => by omega⟩⟩
  | k + 1, hk => by
    obtain ⟨⟨h1, h2, h3⟩, ⟨h4⟩⟩ := tIt_ok (bs := bs) o hw (d := d) k (by omega)
    have hs : l.ss[k]? = some (l.ss[k]'(by omega)) := List.getElem?_eq_getElem _
    have os := (o.ss _ (List.getElem_mem (by omega : k < l.ss.length))).ow
    rw [tIt_take bs w hs]
    generalize l.ss[k]'(by omega) = s at hs os
    generalize tIt bs w (l.ss.take k) (d, []) = x at *
    obtain ⟨q1, q2, q3, q4⟩ := t_bd bs hw x.1 os
    refine ⟨⟨by dsimp only; omega, by simp [h2], fun p hp => ?_⟩, ⟨fun i s' p hi e1 e2 => ?_⟩⟩
    · rcases List.mem_append.1 hp with hp | hp
      · exact h3 p hp
      · rw [List.mem_singleton] at hp; omega
    · dsimp only at e2
      rcases Nat.eq_or_lt_of_le (Nat.le_of_lt_succ hi) with rfl | h
      · rw [hs] at e1; cases e1
        rw [List.getElem?_append_right (by omega), h2, Nat.sub_self] at e2
        simp at e2; subst e2
        exact q4
      · rw [List.getElem?_append_left (by omega)] at e2
        exact h4 i s' p h e1 e2
theorem tX_alw (bs : List Int) (d : DS) {l : Lnd} (o : Ok l) : Alw l (tX bs d l) ∧ (tR bs d l).1.1 ≤ d.1 + 60 ∧ (tX bs d l).w ≤ 12 := by
  obtain ⟨a1, a2, a3⟩ := dNx_bd bs d (12 - 1 + 1)
  have e : dNx bs d (12 - 1 + 1) = tW bs d := rfl
  rw [e] at a1 a2 a3
  have hw : 1 ≤ 1 + (tW bs d).1 ∧ 1 + (tW bs d).1 ≤ 12 := by omega
  have hn := o.n
  obtain ⟨⟨h1, h2, h3⟩, ⟨h4⟩⟩ := tIt_ok (bs := bs) o hw (d := (tW bs d).2) l.ss.length (Nat.le_refl _)
  rw [List.take_length] at h1 h2 h3 h4
  have e2 : tIt bs (1 + (tW bs d).1) l.ss ((tW bs d).2, []) = tR bs d l := rfl
  rw [e2] at h1 h2 h3 h4
  refine ⟨⟨⟨?_, h2, h3⟩, fun i s p hs hp => h4 i s p (List.getElem?_eq_some_iff.1 hs).1 hs hp⟩, by omega, hw.2⟩
  show 1 ≤ 1 + (tW bs d).1 ∧ 1 + (tW bs d).1 ≤ 2000
  omega
theorem vc_Tried (bs : List Int) (d : DS) (l : Lnd) (i : Vm.Id) (h : Hp) (o : Ok l) (hN : d.1 ≤ 1000000) (hd : h.get i = some (deckB bs d)) :
    VC Try.prog 28 [.ptr i 0, vL l] h (vX (tX bs d l)) (h.set i (deckB bs (tR bs d l).1)) := by
  have hn := o.n
  have y0 := dNx_bd bs d (12 - 1 + 1)
  have g0 := fun (h2 : Hp) hh => vc_between bs d 1 12 (.out i) h2 (by omega) (by omega) (by omega) hh
  unfold tX
  obtain ⟨R, hR⟩ : ∃ R, R = tR bs d l := ⟨_, rfl⟩
  rw [← hR]
  unfold tR at hR
  have e : dNx bs d (12 - 1 + 1) = tW bs d := rfl
  rw [e] at y0 g0
  generalize tW bs d = z0 at y0 g0 hR ⊢
  obtain ⟨w, hw⟩ : ∃ w, w = 1 + z0.1 := ⟨_, rfl⟩
  rw [← hw] at g0 hR ⊢
  have hw2 : 1 ≤ w ∧ w ≤ 12 := by omega
  have hT := fun k hk => (tIt_ok (bs := bs) o hw2 (d := z0.2) k hk).1
  refine VC.body Try.func28 rfl Try.ntmps28 Try.call28 (h.grows_set _ _) rfl ?_
  conv => whnf
  repeat' (first | (refine VLd.intro rfl ?_; conv => whnf) | (refine VArith.i64 (by first | omega | (dsimp only; omega)) ?_; conv => whnf) | (refine VNeed.intro (by first | rfl | assumption | (simp; omega) | (simp; done)) ?_; conv => whnf) | (refine VMem.store rfl rfl rfl rfl ?_; conv => whnf) | (refine VSame.intro rfl ?_; conv => whnf) | (refine VDraw.go [] (by kernel_rfl) (by kernel_rfl) ?_; conv => whnf) | (refine VIte.dec (fun _ => ?_) (fun _ => ?_) <;> conv => whnf) | (refine VIte.ndec (fun _ => ?_) (fun _ => ?_) <;> conv => whnf) | (refine VIte.beq (fun _ => ?_) (fun _ => ?_) <;> conv => whnf) | (refine VIte.bne (fun _ => ?_) (fun _ => ?_) <;> conv => whnf) | (refine VIte.intro (fun _ => ?_) (fun _ => ?_) <;> conv => whnf) | (refine VCall.intro (g0 _ (get_out hd _)) ?_; conv => whnf))
  refine VCode.lpo (fun y : Nat × (DS × List Int) => [(0, .ptr (.out i) 0), (4, .ptr (.loc 0) 0), (5, .ptr (.loc 1) 0), (13, strs l.ss), (14, I l.ss.length), (15, I y.1)]) (fun y => outW h.lift i (deckB bs y.2.1))
    (fun y => [.flat true [DI 0, .nilslice], .cells true [I w, .gl (.loc 2) 1 y.2.2.length], .flat true (y.2.2.flatMap encI)]) (fun y => y.1 ≤ l.ss.length ∧ y.2 = tIt bs w (l.ss.take y.1) (z0.2, [])) (fun y => l.ss.length - y.1) (0, (z0.2, [])) ⟨Nat.zero_le _, rfl⟩ ?_ ?_ ?_
  · funext j; by_cases e : j = i <;> simp [outW, e, Hp.set]
  · conv => whnf
    refine Retell.turn ⟨[1,2,3], 3, [], []⟩ (TurnOk.mk' _ _ [] [] (OutOk.outW (OutOk.lift _) rfl) rfl (by decide) (by repeat' (first | exact BTos.nil | refine BTos.flat rfl rfl (by first | rfl | simp) ?_ | refine BTos.new rfl ?_ | refine BTos.dead rfl rfl ?_ | refine BTos.esE rfl rfl ?_ | refine BTos.row rfl rfl rfl (RowTo.snoc (RowTo.one rfl (by simp))) ?_ | refine BTos.cells rfl rfl rfl (by repeat' (first | exact VTo.undef | exact FrTo.leaf | refine FrTo.node ?_ ?_ ?_ | refine FrTo.none ?_ ?_ | exact VTo.sc (by first | rfl | (congr 1; omega) | (congr 1; simp; omega)) | exact VTos_dv _ _ | refine VTos.cons ?_ ?_ | exact VTos.nil | refine VTo.agg ?_ | refine VTo.tuple ?_ | refine VTo.func ?_ ?_ | exact VTo.fs | exact VTo.fp | exact VTo.nilptr | exact VTo.nilslice | exact VTo.nilfunc | exact VTo.ptr rfl | exact VTo.gl rfl | exact VTo.map rfl | exact VTo.yld rfl | exact VTo.fmMap rfl | exact VTo.fm | exact VTo.glNil' (by decide) rfl rfl | exact VTo.fsNil (by decide) | exact VTo.fsSl rfl rfl (by simp [flat_len encE_len]) | exact VTo.fpPtr rfl | exact VTo.fsGl rfl (by first | rfl | exact flat_len encI_len _ | exact flat_len encT_len _ | exact flat_len encS_len _ | exact flat_len encP_len _ | exact flat_len encL_len _ | exact flat_len encE_len _ | (simp [flat_len encP_len]; done) | simp [flat_len encI_len, flat_len encS_len]))) ?_)) trivial trivial rfl) (by repeat' (first | exact VTo.undef | exact FrTo.leaf | refine FrTo.node ?_ ?_ ?_ | refine FrTo.none ?_ ?_ | exact VTo.sc (by first | rfl | (congr 1; omega) | (congr 1; simp; omega)) | exact VTos_dv _ _ | refine VTos.cons ?_ ?_ | exact VTos.nil | refine VTo.agg ?_ | refine VTo.tuple ?_ | refine VTo.func ?_ ?_ | exact VTo.fs | exact VTo.fp | exact VTo.nilptr | exact VTo.nilslice | exact VTo.nilfunc | exact VTo.ptr rfl | exact VTo.gl rfl | exact VTo.map rfl | exact VTo.yld rfl | exact VTo.fmMap rfl | exact VTo.fm | exact VTo.glNil' (by decide) rfl rfl | exact VTo.fsNil (by decide) | exact VTo.fsSl rfl rfl (by simp [flat_len encE_len]) | exact VTo.fpPtr rfl | exact VTo.fsGl rfl (by first | rfl | exact flat_len encI_len _ | exact flat_len encT_len _ | exact flat_len encS_len _ | exact flat_len encP_len _ | exact flat_len encL_len _ | exact flat_len encE_len _ | (simp [flat_len encP_len]; done) | simp [flat_len encI_len, flat_len encS_len]))) (by first | rfl | (repeat' (first | exact MkTo.nil | refine MkTo.keep rfl ?_ | refine MkTo.drop (by decide) rfl ?_)))
  · rintro ⟨k, u⟩ ⟨hk, hu⟩
    dsimp only at hk hu
    have huk := hT k hk
    rw [← hu] at huk
    obtain ⟨n1, n2, n3⟩ := huk
    conv => whnf
    refine VIte.dec (fun h3 => ?_) (fun h3 => ?_)
    · have hkl : k < l.ss.length := by omega
      have hs : l.ss[k]? = some l.ss[k] := List.getElem?_eq_getElem hkl
      have os := o.ss _ (List.getElem_mem hkl)
      have hnx := tIt_take bs w (x := (z0.2, [])) hs
      rw [← hu] at hnx
      generalize l.ss[k] = s at hs os hnx
      unfold tP tD t3 t2 t1 at hnx
      have how := os.ow
      have y1 := dNx_bd bs u.1 (w + 1)
      have g1 := fun (h2 : Hp) hh => vc_draw bs u.1 (w + 1) (.out i) h2 (by omega) hh
      generalize dNx bs u.1 (w + 1) = z1 at y1 g1 hnx
      have y2 := dNx_bd bs z1.2 2
      have g2 := fun (h2 : Hp) hh => vc_coin bs z1.2 2 (.out i) h2 (by omega) hh
      generalize dNx bs z1.2 2 = z2 at y2 g2 hnx
      have y3 := dNx_bd bs z2.2 2
      have g3 := fun (h2 : Hp) hh => vc_draw bs z2.2 2 (.out i) h2 (by omega) hh
      generalize dNx bs z2.2 2 = z3 at y3 g3 hnx
      have hm : 0 ≤ w * z3.1 ∧ w * z3.1 ≤ w := by
        have : z3.1 = 0 ∨ z3.1 = 1 := by omega
        rcases this with h | h <;> rw [h] <;> omega
      have ho : 0 ≤ w * (1 - s.ow) ∧ w * (1 - s.ow) ≤ w := by rcases how with h | h <;> rw [h] <;> omega
      generalize hc : (z2.1 == 0) = c at g2 hnx
      conv => whnf
      cases c
      · repeat' (first | (refine VLd.intro rfl ?_; conv => whnf) | (refine VArith.i64 (by first | omega | (dsimp only; omega)) ?_; conv => whnf) | (refine VNeed.intro (by first | rfl | assumption | (simp; omega) | (simp; done)) ?_; conv => whnf) | (refine VMem.store rfl rfl rfl rfl ?_; conv => whnf) | (refine VSame.intro rfl ?_; conv => whnf) | (refine VIte.dec (fun _ => ?_) (fun _ => ?_) <;> conv => whnf) | (refine VIte.ndec (fun _ => ?_) (fun _ => ?_) <;> conv => whnf) | (refine VIte.beq (fun _ => ?_) (fun _ => ?_) <;> conv => whnf) | (refine VIte.bne (fun _ => ?_) (fun _ => ?_) <;> conv => whnf) | (refine VIte.intro (fun _ => ?_) (fun _ => ?_) <;> conv => whnf) | (refine VCall.intro (g1 _ (outW_get _ _ _ _)) ?_; conv => whnf) | (refine VCall.intro (g2 _ (outW_get _ _ _ _)) ?_; conv => whnf) | (refine VAny.ix encT_len k rfl rfl hs ?_; conv => whnf))
        · rename_i h5
          have hf : isFree s = false := decide_eq_false h5
          rw [hf] at hnx
          simp only [cond_false] at hnx
          refine VMem.app1 (l := u.2) (w * (1 - s.ow)) encI_len rfl rfl rfl rfl rfl (by omega) ?_
          conv => whnf
          repeat' (first | (refine VLd.intro rfl ?_; conv => whnf) | (refine VArith.i64 (by first | omega | (dsimp only; omega)) ?_; conv => whnf) | (refine VNeed.intro (by first | rfl | assumption | (simp; omega) | (simp; done)) ?_; conv => whnf) | (refine VMem.store rfl rfl rfl rfl ?_; conv => whnf) | (refine VSame.intro rfl ?_; conv => whnf) | (refine VIte.dec (fun _ => ?_) (fun _ => ?_) <;> conv => whnf) | (refine VIte.ndec (fun _ => ?_) (fun _ => ?_) <;> conv => whnf) | (refine VIte.beq (fun _ => ?_) (fun _ => ?_) <;> conv => whnf) | (refine VIte.bne (fun _ => ?_) (fun _ => ?_) <;> conv => whnf) | (refine VIte.intro (fun _ => ?_) (fun _ => ?_) <;> conv => whnf))
          refine LEndO.intro (k + 1, _) ⟨by dsimp only; omega, hnx.symm⟩ (by dsimp only; omega) ?_ ?_
          · funext j; by_cases e : j = i <;> simp [outW, e, Hp.set]
          · conv => whnf
            rw [List.length_append]
            refine Retell.turn ⟨[0,1,5], 6, [], []⟩ (TurnOk.mk' _ _ [] [] (OutOk.outW (OutOk.lift _) rfl) rfl (by decide) (by repeat' (first | exact BTos.nil | refine BTos.flat rfl rfl (by first | rfl | simp) ?_ | refine BTos.new rfl ?_ | refine BTos.dead rfl rfl ?_ | refine BTos.esE rfl rfl ?_ | refine BTos.row rfl rfl rfl (RowTo.snoc (RowTo.one rfl (by simp))) ?_ | refine BTos.cells rfl rfl rfl (by repeat' (first | exact VTo.undef | exact FrTo.leaf | refine FrTo.node ?_ ?_ ?_ | refine FrTo.none ?_ ?_ | exact VTo.sc (by first | rfl | (congr 1; omega) | (congr 1; simp; omega)) | exact VTos_dv _ _ | refine VTos.cons ?_ ?_ | exact VTos.nil | refine VTo.agg ?_ | refine VTo.tuple ?_ | refine VTo.func ?_ ?_ | exact VTo.fs | exact VTo.fp | exact VTo.nilptr | exact VTo.nilslice | exact VTo.nilfunc | exact VTo.ptr rfl | exact VTo.gl rfl | exact VTo.map rfl | exact VTo.yld rfl | exact VTo.fmMap rfl | exact VTo.fm | exact VTo.glNil' (by decide) rfl rfl | exact VTo.fsNil (by decide) | exact VTo.fsSl rfl rfl (by simp [flat_len encE_len]) | exact VTo.fpPtr rfl | exact VTo.fsGl rfl (by first | rfl | exact flat_len encI_len _ | exact flat_len encT_len _ | exact flat_len encS_len _ | exact flat_len encP_len _ | exact flat_len encL_len _ | exact flat_len encE_len _ | (simp [flat_len encP_len]; done) | simp [flat_len encI_len, flat_len encS_len]))) ?_)) trivial trivial rfl) (by repeat' (first | exact VTo.undef | exact FrTo.leaf | refine FrTo.node ?_ ?_ ?_ | refine FrTo.none ?_ ?_ | exact VTo.sc (by first | rfl | (congr 1; omega) | (congr 1; simp; omega)) | exact VTos_dv _ _ | refine VTos.cons ?_ ?_ | exact VTos.nil | refine VTo.agg ?_ | refine VTo.tuple ?_ | refine VTo.func ?_ ?_ | exact VTo.fs | exact VTo.fp | exact VTo.nilptr | exact VTo.nilslice | exact VTo.nilfunc | exact VTo.ptr rfl | exact VTo.gl rfl | exact VTo.map rfl | exact VTo.yld rfl | exact VTo.fmMap rfl | exact VTo.fm | exact VTo.glNil' (by decide) rfl rfl | exact VTo.fsNil (by decide) | exact VTo.fsSl rfl rfl (by simp [flat_len encE_len]) | exact VTo.fpPtr rfl | exact VTo.fsGl rfl (by first | rfl | exact flat_len encI_len _ | exact flat_len encT_len _ | exact flat_len encS_len _ | exact flat_len encP_len _ | exact flat_len encL_len _ | exact flat_len encE_len _ | (simp [flat_len encP_len]; done) | simp [flat_len encI_len, flat_len encS_len]))) (by first | rfl | (repeat' (first | exact MkTo.nil | refine MkTo.keep rfl ?_ | refine MkTo.drop (by decide) rfl ?_)))
        · rename_i h5
          have hf : isFree s = true := decide_eq_true (by omega)
          rw [hf] at hnx
          simp only [cond_false, cond_true] at hnx
          refine VMem.app1 (l := u.2) (z1.1) encI_len rfl rfl rfl rfl rfl (by omega) ?_
          conv => whnf
          repeat' (first | (refine VLd.intro rfl ?_; conv => whnf) | (refine VArith.i64 (by first | omega | (dsimp only; omega)) ?_; conv => whnf) | (refine VNeed.intro (by first | rfl | assumption | (simp; omega) | (simp; done)) ?_; conv => whnf) | (refine VMem.store rfl rfl rfl rfl ?_; conv => whnf) | (refine VSame.intro rfl ?_; conv => whnf) | (refine VIte.dec (fun _ => ?_) (fun _ => ?_) <;> conv => whnf) | (refine VIte.ndec (fun _ => ?_) (fun _ => ?_) <;> conv => whnf) | (refine VIte.beq (fun _ => ?_) (fun _ => ?_) <;> conv => whnf) | (refine VIte.bne (fun _ => ?_) (fun _ => ?_) <;> conv => whnf) | (refine VIte.intro (fun _ => ?_) (fun _ => ?_) <;> conv => whnf))
          refine LEndO.intro (k + 1, _) ⟨by dsimp only; omega, hnx.symm⟩ (by dsimp only; omega) ?_ ?_
          · funext j; by_cases e : j = i <;> simp [outW, e, Hp.set]
          · conv => whnf
            rw [List.length_append]
            refine Retell.turn ⟨[0,1,5], 6, [], []⟩ (TurnOk.mk' _ _ [] [] (OutOk.outW (OutOk.lift _) rfl) rfl (by decide) (by repeat' (first | exact BTos.nil | refine BTos.flat rfl rfl (by first | rfl | simp) ?_ | refine BTos.new rfl ?_ | refine BTos.dead rfl rfl ?_ | refine BTos.esE rfl rfl ?_ | refine BTos.row rfl rfl rfl (RowTo.snoc (RowTo.one rfl (by simp))) ?_ | refine BTos.cells rfl rfl rfl (by repeat' (first | exact VTo.undef | exact FrTo.leaf | refine FrTo.node ?_ ?_ ?_ | refine FrTo.none ?_ ?_ | exact VTo.sc (by first | rfl | (congr 1; omega) | (congr 1; simp; omega)) | exact VTos_dv _ _ | refine VTos.cons ?_ ?_ | exact VTos.nil | refine VTo.agg ?_ | refine VTo.tuple ?_ | refine VTo.func ?_ ?_ | exact VTo.fs | exact VTo.fp | exact VTo.nilptr | exact VTo.nilslice | exact VTo.nilfunc | exact VTo.ptr rfl | exact VTo.gl rfl | exact VTo.map rfl | exact VTo.yld rfl | exact VTo.fmMap rfl | exact VTo.fm | exact VTo.glNil' (by decide) rfl rfl | exact VTo.fsNil (by decide) | exact VTo.fsSl rfl rfl (by simp [flat_len encE_len]) | exact VTo.fpPtr rfl | exact VTo.fsGl rfl (by first | rfl | exact flat_len encI_len _ | exact flat_len encT_len _ | exact flat_len encS_len _ | exact flat_len encP_len _ | exact flat_len encL_len _ | exact flat_len encE_len _ | (simp [flat_len encP_len]; done) | simp [flat_len encI_len, flat_len encS_len]))) ?_)) trivial trivial rfl) (by repeat' (first | exact VTo.undef | exact FrTo.leaf | refine FrTo.node ?_ ?_ ?_ | refine FrTo.none ?_ ?_ | exact VTo.sc (by first | rfl | (congr 1; omega) | (congr 1; simp; omega)) | exact VTos_dv _ _ | refine VTos.cons ?_ ?_ | exact VTos.nil | refine VTo.agg ?_ | refine VTo.tuple ?_ | refine VTo.func ?_ ?_ | exact VTo.fs | exact VTo.fp | exact VTo.nilptr | exact VTo.nilslice | exact VTo.nilfunc | exact VTo.ptr rfl | exact VTo.gl rfl | exact VTo.map rfl | exact VTo.yld rfl | exact VTo.fmMap rfl | exact VTo.fm | exact VTo.glNil' (by decide) rfl rfl | exact VTo.fsNil (by decide) | exact VTo.fsSl rfl rfl (by simp [flat_len encE_len]) | exact VTo.fpPtr rfl | exact VTo.fsGl rfl (by first | rfl | exact flat_len encI_len _ | exact flat_len encT_len _ | exact flat_len encS_len _ | exact flat_len encP_len _ | exact flat_len encL_len _ | exact flat_len encE_len _ | (simp [flat_len encP_len]; done) | simp [flat_len encI_len, flat_len encS_len]))) (by first | rfl | (repeat' (first | exact MkTo.nil | refine MkTo.keep rfl ?_ | refine MkTo.drop (by decide) rfl ?_)))
      · repeat' (first | (refine VLd.intro rfl ?_; conv => whnf) | (refine VArith.i64 (by first | omega | (dsimp only; omega)) ?_; conv => whnf) | (refine VNeed.intro (by first | rfl | assumption | (simp; omega) | (simp; done)) ?_; conv => whnf) | (refine VMem.store rfl rfl rfl rfl ?_; conv => whnf) | (refine VSame.intro rfl ?_; conv => whnf) | (refine VIte.dec (fun _ => ?_) (fun _ => ?_) <;> conv => whnf) | (refine VIte.ndec (fun _ => ?_) (fun _ => ?_) <;> conv => whnf) | (refine VIte.beq (fun _ => ?_) (fun _ => ?_) <;> conv => whnf) | (refine VIte.bne (fun _ => ?_) (fun _ => ?_) <;> conv => whnf) | (refine VIte.intro (fun _ => ?_) (fun _ => ?_) <;> conv => whnf) | (refine VCall.intro (g1 _ (outW_get _ _ _ _)) ?_; conv => whnf) | (refine VCall.intro (g2 _ (outW_get _ _ _ _)) ?_; conv => whnf) | (refine VAny.ix encT_len k rfl rfl hs ?_; conv => whnf))
        refine VDraw.go [(1, 3)] (by kernel_rfl) (by kernel_rfl) ?_
        conv => whnf
        repeat' (first | (refine VLd.intro rfl ?_; conv => whnf) | (refine VArith.i64 (by first | omega | (dsimp only; omega)) ?_; conv => whnf) | (refine VNeed.intro (by first | rfl | assumption | (simp; omega) | (simp; done)) ?_; conv => whnf) | (refine VMem.store rfl rfl rfl rfl ?_; conv => whnf) | (refine VSame.intro rfl ?_; conv => whnf) | (refine VIte.dec (fun _ => ?_) (fun _ => ?_) <;> conv => whnf) | (refine VIte.ndec (fun _ => ?_) (fun _ => ?_) <;> conv => whnf) | (refine VIte.beq (fun _ => ?_) (fun _ => ?_) <;> conv => whnf) | (refine VIte.bne (fun _ => ?_) (fun _ => ?_) <;> conv => whnf) | (refine VIte.intro (fun _ => ?_) (fun _ => ?_) <;> conv => whnf) | (refine VCall.intro (g3 _ (outW_get _ _ _ _)) ?_; conv => whnf))
        · rename_i h5
          have hf : isFree s = false := decide_eq_false h5
          rw [hf] at hnx
          simp only [cond_false, cond_true] at hnx
          refine VMem.app1 (l := u.2) (w * (1 - s.ow)) encI_len rfl rfl rfl rfl rfl (by omega) ?_
          conv => whnf
          repeat' (first | (refine VLd.intro rfl ?_; conv => whnf) | (refine VArith.i64 (by first | omega | (dsimp only; omega)) ?_; conv => whnf) | (refine VNeed.intro (by first | rfl | assumption | (simp; omega) | (simp; done)) ?_; conv => whnf) | (refine VMem.store rfl rfl rfl rfl ?_; conv => whnf) | (refine VSame.intro rfl ?_; conv => whnf) | (refine VIte.dec (fun _ => ?_) (fun _ => ?_) <;> conv => whnf) | (refine VIte.ndec (fun _ => ?_) (fun _ => ?_) <;> conv => whnf) | (refine VIte.beq (fun _ => ?_) (fun _ => ?_) <;> conv => whnf) | (refine VIte.bne (fun _ => ?_) (fun _ => ?_) <;> conv => whnf) | (refine VIte.intro (fun _ => ?_) (fun _ => ?_) <;> conv => whnf))
          refine LEndO.intro (k + 1, _) ⟨by dsimp only; omega, hnx.symm⟩ (by dsimp only; omega) ?_ ?_
          · funext j; by_cases e : j = i <;> simp [outW, e, Hp.set]
          · conv => whnf
            rw [List.length_append]
            refine Retell.turn ⟨[0,1,5], 6, [], []⟩ (TurnOk.mk' _ _ [] [] (OutOk.outW (OutOk.lift _) rfl) rfl (by decide) (by repeat' (first | exact BTos.nil | refine BTos.flat rfl rfl (by first | rfl | simp) ?_ | refine BTos.new rfl ?_ | refine BTos.dead rfl rfl ?_ | refine BTos.esE rfl rfl ?_ | refine BTos.row rfl rfl rfl (RowTo.snoc (RowTo.one rfl (by simp))) ?_ | refine BTos.cells rfl rfl rfl (by repeat' (first | exact VTo.undef | exact FrTo.leaf | refine FrTo.node ?_ ?_ ?_ | refine FrTo.none ?_ ?_ | exact VTo.sc (by first | rfl | (congr 1; omega) | (congr 1; simp; omega)) | exact VTos_dv _ _ | refine VTos.cons ?_ ?_ | exact VTos.nil | refine VTo.agg ?_ | refine VTo.tuple ?_ | refine VTo.func ?_ ?_ | exact VTo.fs | exact VTo.fp | exact VTo.nilptr | exact VTo.nilslice | exact VTo.nilfunc | exact VTo.ptr rfl | exact VTo.gl rfl | exact VTo.map rfl | exact VTo.yld rfl | exact VTo.fmMap rfl | exact VTo.fm | exact VTo.glNil' (by decide) rfl rfl | exact VTo.fsNil (by decide) | exact VTo.fsSl rfl rfl (by simp [flat_len encE_len]) | exact VTo.fpPtr rfl | exact VTo.fsGl rfl (by first | rfl | exact flat_len encI_len _ | exact flat_len encT_len _ | exact flat_len encS_len _ | exact flat_len encP_len _ | exact flat_len encL_len _ | exact flat_len encE_len _ | (simp [flat_len encP_len]; done) | simp [flat_len encI_len, flat_len encS_len]))) ?_)) trivial trivial rfl) (by repeat' (first | exact VTo.undef | exact FrTo.leaf | refine FrTo.node ?_ ?_ ?_ | refine FrTo.none ?_ ?_ | exact VTo.sc (by first | rfl | (congr 1; omega) | (congr 1; simp; omega)) | exact VTos_dv _ _ | refine VTos.cons ?_ ?_ | exact VTos.nil | refine VTo.agg ?_ | refine VTo.tuple ?_ | refine VTo.func ?_ ?_ | exact VTo.fs | exact VTo.fp | exact VTo.nilptr | exact VTo.nilslice | exact VTo.nilfunc | exact VTo.ptr rfl | exact VTo.gl rfl | exact VTo.map rfl | exact VTo.yld rfl | exact VTo.fmMap rfl | exact VTo.fm | exact VTo.glNil' (by decide) rfl rfl | exact VTo.fsNil (by decide) | exact VTo.fsSl rfl rfl (by simp [flat_len encE_len]) | exact VTo.fpPtr rfl | exact VTo.fsGl rfl (by first | rfl | exact flat_len encI_len _ | exact flat_len encT_len _ | exact flat_len encS_len _ | exact flat_len encP_len _ | exact flat_len encL_len _ | exact flat_len encE_len _ | (simp [flat_len encP_len]; done) | simp [flat_len encI_len, flat_len encS_len]))) (by first | rfl | (repeat' (first | exact MkTo.nil | refine MkTo.keep rfl ?_ | refine MkTo.drop (by decide) rfl ?_)))
        · rename_i h5
          have hf : isFree s = true := decide_eq_true (by omega)
          rw [hf] at hnx
          simp only [cond_false, cond_true] at hnx
          refine VMem.app1 (l := u.2) (w * z3.1) encI_len rfl rfl rfl rfl rfl (by omega) ?_
          conv => whnf
          repeat' (first | (refine VLd.intro rfl ?_; conv => whnf) | (refine VArith.i64 (by first | omega | (dsimp only; omega)) ?_; conv => whnf) | (refine VNeed.intro (by first | rfl | assumption | (simp; omega) | (simp; done)) ?_; conv => whnf) | (refine VMem.store rfl rfl rfl rfl ?_; conv => whnf) | (refine VSame.intro rfl ?_; conv => whnf) | (refine VIte.dec (fun _ => ?_) (fun _ => ?_) <;> conv => whnf) | (refine VIte.ndec (fun _ => ?_) (fun _ => ?_) <;> conv => whnf) | (refine VIte.beq (fun _ => ?_) (fun _ => ?_) <;> conv => whnf) | (refine VIte.bne (fun _ => ?_) (fun _ => ?_) <;> conv => whnf) | (refine VIte.intro (fun _ => ?_) (fun _ => ?_) <;> conv => whnf))
          refine LEndO.intro (k + 1, _) ⟨by dsimp only; omega, hnx.symm⟩ (by dsimp only; omega) ?_ ?_
          · funext j; by_cases e : j = i <;> simp [outW, e, Hp.set]
          · conv => whnf
            rw [List.length_append]
            refine Retell.turn ⟨[0,1,5], 6, [], []⟩ (TurnOk.mk' _ _ [] [] (OutOk.outW (OutOk.lift _) rfl) rfl (by decide) (by repeat' (first | exact BTos.nil | refine BTos.flat rfl rfl (by first | rfl | simp) ?_ | refine BTos.new rfl ?_ | refine BTos.dead rfl rfl ?_ | refine BTos.esE rfl rfl ?_ | refine BTos.row rfl rfl rfl (RowTo.snoc (RowTo.one rfl (by simp))) ?_ | refine BTos.cells rfl rfl rfl (by repeat' (first | exact VTo.undef | exact FrTo.leaf | refine FrTo.node ?_ ?_ ?_ | refine FrTo.none ?_ ?_ | exact VTo.sc (by first | rfl | (congr 1; omega) | (congr 1; simp; omega)) | exact VTos_dv _ _ | refine VTos.cons ?_ ?_ | exact VTos.nil | refine VTo.agg ?_ | refine VTo.tuple ?_ | refine VTo.func ?_ ?_ | exact VTo.fs | exact VTo.fp | exact VTo.nilptr | exact VTo.nilslice | exact VTo.nilfunc | exact VTo.ptr rfl | exact VTo.gl rfl | exact VTo.map rfl | exact VTo.yld rfl | exact VTo.fmMap rfl | exact VTo.fm | exact VTo.glNil' (by decide) rfl rfl | exact VTo.fsNil (by decide) | exact VTo.fsSl rfl rfl (by simp [flat_len encE_len]) | exact VTo.fpPtr rfl | exact VTo.fsGl rfl (by first | rfl | exact flat_len encI_len _ | exact flat_len encT_len _ | exact flat_len encS_len _ | exact flat_len encP_len _ | exact flat_len encL_len _ | exact flat_len encE_len _ | (simp [flat_len encP_len]; done) | simp [flat_len encI_len, flat_len encS_len]))) ?_)) trivial trivial rfl) (by repeat' (first | exact VTo.undef | exact FrTo.leaf | refine FrTo.node ?_ ?_ ?_ | refine FrTo.none ?_ ?_ | exact VTo.sc (by first | rfl | (congr 1; omega) | (congr 1; simp; omega)) | exact VTos_dv _ _ | refine VTos.cons ?_ ?_ | exact VTos.nil | refine VTo.agg ?_ | refine VTo.tuple ?_ | refine VTo.func ?_ ?_ | exact VTo.fs | exact VTo.fp | exact VTo.nilptr | exact VTo.nilslice | exact VTo.nilfunc | exact VTo.ptr rfl | exact VTo.gl rfl | exact VTo.map rfl | exact VTo.yld rfl | exact VTo.fmMap rfl | exact VTo.fm | exact VTo.glNil' (by decide) rfl rfl | exact VTo.fsNil (by decide) | exact VTo.fsSl rfl rfl (by simp [flat_len encE_len]) | exact VTo.fpPtr rfl | exact VTo.fsGl rfl (by first | rfl | exact flat_len encI_len _ | exact flat_len encT_len _ | exact flat_len encS_len _ | exact flat_len encP_len _ | exact flat_len encL_len _ | exact flat_len encE_len _ | (simp [flat_len encP_len]; done) | simp [flat_len encI_len, flat_len encS_len]))) (by first | rfl | (repeat' (first | exact MkTo.nil | refine MkTo.keep rfl ?_ | refine MkTo.drop (by decide) rfl ?_)))
    · have hkm : k = l.ss.length := by dsimp only at h3; omega
      subst hkm
      rw [List.take_length, ← hR] at hu
      subst hu
      conv => whnf
      repeat' (first | (refine VLd.intro rfl ?_; conv => whnf) | (refine VArith.i64 (by first | omega | (dsimp only; omega)) ?_; conv => whnf) | (refine VNeed.intro (by first | rfl | assumption | (simp; omega) | (simp; done)) ?_; conv => whnf) | (refine VMem.store rfl rfl rfl rfl ?_; conv => whnf) | (refine VSame.intro rfl ?_; conv => whnf) | (refine VIte.dec (fun _ => ?_) (fun _ => ?_) <;> conv => whnf) | (refine VIte.ndec (fun _ => ?_) (fun _ => ?_) <;> conv => whnf) | (refine VIte.beq (fun _ => ?_) (fun _ => ?_) <;> conv => whnf) | (refine VIte.bne (fun _ => ?_) (fun _ => ?_) <;> conv => whnf) | (refine VIte.intro (fun _ => ?_) (fun _ => ?_) <;> conv => whnf))
      refine VOut.turn ⟨[], 3, [(2, u.2.flatMap encI)], []⟩ (loc' := []) (r1' := vX ⟨w, u.2⟩) (TurnOk.mk' [] 3 [(2, u.2.flatMap encI)] [] (OutOk.outW (OutOk.lift _) rfl) rfl List.nodup_nil BTos.nil (FzAll.flat rfl FzAll.nil) trivial rfl) (by repeat' (first | exact VTo.undef | exact FrTo.leaf | refine FrTo.node ?_ ?_ ?_ | refine FrTo.none ?_ ?_ | exact VTo.sc (by first | rfl | (congr 1; omega) | (congr 1; simp; omega)) | exact VTos_dv _ _ | refine VTos.cons ?_ ?_ | exact VTos.nil | refine VTo.agg ?_ | refine VTo.tuple ?_ | refine VTo.func ?_ ?_ | exact VTo.fs | exact VTo.fp | exact VTo.nilptr | exact VTo.nilslice | exact VTo.nilfunc | exact VTo.ptr rfl | exact VTo.gl rfl | exact VTo.map rfl | exact VTo.yld rfl | exact VTo.fmMap rfl | exact VTo.fm | exact VTo.glNil' (by decide) rfl rfl | exact VTo.fsNil (by decide) | exact VTo.fsSl rfl rfl (by simp [flat_len encE_len]) | exact VTo.fpPtr rfl | exact VTo.fsGl rfl (by first | rfl | exact flat_len encI_len _ | exact flat_len encT_len _ | exact flat_len encS_len _ | exact flat_len encP_len _ | exact flat_len encL_len _ | exact flat_len encE_len _ | (simp [flat_len encP_len]; done) | simp [flat_len encI_len, flat_len encS_len]))) ?_
      exact VOut.setF (L := 0) rfl hd fun _ => rfl
end Go.Proofs.Ytmpjpjfkbmlmfaa

open Go.Vm
namespace Go.Proofs.Ytmpjpjfkbmlmfaa
open Go.ChangeShapes Go.WideShapes Go.ChangeAt Go.RowKit

def dU (l : List Int) : D := .sl 1 l.length (l.flatMap encU)
theorem openU : OpenV Try.prog 50 dU := OpenV.slice Try.underlying50 (Opens.slice Try.underlying50 encU_len (by kernel_rfl) (by decide) (Opens.int Try.underlying5))
end Go.Proofs.Ytmpjpjfkbmlmfaa

open Go.Vm
namespace Go.Proofs.Ytmpjpjfkbmlmfaa
set_option maxRecDepth 20000
set_option maxHeartbeats 4000000

/-! What a waste is good for. -/
structure Wst (l : Lnd) (x : Exc) (i k : Nat) (s t : Str) (p q : Int) : Prop where
  hs : l.ss[i]? = some s
  ht : l.ss[k]? = some t
  hp : x.ps[i]? = some p
  hq : x.ps[k]? = some q
  p : p < x.w
  q : 0 < q
  lt : s.so * t.no < s.no * t.so
theorem wst_some {l : Lnd} {x : Exc} (ox : XOk l x) {i k : Nat} (h : wst l x = some (i, k)) : ∃ s t p q, Wst l x i k s t p q := by
  obtain ⟨h1, h2, h3⟩ := wsO_some _ _ h
  have hi : i < l.ss.length := by omega
  have hl := ox.len
  have hs : l.ss[i]? = some l.ss[i] := List.getElem?_eq_getElem hi
  have ht : l.ss[k]? = some l.ss[k] := List.getElem?_eq_getElem h3
  have hp : x.ps[i]? = some (x.ps[i]'(by omega)) := List.getElem?_eq_getElem _
  have hq : x.ps[k]? = some (x.ps[k]'(by omega)) := List.getElem?_eq_getElem _
  unfold wsB at h1
  rw [sAt_eq hs, sAt_eq ht, pAt_eq hp, pAt_eq hq] at h1
  simp only [Bool.and_eq_true, decide_eq_true_eq] at h1
  unfold fst2 at h1
  rw [decide_eq_true_eq] at h1
  exact ⟨_, _, _, _, hs, ht, hp, hq, h1.2.2.1.1, h1.2.2.1.2, h1.2.2.2⟩
def wY (x : Exc) (i k : Nat) (s t : Str) (p q : Int) : Exc := ⟨60 * x.w, ((x.ps.map (60 * ·)).set i (60 * p + t.so)).set k (60 * q - s.so)⟩
structure WstY (l : Lnd) (x y : Exc) : Prop where
  ok : XOk l y
  n : 60 * hasN l x < hasN l y
  s : hasS l y = 60 * hasS l x
theorem hS_scale2 (v w : Int) : ∀ (ss : List Str) (ps : List Int), hS (v * w) ss (ps.map (v * ·)) = v * hS w ss ps
  | [], ps => by cases ps <;> simp [hS]
  | s :: ss, [] => by simp [hS]
  | s :: ss, p :: ps => by
    rw [List.map_cons, hS, hS, hS_scale2 v w ss ps, ← Int.mul_sub, Int.mul_add, Int.mul_left_comm]
theorem Wst.ne {l : Lnd} {x : Exc} {i k : Nat} {s t : Str} {p q : Int} (W : Wst l x i k s t p q) : i ≠ k := by
  intro h
  subst h
  have := W.hs.symm.trans W.ht
  cases this
  have := W.lt
  rw [Int.mul_comm] at this
  omega
theorem Wst.good {l : Lnd} {x : Exc} {i k : Nat} {s t : Str} {p q : Int} (W : Wst l x i k s t p q) (ox : XOk l x) (hw : x.w ≤ 12) (o : Ok l) (h59 : ∀ s ∈ l.ss, s.no ≤ 59 ∧ s.so ≤ 59) : WstY l x (wY x i k s t p q) := by
  have hne := W.ne
  have os := o.ss s (List.mem_of_getElem? W.hs)
  have ot := o.ss t (List.mem_of_getElem? W.ht)
  have bs := h59 s (List.mem_of_getElem? W.hs)
  have bt := h59 t (List.mem_of_getElem? W.ht)
  have bp := ox.ps p (List.mem_of_getElem? W.hp)
  have bq := ox.ps q (List.mem_of_getElem? W.hq)
  have hxw := ox.w
  have hp1 := W.p; have hq1 := W.q
  have so := os.so; have to := ot.so
  have e1 : (x.ps.map (60 * ·))[i]? = some (60 * p) := by rw [List.getElem?_map, W.hp]; rfl
  have e2 : ((x.ps.map (60 * ·)).set i (60 * p + t.so))[k]? = some (60 * q) := by rw [List.getElem?_set_ne hne, List.getElem?_map, W.hq]; rfl
  refine ⟨⟨?_, ?_, ?_⟩, ?_, ?_⟩
  · show 1 ≤ 60 * x.w ∧ 60 * x.w ≤ 2000
    omega
  · show (((x.ps.map (60 * ·)).set i _).set k _).length = _
    rw [List.length_set, List.length_set, List.length_map, ox.len]
  · intro r hr
    show 0 ≤ r ∧ r ≤ 60 * x.w
    rcases List.mem_or_eq_of_mem_set hr with hr | rfl
    · rcases List.mem_or_eq_of_mem_set hr with hr | rfl
      · obtain ⟨r', hr', rfl⟩ := List.mem_map.1 hr
        have := ox.ps r' hr'
        omega
      · omega
    · omega
  · have a := hN_set (60 * p + t.so) W.hs e1
    have b := hN_set (60 * q - s.so) W.ht e2
    have e : hasN l (wY x i k s t p q) = hN l.ss (((x.ps.map (60 * ·)).set i (60 * p + t.so)).set k (60 * q - s.so)) := rfl
    have e0 : hasN l x = hN l.ss x.ps := rfl
    rw [e, b, a, hN_scale, e0]
    have hlt := W.lt
    have x1 : s.no * (60 * p + t.so - 60 * p) = s.no * t.so := by congr 1; omega
    have x2 : t.no * (60 * q - s.so - 60 * q) = -(s.so * t.no) := by rw [show 60 * q - s.so - 60 * q = -s.so by omega, Int.mul_neg, Int.mul_comm]
    rw [x1, x2]; omega
  · have a := hS_set (w := 60 * x.w) (60 * p + t.so) W.hs e1
    have b := hS_set (w := 60 * x.w) (60 * q - s.so) W.ht e2
    have e : hasS l (wY x i k s t p q) = hS (60 * x.w) l.ss (((x.ps.map (60 * ·)).set i (60 * p + t.so)).set k (60 * q - s.so)) := rfl
    have e0 : hasS l x = hS x.w l.ss x.ps := rfl
    rw [e, b, a, hS_scale2, e0]
    have x1 : s.so * (60 * p + t.so - 60 * p) = s.so * t.so := by congr 1; omega
    have x2 : t.so * (60 * q - s.so - 60 * q) = -(s.so * t.so) := by rw [show 60 * q - s.so - 60 * q = -s.so by omega, Int.mul_neg, Int.mul_comm]
    rw [x1, x2]; omega
theorem vc_BarterBest (ns ts : List Int) (h : Hp) : VC Try.prog 7 [bytes ns, bytes ts] h (B true) h := by
  obtain ⟨⟨o, k2, k3, k4⟩, k5⟩ := mdL_ok ns (0, 9) (most := 10) (by omega)
  have cM := fun (i : Vm.Id) (h : Hp) hd => vc_Made ns (0, 9) 10 i h (by decide) (by omega) hd
  generalize mdL ns (0, 9) 10 = l at o k2 k3 k4 cM
  generalize (mdS ns (0, 9) 10).1 = dE at cM
  have hyt := fun d => tX_alw ts d o
  have cT := fun (d : DS) (hN : d.1 ≤ 1000000) (i : Vm.Id) (h : Hp) hd => vc_Tried ts d l i h o hN hd
  have hn := o.n
  refine VC.bodyC 3 Try.func7 rfl Try.ntmps7 Try.call7 (h.grows_refl) rfl ?_; conv => whnf
  repeat' (first | (refine VLd.intro rfl ?_; conv => whnf) | (refine VArith.i64 (by first | omega | (dsimp only; omega)) ?_; conv => whnf) | (refine VNeed.intro (by first | rfl | assumption | (simp; omega) | (simp; done)) ?_; conv => whnf) | (refine VMem.store rfl rfl rfl rfl ?_; conv => whnf) | (refine VSame.intro (by (conv => lhs; whnf); (conv => rhs; whnf); try rfl) ?_; conv => whnf) | (refine VDraw.go [] (by kernel_rfl) (by kernel_rfl) ?_; conv => whnf) | (refine VIte.dec (fun _ => ?_) (fun _ => ?_) <;> conv => whnf) | (refine VIte.ndec (fun _ => ?_) (fun _ => ?_) <;> conv => whnf) | (refine VIte.beq (fun _ => ?_) (fun _ => ?_) <;> conv => whnf) | (refine VIte.bne (fun _ => ?_) (fun _ => ?_) <;> conv => whnf) | (refine VIte.intro (fun _ => ?_) (fun _ => ?_) <;> conv => whnf) | (refine VCall.intro (vc_Of _ _) ?_; conv => whnf) | (refine VCall.intro (cM _ _ rfl) ?_; conv => whnf))
  refine VCut.at' 99 [(5, .fp (encN l)), (6, .ptr (.loc 0) 0)] [deckB ts (0, 9)] ?_ ?_
  · conv => whnf
    refine Retell.turn ⟨[2], 3, [(1, encN l)], []⟩ (TurnOk.mk' _ _ [(1, encN l)] [] (OutOk.lift _) rfl (by decide) (by repeat' (first | exact BTos.nil | refine BTos.flat rfl rfl (by first | rfl | simp) ?_ | refine BTos.new rfl ?_ | refine BTos.dead rfl rfl ?_ | refine BTos.esE rfl rfl ?_ | refine BTos.row rfl rfl rfl (RowTo.snoc (RowTo.one rfl (by simp))) ?_ | refine BTos.cells rfl rfl rfl (by repeat' (first | exact VTo.undef | exact FrTo.leaf | refine FrTo.node ?_ ?_ ?_ | refine FrTo.none ?_ ?_ | exact VTo.sc (by first | rfl | (congr 1; omega) | (congr 1; simp; omega)) | exact VTos_dv _ _ | refine VTos.cons ?_ ?_ | exact VTos.nil | refine VTo.agg ?_ | refine VTo.tuple ?_ | refine VTo.func ?_ ?_ | exact VTo.fs | exact VTo.fp | exact VTo.nilptr | exact VTo.nilslice | exact VTo.nilfunc | exact VTo.ptr rfl | exact VTo.gl rfl | exact VTo.map rfl | exact VTo.yld rfl | exact VTo.fmMap rfl | exact VTo.fm | exact VTo.glNil' (by decide) rfl rfl | exact VTo.fsNil (by decide) | exact VTo.fsSl rfl rfl (by simp [flat_len encE_len]) | exact VTo.fpPtr rfl | exact VTo.fsGl rfl (by first | rfl | exact flat_len encI_len _ | exact flat_len encT_len _ | exact flat_len encS_len _ | exact flat_len encP_len _ | exact flat_len encL_len _ | exact flat_len encE_len _ | (simp [flat_len encP_len]; done) | simp [flat_len encI_len, flat_len encS_len]))) ?_)) (by repeat' (first | exact FzAll.nil | refine FzAll.flat rfl ?_ | refine FzAll.row rfl rfl (RowTo.one rfl (by simp)) ?_)) trivial rfl) (by repeat' (first | exact VTo.undef | exact FrTo.leaf | refine FrTo.node ?_ ?_ ?_ | refine FrTo.none ?_ ?_ | exact VTo.sc (by first | rfl | (congr 1; omega) | (congr 1; simp; omega)) | exact VTos_dv _ _ | refine VTos.cons ?_ ?_ | exact VTos.nil | refine VTo.agg ?_ | refine VTo.tuple ?_ | refine VTo.func ?_ ?_ | exact VTo.fs | exact VTo.fp | exact VTo.nilptr | exact VTo.nilslice | exact VTo.nilfunc | exact VTo.ptr rfl | exact VTo.gl rfl | exact VTo.map rfl | exact VTo.yld rfl | exact VTo.fmMap rfl | exact VTo.fm | exact VTo.glNil' (by decide) rfl rfl | exact VTo.fsNil (by decide) | exact VTo.fsSl rfl rfl (by simp [flat_len encE_len]) | exact VTo.fpPtr rfl | exact VTo.fsGl rfl (by first | rfl | exact flat_len encI_len _ | exact flat_len encT_len _ | exact flat_len encS_len _ | exact flat_len encP_len _ | exact flat_len encL_len _ | exact flat_len encE_len _ | (simp [flat_len encP_len]; done) | simp [flat_len encI_len, flat_len encS_len]))) (by first | rfl | (repeat' (first | exact MkTo.nil | refine MkTo.keep rfl ?_ | refine MkTo.drop (by decide) rfl ?_)))
  · conv => whnf
    repeat (first | (refine VLd.intro rfl ?_; conv => whnf) | (refine VArith.i64 (by first | omega | (dsimp only; omega)) ?_; conv => whnf) | (refine VNeed.intro (by first | rfl | assumption | (simp; omega) | (simp; done)) ?_; conv => whnf) | (refine VMem.store rfl rfl rfl rfl ?_; conv => whnf) | (refine VSame.intro (by (conv => lhs; whnf); (conv => rhs; whnf); try rfl) ?_; conv => whnf) | (refine VDraw.go [] (by kernel_rfl) (by kernel_rfl) ?_; conv => whnf))
    refine VCode.lp (fun y : Nat × DS => [(5, .fp (encN l)), (6, .ptr (.loc 0) 0), (32, I y.1)]) (fun y => [deckB ts y.2]) (fun y => y.1 ≤ 6 ∧ y.2.1 ≤ 62 * y.1) (fun y => 6 - y.1) (0, (0, 9)) ⟨Nat.zero_le _, Nat.zero_le _⟩ ?_ ?_
    · conv => whnf
      refine Retell.turn ⟨[0], 1, [], []⟩ (TurnOk.mk' _ _ [] [] (OutOk.lift _) rfl (by decide) (by repeat' (first | exact BTos.nil | refine BTos.flat rfl rfl (by first | rfl | simp) ?_ | refine BTos.new rfl ?_ | refine BTos.dead rfl rfl ?_ | refine BTos.esE rfl rfl ?_ | refine BTos.row rfl rfl rfl (RowTo.snoc (RowTo.one rfl (by simp))) ?_ | refine BTos.cells rfl rfl rfl (by repeat' (first | exact VTo.undef | exact FrTo.leaf | refine FrTo.node ?_ ?_ ?_ | refine FrTo.none ?_ ?_ | exact VTo.sc (by first | rfl | (congr 1; omega) | (congr 1; simp; omega)) | exact VTos_dv _ _ | refine VTos.cons ?_ ?_ | exact VTos.nil | refine VTo.agg ?_ | refine VTo.tuple ?_ | refine VTo.func ?_ ?_ | exact VTo.fs | exact VTo.fp | exact VTo.nilptr | exact VTo.nilslice | exact VTo.nilfunc | exact VTo.ptr rfl | exact VTo.gl rfl | exact VTo.map rfl | exact VTo.yld rfl | exact VTo.fmMap rfl | exact VTo.fm | exact VTo.glNil' (by decide) rfl rfl | exact VTo.fsNil (by decide) | exact VTo.fsSl rfl rfl (by simp [flat_len encE_len]) | exact VTo.fpPtr rfl | exact VTo.fsGl rfl (by first | rfl | exact flat_len encI_len _ | exact flat_len encT_len _ | exact flat_len encS_len _ | exact flat_len encP_len _ | exact flat_len encL_len _ | exact flat_len encE_len _ | (simp [flat_len encP_len]; done) | simp [flat_len encI_len, flat_len encS_len]))) ?_)) trivial trivial rfl) (by repeat' (first | exact VTo.undef | exact FrTo.leaf | refine FrTo.node ?_ ?_ ?_ | refine FrTo.none ?_ ?_ | exact VTo.sc (by first | rfl | (congr 1; omega) | (congr 1; simp; omega)) | exact VTos_dv _ _ | refine VTos.cons ?_ ?_ | exact VTos.nil | refine VTo.agg ?_ | refine VTo.tuple ?_ | refine VTo.func ?_ ?_ | exact VTo.fs | exact VTo.fp | exact VTo.nilptr | exact VTo.nilslice | exact VTo.nilfunc | exact VTo.ptr rfl | exact VTo.gl rfl | exact VTo.map rfl | exact VTo.yld rfl | exact VTo.fmMap rfl | exact VTo.fm | exact VTo.glNil' (by decide) rfl rfl | exact VTo.fsNil (by decide) | exact VTo.fsSl rfl rfl (by simp [flat_len encE_len]) | exact VTo.fpPtr rfl | exact VTo.fsGl rfl (by first | rfl | exact flat_len encI_len _ | exact flat_len encT_len _ | exact flat_len encS_len _ | exact flat_len encP_len _ | exact flat_len encL_len _ | exact flat_len encE_len _ | (simp [flat_len encP_len]; done) | simp [flat_len encI_len, flat_len encS_len]))) (by first | rfl | (repeat' (first | exact MkTo.nil | refine MkTo.keep rfl ?_ | refine MkTo.drop (by decide) rfl ?_)))
    · rintro ⟨k, d⟩ ⟨hk, hd⟩
      dsimp only at hk hd
      conv => whnf
      refine VIte.dec (fun h3 => ?_) (fun h3 => ?_)
      · obtain ⟨kA, kD, kW⟩ := hyt d
        have g28 := fun i h => cT d (by omega) i h
        have ox := kA.ok
        have c29 := fun h => vc_Best_ok l (tX ts d l) h o ox
        have c32 := fun h => vc_Waste_ok l (tX ts d l) h o ox
        have hal : alB l (tX ts d l) = true := (alB_iff ox).2 kA
        have c34 := fun a b h => vc_Holds l (tX ts d l) a b h (by omega) (by omega) (by have := ox.len; omega)
        have hxl := ox.len
        clear cM cT hyt
        unfold wsV at c32
        rw [hal, cond_true] at c32
        cases hw : wst l (tX ts d l) with
        | none =>
          have hB : (alB l (tX ts d l) && (wst l (tX ts d l)).isNone) = true := by rw [hal, hw]; rfl
          have c33 := fun h => vc_Price_ok l (tX ts d l) h o ox hB
          obtain ⟨pa, pb, PR⟩ := ((best_iff ox).1 hB).price o
          have e34 : hlE l (tX ts d l) (prX l (tX ts d l)).hi (prX l (tX ts d l)).lo = 0 := hlE_ok.2 ⟨ask_ok.2 ⟨o, ox⟩, by omega, by omega⟩
          have c34 := c34 (prX l (tX ts d l)).hi (prX l (tX ts d l)).lo
          rw [hlB_eq _ _ _ _ e34, (prc_iff ox).2 PR, e34] at c34
          rw [hB] at c29
          rw [hw] at c32
          clear PR e34 hB hw hal kA
          generalize (prX l (tX ts d l)).hi = a at *
          generalize (prX l (tX ts d l)).lo = b at *
          generalize (tR ts d l).1 = d2 at *
          generalize tX ts d l = x at *
          conv => whnf
          repeat' (first | (refine VLd.intro rfl ?_; conv => whnf) | (refine VArith.i64 (by first | omega | (dsimp only; omega)) ?_; conv => whnf) | (refine VNeed.intro (by first | rfl | assumption | (simp; omega) | (simp; done)) ?_; conv => whnf) | (refine VMem.store rfl rfl rfl rfl ?_; conv => whnf) | (refine VSame.intro (by (conv => lhs; whnf); (conv => rhs; whnf); try rfl) ?_; conv => whnf) | (refine VDraw.go [] (by kernel_rfl) (by kernel_rfl) ?_; conv => whnf) | (refine VIte.dec (fun _ => ?_) (fun _ => ?_) <;> conv => whnf) | (refine VIte.ndec (fun _ => ?_) (fun _ => ?_) <;> conv => whnf) | (refine VIte.beq (fun _ => ?_) (fun _ => ?_) <;> conv => whnf) | (refine VIte.bne (fun _ => ?_) (fun _ => ?_) <;> conv => whnf) | (refine VIte.intro (fun _ => ?_) (fun _ => ?_) <;> conv => whnf) | (refine VCall.intro (g28 _ _ rfl) ?_; conv => whnf) | (refine VCall.intro (c29 _) ?_; conv => whnf) | (refine VCall.intro (c32 _) ?_; conv => whnf) | (refine VCall.intro (c33 _) ?_; conv => whnf) | (refine VCall.intro (c34 _) ?_; conv => whnf))
          all_goals try (rename_i hz; exact absurd rfl hz)
          all_goals (
            refine LEnd.intro (k + 1, d2) ⟨by dsimp only; omega, by dsimp only; omega⟩ (by dsimp only; omega) ?_
            conv => whnf
            refine Retell.turn ⟨[0], 2, [], []⟩ (TurnOk.mk' _ _ [] [] (OutOk.lift _) rfl (by decide) (by repeat' (first | exact BTos.nil | refine BTos.flat rfl rfl (by first | rfl | simp) ?_ | refine BTos.new rfl ?_ | refine BTos.dead rfl rfl ?_ | refine BTos.esE rfl rfl ?_ | refine BTos.row rfl rfl rfl (RowTo.snoc (RowTo.one rfl (by simp))) ?_ | refine BTos.cells rfl rfl rfl (by repeat' (first | exact VTo.undef | exact FrTo.leaf | refine FrTo.node ?_ ?_ ?_ | refine FrTo.none ?_ ?_ | exact VTo.sc (by first | rfl | (congr 1; omega) | (congr 1; simp; omega)) | exact VTos_dv _ _ | refine VTos.cons ?_ ?_ | exact VTos.nil | refine VTo.agg ?_ | refine VTo.tuple ?_ | refine VTo.func ?_ ?_ | exact VTo.fs | exact VTo.fp | exact VTo.nilptr | exact VTo.nilslice | exact VTo.nilfunc | exact VTo.ptr rfl | exact VTo.gl rfl | exact VTo.map rfl | exact VTo.yld rfl | exact VTo.fmMap rfl | exact VTo.fm | exact VTo.glNil' (by decide) rfl rfl | exact VTo.fsNil (by decide) | exact VTo.fsSl rfl rfl (by simp [flat_len encE_len]) | exact VTo.fpPtr rfl | exact VTo.fsGl rfl (by first | rfl | exact flat_len encI_len _ | exact flat_len encT_len _ | exact flat_len encS_len _ | exact flat_len encP_len _ | exact flat_len encL_len _ | exact flat_len encE_len _ | (simp [flat_len encP_len]; done) | simp [flat_len encI_len, flat_len encS_len]))) ?_)) trivial trivial rfl) (by repeat' (first | exact VTo.undef | exact FrTo.leaf | refine FrTo.node ?_ ?_ ?_ | refine FrTo.none ?_ ?_ | exact VTo.sc (by first | rfl | (congr 1; omega) | (congr 1; simp; omega)) | exact VTos_dv _ _ | refine VTos.cons ?_ ?_ | exact VTos.nil | refine VTo.agg ?_ | refine VTo.tuple ?_ | refine VTo.func ?_ ?_ | exact VTo.fs | exact VTo.fp | exact VTo.nilptr | exact VTo.nilslice | exact VTo.nilfunc | exact VTo.ptr rfl | exact VTo.gl rfl | exact VTo.map rfl | exact VTo.yld rfl | exact VTo.fmMap rfl | exact VTo.fm | exact VTo.glNil' (by decide) rfl rfl | exact VTo.fsNil (by decide) | exact VTo.fsSl rfl rfl (by simp [flat_len encE_len]) | exact VTo.fpPtr rfl | exact VTo.fsGl rfl (by first | rfl | exact flat_len encI_len _ | exact flat_len encT_len _ | exact flat_len encS_len _ | exact flat_len encP_len _ | exact flat_len encL_len _ | exact flat_len encE_len _ | (simp [flat_len encP_len]; done) | simp [flat_len encI_len, flat_len encS_len]))) (by first | rfl | (repeat' (first | exact MkTo.nil | refine MkTo.keep rfl ?_ | refine MkTo.drop (by decide) rfl ?_))))
        | some ik =>
          obtain ⟨i, j⟩ := ik
          obtain ⟨s, t, p, q, W⟩ := wst_some ox hw
          have hB : (alB l (tX ts d l) && (wst l (tX ts d l)).isNone) = false := by rw [hal, hw]; rfl
          have c33 := fun h => vc_Price_bad l (tX ts d l) h o ox hB
          have hbad : ∀ a b, (1 ≤ a ∧ a ≤ 70) → (1 ≤ b ∧ b ≤ 70) → ∀ h, VC Try.prog 34 [vL l, vX (tX ts d l), I a, I b] h (.tuple [B false, I 0]) h := by
            intro a b ha hb h
            have e34 : hlE l (tX ts d l) a b = 0 := hlE_ok.2 ⟨ask_ok.2 ⟨o, ox⟩, by omega, by omega⟩
            have := c34 a b h
            rw [hlB_eq _ _ _ _ e34, e34] at this
            have hf : (alB l (tX ts d l) && hlGo (tX ts d l).w a b l.ss (tX ts d l).ps) = false := by
              cases hh : (alB l (tX ts d l) && hlGo (tX ts d l).w a b l.ss (tX ts d l).ps)
              · rfl
              · have := (best_iff ox).2 (((prc_iff ox).1 hh).best o ha.1 hb.1)
                rw [hB] at this; cases this
            rw [hf] at this
            exact this
          have y1 := dNx_bd ts (tR ts d l).1 (70 - 1 + 1)
          have b1 := fun (i : Vm.Id) (h2 : Hp) hh => vc_between ts (tR ts d l).1 1 70 i h2 (by omega) (by omega) (by omega) hh
          generalize dNx ts (tR ts d l).1 (70 - 1 + 1) = z1 at y1 b1
          have y2 := dNx_bd ts z1.2 (70 - 1 + 1)
          have b2 := fun (i : Vm.Id) (h2 : Hp) hh => vc_between ts z1.2 1 70 i h2 (by omega) (by omega) (by omega) hh
          generalize dNx ts z1.2 (70 - 1 + 1) = z2 at y2 b2
          have c34b := hbad (1 + z1.1) (1 + z2.1) (by omega) (by omega)
          have G := W.good ox kW o k4
          have hne := W.ne
          have c31 := fun h => vc_Has_ok l (tX ts d l) h o ox
          have c31y := fun h => vc_Has_ok l (wY (tX ts d l) i j s t p q) h o G.ok
          have gn := G.n
          have gs := G.s
          have bN := hasN_b o ox
          have bS := hasS_b o ox
          have hxw := ox.w
          have hps := ox.ps
          have os := (o.ss s (List.mem_of_getElem? W.hs)).so
          have ot := (o.ss t (List.mem_of_getElem? W.ht)).so
          rw [hw] at c32
          rw [hB] at c29
          clear G hbad c34 hB hw hal kA
          generalize (tR ts d l).1 = d2 at *
          generalize tX ts d l = x at *
          have il := (List.getElem?_eq_some_iff.1 W.hp).1
          have jl := (List.getElem?_eq_some_iff.1 W.hq).1
          have bp := hps p (List.mem_of_getElem? W.hp)
          have bq := hps q (List.mem_of_getElem? W.hq)
          conv => whnf
          repeat' (first | (refine VLd.intro rfl ?_; conv => whnf) | (refine VArith.i64 (by first | omega | (dsimp only; omega)) ?_; conv => whnf) | (refine VNeed.intro (by first | rfl | assumption | (simp; omega) | (simp; done)) ?_; conv => whnf) | (refine VMem.store rfl rfl rfl rfl ?_; conv => whnf) | (refine VSame.intro (by (conv => lhs; whnf); (conv => rhs; whnf); try rfl) ?_; conv => whnf) | (refine VIte.dec (fun _ => ?_) (fun _ => ?_) <;> conv => whnf) | (refine VIte.ndec (fun _ => ?_) (fun _ => ?_) <;> conv => whnf) | (refine VIte.beq (fun _ => ?_) (fun _ => ?_) <;> conv => whnf) | (refine VIte.bne (fun _ => ?_) (fun _ => ?_) <;> conv => whnf) | (refine VIte.intro (fun _ => ?_) (fun _ => ?_) <;> conv => whnf) | (refine VCall.intro (g28 _ _ rfl) ?_; conv => whnf) | (refine VCall.intro (c29 _) ?_; conv => whnf) | (refine VCall.intro (c32 _) ?_; conv => whnf) | (refine VCall.intro (c33 _) ?_; conv => whnf))
          all_goals try (rename_i hz; exact absurd rfl hz)
          refine VDraw.go [(0, 3), (1, 3), (0, 5), (1, 5)] (by kernel_rfl) (by kernel_rfl) ?_
          conv => whnf
          repeat' (first | (refine VLd.intro rfl ?_; conv => whnf) | (refine VArith.i64 (by first | omega | (dsimp only; omega)) ?_; conv => whnf) | (refine VNeed.intro (by first | rfl | assumption | (simp; omega) | (simp; done)) ?_; conv => whnf) | (refine VMem.store rfl rfl rfl rfl ?_; conv => whnf) | (refine VSame.intro (by (conv => lhs; whnf); (conv => rhs; whnf); try rfl) ?_; conv => whnf) | (refine VIte.dec (fun _ => ?_) (fun _ => ?_) <;> conv => whnf) | (refine VIte.ndec (fun _ => ?_) (fun _ => ?_) <;> conv => whnf) | (refine VIte.beq (fun _ => ?_) (fun _ => ?_) <;> conv => whnf) | (refine VIte.bne (fun _ => ?_) (fun _ => ?_) <;> conv => whnf) | (refine VIte.intro (fun _ => ?_) (fun _ => ?_) <;> conv => whnf) | (refine VCall.intro (b1 _ _ rfl) ?_; conv => whnf) | (refine VCall.intro (b2 _ _ rfl) ?_; conv => whnf) | (refine VCall.intro (c34b _) ?_; conv => whnf))
          all_goals try (first | (rename_i hz; exact absurd rfl hz) | (exfalso; omega))
          refine VCode.lp (fun u : Nat => [(5, .fp (encN l)), (6, .ptr (.loc 0) 0), (7, .fp (encX x)), (10, I i), (11, I j), (20, .ptr (.loc 1) 0), (32, I k), (137, ints x.ps), (138, I x.ps.length), (139, I u)]) (fun u => [deckB ts z2.2, .cells true [I (60 * x.w), .gl (.loc 2) 1 u], .flat true (((x.ps.map (60 * ·)).take u).flatMap encI)]) (fun u => u ≤ x.ps.length) (fun u => x.ps.length - u) 0 (Nat.zero_le _) ?_ ?_
          · conv => whnf
            refine Retell.turn ⟨[0,2,3], 3, [(1, encX x)], []⟩ (TurnOk.mk' _ _ [(1, encX x)] [] (OutOk.lift _) rfl (by decide) (by repeat' (first | exact BTos.nil | refine BTos.flat rfl rfl (by first | rfl | simp) ?_ | refine BTos.new rfl ?_ | refine BTos.dead rfl rfl ?_ | refine BTos.esE rfl rfl ?_ | refine BTos.row rfl rfl rfl (RowTo.snoc (RowTo.one rfl (by simp))) ?_ | refine BTos.cells rfl rfl rfl (by repeat' (first | exact VTo.undef | exact FrTo.leaf | refine FrTo.node ?_ ?_ ?_ | refine FrTo.none ?_ ?_ | exact VTo.sc (by first | rfl | (congr 1; omega) | (congr 1; simp; omega)) | exact VTos_dv _ _ | refine VTos.cons ?_ ?_ | exact VTos.nil | refine VTo.agg ?_ | refine VTo.tuple ?_ | refine VTo.func ?_ ?_ | exact VTo.fs | exact VTo.fp | exact VTo.nilptr | exact VTo.nilslice | exact VTo.nilfunc | exact VTo.ptr rfl | exact VTo.gl rfl | exact VTo.map rfl | exact VTo.yld rfl | exact VTo.fmMap rfl | exact VTo.fm | exact VTo.glNil' (by decide) rfl rfl | exact VTo.fsNil (by decide) | exact VTo.fsSl rfl rfl (by simp [flat_len encE_len]) | exact VTo.fpPtr rfl | exact VTo.fsGl rfl (by first | rfl | exact flat_len encI_len _ | exact flat_len encT_len _ | exact flat_len encS_len _ | exact flat_len encP_len _ | exact flat_len encL_len _ | exact flat_len encE_len _ | (simp [flat_len encP_len]; done) | simp [flat_len encI_len, flat_len encS_len]))) ?_)) (by repeat' (first | exact FzAll.nil | refine FzAll.flat rfl ?_ | refine FzAll.row rfl rfl (RowTo.one rfl (by simp)) ?_)) trivial rfl) (by repeat' (first | exact VTo.undef | exact FrTo.leaf | refine FrTo.node ?_ ?_ ?_ | refine FrTo.none ?_ ?_ | exact VTo.sc (by first | rfl | (congr 1; omega) | (congr 1; simp; omega)) | exact VTos_dv _ _ | refine VTos.cons ?_ ?_ | exact VTos.nil | refine VTo.agg ?_ | refine VTo.tuple ?_ | refine VTo.func ?_ ?_ | exact VTo.fs | exact VTo.fp | exact VTo.nilptr | exact VTo.nilslice | exact VTo.nilfunc | exact VTo.ptr rfl | exact VTo.gl rfl | exact VTo.map rfl | exact VTo.yld rfl | exact VTo.fmMap rfl | exact VTo.fm | exact VTo.glNil' (by decide) rfl rfl | exact VTo.fsNil (by decide) | exact VTo.fsSl rfl rfl (by simp [flat_len encE_len]) | exact VTo.fpPtr rfl | exact VTo.fsGl rfl (by first | rfl | exact flat_len encI_len _ | exact flat_len encT_len _ | exact flat_len encS_len _ | exact flat_len encP_len _ | exact flat_len encL_len _ | exact flat_len encE_len _ | (simp [flat_len encP_len]; done) | simp [flat_len encI_len, flat_len encS_len]))) (by first | rfl | (repeat' (first | exact MkTo.nil | refine MkTo.keep rfl ?_ | refine MkTo.drop (by decide) rfl ?_)))
          · rintro u hu
            have hul : ((x.ps.map (60 * ·)).take u).length = u := by rw [List.length_take, List.length_map]; omega
            conv => whnf
            refine VIte.dec (fun h5 => ?_) (fun h5 => ?_)
            · have hr : x.ps[u]? = some x.ps[u] := List.getElem?_eq_getElem (by omega)
              have brr := hps _ (List.getElem_mem (by omega : u < x.ps.length))
              have htk : (x.ps.map (60 * ·)).take (u + 1) = (x.ps.map (60 * ·)).take u ++ [60 * x.ps[u]] := by
                rw [List.take_add_one, List.getElem?_map, hr]; rfl
              generalize x.ps[u] = r at hr brr htk
              conv => whnf
              repeat' (first | (refine VLd.intro rfl ?_; conv => whnf) | (refine VArith.i64 (by first | omega | (dsimp only; omega)) ?_; conv => whnf) | (refine VNeed.intro (by first | rfl | assumption | (simp; omega) | (simp; done)) ?_; conv => whnf) | (refine VMem.store rfl rfl rfl rfl ?_; conv => whnf) | (refine VSame.intro (by (conv => lhs; whnf); (conv => rhs; whnf); try rfl) ?_; conv => whnf) | (refine VIte.dec (fun _ => ?_) (fun _ => ?_) <;> conv => whnf) | (refine VIte.ndec (fun _ => ?_) (fun _ => ?_) <;> conv => whnf) | (refine VIte.beq (fun _ => ?_) (fun _ => ?_) <;> conv => whnf) | (refine VIte.bne (fun _ => ?_) (fun _ => ?_) <;> conv => whnf) | (refine VIte.intro (fun _ => ?_) (fun _ => ?_) <;> conv => whnf) | (refine VAny.ix encI_len u rfl rfl hr ?_; conv => whnf))
              refine VMem.app1 (l := (x.ps.map (60 * ·)).take u) (60 * r) encI_len rfl rfl rfl hul.symm rfl (by omega) ?_
              conv => whnf
              repeat' (first | (refine VLd.intro rfl ?_; conv => whnf) | (refine VArith.i64 (by first | omega | (dsimp only; omega)) ?_; conv => whnf) | (refine VNeed.intro (by first | rfl | assumption | (simp; omega) | (simp; done)) ?_; conv => whnf) | (refine VMem.store rfl rfl rfl rfl ?_; conv => whnf) | (refine VSame.intro (by (conv => lhs; whnf); (conv => rhs; whnf); try rfl) ?_; conv => whnf) | (refine VIte.dec (fun _ => ?_) (fun _ => ?_) <;> conv => whnf) | (refine VIte.ndec (fun _ => ?_) (fun _ => ?_) <;> conv => whnf) | (refine VIte.beq (fun _ => ?_) (fun _ => ?_) <;> conv => whnf) | (refine VIte.bne (fun _ => ?_) (fun _ => ?_) <;> conv => whnf) | (refine VIte.intro (fun _ => ?_) (fun _ => ?_) <;> conv => whnf))
              rw [← htk]
              refine LEnd.intro (u + 1) (by omega) (by omega) ?_
              conv => whnf
              refine Retell.turn ⟨[0,1,4], 5, [], []⟩ (TurnOk.mk' _ _ [] [] (OutOk.lift _) rfl (by decide) (by repeat' (first | exact BTos.nil | refine BTos.flat rfl rfl (by first | rfl | simp) ?_ | refine BTos.new rfl ?_ | refine BTos.dead rfl rfl ?_ | refine BTos.esE rfl rfl ?_ | refine BTos.row rfl rfl rfl (RowTo.snoc (RowTo.one rfl (by simp))) ?_ | refine BTos.cells rfl rfl rfl (by repeat' (first | exact VTo.undef | exact FrTo.leaf | refine FrTo.node ?_ ?_ ?_ | refine FrTo.none ?_ ?_ | exact VTo.sc (by first | rfl | (congr 1; omega) | (congr 1; simp; omega)) | exact VTos_dv _ _ | refine VTos.cons ?_ ?_ | exact VTos.nil | refine VTo.agg ?_ | refine VTo.tuple ?_ | refine VTo.func ?_ ?_ | exact VTo.fs | exact VTo.fp | exact VTo.nilptr | exact VTo.nilslice | exact VTo.nilfunc | exact VTo.ptr rfl | exact VTo.gl rfl | exact VTo.map rfl | exact VTo.yld rfl | exact VTo.fmMap rfl | exact VTo.fm | exact VTo.glNil' (by decide) rfl rfl | exact VTo.fsNil (by decide) | exact VTo.fsSl rfl rfl (by simp [flat_len encE_len]) | exact VTo.fpPtr rfl | exact VTo.fsGl rfl (by first | rfl | exact flat_len encI_len _ | exact flat_len encT_len _ | exact flat_len encS_len _ | exact flat_len encP_len _ | exact flat_len encL_len _ | exact flat_len encE_len _ | (simp [flat_len encP_len]; done) | simp [flat_len encI_len, flat_len encS_len]))) ?_)) trivial trivial rfl) (by repeat' (first | exact VTo.undef | exact FrTo.leaf | refine FrTo.node ?_ ?_ ?_ | refine FrTo.none ?_ ?_ | exact VTo.sc (by first | rfl | (congr 1; omega) | (congr 1; simp; omega)) | exact VTos_dv _ _ | refine VTos.cons ?_ ?_ | exact VTos.nil | refine VTo.agg ?_ | refine VTo.tuple ?_ | refine VTo.func ?_ ?_ | exact VTo.fs | exact VTo.fp | exact VTo.nilptr | exact VTo.nilslice | exact VTo.nilfunc | exact VTo.ptr rfl | exact VTo.gl rfl | exact VTo.map rfl | exact VTo.yld rfl | exact VTo.fmMap rfl | exact VTo.fm | exact VTo.glNil' (by decide) rfl rfl | exact VTo.fsNil (by decide) | exact VTo.fsSl rfl rfl (by simp [flat_len encE_len]) | exact VTo.fpPtr rfl | exact VTo.fsGl rfl (by first | rfl | exact flat_len encI_len _ | exact flat_len encT_len _ | exact flat_len encS_len _ | exact flat_len encP_len _ | exact flat_len encL_len _ | exact flat_len encE_len _ | (simp [flat_len encP_len]; done) | simp [flat_len encI_len, flat_len encS_len]))) (by first | rfl | (repeat' (first | exact MkTo.nil | refine MkTo.keep rfl ?_ | refine MkTo.drop (by decide) rfl ?_)))
            · have hue : u = x.ps.length := by omega
              subst hue
              rw [show (x.ps.map (60 * ·)).take x.ps.length = x.ps.map (60 * ·) by rw [← List.length_map (60 * ·), List.take_length]]
              have e1 : (x.ps.map (60 * ·))[i]? = some (60 * p) := by rw [List.getElem?_map, W.hp]; rfl
              have e2 : ((x.ps.map (60 * ·)).set i (60 * p + t.so))[j]? = some (60 * q) := by rw [List.getElem?_set_ne hne, List.getElem?_map, W.hq]; rfl
              have hyl : (wY x i j s t p q).ps.length = x.ps.length := by
                show (((x.ps.map (60 * ·)).set i _).set j _).length = _
                rw [List.length_set, List.length_set, List.length_map]
              have hvx : vX (wY x i j s t p q) = .agg [I (60 * x.w), .fs 1 x.ps.length ((((x.ps.map (60 * ·)).set i (60 * p + t.so)).set j (60 * q - s.so)).flatMap encI)] := by
                show V.agg [I (60 * x.w), .fs 1 (wY x i j s t p q).ps.length _] = _
                rw [hyl]; rfl
              rw [hvx] at c31y
              have hyp : (wY x i j s t p q).ps = ((x.ps.map (60 * ·)).set i (60 * p + t.so)).set j (60 * q - s.so) := rfl
              have Whs := W.hs
              have Wht := W.ht
              conv => whnf
              refine VDraw.go [] (by kernel_rfl) (by kernel_rfl) ?_
              conv => whnf
              repeat' (first | (refine VLd.intro rfl ?_; conv => whnf) | (refine VArith.i64 (by first | omega | (dsimp only; omega)) ?_; conv => whnf) | (refine VNeed.intro (by first | rfl | assumption | (simp; omega) | (simp; done)) ?_; conv => whnf) | (refine VMem.store rfl rfl rfl rfl ?_; conv => whnf) | (refine VSame.intro (by (conv => lhs; whnf); (conv => rhs; whnf); try rfl) ?_; conv => whnf) | (refine VIte.dec (fun _ => ?_) (fun _ => ?_) <;> conv => whnf) | (refine VIte.ndec (fun _ => ?_) (fun _ => ?_) <;> conv => whnf) | (refine VIte.beq (fun _ => ?_) (fun _ => ?_) <;> conv => whnf) | (refine VIte.bne (fun _ => ?_) (fun _ => ?_) <;> conv => whnf) | (refine VIte.intro (fun _ => ?_) (fun _ => ?_) <;> conv => whnf) | (refine VAny.ix encT_len j rfl rfl Wht ?_; conv => whnf) | (refine VLd.recc encI_len i 0 rfl rfl rfl e1 (by decide) rfl (by simp only [Nat.zero_add, Nat.mul_one]; omega) ?_; conv => whnf))
              refine VMem.setRec encI_len i 0 (60 * p + t.so) rfl rfl rfl e1 (by decide) rfl (by simp only [Nat.zero_add, Nat.mul_one]; omega) ?_
              conv => whnf
              refine VDraw.go [] (by kernel_rfl) (by kernel_rfl) ?_
              conv => whnf
              repeat' (first | (refine VLd.intro rfl ?_; conv => whnf) | (refine VArith.i64 (by first | omega | (dsimp only; omega)) ?_; conv => whnf) | (refine VNeed.intro (by first | rfl | assumption | (simp; omega) | (simp; done)) ?_; conv => whnf) | (refine VMem.store rfl rfl rfl rfl ?_; conv => whnf) | (refine VSame.intro (by (conv => lhs; whnf); (conv => rhs; whnf); try rfl) ?_; conv => whnf) | (refine VIte.dec (fun _ => ?_) (fun _ => ?_) <;> conv => whnf) | (refine VIte.ndec (fun _ => ?_) (fun _ => ?_) <;> conv => whnf) | (refine VIte.beq (fun _ => ?_) (fun _ => ?_) <;> conv => whnf) | (refine VIte.bne (fun _ => ?_) (fun _ => ?_) <;> conv => whnf) | (refine VIte.intro (fun _ => ?_) (fun _ => ?_) <;> conv => whnf) | (refine VAny.ix encT_len i rfl rfl Whs ?_; conv => whnf) | (refine VLd.recc encI_len j 0 rfl rfl rfl e2 (by decide) rfl (by simp only [Nat.zero_add, Nat.mul_one]; omega) ?_; conv => whnf))
              refine VMem.setRec encI_len j 0 (60 * q - s.so) rfl rfl rfl e2 (by decide) rfl (by simp only [Nat.zero_add, Nat.mul_one]; omega) ?_
              conv => whnf
              repeat' (first | (refine VLd.intro rfl ?_; conv => whnf) | (refine VArith.i64 (by first | omega | (dsimp only; omega)) ?_; conv => whnf) | (refine VNeed.intro (by first | rfl | assumption | (simp; omega) | (simp; done)) ?_; conv => whnf) | (refine VMem.store rfl rfl rfl rfl ?_; conv => whnf) | (refine VSame.intro (by (conv => lhs; whnf); (conv => rhs; whnf); try rfl) ?_; conv => whnf) | (refine VIte.dec (fun _ => ?_) (fun _ => ?_) <;> conv => whnf) | (refine VIte.ndec (fun _ => ?_) (fun _ => ?_) <;> conv => whnf) | (refine VIte.beq (fun _ => ?_) (fun _ => ?_) <;> conv => whnf) | (refine VIte.bne (fun _ => ?_) (fun _ => ?_) <;> conv => whnf) | (refine VIte.intro (fun _ => ?_) (fun _ => ?_) <;> conv => whnf) | (refine VCall.intro (c31 _) ?_; conv => whnf))
              refine VCall.intro (VC.give (args' := [vL l, .agg [I (60 * x.w), .fs 1 x.ps.length ((((x.ps.map (60 * ·)).set i (60 * p + t.so)).set j (60 * q - s.so)).flatMap encI)]]) (loc' := [deckB ts z2.2, .dead, .dead]) [(2, (((x.ps.map (60 * ·)).set i (60 * p + t.so)).set j (60 * q - s.so)).flatMap encI)] [] (OutOk.lift _) (by repeat' (first | exact BTos.nil | refine BTos.flat rfl rfl (by first | rfl | simp) ?_ | refine BTos.new rfl ?_ | refine BTos.dead rfl rfl ?_ | refine BTos.esE rfl rfl ?_ | refine BTos.row rfl rfl rfl (RowTo.snoc (RowTo.one rfl (by simp))) ?_ | refine BTos.cells rfl rfl rfl (by repeat' (first | exact VTo.undef | exact FrTo.leaf | refine FrTo.node ?_ ?_ ?_ | refine FrTo.none ?_ ?_ | exact VTo.sc (by first | rfl | (congr 1; omega) | (congr 1; simp; omega)) | exact VTos_dv _ _ | refine VTos.cons ?_ ?_ | exact VTos.nil | refine VTo.agg ?_ | refine VTo.tuple ?_ | refine VTo.func ?_ ?_ | exact VTo.fs | exact VTo.fp | exact VTo.nilptr | exact VTo.nilslice | exact VTo.nilfunc | exact VTo.ptr rfl | exact VTo.gl rfl | exact VTo.map rfl | exact VTo.yld rfl | exact VTo.fmMap rfl | exact VTo.fm | exact VTo.glNil' (by decide) rfl rfl | exact VTo.fsNil (by decide) | exact VTo.fsSl rfl rfl (by simp [flat_len encE_len]) | exact VTo.fpPtr rfl | exact VTo.fsGl rfl (by first | rfl | exact flat_len encI_len _ | exact flat_len encT_len _ | exact flat_len encS_len _ | exact flat_len encP_len _ | exact flat_len encL_len _ | exact flat_len encE_len _ | (simp [flat_len encP_len]; done) | simp [flat_len encI_len, flat_len encS_len]))) ?_)) (by repeat' (first | exact FzAll.nil | refine FzAll.flat rfl ?_ | refine FzAll.row rfl rfl (RowTo.one rfl (by simp)) ?_)) (by exact FmAll.nil) rfl (by repeat' (first | exact VTo.undef | exact FrTo.leaf | refine FrTo.node ?_ ?_ ?_ | refine FrTo.none ?_ ?_ | exact VTo.sc (by first | rfl | (congr 1; omega) | (congr 1; simp; omega)) | exact VTos_dv _ _ | refine VTos.cons ?_ ?_ | exact VTos.nil | refine VTo.agg ?_ | refine VTo.tuple ?_ | refine VTo.func ?_ ?_ | exact VTo.fs | exact VTo.fp | exact VTo.nilptr | exact VTo.nilslice | exact VTo.nilfunc | exact VTo.ptr rfl | exact VTo.gl rfl | exact VTo.map rfl | exact VTo.yld rfl | exact VTo.fmMap rfl | exact VTo.fm | exact VTo.glNil' (by decide) rfl rfl | exact VTo.fsNil (by decide) | exact VTo.fsSl rfl rfl (by simp [flat_len encE_len]) | exact VTo.fpPtr rfl | exact VTo.fsGl rfl (by first | rfl | exact flat_len encI_len _ | exact flat_len encT_len _ | exact flat_len encS_len _ | exact flat_len encP_len _ | exact flat_len encL_len _ | exact flat_len encE_len _ | (simp [flat_len encP_len]; done) | simp [flat_len encI_len, flat_len encS_len]))) (c31y _)) ?_
              clear c31y hyp
              generalize hasN l (wY x i j s t p q) = YN at *
              generalize hasS l (wY x i j s t p q) = YS at *
              generalize hasN l x = XN at *
              generalize hasS l x = XS at *
              conv => whnf
              repeat' (first | (refine VLd.intro rfl ?_; conv => whnf) | (refine VArith.i64 (by first | omega | (dsimp only; omega)) ?_; conv => whnf) | (refine VNeed.intro (by first | rfl | assumption | (simp; omega) | (simp; done)) ?_; conv => whnf) | (refine VMem.store rfl rfl rfl rfl ?_; conv => whnf) | (refine VSame.intro (by (conv => lhs; whnf); (conv => rhs; whnf); try rfl) ?_; conv => whnf) | (refine VIte.dec (fun _ => ?_) (fun _ => ?_) <;> conv => whnf) | (refine VIte.ndec (fun _ => ?_) (fun _ => ?_) <;> conv => whnf) | (refine VIte.beq (fun _ => ?_) (fun _ => ?_) <;> conv => whnf) | (refine VIte.bne (fun _ => ?_) (fun _ => ?_) <;> conv => whnf) | (refine VIte.intro (fun _ => ?_) (fun _ => ?_) <;> conv => whnf))
              all_goals try (first | (rename_i hz; exact absurd rfl hz) | (exfalso; omega))
              all_goals (
                refine LEnd.intro (k + 1, z2.2) ⟨by dsimp only; omega, by dsimp only; omega⟩ (by dsimp only; omega) ?_
                conv => whnf
                refine Retell.turn ⟨[0], 3, [], []⟩ (TurnOk.mk' _ _ [] [] (OutOk.lift _) rfl (by decide) (by repeat' (first | exact BTos.nil | refine BTos.flat rfl rfl (by first | rfl | simp) ?_ | refine BTos.new rfl ?_ | refine BTos.dead rfl rfl ?_ | refine BTos.esE rfl rfl ?_ | refine BTos.row rfl rfl rfl (RowTo.snoc (RowTo.one rfl (by simp))) ?_ | refine BTos.cells rfl rfl rfl (by repeat' (first | exact VTo.undef | exact FrTo.leaf | refine FrTo.node ?_ ?_ ?_ | refine FrTo.none ?_ ?_ | exact VTo.sc (by first | rfl | (congr 1; omega) | (congr 1; simp; omega)) | exact VTos_dv _ _ | refine VTos.cons ?_ ?_ | exact VTos.nil | refine VTo.agg ?_ | refine VTo.tuple ?_ | refine VTo.func ?_ ?_ | exact VTo.fs | exact VTo.fp | exact VTo.nilptr | exact VTo.nilslice | exact VTo.nilfunc | exact VTo.ptr rfl | exact VTo.gl rfl | exact VTo.map rfl | exact VTo.yld rfl | exact VTo.fmMap rfl | exact VTo.fm | exact VTo.glNil' (by decide) rfl rfl | exact VTo.fsNil (by decide) | exact VTo.fsSl rfl rfl (by simp [flat_len encE_len]) | exact VTo.fpPtr rfl | exact VTo.fsGl rfl (by first | rfl | exact flat_len encI_len _ | exact flat_len encT_len _ | exact flat_len encS_len _ | exact flat_len encP_len _ | exact flat_len encL_len _ | exact flat_len encE_len _ | (simp [flat_len encP_len]; done) | simp [flat_len encI_len, flat_len encS_len]))) ?_)) trivial trivial rfl) (by repeat' (first | exact VTo.undef | exact FrTo.leaf | refine FrTo.node ?_ ?_ ?_ | refine FrTo.none ?_ ?_ | exact VTo.sc (by first | rfl | (congr 1; omega) | (congr 1; simp; omega)) | exact VTos_dv _ _ | refine VTos.cons ?_ ?_ | exact VTos.nil | refine VTo.agg ?_ | refine VTo.tuple ?_ | refine VTo.func ?_ ?_ | exact VTo.fs | exact VTo.fp | exact VTo.nilptr | exact VTo.nilslice | exact VTo.nilfunc | exact VTo.ptr rfl | exact VTo.gl rfl | exact VTo.map rfl | exact VTo.yld rfl | exact VTo.fmMap rfl | exact VTo.fm | exact VTo.glNil' (by decide) rfl rfl | exact VTo.fsNil (by decide) | exact VTo.fsSl rfl rfl (by simp [flat_len encE_len]) | exact VTo.fpPtr rfl | exact VTo.fsGl rfl (by first | rfl | exact flat_len encI_len _ | exact flat_len encT_len _ | exact flat_len encS_len _ | exact flat_len encP_len _ | exact flat_len encL_len _ | exact flat_len encE_len _ | (simp [flat_len encP_len]; done) | simp [flat_len encI_len, flat_len encS_len]))) (by first | rfl | (repeat' (first | exact MkTo.nil | refine MkTo.keep rfl ?_ | refine MkTo.drop (by decide) rfl ?_))))
      · conv => whnf
        repeat' (first | (refine VLd.intro rfl ?_; conv => whnf) | (refine VArith.i64 (by first | omega | (dsimp only; omega)) ?_; conv => whnf) | (refine VNeed.intro (by first | rfl | assumption | (simp; omega) | (simp; done)) ?_; conv => whnf) | (refine VMem.store rfl rfl rfl rfl ?_; conv => whnf) | (refine VSame.intro (by (conv => lhs; whnf); (conv => rhs; whnf); try rfl) ?_; conv => whnf) | (refine VDraw.go [] (by kernel_rfl) (by kernel_rfl) ?_; conv => whnf) | (refine VIte.dec (fun _ => ?_) (fun _ => ?_) <;> conv => whnf) | (refine VIte.ndec (fun _ => ?_) (fun _ => ?_) <;> conv => whnf) | (refine VIte.beq (fun _ => ?_) (fun _ => ?_) <;> conv => whnf) | (refine VIte.bne (fun _ => ?_) (fun _ => ?_) <;> conv => whnf) | (refine VIte.intro (fun _ => ?_) (fun _ => ?_) <;> conv => whnf) | (refine VCall.intro (vc_awake _) ?_; conv => whnf))
        exact VOut.same rfl
end Go.Proofs.Ytmpjpjfkbmlmfaa

open Go.Vm
namespace Go.Proofs.Ytmpjpjfkbmlmfaa
open Go.ChangeShapes Go.WideShapes Go.ChangeAt Go.RowKit

theorem open7p : OpenAll Try.prog Try.f7.params.toList (fun x : List Int × List Int × Unit => [dU x.1, dU x.2.1]) := by
  rw [Try.params7]
  exact OpenAll.cons openU (OpenAll.cons openU (OpenAll.nil))
set_option maxRecDepth 100000 in
theorem contract7 (H : Type) (enc : TypeId × Value → H) (W : World) (base : Nat) (args : Array Value) (ds gs : List (DataW H)) (before : List MemPlace)
    (hval : ∀ (j : Nat) t v, Try.f7.params[j]? = some t → args[j]? = some v → Value.okWide Try.prog W .any base t v)
    (hW : DataW.Whole enc Try.prog Try.f7.params.toList Rows.barterBestSpec.vars false W args.toList ds gs before) :
    Calls Try.prog 7 args W fun e W' => ∃ v, e = .returned v ∧ Rows.barterBestSpec.post enc Try.prog Try.f7 false true false false W args v W' := by
  refine contract_of_vc open7p (fun g => vc_BarterBest g.1 g.2.1 Hp.bare) laidOut ?_ (tb := 4) (by kernel_rfl) Try.underlying4 rfl ?_ hval hW
  · rw [Try.params7]
    intro t ht
    simp only [List.mem_cons, List.not_mem_nil, or_false] at ht
    rcases ht with rfl | rfl
    all_goals exact ⟨by kernel_rfl, of_decide_eq_true (by kernel_rfl)⟩
  · intro H dd hl
    rw [Try.params7] at hl
    match dd, hl with
    | [d0, d1], _ => rfl
set_option maxRecDepth 100000 in
theorem lifted7 (os : Os) (started : os.Started) (H : Type) (enc : TypeId × Value → H) :
    ReturnsInHanded {} Try.checked os 7 .any (Rows.barterBestSpec.pre6 enc Try.prog Try.f7 Rows.barterBestRow.domain false) (Rows.barterBestSpec.post enc Try.prog Try.f7 false true false false) := by
  refine returnsInHanded_of_change (C := Try.checked) ownKn started (by kernel_rfl) Try.func7
    (ChangeSpec.witness6 (enc := enc) (C := Try.checked) false ⟨#[], #[.slice none 0 0, .slice none 0 0], []⟩ 8 (by kernel_rfl) (by kernel_rfl) (by kernel_rfl) (by kernel_rfl)) ?_
  intro W base args ds gs before hval hW _ _
  exact contract7 H enc W base args ds gs before hval hW
theorem barterBest_said : Rows.BarterBestSaid :=
  OpenClaim.holds_of_wide 7 Try.f7 rfl rfl rfl rfl rfl rfl rfl ⟨rfl, rfl, rfl, rfl, rfl⟩ rfl rfl rfl rfl rfl (by kernel_rfl) Try.func7 (by kernel_rfl)
    (of_decide_eq_true (by kernel_rfl)) (by unfold Func.isWrapper; first | (rw [if_pos (by decide +kernel)]; kernel_rfl) | (rw [if_neg (by decide +kernel)]; exact ⟨rfl, rfl⟩))
    (fun os started H enc _ => lifted7 os started H enc)
end Go.Proofs.Ytmpjpjfkbmlmfaa

