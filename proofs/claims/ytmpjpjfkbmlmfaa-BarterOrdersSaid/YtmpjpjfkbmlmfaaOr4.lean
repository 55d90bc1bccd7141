/- Part 4 of the proof that orders of free stretches, and exchanges by order, are as specified. No condition. -/
import Derived.Test.YtmpjpjfkbmlmfaaOr3
set_option linter.unusedVariables false
set_option linter.unusedSimpArgs false
open Go.Vm
namespace Go.Vm

theorem OutOk.outR {o : Id → Option Blk} (h : OutOk o) {i : Id} {b : Blk} (hb : ∃ c : Blk, b = c.ren .out) : OutOk (Vm.outW o i b) := by
  intro j c hc
  unfold Vm.outW at hc
  split at hc
  · cases hc; exact hb
  · exact h j c hc
theorem grows_set3 {h : Hp} {a b c : Id} {A B C : Blk} : h.grows (((h.set a A).set b B).set c C) := fun i hi => Hp.grows_set _ _ _ i (Hp.grows_set _ _ _ i (Hp.grows_set _ _ _ i hi))
theorem VWpA.withO {P : Program} {l : Nat} {i : Id} {c : Code} {n : Nat} {fr : Fr} {outer : Id → Option Blk} {loc : List Blk} {marks : List Id} {Q : X → St → Prop} (F : ∀ O, O = outer → VWpA P l i c ⟨n, fr, ⟨O, loc⟩, marks⟩ Q) : VWpA P l i c ⟨n, fr, ⟨outer, loc⟩, marks⟩ Q := F _ rfl
theorem outW_ne {o : Id → Option Blk} {i j : Id} {b : Blk} (h : j ≠ i) : outW o i b j = o j := by unfold outW; rw [if_neg h]
theorem ren_busy {g : Hp} {iy : Id} {LR : LoopV} (_ : g.get iy = some (.loop LR)) : ∃ c : Blk, (Blk.loop { (LR.ren .out) with state := .busy }) = c.ren .out := ⟨.loop { LR with state := .busy }, rfl⟩
end Go.Vm
namespace Go.Proofs.Ytmpjpjfkbmlmfaa
set_option maxRecDepth 20000
set_option maxHeartbeats 4000000
/-- A search for the first one. -/
def wsR (q : Nat → Bool) : Nat → Nat → Option Nat
  | _, 0 => none
  | k, d + 1 => if q k then some k else wsR q (k + 1) d
theorem wsR_no {q : Nat → Bool} (h : ∀ k, q k = false) : ∀ d k, wsR q k d = none
  | 0, _ => rfl
  | d + 1, k => by rw [wsR, h k]; exact wsR_no h d (k + 1)
def sAt (l : Lnd) (i : Nat) : Str := l.ss.getD i ⟨0, 0, 0, 0⟩
def pAt (x : Exc) (i : Nat) : Int := x.ps.getD i 0
theorem sAt_eq {l : Lnd} {i : Nat} {s : Str} (h : l.ss[i]? = some s) : sAt l i = s := by simp [sAt, h]
theorem pAt_eq {x : Exc} {i : Nat} {p : Int} (h : x.ps[i]? = some p) : pAt x i = p := by simp [pAt, h]
/-- Whether two stretches are a waste. -/
def wsB (l : Lnd) (x : Exc) (i k : Nat) : Bool := isFree (sAt l i) && (isFree (sAt l k) && (decide (pAt x i < x.w ∧ 0 < pAt x k) && fst2 (sAt l i) (sAt l k)))
def wsO (q : Nat → Nat → Bool) (n : Nat) : Nat → Nat → Option (Nat × Nat)
  | _, 0 => none
  | i, d + 1 => match wsR (q i) 0 n with
    | some k => some (i, k)
    | none => wsO q n (i + 1) d
def wst (l : Lnd) (x : Exc) : Option (Nat × Nat) := wsO (wsB l x) l.ss.length 0 l.ss.length
structure WJ (o : Vm.Id → Option Blk) (a b : Int) (g : Hp) : Prop where
  o : g.outer = o
  b0 : g.get (.loc 0) = some (.flat true [DI a])
  b1 : g.get (.loc 1) = some (.flat true [DI b])
  b2 : g.get (.loc 2) = some .mark
def wstR (w : Option (Nat × Nat)) : V := match w with
  | some (i, k) => .tuple [I i, I k, B true]
  | none => .tuple [I (-1), I (-1), B false]
theorem vc_waste (l : Lnd) (x : Exc) (h : Hp) (o : Ok l) (ox : XOk l x) : VC Try.prog 65 [.fp (encN l), vX x] h (wstR (wst l x)) h := by
  obtain ⟨W, hW⟩ : ∃ W, W = wst l x := ⟨_, rfl⟩
  rw [← hW]
  unfold wst at hW
  have hn := o.n
  have hl := ox.len
  have hw := ox.w
  refine VC.body Try.func65 rfl Try.ntmps65 Try.call65 (h.grows_refl) rfl ?_; conv => whnf
  repeat' (first | (refine VLd.intro rfl ?_; conv => whnf) | (refine VArith.i64 (by first | omega | (dsimp only; omega)) ?_; conv => whnf) | (refine VNeed.intro (by first | rfl | (simp; omega) | (simp; done)) ?_; conv => whnf) | (refine VMem.store rfl rfl rfl rfl ?_; conv => whnf) | (refine VSame.intro rfl ?_; conv => whnf) | (refine VDraw.go [] (by kernel_rfl) (by kernel_rfl) ?_; conv => whnf) | (refine VIte.dec (fun _ => ?_) (fun _ => ?_) <;> conv => whnf) | (refine VIte.ndec (fun _ => ?_) (fun _ => ?_) <;> conv => whnf) | (refine VIte.beq (fun _ => ?_) (fun _ => ?_) <;> conv => whnf) | (refine VIte.bne (fun _ => ?_) (fun _ => ?_) <;> conv => whnf) | (refine VIte.intro (fun _ => ?_) (fun _ => ?_) <;> conv => whnf) | (refine VCall.intro (vc_free l _) ?_; conv => whnf))
  refine VCode.tell [(2, .fp [.pt (encN l)]), (3, .fp (encX x)), (7, .ptr (.loc 0) 0), (8, .ptr (.loc 1) 0), (14, vFree l)] [.flat true [DI (-1)], .flat true [DI (-1)]] (marks' := []) ?_ ?_
  · conv => whnf
    refine Retell.turn ⟨[2,3], 4, [(0, [.pt (encN l)]), (1, encX x)], []⟩ (TurnOk.mk' _ _ [(0, [.pt (encN l)]), (1, encX x)] [] (OutOk.lift _) rfl (by decide) (by repeat' (first | exact BTos.nil | refine BTos.flat rfl rfl (by first | rfl | simp) ?_ | refine BTos.new rfl ?_ | refine BTos.dead rfl rfl ?_ | refine BTos.esE rfl rfl ?_ | refine BTos.row rfl rfl rfl (RowTo.snoc (RowTo.one rfl (by simp))) ?_ | refine BTos.cells rfl rfl rfl (by repeat' (first | exact VTo.undef | exact FrTo.leaf | refine FrTo.node ?_ ?_ ?_ | refine FrTo.none ?_ ?_ | exact VTo.sc (by first | rfl | (congr 1; omega) | (congr 1; simp; omega)) | exact VTos_dv _ _ | refine VTos.cons ?_ ?_ | exact VTos.nil | refine VTo.agg ?_ | refine VTo.tuple ?_ | refine VTo.func ?_ ?_ | exact VTo.fs | exact VTo.fp | exact VTo.nilptr | exact VTo.nilslice | exact VTo.nilfunc | exact VTo.ptr rfl | exact VTo.gl rfl | exact VTo.map rfl | exact VTo.yld rfl | exact VTo.fmMap rfl | exact VTo.fm | exact VTo.glNil' (by decide) rfl rfl | exact VTo.fsNil (by decide) | exact VTo.fsSl rfl rfl (by simp [flat_len encE_len]) | exact VTo.fpPtr rfl | exact VTo.fsGl rfl (by first | rfl | exact flat_len encI_len _ | exact flat_len encT_len _ | exact flat_len encS_len _ | exact flat_len encP_len _ | exact flat_len encL_len _ | exact flat_len encE_len _ | (simp [flat_len encP_len]; done) | simp [flat_len encI_len, flat_len encS_len]))) ?_)) (by repeat' (first | exact FzAll.nil | refine FzAll.flat rfl ?_ | refine FzAll.row rfl rfl (RowTo.one rfl (by simp)) ?_)) trivial rfl) (by repeat' (first | exact VTo.undef | exact FrTo.leaf | refine FrTo.node ?_ ?_ ?_ | refine FrTo.none ?_ ?_ | exact VTo.sc (by first | rfl | (congr 1; omega) | (congr 1; simp; omega)) | exact VTos_dv _ _ | refine VTos.cons ?_ ?_ | exact VTos.nil | refine VTo.agg ?_ | refine VTo.tuple ?_ | refine VTo.func ?_ ?_ | exact VTo.fs | exact VTo.fp | exact VTo.nilptr | exact VTo.nilslice | exact VTo.nilfunc | exact VTo.ptr rfl | exact VTo.gl rfl | exact VTo.map rfl | exact VTo.yld rfl | exact VTo.fmMap rfl | exact VTo.fm | exact VTo.glNil' (by decide) rfl rfl | exact VTo.fsNil (by decide) | exact VTo.fsSl rfl rfl (by simp [flat_len encE_len]) | exact VTo.fpPtr rfl | exact VTo.fsGl rfl (by first | rfl | exact flat_len encI_len _ | exact flat_len encT_len _ | exact flat_len encS_len _ | exact flat_len encP_len _ | exact flat_len encL_len _ | exact flat_len encE_len _ | (simp [flat_len encP_len]; done) | simp [flat_len encI_len, flat_len encS_len]))) (by first | rfl | (repeat' (first | exact MkTo.nil | refine MkTo.keep rfl ?_ | refine MkTo.drop (by decide) rfl ?_)))
  · conv => whnf
    refine VCode.iterN l.ss.length (frY l) (fun i g => WJ h.lift (-1) (-1) g ∧ W = wsO (wsB l x) l.ss.length i (l.ss.length - i)) (fun e g => e = .exit 0 ∧ ∃ i k : Nat, WJ h.lift i k g ∧ W = some (i, k)) _ (.loc 3) rfl (iter_free l o) rfl rfl ⟨⟨rfl, rfl, rfl, rfl⟩, hW⟩ ?_ ?_ ?_ ?_
    · rintro i g hi hy ⟨hJ, hWi⟩
      refine ⟨hJ, ?_⟩
      have hs : l.ss[i]? = some l.ss[i] := List.getElem?_eq_getElem hi
      rw [frY_eq hs] at hy
      have hf : isFree l.ss[i] = false := by
        cases hf : isFree l.ss[i]
        · rfl
        · rw [hf] at hy; cases hy
      rw [show l.ss.length - i = (l.ss.length - (i + 1)) + 1 by omega, wsO, wsR_no (fun k => by unfold wsB; rw [sAt_eq hs, hf]; rfl)] at hWi
      exact hWi
    · rintro i g vs hi hy ⟨⟨j0, j1, j2, j3⟩, hWi⟩ hlp
      have hs : l.ss[i]? = some l.ss[i] := List.getElem?_eq_getElem hi
      have hp : x.ps[i]? = some x.ps[i] := List.getElem?_eq_getElem (by omega)
      have q1 := o.ss _ (List.getElem_mem hi)
      rw [frY_eq hs] at hy
      rw [show l.ss.length - i = (l.ss.length - (i + 1)) + 1 by omega, wsO] at hWi
      have es := sAt_eq hs
      have ep := pAt_eq hp
      generalize l.ss[i] = s at hs hy q1 es
      generalize x.ps[i] = p at hp ep
      cases hf : isFree s
      · rw [hf] at hy; cases hy
      · rw [hf] at hy
        cases hy
        have n3 : g.get (.loc 3) ≠ none := by rw [hlp]; simp
        cases hR : wsR (wsB l x i) 0 l.ss.length with
        | none =>
          rw [hR] at hWi
          refine Rnd.go hlp g hlp ?_ ⟨⟨j0, j1, j2, j3⟩, hWi⟩
          refine VRoundA.vy' hlp rfl rfl rfl g.grows_refl fun l0 => ?_
          refine VRoundA.tell [(2, .fp [.pt (encN l)]), (3, .fp (encX x)), (7, .ptr (.out (.loc 0)) 0), (8, .ptr (.out (.loc 1)) 0), (15, I i), (16, aggT s)] ?_ ?_
          · conv => whnf
            refine Retell.turn ⟨[], 0, [], []⟩ (TurnOk.mk' _ _ [] [] (OutOk.lift _) rfl (by decide) (by repeat' (first | exact BTos.nil | refine BTos.flat rfl rfl (by first | rfl | simp) ?_ | refine BTos.new rfl ?_ | refine BTos.dead rfl rfl ?_ | refine BTos.esE rfl rfl ?_ | refine BTos.row rfl rfl rfl (RowTo.snoc (RowTo.one rfl (by simp))) ?_ | refine BTos.cells rfl rfl rfl (by repeat' (first | exact VTo.undef | exact FrTo.leaf | refine FrTo.node ?_ ?_ ?_ | refine FrTo.none ?_ ?_ | exact VTo.sc (by first | rfl | (congr 1; omega) | (congr 1; simp; omega)) | exact VTos_dv _ _ | refine VTos.cons ?_ ?_ | exact VTos.nil | refine VTo.agg ?_ | refine VTo.tuple ?_ | refine VTo.func ?_ ?_ | exact VTo.fs | exact VTo.fp | exact VTo.nilptr | exact VTo.nilslice | exact VTo.nilfunc | exact VTo.ptr rfl | exact VTo.gl rfl | exact VTo.map rfl | exact VTo.yld rfl | exact VTo.fmMap rfl | exact VTo.fm | exact VTo.glNil' (by decide) rfl rfl | exact VTo.fsNil (by decide) | exact VTo.fsSl rfl rfl (by simp [flat_len encE_len]) | exact VTo.fpPtr rfl | exact VTo.fsGl rfl (by first | rfl | exact flat_len encI_len _ | exact flat_len encT_len _ | exact flat_len encS_len _ | exact flat_len encP_len _ | exact flat_len encL_len _ | exact flat_len encE_len _ | (simp [flat_len encP_len]; done) | simp [flat_len encI_len, flat_len encS_len]))) ?_)) trivial trivial rfl) (by repeat' (first | exact VTo.undef | exact FrTo.leaf | refine FrTo.node ?_ ?_ ?_ | refine FrTo.none ?_ ?_ | exact VTo.sc (by first | rfl | (congr 1; omega) | (congr 1; simp; omega)) | exact VTos_dv _ _ | refine VTos.cons ?_ ?_ | exact VTos.nil | refine VTo.agg ?_ | refine VTo.tuple ?_ | refine VTo.func ?_ ?_ | exact VTo.fs | exact VTo.fp | exact VTo.nilptr | exact VTo.nilslice | exact VTo.nilfunc | exact VTo.ptr rfl | exact VTo.gl rfl | exact VTo.map rfl | exact VTo.yld rfl | exact VTo.fmMap rfl | exact VTo.fm | exact VTo.glNil' (by decide) rfl rfl | exact VTo.fsNil (by decide) | exact VTo.fsSl rfl rfl (by simp [flat_len encE_len]) | exact VTo.fpPtr rfl | exact VTo.fsGl rfl (by first | rfl | exact flat_len encI_len _ | exact flat_len encT_len _ | exact flat_len encS_len _ | exact flat_len encP_len _ | exact flat_len encL_len _ | exact flat_len encE_len _ | (simp [flat_len encP_len]; done) | simp [flat_len encI_len, flat_len encS_len]))) (by first | rfl | (repeat' (first | exact MkTo.nil | refine MkTo.keep rfl ?_ | refine MkTo.drop (by decide) rfl ?_)))
          · conv => whnf
            repeat (first | (refine VLd.intro rfl ?_; conv => whnf) | (refine VArith.i64 (by first | omega | (dsimp only; omega)) ?_; conv => whnf) | (refine VNeed.intro (by first | rfl | (simp; omega) | (simp; done)) ?_; conv => whnf) | (refine VMem.store rfl rfl rfl rfl ?_; conv => whnf) | (refine VSame.intro rfl ?_; conv => whnf) | (refine VDraw.go [] (by kernel_rfl) (by kernel_rfl) ?_; conv => whnf))
            refine VBeginA.intro (get_out hlp _) rfl ?_
            refine VWpA.block ?_
            refine VWpA.go ?_
            conv => whnf
            repeat' (first | (refine VLd.intro rfl ?_; conv => whnf) | (refine VArith.i64 (by first | omega | (dsimp only; omega)) ?_; conv => whnf) | (refine VNeed.intro (by first | rfl | (simp; omega) | (simp; done)) ?_; conv => whnf) | (refine VMem.store rfl rfl rfl rfl ?_; conv => whnf) | (refine VSame.intro rfl ?_; conv => whnf) | (refine VDraw.go [] (by kernel_rfl) (by kernel_rfl) ?_; conv => whnf) | (refine VIte.dec (fun _ => ?_) (fun _ => ?_) <;> conv => whnf) | (refine VIte.ndec (fun _ => ?_) (fun _ => ?_) <;> conv => whnf) | (refine VIte.beq (fun _ => ?_) (fun _ => ?_) <;> conv => whnf) | (refine VIte.bne (fun _ => ?_) (fun _ => ?_) <;> conv => whnf) | (refine VIte.intro (fun _ => ?_) (fun _ => ?_) <;> conv => whnf) | (refine VCall.intro (vc_free l _) ?_; conv => whnf))
            refine VWpA.block ?_
            refine VWpA.tell [(3, .fp (encX x)), (7, .ptr (.out (.loc 0)) 0), (8, .ptr (.out (.loc 1)) 0), (9, .fp [DI i]), (10, .fp (encT s)), (18, vFree l)] [] (marks' := []) ?_ ?_
            · conv => whnf
              refine Retell.turn ⟨[], 2, [(0, [DI i]), (1, encT s)], []⟩ (TurnOk.mk' _ _ [(0, [DI i]), (1, encT s)] [] (OutOk.outR (OutOk.lift _) (ren_busy hlp)) rfl (by decide) BTos.nil (FzAll.flat rfl (FzAll.flat rfl FzAll.nil)) trivial rfl) (by repeat' (first | exact VTo.undef | exact FrTo.leaf | refine FrTo.node ?_ ?_ ?_ | refine FrTo.none ?_ ?_ | exact VTo.sc (by first | rfl | (congr 1; omega) | (congr 1; simp; omega)) | exact VTos_dv _ _ | refine VTos.cons ?_ ?_ | exact VTos.nil | refine VTo.agg ?_ | refine VTo.tuple ?_ | refine VTo.func ?_ ?_ | exact VTo.fs | exact VTo.fp | exact VTo.nilptr | exact VTo.nilslice | exact VTo.nilfunc | exact VTo.ptr rfl | exact VTo.gl rfl | exact VTo.map rfl | exact VTo.yld rfl | exact VTo.fmMap rfl | exact VTo.fm | exact VTo.glNil' (by decide) rfl rfl | exact VTo.fsNil (by decide) | exact VTo.fsSl rfl rfl (by simp [flat_len encE_len]) | exact VTo.fpPtr rfl | exact VTo.fsGl rfl (by first | rfl | exact flat_len encI_len _ | exact flat_len encT_len _ | exact flat_len encS_len _ | exact flat_len encP_len _ | exact flat_len encL_len _ | exact flat_len encE_len _ | (simp [flat_len encP_len]; done) | simp [flat_len encI_len, flat_len encS_len]))) (by first | rfl | (repeat' (first | exact MkTo.nil | refine MkTo.keep rfl ?_ | refine MkTo.drop (by decide) rfl ?_)))
            · conv => whnf
              refine VWpA.iterN l.ss.length (frY l) (fun k g' => g'.outer = outW g.lift (.loc 3) _ ∧ wsR (wsB l x i) k (l.ss.length - k) = none) (fun _ _ => False) _ (.loc 0) rfl (outW_get _ _ _ _) (iter_free l o) rfl rfl ⟨rfl, hR⟩ ?_ ?_ ?_ ?_
              · rintro k g' hk hy' ⟨hO, hk2⟩
                rw [show l.ss.length - k = (l.ss.length - (k + 1)) + 1 by omega, wsR] at hk2
                refine ⟨hO, ?_⟩
                split at hk2
                · cases hk2
                · exact hk2
              · rintro k g' vs hk hy' ⟨hO, hk2⟩ hlp'
                have ht : l.ss[k]? = some l.ss[k] := List.getElem?_eq_getElem hk
                have hq : x.ps[k]? = some x.ps[k] := List.getElem?_eq_getElem (by omega)
                have q2 := o.ss _ (List.getElem_mem hk)
                rw [frY_eq ht] at hy'
                rw [show l.ss.length - k = (l.ss.length - (k + 1)) + 1 by omega, wsR] at hk2
                have et := sAt_eq ht
                have eq := pAt_eq hq
                generalize l.ss[k] = t at ht hy' q2 et
                generalize x.ps[k] = q at hq eq
                have r1 := q1.no
                have r2 := q1.so
                have r3 := q2.no
                have r4 := q2.so
                have m1 := mul_le (a := s.no) (b := t.so) (A := 1000) (B := 1000) (by omega) (by omega)
                have m2 := mul_le (a := s.so) (b := t.no) (A := 1000) (B := 1000) (by omega) (by omega)
                have ca := fun h => vc_ahead s.no s.so t.no t.so h (by omega) (by omega) (by omega) (by omega)
                cases hft : isFree t
                · rw [hft] at hy'; cases hy'
                · rw [hft] at hy'
                  cases hy'
                  have hwb : wsB l x i k = false := by
                    cases hwb : wsB l x i k
                    · rfl
                    · rw [hwb] at hk2; cases hk2
                  rw [hwb, if_neg (by decide)] at hk2
                  have hbw : ¬ ((p < x.w ∧ 0 < q) ∧ s.so * t.no < s.no * t.so) := by
                    unfold wsB fst2 at hwb
                    rw [es, et, ep, eq, hf, hft, Bool.true_and, Bool.true_and] at hwb
                    intro hc
                    rw [decide_eq_true hc.1, decide_eq_true hc.2] at hwb
                    cases hwb
                  refine Rnd.go hlp' g' hlp' ?_ ⟨hO, hk2⟩
                  refine VRound.vy' hlp' rfl rfl rfl g'.grows_refl fun l1 => ?_
                  refine VRound.tell [(3, .fp (encX x)), (7, .ptr (.out (.out (.loc 0))) 0), (8, .ptr (.out (.out (.loc 1))) 0), (9, .fp [DI i]), (10, .fp (encT s)), (19, I k), (20, aggT t)] ?_ ?_
                  · conv => whnf
                    refine Retell.turn ⟨[], 0, [], []⟩ (TurnOk.mk' _ _ [] [] (OutOk.lift _) rfl (by decide) (by repeat' (first | exact BTos.nil | refine BTos.flat rfl rfl (by first | rfl | simp) ?_ | refine BTos.new rfl ?_ | refine BTos.dead rfl rfl ?_ | refine BTos.esE rfl rfl ?_ | refine BTos.row rfl rfl rfl (RowTo.snoc (RowTo.one rfl (by simp))) ?_ | refine BTos.cells rfl rfl rfl (by repeat' (first | exact VTo.undef | exact FrTo.leaf | refine FrTo.node ?_ ?_ ?_ | refine FrTo.none ?_ ?_ | exact VTo.sc (by first | rfl | (congr 1; omega) | (congr 1; simp; omega)) | exact VTos_dv _ _ | refine VTos.cons ?_ ?_ | exact VTos.nil | refine VTo.agg ?_ | refine VTo.tuple ?_ | refine VTo.func ?_ ?_ | exact VTo.fs | exact VTo.fp | exact VTo.nilptr | exact VTo.nilslice | exact VTo.nilfunc | exact VTo.ptr rfl | exact VTo.gl rfl | exact VTo.map rfl | exact VTo.yld rfl | exact VTo.fmMap rfl | exact VTo.fm | exact VTo.glNil' (by decide) rfl rfl | exact VTo.fsNil (by decide) | exact VTo.fsSl rfl rfl (by simp [flat_len encE_len]) | exact VTo.fpPtr rfl | exact VTo.fsGl rfl (by first | rfl | exact flat_len encI_len _ | exact flat_len encT_len _ | exact flat_len encS_len _ | exact flat_len encP_len _ | exact flat_len encL_len _ | exact flat_len encE_len _ | (simp [flat_len encP_len]; done) | simp [flat_len encI_len, flat_len encS_len]))) ?_)) trivial trivial rfl) (by repeat' (first | exact VTo.undef | exact FrTo.leaf | refine FrTo.node ?_ ?_ ?_ | refine FrTo.none ?_ ?_ | exact VTo.sc (by first | rfl | (congr 1; omega) | (congr 1; simp; omega)) | exact VTos_dv _ _ | refine VTos.cons ?_ ?_ | exact VTos.nil | refine VTo.agg ?_ | refine VTo.tuple ?_ | refine VTo.func ?_ ?_ | exact VTo.fs | exact VTo.fp | exact VTo.nilptr | exact VTo.nilslice | exact VTo.nilfunc | exact VTo.ptr rfl | exact VTo.gl rfl | exact VTo.map rfl | exact VTo.yld rfl | exact VTo.fmMap rfl | exact VTo.fm | exact VTo.glNil' (by decide) rfl rfl | exact VTo.fsNil (by decide) | exact VTo.fsSl rfl rfl (by simp [flat_len encE_len]) | exact VTo.fpPtr rfl | exact VTo.fsGl rfl (by first | rfl | exact flat_len encI_len _ | exact flat_len encT_len _ | exact flat_len encS_len _ | exact flat_len encP_len _ | exact flat_len encL_len _ | exact flat_len encE_len _ | (simp [flat_len encP_len]; done) | simp [flat_len encI_len, flat_len encS_len]))) (by first | rfl | (repeat' (first | exact MkTo.nil | refine MkTo.keep rfl ?_ | refine MkTo.drop (by decide) rfl ?_)))
                  · conv => whnf
                    repeat (first | (refine VLd.intro rfl ?_; conv => whnf) | (refine VArith.i64 (by first | omega | (dsimp only; omega)) ?_; conv => whnf) | (refine VNeed.intro (by first | rfl | (simp; omega) | (simp; done)) ?_; conv => whnf) | (refine VMem.store rfl rfl rfl rfl ?_; conv => whnf) | (refine VSame.intro rfl ?_; conv => whnf) | (refine VDraw.go [] (by kernel_rfl) (by kernel_rfl) ?_; conv => whnf))
                    refine VBegin.intro (get_out hlp' _) rfl ?_
                    conv => whnf
                    repeat' (first | (refine VLd.intro rfl ?_; conv => whnf) | (refine VArith.i64 (by first | omega | (dsimp only; omega)) ?_; conv => whnf) | (refine VNeed.intro (by first | rfl | (simp; omega) | (simp; done)) ?_; conv => whnf) | (refine VMem.store rfl rfl rfl rfl ?_; conv => whnf) | (refine VSame.intro rfl ?_; conv => whnf) | (refine VDraw.go [(18, 19)] (by kernel_rfl) (by kernel_rfl) ?_; conv => whnf) | (refine VIte.dec (fun _ => ?_) (fun _ => ?_) <;> conv => whnf) | (refine VIte.ndec (fun _ => ?_) (fun _ => ?_) <;> conv => whnf) | (refine VIte.beq (fun _ => ?_) (fun _ => ?_) <;> conv => whnf) | (refine VIte.bne (fun _ => ?_) (fun _ => ?_) <;> conv => whnf) | (refine VIte.intro (fun _ => ?_) (fun _ => ?_) <;> conv => whnf) | (refine VAny.ix encI_len i rfl rfl hp ?_; conv => whnf) | (refine VAny.ix encI_len k rfl rfl hq ?_; conv => whnf) | (refine VCall.intro (vc_worth _ _) ?_; conv => whnf) | (refine VCall.intro (ca _) ?_; conv => whnf))
                    all_goals try (exfalso; omega)
                    all_goals exact RFin.on (outW_get _ _ _ _) (VOut.back (get_out hlp' []) rfl)
              · rintro g' ⟨hO, _⟩ hlp'
                obtain ⟨go, gl⟩ := g'
                dsimp only at hO
                subst hO
                refine Told.mk [] [] (marks' := []) ?_ ?_
                · conv => whnf
                  refine Retell.turn ⟨[], gl.length, [], []⟩ (TurnOk.mk' _ _ [] [] (OutOk.outR (OutOk.lift _) (ren_busy hlp)) (Nat.ble_eq_true_of_le (by simp)) (by decide) BTos.nil trivial trivial rfl) (by repeat' (first | exact VTo.undef | exact FrTo.leaf | refine FrTo.node ?_ ?_ ?_ | refine FrTo.none ?_ ?_ | exact VTo.sc (by first | rfl | (congr 1; omega) | (congr 1; simp; omega)) | exact VTos_dv _ _ | refine VTos.cons ?_ ?_ | exact VTos.nil | refine VTo.agg ?_ | refine VTo.tuple ?_ | refine VTo.func ?_ ?_ | exact VTo.fs | exact VTo.fp | exact VTo.nilptr | exact VTo.nilslice | exact VTo.nilfunc | exact VTo.ptr rfl | exact VTo.gl rfl | exact VTo.map rfl | exact VTo.yld rfl | exact VTo.fmMap rfl | exact VTo.fm | exact VTo.glNil' (by decide) rfl rfl | exact VTo.fsNil (by decide) | exact VTo.fsSl rfl rfl (by simp [flat_len encE_len]) | exact VTo.fpPtr rfl | exact VTo.fsGl rfl (by first | rfl | exact flat_len encI_len _ | exact flat_len encT_len _ | exact flat_len encS_len _ | exact flat_len encP_len _ | exact flat_len encL_len _ | exact flat_len encE_len _ | (simp [flat_len encP_len]; done) | simp [flat_len encI_len, flat_len encS_len]))) (by first | rfl | (repeat' (first | exact MkTo.nil | refine MkTo.keep rfl ?_ | refine MkTo.drop (by decide) rfl ?_)))
                · conv => whnf
                  exact RFin.on (outW_get _ _ _ _) (VOut.back (get_out hlp []) rfl)
              · rintro e g' _ hF
                exact hF.elim
        | some k0 =>
          rw [hR] at hWi
          have n0 : g.get (.loc 0) ≠ none := by rw [j1]; simp
          have n1 : (g.set (.loc 0) (.flat true [DI i])).get (.loc 1) ≠ none := by rw [Hp.get_set g _ _ _ n0, if_neg (by decide), j2]; simp
          have n2 : ((g.set (.loc 0) (.flat true [DI i])).set (.loc 1) (.flat true [DI k0])).get (.loc 3) ≠ none := by rw [Hp.get_set _ _ _ _ n1, if_neg (by decide), Hp.get_set g _ _ _ n0, if_neg (by decide), hlp]; simp
          refine Rnd.stop (.exit 0) rfl hlp ((g.set (.loc 0) (.flat true [DI i])).set (.loc 1) (.flat true [DI k0])) n2 ?_ ⟨rfl, i, k0, ⟨j0, ?_, ?_, ?_⟩, hWi⟩
          · refine VRoundA.vy' hlp rfl rfl rfl ?_ fun l0 => ?_
            · exact grows_set3
            refine VRoundA.tell [(2, .fp [.pt (encN l)]), (3, .fp (encX x)), (7, .ptr (.out (.loc 0)) 0), (8, .ptr (.out (.loc 1)) 0), (15, I i), (16, aggT s)] ?_ ?_
            · conv => whnf
              refine Retell.turn ⟨[], 0, [], []⟩ (TurnOk.mk' _ _ [] [] (OutOk.lift _) rfl (by decide) (by repeat' (first | exact BTos.nil | refine BTos.flat rfl rfl (by first | rfl | simp) ?_ | refine BTos.new rfl ?_ | refine BTos.dead rfl rfl ?_ | refine BTos.esE rfl rfl ?_ | refine BTos.row rfl rfl rfl (RowTo.snoc (RowTo.one rfl (by simp))) ?_ | refine BTos.cells rfl rfl rfl (by repeat' (first | exact VTo.undef | exact FrTo.leaf | refine FrTo.node ?_ ?_ ?_ | refine FrTo.none ?_ ?_ | exact VTo.sc (by first | rfl | (congr 1; omega) | (congr 1; simp; omega)) | exact VTos_dv _ _ | refine VTos.cons ?_ ?_ | exact VTos.nil | refine VTo.agg ?_ | refine VTo.tuple ?_ | refine VTo.func ?_ ?_ | exact VTo.fs | exact VTo.fp | exact VTo.nilptr | exact VTo.nilslice | exact VTo.nilfunc | exact VTo.ptr rfl | exact VTo.gl rfl | exact VTo.map rfl | exact VTo.yld rfl | exact VTo.fmMap rfl | exact VTo.fm | exact VTo.glNil' (by decide) rfl rfl | exact VTo.fsNil (by decide) | exact VTo.fsSl rfl rfl (by simp [flat_len encE_len]) | exact VTo.fpPtr rfl | exact VTo.fsGl rfl (by first | rfl | exact flat_len encI_len _ | exact flat_len encT_len _ | exact flat_len encS_len _ | exact flat_len encP_len _ | exact flat_len encL_len _ | exact flat_len encE_len _ | (simp [flat_len encP_len]; done) | simp [flat_len encI_len, flat_len encS_len]))) ?_)) trivial trivial rfl) (by repeat' (first | exact VTo.undef | exact FrTo.leaf | refine FrTo.node ?_ ?_ ?_ | refine FrTo.none ?_ ?_ | exact VTo.sc (by first | rfl | (congr 1; omega) | (congr 1; simp; omega)) | exact VTos_dv _ _ | refine VTos.cons ?_ ?_ | exact VTos.nil | refine VTo.agg ?_ | refine VTo.tuple ?_ | refine VTo.func ?_ ?_ | exact VTo.fs | exact VTo.fp | exact VTo.nilptr | exact VTo.nilslice | exact VTo.nilfunc | exact VTo.ptr rfl | exact VTo.gl rfl | exact VTo.map rfl | exact VTo.yld rfl | exact VTo.fmMap rfl | exact VTo.fm | exact VTo.glNil' (by decide) rfl rfl | exact VTo.fsNil (by decide) | exact VTo.fsSl rfl rfl (by simp [flat_len encE_len]) | exact VTo.fpPtr rfl | exact VTo.fsGl rfl (by first | rfl | exact flat_len encI_len _ | exact flat_len encT_len _ | exact flat_len encS_len _ | exact flat_len encP_len _ | exact flat_len encL_len _ | exact flat_len encE_len _ | (simp [flat_len encP_len]; done) | simp [flat_len encI_len, flat_len encS_len]))) (by first | rfl | (repeat' (first | exact MkTo.nil | refine MkTo.keep rfl ?_ | refine MkTo.drop (by decide) rfl ?_)))
            · conv => whnf
              repeat (first | (refine VLd.intro rfl ?_; conv => whnf) | (refine VArith.i64 (by first | omega | (dsimp only; omega)) ?_; conv => whnf) | (refine VNeed.intro (by first | rfl | (simp; omega) | (simp; done)) ?_; conv => whnf) | (refine VMem.store rfl rfl rfl rfl ?_; conv => whnf) | (refine VSame.intro rfl ?_; conv => whnf) | (refine VDraw.go [] (by kernel_rfl) (by kernel_rfl) ?_; conv => whnf))
              refine VBeginA.intro (get_out hlp _) rfl ?_
              refine VWpA.block ?_
              refine VWpA.go ?_
              conv => whnf
              repeat' (first | (refine VLd.intro rfl ?_; conv => whnf) | (refine VArith.i64 (by first | omega | (dsimp only; omega)) ?_; conv => whnf) | (refine VNeed.intro (by first | rfl | (simp; omega) | (simp; done)) ?_; conv => whnf) | (refine VMem.store rfl rfl rfl rfl ?_; conv => whnf) | (refine VSame.intro rfl ?_; conv => whnf) | (refine VDraw.go [] (by kernel_rfl) (by kernel_rfl) ?_; conv => whnf) | (refine VIte.dec (fun _ => ?_) (fun _ => ?_) <;> conv => whnf) | (refine VIte.ndec (fun _ => ?_) (fun _ => ?_) <;> conv => whnf) | (refine VIte.beq (fun _ => ?_) (fun _ => ?_) <;> conv => whnf) | (refine VIte.bne (fun _ => ?_) (fun _ => ?_) <;> conv => whnf) | (refine VIte.intro (fun _ => ?_) (fun _ => ?_) <;> conv => whnf) | (refine VCall.intro (vc_free l _) ?_; conv => whnf))
              refine VWpA.block ?_
              refine VWpA.tell [(3, .fp (encX x)), (7, .ptr (.out (.loc 0)) 0), (8, .ptr (.out (.loc 1)) 0), (9, .fp [DI i]), (10, .fp (encT s)), (18, vFree l)] [] (marks' := []) ?_ ?_
              · conv => whnf
                refine Retell.turn ⟨[], 2, [(0, [DI i]), (1, encT s)], []⟩ (TurnOk.mk' _ _ [(0, [DI i]), (1, encT s)] [] (OutOk.outR (OutOk.lift _) (ren_busy hlp)) rfl (by decide) BTos.nil (FzAll.flat rfl (FzAll.flat rfl FzAll.nil)) trivial rfl) (by repeat' (first | exact VTo.undef | exact FrTo.leaf | refine FrTo.node ?_ ?_ ?_ | refine FrTo.none ?_ ?_ | exact VTo.sc (by first | rfl | (congr 1; omega) | (congr 1; simp; omega)) | exact VTos_dv _ _ | refine VTos.cons ?_ ?_ | exact VTos.nil | refine VTo.agg ?_ | refine VTo.tuple ?_ | refine VTo.func ?_ ?_ | exact VTo.fs | exact VTo.fp | exact VTo.nilptr | exact VTo.nilslice | exact VTo.nilfunc | exact VTo.ptr rfl | exact VTo.gl rfl | exact VTo.map rfl | exact VTo.yld rfl | exact VTo.fmMap rfl | exact VTo.fm | exact VTo.glNil' (by decide) rfl rfl | exact VTo.fsNil (by decide) | exact VTo.fsSl rfl rfl (by simp [flat_len encE_len]) | exact VTo.fpPtr rfl | exact VTo.fsGl rfl (by first | rfl | exact flat_len encI_len _ | exact flat_len encT_len _ | exact flat_len encS_len _ | exact flat_len encP_len _ | exact flat_len encL_len _ | exact flat_len encE_len _ | (simp [flat_len encP_len]; done) | simp [flat_len encI_len, flat_len encS_len]))) (by first | rfl | (repeat' (first | exact MkTo.nil | refine MkTo.keep rfl ?_ | refine MkTo.drop (by decide) rfl ?_)))
              · conv => whnf
                refine VWpA.withO fun O hO0 => ?_
                have hOa := get_out j1 []
                have hOb := get_out j2 []
                have hO1 : O (.loc 0) = some (.flat true [DI (-1)]) := by rw [hO0, outW_ne (by decide)]; exact hOa
                have hO2 : O (.loc 1) = some (.flat true [DI (-1)]) := by rw [hO0, outW_ne (by decide)]; exact hOb
                refine VWpA.iterN l.ss.length (frY l) (fun k g' => g'.outer = O ∧ wsR (wsB l x i) k (l.ss.length - k) = some k0) (fun e g' => e = .exit 0 ∧ g'.outer = outW (outW O (.loc 0) (.flat true [DI i])) (.loc 1) (.flat true [DI k0])) _ (.loc 0) rfl (by subst hO0; exact outW_get _ _ _ _) (iter_free l o) rfl rfl ⟨rfl, hR⟩ ?_ ?_ ?_ ?_
                · rintro k g' hk hy' ⟨hO, hk2⟩
                  rw [show l.ss.length - k = (l.ss.length - (k + 1)) + 1 by omega, wsR] at hk2
                  refine ⟨hO, ?_⟩
                  have ht : l.ss[k]? = some l.ss[k] := List.getElem?_eq_getElem hk
                  rw [frY_eq ht] at hy'
                  have hft : isFree l.ss[k] = false := by
                    cases hft : isFree l.ss[k]
                    · rfl
                    · rw [hft] at hy'; cases hy'
                  have hwb : wsB l x i k = false := by unfold wsB; rw [sAt_eq ht, hft, es, hf]; rfl
                  rw [hwb, if_neg (by decide)] at hk2
                  exact hk2
                · rintro k g' vs hk hy' ⟨hO, hk2⟩ hlp'
                  have ht : l.ss[k]? = some l.ss[k] := List.getElem?_eq_getElem hk
                  have hq : x.ps[k]? = some x.ps[k] := List.getElem?_eq_getElem (by omega)
                  have q2 := o.ss _ (List.getElem_mem hk)
                  rw [frY_eq ht] at hy'
                  rw [show l.ss.length - k = (l.ss.length - (k + 1)) + 1 by omega, wsR] at hk2
                  have et := sAt_eq ht
                  have eq := pAt_eq hq
                  generalize l.ss[k] = t at ht hy' q2 et
                  generalize x.ps[k] = q at hq eq
                  have r1 := q1.no
                  have r2 := q1.so
                  have r3 := q2.no
                  have r4 := q2.so
                  have m1 := mul_le (a := s.no) (b := t.so) (A := 1000) (B := 1000) (by omega) (by omega)
                  have m2 := mul_le (a := s.so) (b := t.no) (A := 1000) (B := 1000) (by omega) (by omega)
                  have ca := fun h => vc_ahead s.no s.so t.no t.so h (by omega) (by omega) (by omega) (by omega)
                  cases hft : isFree t
                  · rw [hft] at hy'; cases hy'
                  · rw [hft] at hy'
                    cases hy'
                    cases hwb : wsB l x i k
                    · rw [hwb, if_neg (by decide)] at hk2
                      have hbw : ¬ ((p < x.w ∧ 0 < q) ∧ s.so * t.no < s.no * t.so) := by
                        unfold wsB fst2 at hwb
                        rw [es, et, ep, eq, hf, hft, Bool.true_and, Bool.true_and] at hwb
                        intro hc
                        rw [decide_eq_true hc.1, decide_eq_true hc.2] at hwb
                        cases hwb
                      refine Rnd.go hlp' g' hlp' ?_ ⟨hO, hk2⟩
                      refine VRound.vy' hlp' rfl rfl rfl g'.grows_refl fun l1 => ?_
                      refine VRound.tell [(3, .fp (encX x)), (7, .ptr (.out (.out (.loc 0))) 0), (8, .ptr (.out (.out (.loc 1))) 0), (9, .fp [DI i]), (10, .fp (encT s)), (19, I k), (20, aggT t)] ?_ ?_
                      · conv => whnf
                        refine Retell.turn ⟨[], 0, [], []⟩ (TurnOk.mk' _ _ [] [] (OutOk.lift _) rfl (by decide) (by repeat' (first | exact BTos.nil | refine BTos.flat rfl rfl (by first | rfl | simp) ?_ | refine BTos.new rfl ?_ | refine BTos.dead rfl rfl ?_ | refine BTos.esE rfl rfl ?_ | refine BTos.row rfl rfl rfl (RowTo.snoc (RowTo.one rfl (by simp))) ?_ | refine BTos.cells rfl rfl rfl (by repeat' (first | exact VTo.undef | exact FrTo.leaf | refine FrTo.node ?_ ?_ ?_ | refine FrTo.none ?_ ?_ | exact VTo.sc (by first | rfl | (congr 1; omega) | (congr 1; simp; omega)) | exact VTos_dv _ _ | refine VTos.cons ?_ ?_ | exact VTos.nil | refine VTo.agg ?_ | refine VTo.tuple ?_ | refine VTo.func ?_ ?_ | exact VTo.fs | exact VTo.fp | exact VTo.nilptr | exact VTo.nilslice | exact VTo.nilfunc | exact VTo.ptr rfl | exact VTo.gl rfl | exact VTo.map rfl | exact VTo.yld rfl | exact VTo.fmMap rfl | exact VTo.fm | exact VTo.glNil' (by decide) rfl rfl | exact VTo.fsNil (by decide) | exact VTo.fsSl rfl rfl (by simp [flat_len encE_len]) | exact VTo.fpPtr rfl | exact VTo.fsGl rfl (by first | rfl | exact flat_len encI_len _ | exact flat_len encT_len _ | exact flat_len encS_len _ | exact flat_len encP_len _ | exact flat_len encL_len _ | exact flat_len encE_len _ | (simp [flat_len encP_len]; done) | simp [flat_len encI_len, flat_len encS_len]))) ?_)) trivial trivial rfl) (by repeat' (first | exact VTo.undef | exact FrTo.leaf | refine FrTo.node ?_ ?_ ?_ | refine FrTo.none ?_ ?_ | exact VTo.sc (by first | rfl | (congr 1; omega) | (congr 1; simp; omega)) | exact VTos_dv _ _ | refine VTos.cons ?_ ?_ | exact VTos.nil | refine VTo.agg ?_ | refine VTo.tuple ?_ | refine VTo.func ?_ ?_ | exact VTo.fs | exact VTo.fp | exact VTo.nilptr | exact VTo.nilslice | exact VTo.nilfunc | exact VTo.ptr rfl | exact VTo.gl rfl | exact VTo.map rfl | exact VTo.yld rfl | exact VTo.fmMap rfl | exact VTo.fm | exact VTo.glNil' (by decide) rfl rfl | exact VTo.fsNil (by decide) | exact VTo.fsSl rfl rfl (by simp [flat_len encE_len]) | exact VTo.fpPtr rfl | exact VTo.fsGl rfl (by first | rfl | exact flat_len encI_len _ | exact flat_len encT_len _ | exact flat_len encS_len _ | exact flat_len encP_len _ | exact flat_len encL_len _ | exact flat_len encE_len _ | (simp [flat_len encP_len]; done) | simp [flat_len encI_len, flat_len encS_len]))) (by first | rfl | (repeat' (first | exact MkTo.nil | refine MkTo.keep rfl ?_ | refine MkTo.drop (by decide) rfl ?_)))
                      · conv => whnf
                        repeat (first | (refine VLd.intro rfl ?_; conv => whnf) | (refine VArith.i64 (by first | omega | (dsimp only; omega)) ?_; conv => whnf) | (refine VNeed.intro (by first | rfl | (simp; omega) | (simp; done)) ?_; conv => whnf) | (refine VMem.store rfl rfl rfl rfl ?_; conv => whnf) | (refine VSame.intro rfl ?_; conv => whnf) | (refine VDraw.go [] (by kernel_rfl) (by kernel_rfl) ?_; conv => whnf))
                        refine VBegin.intro (get_out hlp' _) rfl ?_
                        conv => whnf
                        repeat' (first | (refine VLd.intro rfl ?_; conv => whnf) | (refine VArith.i64 (by first | omega | (dsimp only; omega)) ?_; conv => whnf) | (refine VNeed.intro (by first | rfl | (simp; omega) | (simp; done)) ?_; conv => whnf) | (refine VMem.store rfl rfl rfl rfl ?_; conv => whnf) | (refine VSame.intro rfl ?_; conv => whnf) | (refine VDraw.go [(18, 19)] (by kernel_rfl) (by kernel_rfl) ?_; conv => whnf) | (refine VIte.dec (fun _ => ?_) (fun _ => ?_) <;> conv => whnf) | (refine VIte.ndec (fun _ => ?_) (fun _ => ?_) <;> conv => whnf) | (refine VIte.beq (fun _ => ?_) (fun _ => ?_) <;> conv => whnf) | (refine VIte.bne (fun _ => ?_) (fun _ => ?_) <;> conv => whnf) | (refine VIte.intro (fun _ => ?_) (fun _ => ?_) <;> conv => whnf) | (refine VAny.ix encI_len i rfl rfl hp ?_; conv => whnf) | (refine VAny.ix encI_len k rfl rfl hq ?_; conv => whnf) | (refine VCall.intro (vc_worth _ _) ?_; conv => whnf) | (refine VCall.intro (ca _) ?_; conv => whnf))
                        all_goals try (exfalso; omega)
                        all_goals exact RFin.on (outW_get _ _ _ _) (VOut.back (get_out hlp' []) rfl)
                    · rw [hwb, if_pos rfl] at hk2
                      have hkk : k = k0 := Option.some.inj hk2
                      subst hkk
                      have x0 : g'.get (.out (.loc 0)) = some (.flat true [DI (-1)]) := by
                        show g'.outer (.loc 0) = _
                        rw [hO]; exact hO1
                      have x1 : g'.get (.out (.loc 1)) = some (.flat true [DI (-1)]) := by
                        show g'.outer (.loc 1) = _
                        rw [hO]; exact hO2
                      have y0 : g'.get (.out (.loc 0)) ≠ none := by rw [x0]; simp
                      have y1 : (g'.set (.out (.loc 0)) (.flat true [DI i])).get (.out (.loc 1)) ≠ none := by rw [Hp.get_set g' _ _ _ y0, if_neg (by decide), x1]; simp
                      have y3 : g'.get (.loc 0) ≠ none := by rw [hlp']; simp
                      have y2 : ((g'.set (.out (.loc 0)) (.flat true [DI i])).set (.out (.loc 1)) (.flat true [DI k])).get (.loc 0) ≠ none := by rw [Hp.get_set _ _ _ _ y1, if_neg (by decide), Hp.get_set g' _ _ _ y0, if_neg (by decide)]; exact y3
                      refine Rnd.stop (.exit 0) rfl hlp' ((g'.set (.out (.loc 0)) (.flat true [DI i])).set (.out (.loc 1)) (.flat true [DI k])) y2 ?_ ⟨rfl, ?_⟩
                      · refine VRound.vy' hlp' rfl rfl rfl ?_ fun l1 => ?_
                        · exact grows_set3
                        refine VRound.tell [(3, .fp (encX x)), (7, .ptr (.out (.out (.loc 0))) 0), (8, .ptr (.out (.out (.loc 1))) 0), (9, .fp [DI i]), (10, .fp (encT s)), (19, I k), (20, aggT t)] ?_ ?_
                        · conv => whnf
                          refine Retell.turn ⟨[], 0, [], []⟩ (TurnOk.mk' _ _ [] [] (OutOk.lift _) rfl (by decide) (by repeat' (first | exact BTos.nil | refine BTos.flat rfl rfl (by first | rfl | simp) ?_ | refine BTos.new rfl ?_ | refine BTos.dead rfl rfl ?_ | refine BTos.esE rfl rfl ?_ | refine BTos.row rfl rfl rfl (RowTo.snoc (RowTo.one rfl (by simp))) ?_ | refine BTos.cells rfl rfl rfl (by repeat' (first | exact VTo.undef | exact FrTo.leaf | refine FrTo.node ?_ ?_ ?_ | refine FrTo.none ?_ ?_ | exact VTo.sc (by first | rfl | (congr 1; omega) | (congr 1; simp; omega)) | exact VTos_dv _ _ | refine VTos.cons ?_ ?_ | exact VTos.nil | refine VTo.agg ?_ | refine VTo.tuple ?_ | refine VTo.func ?_ ?_ | exact VTo.fs | exact VTo.fp | exact VTo.nilptr | exact VTo.nilslice | exact VTo.nilfunc | exact VTo.ptr rfl | exact VTo.gl rfl | exact VTo.map rfl | exact VTo.yld rfl | exact VTo.fmMap rfl | exact VTo.fm | exact VTo.glNil' (by decide) rfl rfl | exact VTo.fsNil (by decide) | exact VTo.fsSl rfl rfl (by simp [flat_len encE_len]) | exact VTo.fpPtr rfl | exact VTo.fsGl rfl (by first | rfl | exact flat_len encI_len _ | exact flat_len encT_len _ | exact flat_len encS_len _ | exact flat_len encP_len _ | exact flat_len encL_len _ | exact flat_len encE_len _ | (simp [flat_len encP_len]; done) | simp [flat_len encI_len, flat_len encS_len]))) ?_)) trivial trivial rfl) (by repeat' (first | exact VTo.undef | exact FrTo.leaf | refine FrTo.node ?_ ?_ ?_ | refine FrTo.none ?_ ?_ | exact VTo.sc (by first | rfl | (congr 1; omega) | (congr 1; simp; omega)) | exact VTos_dv _ _ | refine VTos.cons ?_ ?_ | exact VTos.nil | refine VTo.agg ?_ | refine VTo.tuple ?_ | refine VTo.func ?_ ?_ | exact VTo.fs | exact VTo.fp | exact VTo.nilptr | exact VTo.nilslice | exact VTo.nilfunc | exact VTo.ptr rfl | exact VTo.gl rfl | exact VTo.map rfl | exact VTo.yld rfl | exact VTo.fmMap rfl | exact VTo.fm | exact VTo.glNil' (by decide) rfl rfl | exact VTo.fsNil (by decide) | exact VTo.fsSl rfl rfl (by simp [flat_len encE_len]) | exact VTo.fpPtr rfl | exact VTo.fsGl rfl (by first | rfl | exact flat_len encI_len _ | exact flat_len encT_len _ | exact flat_len encS_len _ | exact flat_len encP_len _ | exact flat_len encL_len _ | exact flat_len encE_len _ | (simp [flat_len encP_len]; done) | simp [flat_len encI_len, flat_len encS_len]))) (by first | rfl | (repeat' (first | exact MkTo.nil | refine MkTo.keep rfl ?_ | refine MkTo.drop (by decide) rfl ?_)))
                        · conv => whnf
                          repeat (first | (refine VLd.intro rfl ?_; conv => whnf) | (refine VArith.i64 (by first | omega | (dsimp only; omega)) ?_; conv => whnf) | (refine VNeed.intro (by first | rfl | (simp; omega) | (simp; done)) ?_; conv => whnf) | (refine VMem.store rfl rfl rfl rfl ?_; conv => whnf) | (refine VSame.intro rfl ?_; conv => whnf) | (refine VDraw.go [] (by kernel_rfl) (by kernel_rfl) ?_; conv => whnf))
                          refine VBegin.intro (get_out hlp' _) rfl ?_
                          conv => whnf
                          have hbw : (p < x.w ∧ 0 < q) ∧ s.so * t.no < s.no * t.so := by
                            unfold wsB fst2 at hwb
                            rw [es, et, ep, eq, hf, hft, Bool.true_and, Bool.true_and, Bool.and_eq_true, decide_eq_true_eq, decide_eq_true_eq] at hwb
                            exact hwb
                          repeat' (first | (refine VLd.intro rfl ?_; conv => whnf) | (refine VArith.i64 (by first | omega | (dsimp only; omega)) ?_; conv => whnf) | (refine VNeed.intro (by first | rfl | (simp; omega) | (simp; done)) ?_; conv => whnf) | (refine VMem.store rfl rfl rfl rfl ?_; conv => whnf) | (refine VSame.intro rfl ?_; conv => whnf) | (refine VDraw.go [(18, 19)] (by kernel_rfl) (by kernel_rfl) ?_; conv => whnf) | (refine VIte.dec (fun _ => ?_) (fun _ => ?_) <;> conv => whnf) | (refine VIte.ndec (fun _ => ?_) (fun _ => ?_) <;> conv => whnf) | (refine VIte.beq (fun _ => ?_) (fun _ => ?_) <;> conv => whnf) | (refine VIte.bne (fun _ => ?_) (fun _ => ?_) <;> conv => whnf) | (refine VIte.intro (fun _ => ?_) (fun _ => ?_) <;> conv => whnf) | (refine VAny.ix encI_len i rfl rfl hp ?_; conv => whnf) | (refine VAny.ix encI_len k rfl rfl hq ?_; conv => whnf) | (refine VCall.intro (vc_worth _ _) ?_; conv => whnf) | (refine VCall.intro (ca _) ?_; conv => whnf) | (refine VMem.st1 rfl rfl rfl (get_outNe (by decide) (get_out x0 _)) rfl ?_; conv => whnf) | (refine VMem.st1 rfl rfl rfl (get_outNe (by decide) (get_outNe (by decide) (get_out x1 _))) rfl ?_; conv => whnf))
                          all_goals try (exfalso; omega)
                          refine RFin.off rfl (get_outNe (by decide) (get_outNe (by decide) (outW_get _ _ _ _))) (VOut.liftS ?_ ?_)
                          · rw [lift_set y2, lift_set y1, lift_set y0]; exact outW_two (by decide) (by decide)
                          · exact grows_set3
                      · show outW (outW g'.outer _ _) _ _ = _
                        rw [hO]
                · rintro g' ⟨hO, hk2⟩ hlp'
                  rw [Nat.sub_self, wsR] at hk2
                  cases hk2
                · rintro e g' _ ⟨rfl, hO⟩ hlp'
                  obtain ⟨go, gl⟩ := g'
                  dsimp only at hO
                  subst hO
                  subst hO0
                  refine Told.mk [] [] (marks' := []) ?_ ?_
                  · conv => whnf
                    refine Retell.turn ⟨[], gl.length, [], []⟩ (TurnOk.mk' _ _ [] [] (OutOk.outR (OutOk.outR (OutOk.outR (OutOk.lift _) (ren_busy hlp)) ⟨.flat true [DI i], rfl⟩) ⟨.flat true [DI k0], rfl⟩) (Nat.ble_eq_true_of_le (by simp)) (by decide) BTos.nil trivial trivial rfl) (by repeat' (first | exact VTo.undef | exact FrTo.leaf | refine FrTo.node ?_ ?_ ?_ | refine FrTo.none ?_ ?_ | exact VTo.sc (by first | rfl | (congr 1; omega) | (congr 1; simp; omega)) | exact VTos_dv _ _ | refine VTos.cons ?_ ?_ | exact VTos.nil | refine VTo.agg ?_ | refine VTo.tuple ?_ | refine VTo.func ?_ ?_ | exact VTo.fs | exact VTo.fp | exact VTo.nilptr | exact VTo.nilslice | exact VTo.nilfunc | exact VTo.ptr rfl | exact VTo.gl rfl | exact VTo.map rfl | exact VTo.yld rfl | exact VTo.fmMap rfl | exact VTo.fm | exact VTo.glNil' (by decide) rfl rfl | exact VTo.fsNil (by decide) | exact VTo.fsSl rfl rfl (by simp [flat_len encE_len]) | exact VTo.fpPtr rfl | exact VTo.fsGl rfl (by first | rfl | exact flat_len encI_len _ | exact flat_len encT_len _ | exact flat_len encS_len _ | exact flat_len encP_len _ | exact flat_len encL_len _ | exact flat_len encE_len _ | (simp [flat_len encP_len]; done) | simp [flat_len encI_len, flat_len encS_len]))) (by first | rfl | (repeat' (first | exact MkTo.nil | refine MkTo.keep rfl ?_ | refine MkTo.drop (by decide) rfl ?_)))
                  · conv => whnf
                    refine RFin.off rfl (get_outNe (by decide) (get_outNe (by decide) (outW_get _ _ _ _))) (VOut.liftS ?_ ?_)
                    · rw [lift_set n2, lift_set n1, lift_set n0]; exact outW_two (by decide) (by decide)
                    · exact grows_set3
          · rw [Hp.get_set _ _ _ _ n2, if_neg (by decide), Hp.get_set _ _ _ _ n1, if_neg (by decide), Hp.get_set g _ _ _ n0, if_pos rfl]
          · rw [Hp.get_set _ _ _ _ n2, if_neg (by decide), Hp.get_set _ _ _ _ n1, if_pos rfl]
          · rw [Hp.get_set _ _ _ _ n2, if_neg (by decide), Hp.get_set _ _ _ _ n1, if_neg (by decide), Hp.get_set g _ _ _ n0, if_neg (by decide), j3]
    · rintro g ⟨⟨j0, j1, j2, j3⟩, hWi⟩ hlp
      rw [Nat.sub_self, wsO] at hWi
      subst hWi
      obtain ⟨go, gl⟩ := g
      dsimp only at j0
      subst j0
      have j1 : gl[0]? = some _ := j1
      have j2 : gl[1]? = some _ := j2
      have j3 : gl[2]? = some _ := j3
      have l0 := (List.getElem?_eq_some_iff.1 j1).1
      have l1 := (List.getElem?_eq_some_iff.1 j2).1
      have key : ∀ (x : Nat) (A : Blk), x ≠ 3 → (gl.set 3 A)[x]? = gl[x]? := fun x A hx => List.getElem?_set_ne (Ne.symm hx)
      refine Told.mk [(7, .ptr (.loc 0) 0), (8, .ptr (.loc 1) 0)] [.flat true [DI (-1)], .flat true [DI (-1)]] (marks' := []) ?_ ?_
      · conv => whnf
        refine Retell.turn ⟨[0, 1], gl.length, [], []⟩ (TurnOk.mk' _ _ [] [] (OutOk.lift _) (Nat.ble_eq_true_of_le (by simp)) (by decide)
          (BTos.flat (blt_of l0) ((key 0 _ (by omega)).trans j1) rfl (BTos.flat (blt_of l1) ((key 1 _ (by omega)).trans j2) rfl BTos.nil)) trivial trivial rfl) (by repeat' (first | exact VTo.undef | exact FrTo.leaf | refine FrTo.node ?_ ?_ ?_ | refine FrTo.none ?_ ?_ | exact VTo.sc (by first | rfl | (congr 1; omega) | (congr 1; simp; omega)) | exact VTos_dv _ _ | refine VTos.cons ?_ ?_ | exact VTos.nil | refine VTo.agg ?_ | refine VTo.tuple ?_ | refine VTo.func ?_ ?_ | exact VTo.fs | exact VTo.fp | exact VTo.nilptr | exact VTo.nilslice | exact VTo.nilfunc | exact VTo.ptr rfl | exact VTo.gl rfl | exact VTo.map rfl | exact VTo.yld rfl | exact VTo.fmMap rfl | exact VTo.fm | exact VTo.glNil' (by decide) rfl rfl | exact VTo.fsNil (by decide) | exact VTo.fsSl rfl rfl (by simp [flat_len encE_len]) | exact VTo.fpPtr rfl | exact VTo.fsGl rfl (by first | rfl | exact flat_len encI_len _ | exact flat_len encT_len _ | exact flat_len encS_len _ | exact flat_len encP_len _ | exact flat_len encL_len _ | exact flat_len encE_len _ | (simp [flat_len encP_len]; done) | simp [flat_len encI_len, flat_len encS_len])))
          (MkTo.drop (show 2 ∉ ([0, 1] : List Nat) by decide) ((key 2 _ (by omega)).trans j3) MkTo.nil)
      · conv => whnf
        repeat' (first | (refine VLd.intro rfl ?_; conv => whnf) | (refine VArith.i64 (by first | omega | (dsimp only; omega)) ?_; conv => whnf) | (refine VNeed.intro (by first | rfl | (simp; omega) | (simp; done)) ?_; conv => whnf) | (refine VMem.store rfl rfl rfl rfl ?_; conv => whnf) | (refine VSame.intro rfl ?_; conv => whnf) | (refine VDraw.go [] (by kernel_rfl) (by kernel_rfl) ?_; conv => whnf) | (refine VIte.dec (fun _ => ?_) (fun _ => ?_) <;> conv => whnf) | (refine VIte.ndec (fun _ => ?_) (fun _ => ?_) <;> conv => whnf) | (refine VIte.beq (fun _ => ?_) (fun _ => ?_) <;> conv => whnf) | (refine VIte.bne (fun _ => ?_) (fun _ => ?_) <;> conv => whnf) | (refine VIte.intro (fun _ => ?_) (fun _ => ?_) <;> conv => whnf))
        exact VOut.same rfl
    · rintro e g hne ⟨rfl, i, k, ⟨j0, j1, j2, j3⟩, hWi⟩ hlp
      subst hWi
      obtain ⟨go, gl⟩ := g
      dsimp only at j0
      subst j0
      have j1 : gl[0]? = some _ := j1
      have j2 : gl[1]? = some _ := j2
      have j3 : gl[2]? = some _ := j3
      have l0 := (List.getElem?_eq_some_iff.1 j1).1
      have l1 := (List.getElem?_eq_some_iff.1 j2).1
      have key : ∀ (x : Nat) (A : Blk), x ≠ 3 → (gl.set 3 A)[x]? = gl[x]? := fun x A hx => List.getElem?_set_ne (Ne.symm hx)
      refine Told.mk [(7, .ptr (.loc 0) 0), (8, .ptr (.loc 1) 0)] [.flat true [DI (i)], .flat true [DI (k)]] (marks' := []) ?_ ?_
      · conv => whnf
        refine Retell.turn ⟨[0, 1], gl.length, [], []⟩ (TurnOk.mk' _ _ [] [] (OutOk.lift _) (Nat.ble_eq_true_of_le (by simp)) (by decide)
          (BTos.flat (blt_of l0) ((key 0 _ (by omega)).trans j1) rfl (BTos.flat (blt_of l1) ((key 1 _ (by omega)).trans j2) rfl BTos.nil)) trivial trivial rfl) (by repeat' (first | exact VTo.undef | exact FrTo.leaf | refine FrTo.node ?_ ?_ ?_ | refine FrTo.none ?_ ?_ | exact VTo.sc (by first | rfl | (congr 1; omega) | (congr 1; simp; omega)) | exact VTos_dv _ _ | refine VTos.cons ?_ ?_ | exact VTos.nil | refine VTo.agg ?_ | refine VTo.tuple ?_ | refine VTo.func ?_ ?_ | exact VTo.fs | exact VTo.fp | exact VTo.nilptr | exact VTo.nilslice | exact VTo.nilfunc | exact VTo.ptr rfl | exact VTo.gl rfl | exact VTo.map rfl | exact VTo.yld rfl | exact VTo.fmMap rfl | exact VTo.fm | exact VTo.glNil' (by decide) rfl rfl | exact VTo.fsNil (by decide) | exact VTo.fsSl rfl rfl (by simp [flat_len encE_len]) | exact VTo.fpPtr rfl | exact VTo.fsGl rfl (by first | rfl | exact flat_len encI_len _ | exact flat_len encT_len _ | exact flat_len encS_len _ | exact flat_len encP_len _ | exact flat_len encL_len _ | exact flat_len encE_len _ | (simp [flat_len encP_len]; done) | simp [flat_len encI_len, flat_len encS_len])))
          (MkTo.drop (show 2 ∉ ([0, 1] : List Nat) by decide) ((key 2 _ (by omega)).trans j3) MkTo.nil)
      · conv => whnf
        repeat' (first | (refine VLd.intro rfl ?_; conv => whnf) | (refine VArith.i64 (by first | omega | (dsimp only; omega)) ?_; conv => whnf) | (refine VNeed.intro (by first | rfl | (simp; omega) | (simp; done)) ?_; conv => whnf) | (refine VMem.store rfl rfl rfl rfl ?_; conv => whnf) | (refine VSame.intro rfl ?_; conv => whnf) | (refine VDraw.go [] (by kernel_rfl) (by kernel_rfl) ?_; conv => whnf) | (refine VIte.dec (fun _ => ?_) (fun _ => ?_) <;> conv => whnf) | (refine VIte.ndec (fun _ => ?_) (fun _ => ?_) <;> conv => whnf) | (refine VIte.beq (fun _ => ?_) (fun _ => ?_) <;> conv => whnf) | (refine VIte.bne (fun _ => ?_) (fun _ => ?_) <;> conv => whnf) | (refine VIte.intro (fun _ => ?_) (fun _ => ?_) <;> conv => whnf))
        refine VOut.same ?_
        simp only [wstR, V.ren, V.rens]
        congr 5
end Go.Proofs.Ytmpjpjfkbmlmfaa

open Go.Vm
namespace Go.Vm

theorem VOut.setF {h : Hp} {loc : List Blk} {i : Id} {b0 : Blk} {l : List D} {rw : Bool} {r : V} {L : Nat} (hL : Nat.ble loc.length L = true) (hb : h.get i = some b0) (hr : ∀ ρ, r.ren ρ = r) : VOut h ⟨outW h.lift i (.flat rw l), loc⟩ r r (h.set i (.flat rw l)) := by
  have hd : ∀ p ∈ [(i, Blk.flat rw l)], h.get p.1 ≠ none := by
    intro p hp
    simp only [List.mem_cons, List.not_mem_nil, or_false] at hp
    subst hp; simp only; rw [hb]; simp
  have := VOut.upd (loc := loc) (r1 := r) (r := r) [(i, .flat rw l)] [] [] L hL hd (by simp) rfl (by intro k b hk; simp at hk) (fun σ x hx => by rw [hr]; exact hx) (outer := outW h.lift i (.flat rw l)) rfl
  have he : (h.sets [(i, Blk.flat rw l)]).pushes [] = h.set i (.flat rw l) := by simp [Hp.sets, Hp.pushes]
  rw [he] at this
  exact this
end Go.Vm
namespace Go.Proofs.Ytmpjpjfkbmlmfaa
set_option maxRecDepth 20000
set_option maxHeartbeats 2000000
theorem vc_isNaN (x : Int) (h : Hp) : VC Try.prog 93 [I x] h (B false) h := by
  refine VC.body Try.func93 rfl Try.ntmps93 Try.call93 (h.grows_refl) rfl ?_; conv => whnf
  repeat' (first | (refine VLd.intro rfl ?_; conv => whnf) | (refine VArith.i64 (by first | omega | (dsimp only; omega)) ?_; conv => whnf) | (refine VNeed.intro (by first | rfl | (simp; omega) | (simp; done)) ?_; conv => whnf) | (refine VMem.store rfl rfl rfl rfl ?_; conv => whnf) | (refine VSame.intro rfl ?_; conv => whnf) | (refine VDraw.go [] (by kernel_rfl) (by kernel_rfl) ?_; conv => whnf) | (refine VIte.dec (fun _ => ?_) (fun _ => ?_) <;> conv => whnf) | (refine VIte.ndec (fun _ => ?_) (fun _ => ?_) <;> conv => whnf) | (refine VIte.beq (fun _ => ?_) (fun _ => ?_) <;> conv => whnf) | (refine VIte.bne (fun _ => ?_) (fun _ => ?_) <;> conv => whnf) | (refine VIte.intro (fun _ => ?_) (fun _ => ?_) <;> conv => whnf))
  refine VOut.same ?_
  simp [V.ren]
def cmpI (a b : Int) : Int := if a < b then -1 else if b < a then 1 else 0
theorem vc_Compare (a b : Int) (h : Hp) : VC Try.prog 85 [I a, I b] h (I (cmpI a b)) h := by
  unfold cmpI
  refine VC.body Try.func85 rfl Try.ntmps85 Try.call85 (h.grows_refl) rfl ?_; conv => whnf
  repeat' (first | (refine VLd.intro rfl ?_; conv => whnf) | (refine VArith.i64 (by first | omega | (dsimp only; omega)) ?_; conv => whnf) | (refine VNeed.intro (by first | rfl | (simp; omega) | (simp; done)) ?_; conv => whnf) | (refine VMem.store rfl rfl rfl rfl ?_; conv => whnf) | (refine VSame.intro rfl ?_; conv => whnf) | (refine VDraw.go [] (by kernel_rfl) (by kernel_rfl) ?_; conv => whnf) | (refine VIte.dec (fun _ => ?_) (fun _ => ?_) <;> conv => whnf) | (refine VIte.ndec (fun _ => ?_) (fun _ => ?_) <;> conv => whnf) | (refine VIte.beq (fun _ => ?_) (fun _ => ?_) <;> conv => whnf) | (refine VIte.bne (fun _ => ?_) (fun _ => ?_) <;> conv => whnf) | (refine VIte.intro (fun _ => ?_) (fun _ => ?_) <;> conv => whnf) | (refine VCall.intro (vc_isNaN _ _) ?_; conv => whnf))
  · rename_i h1; rw [if_pos h1]; exact VOut.same rfl
  · rename_i h1 h2; rw [if_neg h1, if_pos h2]; exact VOut.same rfl
  · rename_i h1 h2; rw [if_neg h1, if_neg h2]; exact VOut.same rfl
/-! ### Insertion -/
def posS (q : Int → Bool) (out : List Int) : Nat → Nat
  | 0 => 0
  | j + 1 => if q (out.getD j 0) then posS q out j else j + 1
theorem posS_le (q : Int → Bool) (out : List Int) : ∀ j, posS q out j ≤ j
  | 0 => Nat.le_refl _
  | j + 1 => by
    rw [posS]; split
    · exact Nat.le_succ_of_le (posS_le q out j)
    · exact Nat.le_refl _
def insS (q : Int → Bool) (out : List Int) (x : Int) : List Int := out.take (posS q out out.length) ++ x :: out.drop (posS q out out.length)
theorem insS_len (q : Int → Bool) (out : List Int) (x : Int) : (insS q out x).length = out.length + 1 := by
  have := posS_le q out out.length
  simp [insS]; omega
/-- A list on the way. -/
def midS (pre : List Int) (x : Int) (rest : List Int) (j : Nat) : List Int := pre.take j ++ x :: (pre.drop j ++ rest)
theorem midS_len {pre : List Int} {x : Int} {rest : List Int} {j : Nat} (hj : j ≤ pre.length) : (midS pre x rest j).length = pre.length + 1 + rest.length := by simp [midS]; omega
theorem midS_at {pre : List Int} {x : Int} {rest : List Int} {j : Nat} (hj : j ≤ pre.length) : (midS pre x rest j)[j]? = some x := by
  unfold midS
  have : (pre.take j).length = j := by simp; omega
  rw [List.getElem?_append_right (by omega), this, Nat.sub_self]; rfl
theorem midS_at1 {pre : List Int} {x : Int} {rest : List Int} {j : Nat} (hj : j + 1 ≤ pre.length) : (midS pre x rest (j + 1))[j]? = some (pre.getD j 0) := by
  unfold midS
  have : (pre.take (j + 1)).length = j + 1 := by simp; omega
  rw [List.getElem?_append_left (by omega), List.getElem?_take, if_pos (by omega), List.getElem?_eq_getElem (by omega)]
  simp [List.getD_eq_getElem?_getD, List.getElem?_eq_getElem (show j < pre.length by omega)]
theorem midS_swap {pre : List Int} {x : Int} {rest : List Int} {j : Nat} (hj : j + 1 ≤ pre.length) : ((midS pre x rest (j + 1)).set (j + 1) (pre.getD j 0)).set j x = midS pre x rest j := by
  have hp : pre[j]? = some pre[j] := List.getElem?_eq_getElem (by omega)
  have hd : pre.getD j 0 = pre[j] := by simp [List.getD_eq_getElem?_getD, hp]
  have h1 : (pre.take (j + 1)).length = j + 1 := by simp; omega
  have h2 : (pre.take j).length = j := by simp; omega
  unfold midS
  rw [List.set_append_right _ _ (by omega), h1, Nat.sub_self, List.set_cons_zero, List.take_add_one, hp, Option.toList, List.append_assoc, List.set_append_right _ _ (by omega), h2, Nat.sub_self]
  simp only [List.singleton_append, List.set_cons_zero, hd]
  rw [List.drop_eq_getElem_cons (show j < pre.length by omega)]
  rfl
theorem midS_end {q : Int → Bool} {pre : List Int} {x : Int} {rest : List Int} : midS pre x rest (posS q pre pre.length) = insS q pre x ++ rest := by simp [midS, insS]
theorem midS_top {pre : List Int} {x : Int} {rest : List Int} : midS pre x rest pre.length = pre ++ x :: rest := by simp [midS]
/-- The first ones, in their order. -/
def isGo (q : Int → Int → Bool) (l : List Int) : Nat → List Int
  | 0 => []
  | m + 1 => insS (fun y => q (l.getD m 0) y) (isGo q l m) (l.getD m 0)
def isrt (q : Int → Int → Bool) (l : List Int) : List Int := isGo q l l.length
theorem isGo_len (q : Int → Int → Bool) (l : List Int) : ∀ m, (isGo q l m).length = m
  | 0 => rfl
  | m + 1 => by rw [isGo, insS_len, isGo_len q l m]
theorem insS_mem {q : Int → Bool} {out : List Int} {x y : Int} : y ∈ insS q out x ↔ y = x ∨ y ∈ out := by
  unfold insS
  rw [List.mem_append, List.mem_cons]
  have : y ∈ out ↔ y ∈ out.take (posS q out out.length) ∨ y ∈ out.drop (posS q out out.length) := by
    rw [← List.mem_append, List.take_append_drop]
  rw [this]
  constructor
  · rintro (h | h | h)
    · exact .inr (.inl h)
    · exact .inl h
    · exact .inr (.inr h)
  · rintro (h | h | h)
    · exact .inr (.inl h)
    · exact .inl h
    · exact .inr (.inr h)
theorem isGo_mem {q : Int → Int → Bool} {l : List Int} : ∀ {m : Nat}, m ≤ l.length → ∀ y ∈ isGo q l m, y ∈ l
  | 0, _, y, h => by cases h
  | m + 1, hm, y, h => by
    rw [isGo] at h
    rcases insS_mem.1 h with rfl | h
    · have : l[m]? = some l[m] := List.getElem?_eq_getElem (by omega)
      rw [List.getD_eq_getElem?_getD, this]; exact List.getElem_mem _
    · exact isGo_mem (by omega) y h
theorem vc_isort (l : List Int) (q : Int → Int → Bool) (c : Int → Int → Int) (f : FuncId) (caps : List D) (i : Vm.Id) (h : Hp) (hb : h.get i = some (.flat true (l.flatMap encI))) (hn : l.length ≤ 4000000)
    (hc : ∀ a b, a ∈ l → b ∈ l → (∀ h, VC Try.prog f ([I a, I b] ++ D.vs caps) h (I (c a b)) h) ∧ (c a b < 0 ↔ q a b = true)) :
    VC Try.prog 98 [.gl i 1 l.length, I 0, I l.length, .func (.func f) [] (D.vs caps)] h (.tuple []) (h.set i (.flat true ((isrt q l).flatMap encI))) := by
  have hlift : h.lift i = some (.flat true (l.flatMap encI)) := get_out hb []
  refine VC.body Try.func98 rfl Try.ntmps98 Try.call98 (h.grows_set _ _) rfl ?_
  conv => whnf
  rw [rens_dvs]
  repeat (first | (refine VLd.intro rfl ?_; conv => whnf) | (refine VArith.i64 (by first | omega | (dsimp only; omega)) ?_; conv => whnf) | (refine VNeed.intro (by first | rfl | (simp; omega) | (simp; done)) ?_; conv => whnf) | (refine VMem.store rfl rfl rfl rfl ?_; conv => whnf) | (refine VSame.intro rfl ?_; conv => whnf) | (refine VDraw.go [] (by kernel_rfl) (by kernel_rfl) ?_; conv => whnf))
  refine VCode.lpo (fun x : Nat × List Int => [(0, .gl (.out i) 1 l.length), (1, I 0), (2, I l.length), (3, .func (.func f) [] (D.vs caps)), (8, I x.1)]) (fun x => outW h.lift i (.flat true (x.2.flatMap encI))) (fun _ => []) (fun x => (x.1 ≤ l.length ∧ x.2 = isGo q l x.1 ++ l.drop x.1) ∨ (l = [] ∧ x = (1, []))) (fun x => l.length - x.1) (1, l) ?_ (outW_id hlift) ?_ ?_
  · rcases Nat.eq_zero_or_pos l.length with hz | hz
    · have := List.length_eq_zero_iff.1 hz
      subst this; exact .inr ⟨rfl, rfl⟩
    · left
      refine ⟨hz, ?_⟩
      cases l with
      | nil => cases hz
      | cons a r => simp [isGo, insS, posS]
  · conv => whnf
    refine Retell.turn ⟨[], 0, [], []⟩ (TurnOk.mk' _ _ [] [] (OutOk.outW (OutOk.lift _) rfl) rfl (by decide) (by repeat' (first | exact BTos.nil | refine BTos.flat rfl rfl (by first | rfl | simp) ?_ | refine BTos.new rfl ?_ | refine BTos.dead rfl rfl ?_ | refine BTos.esE rfl rfl ?_ | refine BTos.row rfl rfl rfl (RowTo.snoc (RowTo.one rfl (by simp))) ?_ | refine BTos.cells rfl rfl rfl (by repeat' (first | exact VTo.undef | exact FrTo.leaf | refine FrTo.node ?_ ?_ ?_ | refine FrTo.none ?_ ?_ | exact VTo.sc (by first | rfl | (congr 1; omega) | (congr 1; simp; omega)) | exact VTos_dv _ _ | refine VTos.cons ?_ ?_ | exact VTos.nil | refine VTo.agg ?_ | refine VTo.tuple ?_ | refine VTo.func ?_ ?_ | exact VTo.fs | exact VTo.fp | exact VTo.nilptr | exact VTo.nilslice | exact VTo.nilfunc | exact VTo.ptr rfl | exact VTo.gl rfl | exact VTo.map rfl | exact VTo.yld rfl | exact VTo.fmMap rfl | exact VTo.fm | exact VTo.glNil' (by decide) rfl rfl | exact VTo.fsNil (by decide) | exact VTo.fsSl rfl rfl (by simp [flat_len encE_len]) | exact VTo.fpPtr rfl | exact VTo.fsGl rfl (by first | rfl | exact flat_len encI_len _ | exact flat_len encT_len _ | exact flat_len encS_len _ | exact flat_len encP_len _ | exact flat_len encL_len _ | exact flat_len encE_len _ | (simp [flat_len encP_len]; done) | simp [flat_len encI_len, flat_len encS_len]))) ?_)) trivial trivial rfl) (by repeat' (first | exact VTo.undef | exact FrTo.leaf | refine FrTo.node ?_ ?_ ?_ | refine FrTo.none ?_ ?_ | exact VTo.sc (by first | rfl | (congr 1; omega) | (congr 1; simp; omega)) | exact VTos_dv _ _ | refine VTos.cons ?_ ?_ | exact VTos.nil | refine VTo.agg ?_ | refine VTo.tuple ?_ | refine VTo.func ?_ ?_ | exact VTo.fs | exact VTo.fp | exact VTo.nilptr | exact VTo.nilslice | exact VTo.nilfunc | exact VTo.ptr rfl | exact VTo.gl rfl | exact VTo.map rfl | exact VTo.yld rfl | exact VTo.fmMap rfl | exact VTo.fm | exact VTo.glNil' (by decide) rfl rfl | exact VTo.fsNil (by decide) | exact VTo.fsSl rfl rfl (by simp [flat_len encE_len]) | exact VTo.fpPtr rfl | exact VTo.fsGl rfl (by first | rfl | exact flat_len encI_len _ | exact flat_len encT_len _ | exact flat_len encS_len _ | exact flat_len encP_len _ | exact flat_len encL_len _ | exact flat_len encE_len _ | (simp [flat_len encP_len]; done) | simp [flat_len encI_len, flat_len encS_len]))) (by first | rfl | (repeat' (first | exact MkTo.nil | refine MkTo.keep rfl ?_ | refine MkTo.drop (by decide) rfl ?_)))
  · rintro ⟨m, w⟩ hm
    conv => whnf
    repeat (first | (refine VLd.intro rfl ?_; conv => whnf) | (refine VArith.i64 (by first | omega | (dsimp only; omega)) ?_; conv => whnf) | (refine VNeed.intro (by first | rfl | (simp; omega) | (simp; done)) ?_; conv => whnf) | (refine VMem.store rfl rfl rfl rfl ?_; conv => whnf) | (refine VSame.intro rfl ?_; conv => whnf) | (refine VDraw.go [] (by kernel_rfl) (by kernel_rfl) ?_; conv => whnf))
    refine VIte.dec (fun h3 => ?_) (fun h3 => ?_)
    · dsimp only at h3
      obtain ⟨hm1, hw⟩ : m ≤ l.length ∧ w = isGo q l m ++ l.drop m := by
        rcases hm with h | ⟨h1, h2⟩
        · exact h
        · exfalso; subst h1; cases h2; simp at h3
      have hx : l[m]? = some l[m] := List.getElem?_eq_getElem (by omega)
      have hxm : l[m] ∈ l := List.getElem_mem _
      have hgd : l.getD m 0 = l[m] := by simp [List.getD_eq_getElem?_getD, hx]
      have hpl := isGo_len q l m
      have hpm := isGo_mem (q := q) (l := l) hm1
      have hnext : isGo q l (m + 1) = insS (fun y => q l[m] y) (isGo q l m) l[m] := by rw [isGo, hgd]
      rw [List.drop_eq_getElem_cons (by omega)] at hw
      generalize l[m] = x at hx hxm hw hnext
      generalize isGo q l m = pre at hw hpl hpm hnext
      generalize hrest : l.drop (m + 1) = rest at hw
      have hrl : rest.length = l.length - (m + 1) := by rw [← hrest]; simp
      subst hw
      conv => whnf
      repeat (first | (refine VLd.intro rfl ?_; conv => whnf) | (refine VArith.i64 (by first | omega | (dsimp only; omega)) ?_; conv => whnf) | (refine VNeed.intro (by first | rfl | (simp; omega) | (simp; done)) ?_; conv => whnf) | (refine VMem.store rfl rfl rfl rfl ?_; conv => whnf) | (refine VSame.intro rfl ?_; conv => whnf) | (refine VDraw.go [] (by kernel_rfl) (by kernel_rfl) ?_; conv => whnf))
      refine VCode.lpo (fun j : Nat => [(0, .gl (.out i) 1 l.length), (1, I 0), (2, I l.length), (3, .func (.func f) [] (D.vs caps)), (8, I m), (9, I j)]) (fun j => outW h.lift i (.flat true ((midS pre x rest j).flatMap encI))) (fun _ => []) (fun j => j ≤ m ∧ posS (fun y => q x y) pre m = posS (fun y => q x y) pre j) (fun j => j) m ⟨Nat.le_refl _, rfl⟩ (by rw [← hpl, midS_top]) ?_ ?_
      · conv => whnf
        refine Retell.turn ⟨[], 0, [], []⟩ (TurnOk.mk' _ _ [] [] (OutOk.outW (OutOk.lift _) rfl) rfl (by decide) (by repeat' (first | exact BTos.nil | refine BTos.flat rfl rfl (by first | rfl | simp) ?_ | refine BTos.new rfl ?_ | refine BTos.dead rfl rfl ?_ | refine BTos.esE rfl rfl ?_ | refine BTos.row rfl rfl rfl (RowTo.snoc (RowTo.one rfl (by simp))) ?_ | refine BTos.cells rfl rfl rfl (by repeat' (first | exact VTo.undef | exact FrTo.leaf | refine FrTo.node ?_ ?_ ?_ | refine FrTo.none ?_ ?_ | exact VTo.sc (by first | rfl | (congr 1; omega) | (congr 1; simp; omega)) | exact VTos_dv _ _ | refine VTos.cons ?_ ?_ | exact VTos.nil | refine VTo.agg ?_ | refine VTo.tuple ?_ | refine VTo.func ?_ ?_ | exact VTo.fs | exact VTo.fp | exact VTo.nilptr | exact VTo.nilslice | exact VTo.nilfunc | exact VTo.ptr rfl | exact VTo.gl rfl | exact VTo.map rfl | exact VTo.yld rfl | exact VTo.fmMap rfl | exact VTo.fm | exact VTo.glNil' (by decide) rfl rfl | exact VTo.fsNil (by decide) | exact VTo.fsSl rfl rfl (by simp [flat_len encE_len]) | exact VTo.fpPtr rfl | exact VTo.fsGl rfl (by first | rfl | exact flat_len encI_len _ | exact flat_len encT_len _ | exact flat_len encS_len _ | exact flat_len encP_len _ | exact flat_len encL_len _ | exact flat_len encE_len _ | (simp [flat_len encP_len]; done) | simp [flat_len encI_len, flat_len encS_len]))) ?_)) trivial trivial rfl) (by repeat' (first | exact VTo.undef | exact FrTo.leaf | refine FrTo.node ?_ ?_ ?_ | refine FrTo.none ?_ ?_ | exact VTo.sc (by first | rfl | (congr 1; omega) | (congr 1; simp; omega)) | exact VTos_dv _ _ | refine VTos.cons ?_ ?_ | exact VTos.nil | refine VTo.agg ?_ | refine VTo.tuple ?_ | refine VTo.func ?_ ?_ | exact VTo.fs | exact VTo.fp | exact VTo.nilptr | exact VTo.nilslice | exact VTo.nilfunc | exact VTo.ptr rfl | exact VTo.gl rfl | exact VTo.map rfl | exact VTo.yld rfl | exact VTo.fmMap rfl | exact VTo.fm | exact VTo.glNil' (by decide) rfl rfl | exact VTo.fsNil (by decide) | exact VTo.fsSl rfl rfl (by simp [flat_len encE_len]) | exact VTo.fpPtr rfl | exact VTo.fsGl rfl (by first | rfl | exact flat_len encI_len _ | exact flat_len encT_len _ | exact flat_len encS_len _ | exact flat_len encP_len _ | exact flat_len encL_len _ | exact flat_len encE_len _ | (simp [flat_len encP_len]; done) | simp [flat_len encI_len, flat_len encS_len]))) (by first | rfl | (repeat' (first | exact MkTo.nil | refine MkTo.keep rfl ?_ | refine MkTo.drop (by decide) rfl ?_)))
      · rintro j ⟨hj, hpos⟩
        have fin : ∀ (_ : posS (fun y => q x y) pre j = j), midS pre x rest j = isGo q l (m + 1) ++ l.drop (m + 1) := fun hp => by
          rw [hnext, hrest, ← midS_end, hpl, hpos, hp]
        cases j with
        | zero =>
          conv => whnf
          repeat' (first | (refine VLd.intro rfl ?_; conv => whnf) | (refine VArith.i64 (by first | omega | (dsimp only; omega)) ?_; conv => whnf) | (refine VNeed.intro (by first | rfl | (simp; omega) | (simp; done)) ?_; conv => whnf) | (refine VMem.store rfl rfl rfl rfl ?_; conv => whnf) | (refine VSame.intro rfl ?_; conv => whnf) | (refine VDraw.go [] (by kernel_rfl) (by kernel_rfl) ?_; conv => whnf) | (refine VIte.dec (fun _ => ?_) (fun _ => ?_) <;> conv => whnf) | (refine VIte.ndec (fun _ => ?_) (fun _ => ?_) <;> conv => whnf) | (refine VIte.beq (fun _ => ?_) (fun _ => ?_) <;> conv => whnf) | (refine VIte.bne (fun _ => ?_) (fun _ => ?_) <;> conv => whnf) | (refine VIte.intro (fun _ => ?_) (fun _ => ?_) <;> conv => whnf))
          all_goals try (exfalso; omega)
          refine LEndO.intro (m + 1, isGo q l (m + 1) ++ l.drop (m + 1)) (.inl ⟨by dsimp only; omega, rfl⟩) (by dsimp only; omega) (by rw [fin rfl]) ?_
          conv => whnf
          refine Retell.turn ⟨[], 0, [], []⟩ (TurnOk.mk' _ _ [] [] (OutOk.outW (OutOk.lift _) rfl) rfl (by decide) (by repeat' (first | exact BTos.nil | refine BTos.flat rfl rfl (by first | rfl | simp) ?_ | refine BTos.new rfl ?_ | refine BTos.dead rfl rfl ?_ | refine BTos.esE rfl rfl ?_ | refine BTos.row rfl rfl rfl (RowTo.snoc (RowTo.one rfl (by simp))) ?_ | refine BTos.cells rfl rfl rfl (by repeat' (first | exact VTo.undef | exact FrTo.leaf | refine FrTo.node ?_ ?_ ?_ | refine FrTo.none ?_ ?_ | exact VTo.sc (by first | rfl | (congr 1; omega) | (congr 1; simp; omega)) | exact VTos_dv _ _ | refine VTos.cons ?_ ?_ | exact VTos.nil | refine VTo.agg ?_ | refine VTo.tuple ?_ | refine VTo.func ?_ ?_ | exact VTo.fs | exact VTo.fp | exact VTo.nilptr | exact VTo.nilslice | exact VTo.nilfunc | exact VTo.ptr rfl | exact VTo.gl rfl | exact VTo.map rfl | exact VTo.yld rfl | exact VTo.fmMap rfl | exact VTo.fm | exact VTo.glNil' (by decide) rfl rfl | exact VTo.fsNil (by decide) | exact VTo.fsSl rfl rfl (by simp [flat_len encE_len]) | exact VTo.fpPtr rfl | exact VTo.fsGl rfl (by first | rfl | exact flat_len encI_len _ | exact flat_len encT_len _ | exact flat_len encS_len _ | exact flat_len encP_len _ | exact flat_len encL_len _ | exact flat_len encE_len _ | (simp [flat_len encP_len]; done) | simp [flat_len encI_len, flat_len encS_len]))) ?_)) trivial trivial rfl) (by repeat' (first | exact VTo.undef | exact FrTo.leaf | refine FrTo.node ?_ ?_ ?_ | refine FrTo.none ?_ ?_ | exact VTo.sc (by first | rfl | (congr 1; omega) | (congr 1; simp; omega)) | exact VTos_dv _ _ | refine VTos.cons ?_ ?_ | exact VTos.nil | refine VTo.agg ?_ | refine VTo.tuple ?_ | refine VTo.func ?_ ?_ | exact VTo.fs | exact VTo.fp | exact VTo.nilptr | exact VTo.nilslice | exact VTo.nilfunc | exact VTo.ptr rfl | exact VTo.gl rfl | exact VTo.map rfl | exact VTo.yld rfl | exact VTo.fmMap rfl | exact VTo.fm | exact VTo.glNil' (by decide) rfl rfl | exact VTo.fsNil (by decide) | exact VTo.fsSl rfl rfl (by simp [flat_len encE_len]) | exact VTo.fpPtr rfl | exact VTo.fsGl rfl (by first | rfl | exact flat_len encI_len _ | exact flat_len encT_len _ | exact flat_len encS_len _ | exact flat_len encP_len _ | exact flat_len encL_len _ | exact flat_len encE_len _ | (simp [flat_len encP_len]; done) | simp [flat_len encI_len, flat_len encS_len]))) (by first | rfl | (repeat' (first | exact MkTo.nil | refine MkTo.keep rfl ?_ | refine MkTo.drop (by decide) rfl ?_)))
        | succ j =>
          have ha := midS_at (pre := pre) (x := x) (rest := rest) (j := j + 1) (by omega)
          have hb1 := midS_at1 (pre := pre) (x := x) (rest := rest) (j := j) (by omega)
          have hsw := midS_swap (pre := pre) (x := x) (rest := rest) (j := j) (by omega)
          have hps : posS (fun y => q x y) pre (j + 1) = if q x (pre.getD j 0) then posS (fun y => q x y) pre j else j + 1 := rfl
          have hym : pre.getD j 0 ∈ l := by
            have : pre[j]? = some pre[j] := List.getElem?_eq_getElem (by omega)
            rw [List.getD_eq_getElem?_getD, this]
            exact hpm _ (List.getElem_mem _)
          obtain ⟨hc1, hc2⟩ := hc x (pre.getD j 0) hxm hym
          have hlm := midS_len (pre := pre) (x := x) (rest := rest) (j := j + 1) (by omega)
          have hset : ((midS pre x rest (j + 1)).set (j + 1) (pre.getD j 0))[j]? = some (pre.getD j 0) := by rw [List.getElem?_set_ne (by omega)]; exact hb1
          generalize pre.getD j 0 = y at ha hb1 hsw hps hym hc1 hc2 hset
          generalize midS pre x rest (j + 1) = w at ha hb1 hsw hlm hset fin
          generalize c x y = r at hc1 hc2
          conv => whnf
          repeat' (first | (refine VLd.intro rfl ?_; conv => whnf) | (refine VArith.i64 (by first | omega | (dsimp only; omega)) ?_; conv => whnf) | (refine VNeed.intro (by first | rfl | (simp; omega) | (simp; done)) ?_; conv => whnf) | (refine VMem.store rfl rfl rfl rfl ?_; conv => whnf) | (refine VSame.intro rfl ?_; conv => whnf) | (refine VDraw.go [] (by kernel_rfl) (by kernel_rfl) ?_; conv => whnf) | (refine VIte.dec (fun _ => ?_) (fun _ => ?_) <;> conv => whnf) | (refine VIte.ndec (fun _ => ?_) (fun _ => ?_) <;> conv => whnf) | (refine VIte.beq (fun _ => ?_) (fun _ => ?_) <;> conv => whnf) | (refine VIte.bne (fun _ => ?_) (fun _ => ?_) <;> conv => whnf) | (refine VIte.intro (fun _ => ?_) (fun _ => ?_) <;> conv => whnf) | (refine VLd.recc encI_len (j + 1) 0 rfl rfl (outW_get _ _ _ _) ha (by decide) rfl (by simp only [Nat.zero_add, Nat.mul_one]; omega) ?_; conv => whnf) | (refine VLd.recc encI_len j 0 rfl rfl (outW_get _ _ _ _) hb1 (by decide) rfl (by simp only [Nat.zero_add, Nat.mul_one]; omega) ?_; conv => whnf) | (refine VCall.intro (hc1 _) ?_; conv => whnf))
          all_goals try (exfalso; omega)
          · rename_i hr
            rw [if_pos (hc2.1 hr)] at hps
            refine VMem.setRec encI_len (j + 1) 0 y rfl rfl (outW_get _ _ _ _) ha (by decide) rfl (by simp only [Nat.zero_add, Nat.mul_one]; omega) ?_
            conv => whnf
            repeat (first | (refine VLd.intro rfl ?_; conv => whnf) | (refine VArith.i64 (by first | omega | (dsimp only; omega)) ?_; conv => whnf) | (refine VNeed.intro (by first | rfl | (simp; omega) | (simp; done)) ?_; conv => whnf) | (refine VMem.store rfl rfl rfl rfl ?_; conv => whnf) | (refine VSame.intro rfl ?_; conv => whnf) | (refine VDraw.go [] (by kernel_rfl) (by kernel_rfl) ?_; conv => whnf))
            refine VMem.setRec encI_len j 0 x rfl rfl (outW_get _ _ _ _) hset (by decide) rfl (by simp only [Nat.zero_add, Nat.mul_one]; omega) ?_
            conv => whnf
            repeat (first | (refine VLd.intro rfl ?_; conv => whnf) | (refine VArith.i64 (by first | omega | (dsimp only; omega)) ?_; conv => whnf) | (refine VNeed.intro (by first | rfl | (simp; omega) | (simp; done)) ?_; conv => whnf) | (refine VMem.store rfl rfl rfl rfl ?_; conv => whnf) | (refine VSame.intro rfl ?_; conv => whnf) | (refine VDraw.go [] (by kernel_rfl) (by kernel_rfl) ?_; conv => whnf))
            refine LEndO.intro j ⟨by omega, by rw [hpos, hps]⟩ (by omega) (((outW_same (outW _ _ _) _ _ _).trans (outW_same _ _ _ _)).trans (by rw [hsw])) ?_
            conv => whnf
            refine Retell.turn ⟨[], 0, [], []⟩ (TurnOk.mk' _ _ [] [] (OutOk.outW (OutOk.lift _) rfl) rfl (by decide) (by repeat' (first | exact BTos.nil | refine BTos.flat rfl rfl (by first | rfl | simp) ?_ | refine BTos.new rfl ?_ | refine BTos.dead rfl rfl ?_ | refine BTos.esE rfl rfl ?_ | refine BTos.row rfl rfl rfl (RowTo.snoc (RowTo.one rfl (by simp))) ?_ | refine BTos.cells rfl rfl rfl (by repeat' (first | exact VTo.undef | exact FrTo.leaf | refine FrTo.node ?_ ?_ ?_ | refine FrTo.none ?_ ?_ | exact VTo.sc (by first | rfl | (congr 1; omega) | (congr 1; simp; omega)) | exact VTos_dv _ _ | refine VTos.cons ?_ ?_ | exact VTos.nil | refine VTo.agg ?_ | refine VTo.tuple ?_ | refine VTo.func ?_ ?_ | exact VTo.fs | exact VTo.fp | exact VTo.nilptr | exact VTo.nilslice | exact VTo.nilfunc | exact VTo.ptr rfl | exact VTo.gl rfl | exact VTo.map rfl | exact VTo.yld rfl | exact VTo.fmMap rfl | exact VTo.fm | exact VTo.glNil' (by decide) rfl rfl | exact VTo.fsNil (by decide) | exact VTo.fsSl rfl rfl (by simp [flat_len encE_len]) | exact VTo.fpPtr rfl | exact VTo.fsGl rfl (by first | rfl | exact flat_len encI_len _ | exact flat_len encT_len _ | exact flat_len encS_len _ | exact flat_len encP_len _ | exact flat_len encL_len _ | exact flat_len encE_len _ | (simp [flat_len encP_len]; done) | simp [flat_len encI_len, flat_len encS_len]))) ?_)) trivial trivial rfl) (by repeat' (first | exact VTo.undef | exact FrTo.leaf | refine FrTo.node ?_ ?_ ?_ | refine FrTo.none ?_ ?_ | exact VTo.sc (by first | rfl | (congr 1; omega) | (congr 1; simp; omega)) | exact VTos_dv _ _ | refine VTos.cons ?_ ?_ | exact VTos.nil | refine VTo.agg ?_ | refine VTo.tuple ?_ | refine VTo.func ?_ ?_ | exact VTo.fs | exact VTo.fp | exact VTo.nilptr | exact VTo.nilslice | exact VTo.nilfunc | exact VTo.ptr rfl | exact VTo.gl rfl | exact VTo.map rfl | exact VTo.yld rfl | exact VTo.fmMap rfl | exact VTo.fm | exact VTo.glNil' (by decide) rfl rfl | exact VTo.fsNil (by decide) | exact VTo.fsSl rfl rfl (by simp [flat_len encE_len]) | exact VTo.fpPtr rfl | exact VTo.fsGl rfl (by first | rfl | exact flat_len encI_len _ | exact flat_len encT_len _ | exact flat_len encS_len _ | exact flat_len encP_len _ | exact flat_len encL_len _ | exact flat_len encE_len _ | (simp [flat_len encP_len]; done) | simp [flat_len encI_len, flat_len encS_len]))) (by first | rfl | (repeat' (first | exact MkTo.nil | refine MkTo.keep rfl ?_ | refine MkTo.drop (by decide) rfl ?_)))
          · rename_i hr
            rw [if_neg (fun hq => hr (hc2.2 hq))] at hps
            refine LEndO.intro (m + 1, isGo q l (m + 1) ++ l.drop (m + 1)) (.inl ⟨by dsimp only; omega, rfl⟩) (by dsimp only; omega) (by rw [fin hps]) ?_
            conv => whnf
            refine Retell.turn ⟨[], 0, [], []⟩ (TurnOk.mk' _ _ [] [] (OutOk.outW (OutOk.lift _) rfl) rfl (by decide) (by repeat' (first | exact BTos.nil | refine BTos.flat rfl rfl (by first | rfl | simp) ?_ | refine BTos.new rfl ?_ | refine BTos.dead rfl rfl ?_ | refine BTos.esE rfl rfl ?_ | refine BTos.row rfl rfl rfl (RowTo.snoc (RowTo.one rfl (by simp))) ?_ | refine BTos.cells rfl rfl rfl (by repeat' (first | exact VTo.undef | exact FrTo.leaf | refine FrTo.node ?_ ?_ ?_ | refine FrTo.none ?_ ?_ | exact VTo.sc (by first | rfl | (congr 1; omega) | (congr 1; simp; omega)) | exact VTos_dv _ _ | refine VTos.cons ?_ ?_ | exact VTos.nil | refine VTo.agg ?_ | refine VTo.tuple ?_ | refine VTo.func ?_ ?_ | exact VTo.fs | exact VTo.fp | exact VTo.nilptr | exact VTo.nilslice | exact VTo.nilfunc | exact VTo.ptr rfl | exact VTo.gl rfl | exact VTo.map rfl | exact VTo.yld rfl | exact VTo.fmMap rfl | exact VTo.fm | exact VTo.glNil' (by decide) rfl rfl | exact VTo.fsNil (by decide) | exact VTo.fsSl rfl rfl (by simp [flat_len encE_len]) | exact VTo.fpPtr rfl | exact VTo.fsGl rfl (by first | rfl | exact flat_len encI_len _ | exact flat_len encT_len _ | exact flat_len encS_len _ | exact flat_len encP_len _ | exact flat_len encL_len _ | exact flat_len encE_len _ | (simp [flat_len encP_len]; done) | simp [flat_len encI_len, flat_len encS_len]))) ?_)) trivial trivial rfl) (by repeat' (first | exact VTo.undef | exact FrTo.leaf | refine FrTo.node ?_ ?_ ?_ | refine FrTo.none ?_ ?_ | exact VTo.sc (by first | rfl | (congr 1; omega) | (congr 1; simp; omega)) | exact VTos_dv _ _ | refine VTos.cons ?_ ?_ | exact VTos.nil | refine VTo.agg ?_ | refine VTo.tuple ?_ | refine VTo.func ?_ ?_ | exact VTo.fs | exact VTo.fp | exact VTo.nilptr | exact VTo.nilslice | exact VTo.nilfunc | exact VTo.ptr rfl | exact VTo.gl rfl | exact VTo.map rfl | exact VTo.yld rfl | exact VTo.fmMap rfl | exact VTo.fm | exact VTo.glNil' (by decide) rfl rfl | exact VTo.fsNil (by decide) | exact VTo.fsSl rfl rfl (by simp [flat_len encE_len]) | exact VTo.fpPtr rfl | exact VTo.fsGl rfl (by first | rfl | exact flat_len encI_len _ | exact flat_len encT_len _ | exact flat_len encS_len _ | exact flat_len encP_len _ | exact flat_len encL_len _ | exact flat_len encE_len _ | (simp [flat_len encP_len]; done) | simp [flat_len encI_len, flat_len encS_len]))) (by first | rfl | (repeat' (first | exact MkTo.nil | refine MkTo.keep rfl ?_ | refine MkTo.drop (by decide) rfl ?_)))
    · have hw : w = isrt q l := by
        rcases hm with ⟨h1, h2⟩ | ⟨h1, h2⟩
        · dsimp only at h1 h2 h3
          have : m = l.length := by omega
          rw [h2, this, List.drop_of_length_le (Nat.le_refl _), List.append_nil]; rfl
        · cases h2; subst h1; rfl
      subst hw
      conv => whnf
      repeat (first | (refine VLd.intro rfl ?_; conv => whnf) | (refine VArith.i64 (by first | omega | (dsimp only; omega)) ?_; conv => whnf) | (refine VNeed.intro (by first | rfl | (simp; omega) | (simp; done)) ?_; conv => whnf) | (refine VMem.store rfl rfl rfl rfl ?_; conv => whnf) | (refine VSame.intro rfl ?_; conv => whnf) | (refine VDraw.go [] (by kernel_rfl) (by kernel_rfl) ?_; conv => whnf))
      exact VOut.setF (L := 0) rfl hb fun _ => rfl
theorem isrt_len (q : Int → Int → Bool) (l : List Int) : (isrt q l).length = l.length := isGo_len q l _
theorem vc_stable (l : List Int) (q : Int → Int → Bool) (c : Int → Int → Int) (f : FuncId) (caps : List D) (i : Vm.Id) (h : Hp) (hb : h.get i = some (.flat true (l.flatMap encI))) (hn : l.length ≤ 19)
    (hc : ∀ a b, a ∈ l → b ∈ l → (∀ h, VC Try.prog f ([I a, I b] ++ D.vs caps) h (I (c a b)) h) ∧ (c a b < 0 ↔ q a b = true)) :
    VC Try.prog 92 [.gl i 1 l.length, I l.length, .func (.func f) [] (D.vs caps)] h (.tuple []) (h.set i (.flat true ((isrt q l).flatMap encI))) := by
  have hs := fun (i : Vm.Id) (h : Hp) hh => vc_isort l q c f caps i h hh (by omega) hc
  refine VC.body Try.func92 rfl Try.ntmps92 Try.call92 (h.grows_set _ _) rfl ?_
  conv => whnf
  rw [rens_dvs]
  repeat (first | (refine VLd.intro rfl ?_; conv => whnf) | (refine VArith.i64 (by first | omega | (dsimp only; omega)) ?_; conv => whnf) | (refine VNeed.intro (by first | rfl | (simp; omega) | (simp; done)) ?_; conv => whnf) | (refine VMem.store rfl rfl rfl rfl ?_; conv => whnf) | (refine VSame.intro rfl ?_; conv => whnf) | (refine VDraw.go [] (by kernel_rfl) (by kernel_rfl) ?_; conv => whnf))
  have hlift : h.lift i = some (.flat true (l.flatMap encI)) := get_out hb []
  refine VCode.lpo (fun _ : Unit => [(0, .gl (.out i) 1 l.length), (1, I l.length), (2, .func (.func f) [] (D.vs caps)), (6, I 20), (7, I 0), (8, I 20)]) (fun _ => h.lift) (fun _ => []) (fun _ => True) (fun _ => 0) () trivial rfl ?_ ?_
  · conv => whnf
    refine Retell.turn ⟨[], 0, [], []⟩ (TurnOk.mk' _ _ [] [] (OutOk.lift _) rfl (by decide) (by repeat' (first | exact BTos.nil | refine BTos.flat rfl rfl (by first | rfl | simp) ?_ | refine BTos.new rfl ?_ | refine BTos.dead rfl rfl ?_ | refine BTos.esE rfl rfl ?_ | refine BTos.row rfl rfl rfl (RowTo.snoc (RowTo.one rfl (by simp))) ?_ | refine BTos.cells rfl rfl rfl (by repeat' (first | exact VTo.undef | exact FrTo.leaf | refine FrTo.node ?_ ?_ ?_ | refine FrTo.none ?_ ?_ | exact VTo.sc (by first | rfl | (congr 1; omega) | (congr 1; simp; omega)) | exact VTos_dv _ _ | refine VTos.cons ?_ ?_ | exact VTos.nil | refine VTo.agg ?_ | refine VTo.tuple ?_ | refine VTo.func ?_ ?_ | exact VTo.fs | exact VTo.fp | exact VTo.nilptr | exact VTo.nilslice | exact VTo.nilfunc | exact VTo.ptr rfl | exact VTo.gl rfl | exact VTo.map rfl | exact VTo.yld rfl | exact VTo.fmMap rfl | exact VTo.fm | exact VTo.glNil' (by decide) rfl rfl | exact VTo.fsNil (by decide) | exact VTo.fsSl rfl rfl (by simp [flat_len encE_len]) | exact VTo.fpPtr rfl | exact VTo.fsGl rfl (by first | rfl | exact flat_len encI_len _ | exact flat_len encT_len _ | exact flat_len encS_len _ | exact flat_len encP_len _ | exact flat_len encL_len _ | exact flat_len encE_len _ | (simp [flat_len encP_len]; done) | simp [flat_len encI_len, flat_len encS_len]))) ?_)) trivial trivial rfl) (by repeat' (first | exact VTo.undef | exact FrTo.leaf | refine FrTo.node ?_ ?_ ?_ | refine FrTo.none ?_ ?_ | exact VTo.sc (by first | rfl | (congr 1; omega) | (congr 1; simp; omega)) | exact VTos_dv _ _ | refine VTos.cons ?_ ?_ | exact VTos.nil | refine VTo.agg ?_ | refine VTo.tuple ?_ | refine VTo.func ?_ ?_ | exact VTo.fs | exact VTo.fp | exact VTo.nilptr | exact VTo.nilslice | exact VTo.nilfunc | exact VTo.ptr rfl | exact VTo.gl rfl | exact VTo.map rfl | exact VTo.yld rfl | exact VTo.fmMap rfl | exact VTo.fm | exact VTo.glNil' (by decide) rfl rfl | exact VTo.fsNil (by decide) | exact VTo.fsSl rfl rfl (by simp [flat_len encE_len]) | exact VTo.fpPtr rfl | exact VTo.fsGl rfl (by first | rfl | exact flat_len encI_len _ | exact flat_len encT_len _ | exact flat_len encS_len _ | exact flat_len encP_len _ | exact flat_len encL_len _ | exact flat_len encE_len _ | (simp [flat_len encP_len]; done) | simp [flat_len encI_len, flat_len encS_len]))) (by first | rfl | (repeat' (first | exact MkTo.nil | refine MkTo.keep rfl ?_ | refine MkTo.drop (by decide) rfl ?_)))
  · rintro _ _
    conv => whnf
    repeat (first | (refine VLd.intro rfl ?_; conv => whnf) | (refine VArith.i64 (by first | omega | (dsimp only; omega)) ?_; conv => whnf) | (refine VNeed.intro (by first | rfl | (simp; omega) | (simp; done)) ?_; conv => whnf) | (refine VMem.store rfl rfl rfl rfl ?_; conv => whnf) | (refine VSame.intro rfl ?_; conv => whnf) | (refine VDraw.go [] (by kernel_rfl) (by kernel_rfl) ?_; conv => whnf))
    refine VIte.dec (fun h3 => ?_) (fun h3 => ?_)
    · exfalso; omega
    · have h1 := hs (.out i) ⟨h.lift, []⟩ (get_out hb [])
      conv => whnf
      repeat' (first | (refine VLd.intro rfl ?_; conv => whnf) | (refine VArith.i64 (by first | omega | (dsimp only; omega)) ?_; conv => whnf) | (refine VNeed.intro (by first | rfl | (simp; omega) | (simp; done)) ?_; conv => whnf) | (refine VMem.store rfl rfl rfl rfl ?_; conv => whnf) | (refine VSame.intro rfl ?_; conv => whnf) | (refine VIte.dec (fun _ => ?_) (fun _ => ?_) <;> conv => whnf) | (refine VIte.ndec (fun _ => ?_) (fun _ => ?_) <;> conv => whnf) | (refine VIte.beq (fun _ => ?_) (fun _ => ?_) <;> conv => whnf) | (refine VIte.bne (fun _ => ?_) (fun _ => ?_) <;> conv => whnf) | (refine VIte.intro (fun _ => ?_) (fun _ => ?_) <;> conv => whnf) | (refine VCall.intro (h1) ?_; conv => whnf))
      refine VCode.lpo (fun _ : Unit => [(0, .gl (.out i) 1 l.length), (1, I l.length), (2, .func (.func f) [] (D.vs caps)), (6, I 20)]) (fun _ => outW h.lift i (.flat true ((isrt q l).flatMap encI))) (fun _ => []) (fun _ => True) (fun _ => 0) () trivial rfl ?_ ?_
      · conv => whnf
        refine Retell.turn ⟨[], 0, [], []⟩ (TurnOk.mk' _ _ [] [] (OutOk.outW (OutOk.lift _) rfl) rfl (by decide) (by repeat' (first | exact BTos.nil | refine BTos.flat rfl rfl (by first | rfl | simp) ?_ | refine BTos.new rfl ?_ | refine BTos.dead rfl rfl ?_ | refine BTos.esE rfl rfl ?_ | refine BTos.row rfl rfl rfl (RowTo.snoc (RowTo.one rfl (by simp))) ?_ | refine BTos.cells rfl rfl rfl (by repeat' (first | exact VTo.undef | exact FrTo.leaf | refine FrTo.node ?_ ?_ ?_ | refine FrTo.none ?_ ?_ | exact VTo.sc (by first | rfl | (congr 1; omega) | (congr 1; simp; omega)) | exact VTos_dv _ _ | refine VTos.cons ?_ ?_ | exact VTos.nil | refine VTo.agg ?_ | refine VTo.tuple ?_ | refine VTo.func ?_ ?_ | exact VTo.fs | exact VTo.fp | exact VTo.nilptr | exact VTo.nilslice | exact VTo.nilfunc | exact VTo.ptr rfl | exact VTo.gl rfl | exact VTo.map rfl | exact VTo.yld rfl | exact VTo.fmMap rfl | exact VTo.fm | exact VTo.glNil' (by decide) rfl rfl | exact VTo.fsNil (by decide) | exact VTo.fsSl rfl rfl (by simp [flat_len encE_len]) | exact VTo.fpPtr rfl | exact VTo.fsGl rfl (by first | rfl | exact flat_len encI_len _ | exact flat_len encT_len _ | exact flat_len encS_len _ | exact flat_len encP_len _ | exact flat_len encL_len _ | exact flat_len encE_len _ | (simp [flat_len encP_len]; done) | simp [flat_len encI_len, flat_len encS_len]))) ?_)) trivial trivial rfl) (by repeat' (first | exact VTo.undef | exact FrTo.leaf | refine FrTo.node ?_ ?_ ?_ | refine FrTo.none ?_ ?_ | exact VTo.sc (by first | rfl | (congr 1; omega) | (congr 1; simp; omega)) | exact VTos_dv _ _ | refine VTos.cons ?_ ?_ | exact VTos.nil | refine VTo.agg ?_ | refine VTo.tuple ?_ | refine VTo.func ?_ ?_ | exact VTo.fs | exact VTo.fp | exact VTo.nilptr | exact VTo.nilslice | exact VTo.nilfunc | exact VTo.ptr rfl | exact VTo.gl rfl | exact VTo.map rfl | exact VTo.yld rfl | exact VTo.fmMap rfl | exact VTo.fm | exact VTo.glNil' (by decide) rfl rfl | exact VTo.fsNil (by decide) | exact VTo.fsSl rfl rfl (by simp [flat_len encE_len]) | exact VTo.fpPtr rfl | exact VTo.fsGl rfl (by first | rfl | exact flat_len encI_len _ | exact flat_len encT_len _ | exact flat_len encS_len _ | exact flat_len encP_len _ | exact flat_len encL_len _ | exact flat_len encE_len _ | (simp [flat_len encP_len]; done) | simp [flat_len encI_len, flat_len encS_len]))) (by first | rfl | (repeat' (first | exact MkTo.nil | refine MkTo.keep rfl ?_ | refine MkTo.drop (by decide) rfl ?_)))
      · rintro _ _
        conv => whnf
        repeat (first | (refine VLd.intro rfl ?_; conv => whnf) | (refine VArith.i64 (by first | omega | (dsimp only; omega)) ?_; conv => whnf) | (refine VNeed.intro (by first | rfl | (simp; omega) | (simp; done)) ?_; conv => whnf) | (refine VMem.store rfl rfl rfl rfl ?_; conv => whnf) | (refine VSame.intro rfl ?_; conv => whnf) | (refine VDraw.go [] (by kernel_rfl) (by kernel_rfl) ?_; conv => whnf))
        refine VIte.dec (fun h3 => ?_) (fun h3 => ?_)
        · exfalso; omega
        · conv => whnf
          exact VOut.setF (L := 0) rfl hb fun _ => rfl
theorem vc_sort (l : List Int) (q : Int → Int → Bool) (c : Int → Int → Int) (f : FuncId) (caps : List D) (i : Vm.Id) (h : Hp) (hb : h.get i = some (.flat true (l.flatMap encI))) (hn : l.length ≤ 19)
    (hc : ∀ a b, a ∈ l → b ∈ l → (∀ h, VC Try.prog f ([I a, I b] ++ D.vs caps) h (I (c a b)) h) ∧ (c a b < 0 ↔ q a b = true)) :
    VC Try.prog 83 [.gl i 1 l.length, .func (.func f) [] (D.vs caps)] h (.tuple []) (h.set i (.flat true ((isrt q l).flatMap encI))) := by
  have h1 := vc_stable l q c f caps (.out i) ⟨h.lift, []⟩ (get_out hb []) hn hc
  refine VC.body Try.func83 rfl Try.ntmps83 Try.call83 (h.grows_set _ _) rfl ?_
  conv => whnf
  rw [rens_dvs]
  repeat' (first | (refine VLd.intro rfl ?_; conv => whnf) | (refine VArith.i64 (by first | omega | (dsimp only; omega)) ?_; conv => whnf) | (refine VNeed.intro (by first | rfl | (simp; omega) | (simp; done)) ?_; conv => whnf) | (refine VMem.store rfl rfl rfl rfl ?_; conv => whnf) | (refine VSame.intro rfl ?_; conv => whnf) | (refine VIte.dec (fun _ => ?_) (fun _ => ?_) <;> conv => whnf) | (refine VIte.ndec (fun _ => ?_) (fun _ => ?_) <;> conv => whnf) | (refine VIte.beq (fun _ => ?_) (fun _ => ?_) <;> conv => whnf) | (refine VIte.bne (fun _ => ?_) (fun _ => ?_) <;> conv => whnf) | (refine VIte.intro (fun _ => ?_) (fun _ => ?_) <;> conv => whnf) | (refine VCall.intro (h1) ?_; conv => whnf))
  exact VOut.setF (L := 0) rfl hb fun _ => rfl
end Go.Proofs.Ytmpjpjfkbmlmfaa

open Go.Vm
namespace Go.Proofs.Ytmpjpjfkbmlmfaa
set_option maxRecDepth 20000
set_option maxHeartbeats 2000000

/-! ### The map of worths -/
abbrev AW := List (Int × Spn)
def esW (a : AW) : List (V × V) := a.map fun x => (I x.1, .agg [I x.2.lo, I x.2.hi])
def keysW (a : AW) : List D := a.map fun x => DI x.1
def valsW (a : AW) : List D := a.map fun x => .agg (encS x.2)
theorem esW_fst (a : AW) : (esW a).map (·.1) = (keysW a).map D.v := by simp only [esW, keysW, List.map_map]; rfl
theorem esW_snd (a : AW) : (esW a).map (·.2) = (valsW a).map D.v := by simp only [esW, valsW, List.map_map]; rfl
theorem esW_zip (a : AW) : (D.vs (keysW a)).zip (D.vs (valsW a)) = esW a := by
  rw [D.vs_eq, D.vs_eq, ← esW_fst, ← esW_snd]
  induction a with
  | nil => rfl
  | cons x a ih => simpa [esW] using ih
theorem esW_ren (a : AW) (ρ : Vm.Id → Vm.Id) : (Blk.map (esW a)).ren ρ = .map (esW a) := by
  unfold Blk.ren
  congr 1
  simp only [esW, List.map_map]
  rfl
theorem EsTo.esW {c : TCtx} (a : AW) : EsTo c (esW a) (keysW a) (valsW a) := ⟨by rw [esW_fst]; exact RowTo.dv c _, by rw [esW_snd]; exact RowTo.dv c _⟩
theorem top3 : eqTop Try.prog 3 = some Sh.int := by kernel_rfl
theorem veqI3 (x y : Int) : veqSh Sh.int (I x) (I y) = some (decide (x = y)) := by
  have : (x == y) = decide (x = y) := by rw [Bool.eq_iff_iff]; simp
  rw [← this]; rfl
def hasW (a : AW) (e : Int) : Bool := a.any fun x => decide (x.1 = e)
theorem foundW_none {a : AW} {e : Int} (h : hasW a e = false) : Vm.Found Sh.int (I e) (esW a) none := by
  intro j p hp
  simp only [esW, List.getElem?_map, Option.map_eq_some_iff] at hp
  obtain ⟨x, hx, rfl⟩ := hp
  simp only [veqI3]
  have : x ∈ a := List.mem_of_getElem? hx
  unfold hasW at h
  rw [List.any_eq_false] at h
  have := h x this
  simp only [decide_eq_true_eq] at this
  rw [decide_eq_false (fun e1 => this e1.symm)]
theorem foundW_some : ∀ {a : AW} {e : Int} {v : Spn}, (e, v) ∈ a → (∀ w, (e, w) ∈ a → w = v) → ∃ i, Vm.Found Sh.int (I e) (esW a) (some (i, .agg [I v.lo, I v.hi]))
  | [], e, v, h, _ => by cases h
  | x :: a, e, v, h, hu => by
    by_cases hx : x.1 = e
    · have : x.2 = v := hu x.2 (by rw [← hx]; simp)
      refine ⟨0, I x.1, by simp [esW, this], by rw [veqI3]; simp [hx], fun j p hj => by omega⟩
    · have h' : (e, v) ∈ a := by
        rcases List.mem_cons.1 h with rfl | h
        · exact absurd rfl hx
        · exact h
      obtain ⟨i, k0, h1, h2, h3⟩ := foundW_some h' fun w hw => hu w (List.mem_cons_of_mem _ hw)
      refine ⟨i + 1, k0, by simpa [esW] using h1, h2, fun j p hj hp => ?_⟩
      cases j with
      | zero =>
        simp only [esW, List.map_cons, List.getElem?_cons_zero, Option.some.injEq] at hp
        subst hp
        rw [veqI3, decide_eq_false (fun e1 => hx e1.symm)]
      | succ j => exact h3 j p (by omega) (by simpa [esW] using hp)
theorem VMem.newW {a : AW} {e : Int} {v : Spn} {h : Hp} {i : Vm.Id} {K : V → Hp → Prop} (hb : h.get i = some (.map (esW a))) (hf : hasW a e = false) (hK : K .undef (h.set i (.map (esW (a ++ [(e, v)]))))) : VMem Try.prog (opMapUpdate 119) [.map i, I e, .agg [I v.lo, I v.hi]] h K := by
  have : esW (a ++ [(e, v)]) = esW a ++ [(I e, .agg [I v.lo, I v.hi])] := by simp [esW]
  rw [this] at hK
  exact VMem.intro (does_mapNew (tiOf_ok _) (t := 119) rfl rfl top3 (by rw [veqI3]) (foundW_none hf) hb) hK
theorem look_esW {a : AW} {e : Int} {v : Spn} (h : (e, v) ∈ a) (hu : ∀ w, (e, w) ∈ a → w = v) : Look Try.prog (tiOf Try.prog) 119 false (I e) ((D.vs (keysW a)).zip (D.vs (valsW a))) (.agg [I v.lo, I v.hi]) := by
  rw [esW_zip]
  obtain ⟨i, hi⟩ := foundW_some h hu
  exact ⟨_, 3, 89, _, Sh.int, true, some (i, .agg [I v.lo, I v.hi]), rfl, rfl, top3, by rw [veqI3]; simp, hi, rfl⟩
/-- The free ones, with their worths. -/
def freeQ (l : Lnd) (i : Nat) : Bool := isFree (sAt l i)
def frL (l : Lnd) (k : Nat) : List Int := selS (freeQ l) k
def wOf (l : Lnd) (i : Int) : Spn := ⟨(sAt l i.toNat).no, (sAt l i.toNat).so⟩
def wMap (l : Lnd) (k : Nat) : AW := (frL l k).map fun i => (i, wOf l i)
/-- Whether one stretch comes ahead of another one. -/
def ahB (l : Lnd) (i j : Int) : Bool := fst2 (sAt l i.toNat) (sAt l j.toNat)
def ordL (l : Lnd) : List Int := isrt (ahB l) (frL l l.ss.length)
theorem mem_selS {q : Nat → Bool} {x : Int} : ∀ {k : Nat}, x ∈ selS q k ↔ ∃ j : Nat, j < k ∧ x = j ∧ q j = true
  | 0 => by simp [selS]
  | k + 1 => by
    rw [selS]
    split
    · rename_i h
      rw [List.mem_append, mem_selS, List.mem_singleton]
      constructor
      · rintro (⟨j, h1, h2, h3⟩ | rfl)
        · exact ⟨j, by omega, h2, h3⟩
        · exact ⟨k, by omega, rfl, h⟩
      · rintro ⟨j, h1, h2, h3⟩
        rcases Nat.lt_or_ge j k with h4 | h4
        · exact .inl ⟨j, h4, h2, h3⟩
        · right; rw [h2, show j = k by omega]
    · rename_i h
      rw [mem_selS]
      constructor
      · rintro ⟨j, h1, h2, h3⟩; exact ⟨j, by omega, h2, h3⟩
      · rintro ⟨j, h1, h2, h3⟩
        refine ⟨j, ?_, h2, h3⟩
        rcases Nat.lt_or_ge j k with h4 | h4
        · exact h4
        · exact absurd (by rw [← show j = k by omega]; exact h3) h
theorem wMap_mem {l : Lnd} {k : Nat} {i : Int} (h : i ∈ frL l k) : (i, wOf l i) ∈ wMap l k ∧ ∀ w, (i, w) ∈ wMap l k → w = wOf l i := by
  refine ⟨List.mem_map.2 ⟨i, h, rfl⟩, fun w hw => ?_⟩
  obtain ⟨j, _, hj⟩ := List.mem_map.1 hw
  simp only [Prod.mk.injEq] at hj
  rw [← hj.2, hj.1]
theorem wMap_has {l : Lnd} {k : Nat} : hasW (wMap l k) (k : Int) = false := by
  unfold hasW
  rw [List.any_eq_false]
  intro x hx
  obtain ⟨j, hj, rfl⟩ := List.mem_map.1 hx
  obtain ⟨m, h1, h2, _⟩ := mem_selS.1 hj
  simp only [decide_eq_true_eq]; omega
theorem vc_cmp (l : Lnd) (o : Ok l) (a b : Int) (h : Hp) (ha : a ∈ frL l l.ss.length) (hb : b ∈ frL l l.ss.length) :
    VC Try.prog 84 [I a, I b, .fp [.mp (keysW (wMap l l.ss.length)) (valsW (wMap l l.ss.length))]] h (I (cmpI ((wOf l b).lo * (wOf l a).hi - (wOf l b).hi * (wOf l a).lo) 0)) h := by
  obtain ⟨a1, a2⟩ := wMap_mem ha
  obtain ⟨b1, b2⟩ := wMap_mem hb
  have hA := look_esW a1 a2
  have hB := look_esW b1 b2
  have ra : (1 ≤ (wOf l a).lo ∧ (wOf l a).lo ≤ 1000) ∧ 1 ≤ (wOf l a).hi ∧ (wOf l a).hi ≤ 1000 := by
    obtain ⟨m, h1, rfl, _⟩ := mem_selS.1 ha
    have hs : l.ss[m]? = some l.ss[m] := List.getElem?_eq_getElem h1
    have := o.ss _ (List.getElem_mem h1)
    unfold wOf; rw [Int.toNat_natCast, sAt_eq hs]; exact ⟨this.no, this.so⟩
  have rb : (1 ≤ (wOf l b).lo ∧ (wOf l b).lo ≤ 1000) ∧ 1 ≤ (wOf l b).hi ∧ (wOf l b).hi ≤ 1000 := by
    obtain ⟨m, h1, rfl, _⟩ := mem_selS.1 hb
    have hs : l.ss[m]? = some l.ss[m] := List.getElem?_eq_getElem h1
    have := o.ss _ (List.getElem_mem h1)
    unfold wOf; rw [Int.toNat_natCast, sAt_eq hs]; exact ⟨this.no, this.so⟩
  generalize wOf l a = A at hA ra
  generalize wOf l b = B' at hB rb
  have ca := fun h => vc_ahead B'.lo B'.hi A.lo A.hi h (by omega) (by omega) (by omega) (by omega)
  refine VC.body Try.func84 rfl Try.ntmps84 Try.call84 (h.grows_refl) rfl ?_; conv => whnf
  repeat' (first | (refine VLd.intro rfl ?_; conv => whnf) | (refine VArith.i64 (by first | omega | (dsimp only; omega)) ?_; conv => whnf) | (refine VNeed.intro (by first | rfl | (simp; omega) | (simp; done)) ?_; conv => whnf) | (refine VMem.store rfl rfl rfl rfl ?_; conv => whnf) | (refine VSame.intro rfl ?_; conv => whnf) | (refine VDraw.go [] (by kernel_rfl) (by kernel_rfl) ?_; conv => whnf) | (refine VIte.dec (fun _ => ?_) (fun _ => ?_) <;> conv => whnf) | (refine VIte.ndec (fun _ => ?_) (fun _ => ?_) <;> conv => whnf) | (refine VIte.beq (fun _ => ?_) (fun _ => ?_) <;> conv => whnf) | (refine VIte.bne (fun _ => ?_) (fun _ => ?_) <;> conv => whnf) | (refine VIte.intro (fun _ => ?_) (fun _ => ?_) <;> conv => whnf) | (refine VLookF.intro hA ?_; conv => whnf) | (refine VLookF.intro hB ?_; conv => whnf) | (refine VCall.intro (ca _) ?_; conv => whnf) | (refine VCall.intro (vc_Compare _ _ _) ?_; conv => whnf))
  exact VOut.same rfl
end Go.Proofs.Ytmpjpjfkbmlmfaa

open Go.Vm
namespace Go.Proofs.Ytmpjpjfkbmlmfaa
set_option maxRecDepth 20000
set_option maxHeartbeats 4000000

structure OJ (o : Vm.Id → Option Blk) (a : AW) (n : List Int) (g : Hp) : Prop where
  o : g.outer = o
  c : g.get (.loc 0) = some (.cells true [.map (.loc 1)])
  mp : g.get (.loc 1) = some (.map (esW a))
  li : ∃ m, (m = 3 ∨ 6 ≤ m) ∧ g.get (.loc 2) = some (.cells true [.gl (.loc m) 1 n.length]) ∧ g.get (.loc m) = some (.flat true (n.flatMap encI))
  mar : g.get (.loc 4) = some .mark
theorem updW_ok {g : Hp} {m : Nat} {a2 b2 : AW} {n2 : List Int} {b : Blk} (jb : g.get (.loc 2) = some (.cells true [.gl (.loc m) 1 n2.length])) (jm : g.get (.loc 1) = some (.map (esW a2))) (jl : g.get (.loc m) = some (.flat true (n2.flatMap encI))) :
    ∀ p ∈ [(Vm.Id.loc 1, Blk.map (esW b2)), (.loc m, .dead), (.loc 2, b)], g.get p.1 ≠ none := by
  intro p hp
  simp only [List.mem_cons, List.not_mem_nil, or_false] at hp
  rcases hp with rfl | rfl | rfl <;> simp only
  · rw [jm]; simp
  · rw [jl]; simp
  · rw [jb]; simp
theorem OJ.step {o : Vm.Id → Option Blk} {a2 : AW} {n2 : List Int} {e : Int} {v : Spn} {g : Hp} {m : Nat} (jo : g.outer = o) (jc : g.get (.loc 0) = some (.cells true [.map (.loc 1)])) (jm : g.get (.loc 1) = some (.map (esW a2)))
    (jb : g.get (.loc 2) = some (.cells true [.gl (.loc m) 1 n2.length])) (jl : g.get (.loc m) = some (.flat true (n2.flatMap encI))) (jk : g.get (.loc 4) = some .mark) (hm : m = 3 ∨ 6 ≤ m) {b5 : Blk} (j5 : g.get (.loc 5) = some b5) :
    g.grows ((g.sets [(.loc 1, .map (esW (a2 ++ [(e, v)]))), (.loc m, .dead), (.loc 2, .cells true [.gl g.fresh 1 (n2.length + 1)])]).pushes [.flat true ((n2 ++ [e]).flatMap encI)]) ∧
    OJ o (a2 ++ [(e, v)]) (n2 ++ [e]) ((g.sets [(.loc 1, .map (esW (a2 ++ [(e, v)]))), (.loc m, .dead), (.loc 2, .cells true [.gl g.fresh 1 (n2.length + 1)])]).pushes [.flat true ((n2 ++ [e]).flatMap encI)]) ∧
    ∀ b, g.get (.loc 5) = some b → ((g.sets [(.loc 1, .map (esW (a2 ++ [(e, v)]))), (.loc m, .dead), (.loc 2, .cells true [.gl g.fresh 1 (n2.length + 1)])]).pushes [.flat true ((n2 ++ [e]).flatMap encI)]).get (.loc 5) = some b := by
  obtain ⟨go, gl⟩ := g
  simp only [Hp.get] at jc jm jb jl jk j5
  have l5 := (List.getElem?_eq_some_iff.1 j5).1
  have l0 := (List.getElem?_eq_some_iff.1 jc).1
  have l1 := (List.getElem?_eq_some_iff.1 jm).1
  have l2 := (List.getElem?_eq_some_iff.1 jb).1
  have l4 := (List.getElem?_eq_some_iff.1 jk).1
  have key : ∀ x, x < gl.length → x ≠ 1 → x ≠ m → x ≠ 2 → ∀ (A B C N : Blk), ((((gl.set 1 A).set m B).set 2 C) ++ [N])[x]? = gl[x]? := by
    intro x hx h1 h2 h3 A B C N
    rw [List.getElem?_append_left (by simpa using hx), List.getElem?_set_ne (Ne.symm h3), List.getElem?_set_ne (Ne.symm h2), List.getElem?_set_ne (Ne.symm h1)]
  refine ⟨Hp.grows_sets (updW_ok (g := ⟨go, gl⟩) jb jm jl), ⟨jo, ?_, ?_, ⟨gl.length, .inr (by omega), ?_, ?_⟩, ?_⟩, fun b hb => ?_⟩
  · show (_ ++ _)[_]? = _
    exact (key 0 l0 (by omega) (by omega) (by omega) _ _ _ _).trans jc
  · show ((((gl.set 1 _).set m _).set 2 _) ++ [_])[1]? = _
    rw [List.getElem?_append_left (by simpa using l1), List.getElem?_set_ne (show (2 : Nat) ≠ 1 by omega), List.getElem?_set_ne (show m ≠ 1 by omega), List.getElem?_set_self l1]
  · show ((((gl.set 1 _).set m _).set 2 _) ++ [_])[2]? = _
    rw [List.getElem?_append_left (by simpa using l2), List.getElem?_set_self (by simpa using l2)]
    simp [Hp.fresh]
  · show ((((gl.set 1 _).set m _).set 2 _) ++ [_])[gl.length]? = _
    rw [List.getElem?_append_right (by simp)]
    simp
  · show (_ ++ _)[_]? = _
    exact (key 4 l4 (by omega) (by omega) (by omega) _ _ _ _).trans jk
  · have hb : gl[5]? = some b := hb
    show (_ ++ _)[_]? = _
    exact (key 5 (List.getElem?_eq_some_iff.1 hb).1 (by omega) (by omega) (by omega) _ _ _ _).trans hb
theorem outer_fix {o : Vm.Id → Option Blk} {iy i1 i2 i3 : Vm.Id} {b0 b b1 b2 b3 : Blk} (h : o iy = some b) (n1 : iy ≠ i1) (n2 : iy ≠ i2) (n3 : iy ≠ i3) : outW (outW (outW (outW (outW o iy b0) i1 b1) i2 b2) i3 b3) iy b = outW (outW (outW o i1 b1) i2 b2) i3 b3 := by
  funext j
  unfold outW
  by_cases e : j = iy
  · subst e; rw [if_pos rfl, if_neg n3, if_neg n2, if_neg n1, h]
  · rw [if_neg e, if_neg e]
theorem cmpI_neg {x : Int} : cmpI x 0 < 0 ↔ x < 0 := by unfold cmpI; omega
theorem ahB_iff {l : Lnd} {a b : Int} : ahB l a b = true ↔ (wOf l b).lo * (wOf l a).hi - (wOf l b).hi * (wOf l a).lo < 0 := by
  unfold ahB fst2 wOf
  dsimp only
  rw [decide_eq_true_eq, Int.mul_comm (sAt l b.toNat).no, Int.mul_comm (sAt l b.toNat).so]
  omega
theorem vc_order (l : Lnd) (h : Hp) (o : Ok l) : VC Try.prog 53 [.fp (encN l)] h (ints (ordL l)) h := by
  have hn := o.n
  have hfl := selS_len (freeQ l) l.ss.length
  refine VC.body Try.func53 rfl Try.ntmps53 Try.call53 (h.grows_refl) rfl ?_; conv => whnf
  repeat' (first | (refine VLd.intro rfl ?_; conv => whnf) | (refine VArith.i64 (by first | omega | (dsimp only; omega)) ?_; conv => whnf) | (refine VNeed.intro (by first | rfl | (simp; omega) | (simp; done)) ?_; conv => whnf) | (refine VMem.store rfl rfl rfl rfl ?_; conv => whnf) | (refine VSame.intro rfl ?_; conv => whnf) | (refine VDraw.go [] (by kernel_rfl) (by kernel_rfl) ?_; conv => whnf) | (refine VIte.dec (fun _ => ?_) (fun _ => ?_) <;> conv => whnf) | (refine VIte.ndec (fun _ => ?_) (fun _ => ?_) <;> conv => whnf) | (refine VIte.beq (fun _ => ?_) (fun _ => ?_) <;> conv => whnf) | (refine VIte.bne (fun _ => ?_) (fun _ => ?_) <;> conv => whnf) | (refine VIte.intro (fun _ => ?_) (fun _ => ?_) <;> conv => whnf) | (refine VCall.intro (vc_free l _) ?_; conv => whnf))
  refine VCode.tell [(3, .ptr (.loc 2) 0), (4, .ptr (.loc 0) 0), (9, vFree l)] [.cells true [.map (.loc 1)], .map [], .cells true [.gl (.loc 3) 1 0], .flat true []] (marks' := []) ?_ ?_
  · conv => whnf
    refine Retell.turn ⟨[2, 1, 0, 3], 3, [], []⟩ (TurnOk.mk' _ _ [] [] (OutOk.lift _) rfl (by decide) (BTos.cells rfl rfl rfl (by repeat' (first | exact VTo.undef | exact FrTo.leaf | refine FrTo.node ?_ ?_ ?_ | refine FrTo.none ?_ ?_ | exact VTo.sc (by first | rfl | (congr 1; omega) | (congr 1; simp; omega)) | exact VTos_dv _ _ | refine VTos.cons ?_ ?_ | exact VTos.nil | refine VTo.agg ?_ | refine VTo.tuple ?_ | refine VTo.func ?_ ?_ | exact VTo.fs | exact VTo.fp | exact VTo.nilptr | exact VTo.nilslice | exact VTo.nilfunc | exact VTo.ptr rfl | exact VTo.gl rfl | exact VTo.map rfl | exact VTo.yld rfl | exact VTo.fmMap rfl | exact VTo.fm | exact VTo.glNil' (by decide) rfl rfl | exact VTo.fsNil (by decide) | exact VTo.fsSl rfl rfl (by simp [flat_len encE_len]) | exact VTo.fpPtr rfl | exact VTo.fsGl rfl (by first | rfl | exact flat_len encI_len _ | exact flat_len encT_len _ | exact flat_len encS_len _ | exact flat_len encP_len _ | exact flat_len encL_len _ | exact flat_len encE_len _ | (simp [flat_len encP_len]; done) | simp [flat_len encI_len, flat_len encS_len]))) (BTos.map rfl rfl (RowTo.nil _) (RowTo.nil _) (BTos.cells rfl rfl rfl (by repeat' (first | exact VTo.undef | exact FrTo.leaf | refine FrTo.node ?_ ?_ ?_ | refine FrTo.none ?_ ?_ | exact VTo.sc (by first | rfl | (congr 1; omega) | (congr 1; simp; omega)) | exact VTos_dv _ _ | refine VTos.cons ?_ ?_ | exact VTos.nil | refine VTo.agg ?_ | refine VTo.tuple ?_ | refine VTo.func ?_ ?_ | exact VTo.fs | exact VTo.fp | exact VTo.nilptr | exact VTo.nilslice | exact VTo.nilfunc | exact VTo.ptr rfl | exact VTo.gl rfl | exact VTo.map rfl | exact VTo.yld rfl | exact VTo.fmMap rfl | exact VTo.fm | exact VTo.glNil' (by decide) rfl rfl | exact VTo.fsNil (by decide) | exact VTo.fsSl rfl rfl (by simp [flat_len encE_len]) | exact VTo.fpPtr rfl | exact VTo.fsGl rfl (by first | rfl | exact flat_len encI_len _ | exact flat_len encT_len _ | exact flat_len encS_len _ | exact flat_len encP_len _ | exact flat_len encL_len _ | exact flat_len encE_len _ | (simp [flat_len encP_len]; done) | simp [flat_len encI_len, flat_len encS_len]))) (BTos.new rfl BTos.nil)))) trivial trivial rfl) (by repeat' (first | exact VTo.undef | exact FrTo.leaf | refine FrTo.node ?_ ?_ ?_ | refine FrTo.none ?_ ?_ | exact VTo.sc (by first | rfl | (congr 1; omega) | (congr 1; simp; omega)) | exact VTos_dv _ _ | refine VTos.cons ?_ ?_ | exact VTos.nil | refine VTo.agg ?_ | refine VTo.tuple ?_ | refine VTo.func ?_ ?_ | exact VTo.fs | exact VTo.fp | exact VTo.nilptr | exact VTo.nilslice | exact VTo.nilfunc | exact VTo.ptr rfl | exact VTo.gl rfl | exact VTo.map rfl | exact VTo.yld rfl | exact VTo.fmMap rfl | exact VTo.fm | exact VTo.glNil' (by decide) rfl rfl | exact VTo.fsNil (by decide) | exact VTo.fsSl rfl rfl (by simp [flat_len encE_len]) | exact VTo.fpPtr rfl | exact VTo.fsGl rfl (by first | rfl | exact flat_len encI_len _ | exact flat_len encT_len _ | exact flat_len encS_len _ | exact flat_len encP_len _ | exact flat_len encL_len _ | exact flat_len encE_len _ | (simp [flat_len encP_len]; done) | simp [flat_len encI_len, flat_len encS_len]))) (by first | rfl | (repeat' (first | exact MkTo.nil | refine MkTo.keep rfl ?_ | refine MkTo.drop (by decide) rfl ?_)))
  · conv => whnf
    refine VCode.iterN l.ss.length (frY l) (fun k g => OJ h.lift (wMap l k) (frL l k) g) (fun _ _ => False) _ (.loc 5) rfl (iter_free l o) rfl rfl ⟨rfl, rfl, rfl, ⟨3, .inl rfl, rfl, rfl⟩, rfl⟩ ?_ ?_ ?_ ?_
    · rintro k g hk hy hJ
      have hs : l.ss[k]? = some l.ss[k] := List.getElem?_eq_getElem hk
      rw [frY_eq hs] at hy
      have hf : freeQ l k = false := by
        unfold freeQ
        rw [sAt_eq hs]
        cases hf : isFree l.ss[k]
        · rfl
        · rw [hf] at hy; cases hy
      have e1 : frL l (k + 1) = frL l k := by unfold frL; rw [selS, if_neg (by rw [hf]; decide)]
      unfold wMap at hJ ⊢
      rw [e1]; exact hJ
    · rintro k g vs hk hy hJ hlp
      have hs : l.ss[k]? = some l.ss[k] := List.getElem?_eq_getElem hk
      rw [frY_eq hs] at hy
      have es := sAt_eq hs
      have q1 := o.ss _ (List.getElem_mem hk)
      generalize l.ss[k] = s at hs hy es q1
      cases hft : isFree s
      · rw [hft] at hy; cases hy
      · rw [hft] at hy
        cases hy
        have hf : freeQ l k = true := by unfold freeQ; rw [es, hft]
        have e1 : frL l (k + 1) = frL l k ++ [(k : Int)] := by unfold frL; rw [selS, if_pos hf]
        have e2 : wMap l (k + 1) = wMap l k ++ [((k : Int), ⟨s.no, s.so⟩)] := by
          unfold wMap; rw [e1, List.map_append, List.map_cons, List.map_nil]; unfold wOf; rw [Int.toNat_natCast, es]
        have hh := wMap_has (l := l) (k := k)
        have hnl := selS_len (freeQ l) k
        have e3 : frL l k = selS (freeQ l) k := rfl
        rw [← e3] at hnl
        rw [e1, e2]
        generalize wMap l k = a2 at hJ hh
        generalize frL l k = n2 at hJ hnl
        obtain ⟨jo, jc, jm, ⟨m, hm, jb, jl⟩, jk⟩ := hJ
        have hm1 : Vm.Id.loc m ≠ .loc 1 := by intro h0; injection h0; omega
        have hm2 : Vm.Id.loc 2 ≠ .loc m := by intro h0; injection h0; omega
        have hm5 : Vm.Id.loc m ≠ .loc 5 := by intro h0; injection h0; omega
        have hm5' : Vm.Id.loc 5 ≠ .loc m := fun h0 => hm5 h0.symm
        obtain ⟨s1, s2, s3⟩ := OJ.step (e := (k : Int)) (v := ⟨s.no, s.so⟩) jo jc jm jb jl jk hm hlp
        refine Rnd.go hlp _ (s3 _ hlp) ?_ s2
        refine VRound.vy' hlp rfl rfl rfl s1 fun l0 => ?_
        refine VRound.tell [(3, .ptr (.out (.loc 2)) 0), (4, .ptr (.out (.loc 0)) 0), (10, I k), (11, aggT s)] ?_ ?_
        · conv => whnf
          refine Retell.turn ⟨[], 0, [], []⟩ (TurnOk.mk' _ _ [] [] (OutOk.lift _) rfl (by decide) (by repeat' (first | exact BTos.nil | refine BTos.flat rfl rfl (by first | rfl | simp) ?_ | refine BTos.new rfl ?_ | refine BTos.dead rfl rfl ?_ | refine BTos.esE rfl rfl ?_ | refine BTos.row rfl rfl rfl (RowTo.snoc (RowTo.one rfl (by simp))) ?_ | refine BTos.cells rfl rfl rfl (by repeat' (first | exact VTo.undef | exact FrTo.leaf | refine FrTo.node ?_ ?_ ?_ | refine FrTo.none ?_ ?_ | exact VTo.sc (by first | rfl | (congr 1; omega) | (congr 1; simp; omega)) | exact VTos_dv _ _ | refine VTos.cons ?_ ?_ | exact VTos.nil | refine VTo.agg ?_ | refine VTo.tuple ?_ | refine VTo.func ?_ ?_ | exact VTo.fs | exact VTo.fp | exact VTo.nilptr | exact VTo.nilslice | exact VTo.nilfunc | exact VTo.ptr rfl | exact VTo.gl rfl | exact VTo.map rfl | exact VTo.yld rfl | exact VTo.fmMap rfl | exact VTo.fm | exact VTo.glNil' (by decide) rfl rfl | exact VTo.fsNil (by decide) | exact VTo.fsSl rfl rfl (by simp [flat_len encE_len]) | exact VTo.fpPtr rfl | exact VTo.fsGl rfl (by first | rfl | exact flat_len encI_len _ | exact flat_len encT_len _ | exact flat_len encS_len _ | exact flat_len encP_len _ | exact flat_len encL_len _ | exact flat_len encE_len _ | (simp [flat_len encP_len]; done) | simp [flat_len encI_len, flat_len encS_len]))) ?_)) trivial trivial rfl) (by repeat' (first | exact VTo.undef | exact FrTo.leaf | refine FrTo.node ?_ ?_ ?_ | refine FrTo.none ?_ ?_ | exact VTo.sc (by first | rfl | (congr 1; omega) | (congr 1; simp; omega)) | exact VTos_dv _ _ | refine VTos.cons ?_ ?_ | exact VTos.nil | refine VTo.agg ?_ | refine VTo.tuple ?_ | refine VTo.func ?_ ?_ | exact VTo.fs | exact VTo.fp | exact VTo.nilptr | exact VTo.nilslice | exact VTo.nilfunc | exact VTo.ptr rfl | exact VTo.gl rfl | exact VTo.map rfl | exact VTo.yld rfl | exact VTo.fmMap rfl | exact VTo.fm | exact VTo.glNil' (by decide) rfl rfl | exact VTo.fsNil (by decide) | exact VTo.fsSl rfl rfl (by simp [flat_len encE_len]) | exact VTo.fpPtr rfl | exact VTo.fsGl rfl (by first | rfl | exact flat_len encI_len _ | exact flat_len encT_len _ | exact flat_len encS_len _ | exact flat_len encP_len _ | exact flat_len encL_len _ | exact flat_len encE_len _ | (simp [flat_len encP_len]; done) | simp [flat_len encI_len, flat_len encS_len]))) (by first | rfl | (repeat' (first | exact MkTo.nil | refine MkTo.keep rfl ?_ | refine MkTo.drop (by decide) rfl ?_)))
        · conv => whnf
          repeat (first | (refine VLd.intro rfl ?_; conv => whnf) | (refine VArith.i64 (by first | omega | (dsimp only; omega)) ?_; conv => whnf) | (refine VNeed.intro (by first | rfl | (simp; omega) | (simp; done)) ?_; conv => whnf) | (refine VMem.store rfl rfl rfl rfl ?_; conv => whnf) | (refine VSame.intro rfl ?_; conv => whnf) | (refine VDraw.go [] (by kernel_rfl) (by kernel_rfl) ?_; conv => whnf))
          refine VBegin.intro (get_out hlp _) rfl ?_
          conv => whnf
          refine VDraw.go [(0, 3)] (by kernel_rfl) (by kernel_rfl) ?_
          conv => whnf
          refine VLd.cell rfl rfl (get_setO (by decide) jc _) rfl ?_
          conv => whnf
          repeat' (first | (refine VLd.intro rfl ?_; conv => whnf) | (refine VArith.i64 (by first | omega | (dsimp only; omega)) ?_; conv => whnf) | (refine VNeed.intro (by first | rfl | (simp; omega) | (simp; done)) ?_; conv => whnf) | (refine VMem.store rfl rfl rfl rfl ?_; conv => whnf) | (refine VSame.intro rfl ?_; conv => whnf) | (refine VIte.dec (fun _ => ?_) (fun _ => ?_) <;> conv => whnf) | (refine VIte.ndec (fun _ => ?_) (fun _ => ?_) <;> conv => whnf) | (refine VIte.beq (fun _ => ?_) (fun _ => ?_) <;> conv => whnf) | (refine VIte.bne (fun _ => ?_) (fun _ => ?_) <;> conv => whnf) | (refine VIte.intro (fun _ => ?_) (fun _ => ?_) <;> conv => whnf) | (refine VCall.intro (vc_worth s _) ?_; conv => whnf))
          refine VMem.newW (a := a2) (e := (k : Int)) (v := ⟨s.no, s.so⟩) ((get_setO (by decide) jm _).trans (by rw [esW_ren])) hh ?_
          conv => whnf
          repeat' (first | (refine VLd.intro rfl ?_; conv => whnf) | (refine VArith.i64 (by first | omega | (dsimp only; omega)) ?_; conv => whnf) | (refine VNeed.intro (by first | rfl | (simp; omega) | (simp; done)) ?_; conv => whnf) | (refine VMem.store rfl rfl rfl rfl ?_; conv => whnf) | (refine VSame.intro rfl ?_; conv => whnf) | (refine VIte.dec (fun _ => ?_) (fun _ => ?_) <;> conv => whnf) | (refine VIte.ndec (fun _ => ?_) (fun _ => ?_) <;> conv => whnf) | (refine VIte.beq (fun _ => ?_) (fun _ => ?_) <;> conv => whnf) | (refine VIte.bne (fun _ => ?_) (fun _ => ?_) <;> conv => whnf) | (refine VIte.intro (fun _ => ?_) (fun _ => ?_) <;> conv => whnf))
          refine VLd.cell rfl rfl (get_outNe (by decide) (get_setO (by decide) jb _)) rfl ?_
          conv => whnf
          repeat (first | (refine VLd.intro rfl ?_; conv => whnf) | (refine VArith.i64 (by first | omega | (dsimp only; omega)) ?_; conv => whnf) | (refine VNeed.intro (by first | rfl | (simp; omega) | (simp; done)) ?_; conv => whnf) | (refine VMem.store rfl rfl rfl rfl ?_; conv => whnf) | (refine VSame.intro rfl ?_; conv => whnf) | (refine VDraw.go [] (by kernel_rfl) (by kernel_rfl) ?_; conv => whnf))
          refine VMem.app1B (α := Int) (l := n2) (k : Int) encI_len rfl (get_outNe hm1 (get_setO hm5 jl _)) rfl rfl rfl (by omega) ?_
          conv => whnf
          repeat (first | (refine VLd.intro rfl ?_; conv => whnf) | (refine VArith.i64 (by first | omega | (dsimp only; omega)) ?_; conv => whnf) | (refine VNeed.intro (by first | rfl | (simp; omega) | (simp; done)) ?_; conv => whnf) | (refine VMem.store rfl rfl rfl rfl ?_; conv => whnf) | (refine VSame.intro rfl ?_; conv => whnf) | (refine VDraw.go [] (by kernel_rfl) (by kernel_rfl) ?_; conv => whnf))
          refine VMem.st1 rfl rfl rfl (b := .cells true [.gl (.out (.loc m)) 1 n2.length]) (get_outNe hm2 (get_outNe (by decide) (get_setO (by decide) jb _))) rfl ?_
          conv => whnf
          refine RFin.on (get_outNe (by decide) (get_outNe hm5' (get_outNe (by decide) (outW_get _ _ _ _)))) ?_
          refine VOut.upd [(.loc 1, .map (esW (a2 ++ [((k : Int), ⟨s.no, s.so⟩)]))), (.loc m, .dead), (.loc 2, .cells true [.gl g.fresh 1 (n2.length + 1)])] [.flat true ((n2 ++ ([(k : Int)] : List Int)).flatMap encI)] [2] 3 ?_ (updW_ok jb jm jl) ?_ ?_ ?_ ?_ ?_
          · rfl
          · decide
          · rfl
          · intro k b hk
            cases k with
            | zero => rw [List.getElem?_cons_zero, Option.some.injEq] at hk; subst hk; exact ⟨2, rfl, rfl⟩
            | succ k => simp at hk
          · intro σ x hx; exact hx
          · have e1 : (Blk.cells true [V.gl g.fresh 1 (n2.length + 1)]).ren (backR g.loc.length [2] 3) = .cells true [.gl (.loc 2) 1 (n2.length + 1)] := by simp [Blk.ren, V.ren, backR, Hp.fresh]
            simp only [List.map_cons, List.map_nil, e1, esW_ren]
            exact outer_fix (get_out hlp []) (by decide) hm5' (by decide)
    · rintro g hJ hlp
      have hs := fun (i : Vm.Id) (h : Hp) hh => vc_sort (frL l l.ss.length) (ahB l) (fun a b => cmpI ((wOf l b).lo * (wOf l a).hi - (wOf l b).hi * (wOf l a).lo) 0) 84 [.pt [.mp (keysW (wMap l l.ss.length)) (valsW (wMap l l.ss.length))]] i h hh (by show (selS _ _).length ≤ 19; omega)
        (fun a b ha hb => ⟨fun h => vc_cmp l o a b h ha hb, (cmpI_neg (x := (wOf l b).lo * (wOf l a).hi - (wOf l b).hi * (wOf l a).lo)).trans ahB_iff.symm⟩)
      have hol : (ordL l).length = (frL l l.ss.length).length := isrt_len _ _
      have e : isrt (ahB l) (frL l l.ss.length) = ordL l := rfl
      rw [e] at hs
      generalize wMap l l.ss.length = a2 at hJ hs
      generalize frL l l.ss.length = n2 at hJ hs hol
      obtain ⟨go, gl⟩ := g
      obtain ⟨jo, jc, jm, ⟨m, hm, jb, jl⟩, jk⟩ := hJ
      dsimp only at jo
      subst jo
      simp only [Hp.get] at jc jm jb jl jk
      have l0 := (List.getElem?_eq_some_iff.1 jc).1
      have l1 := (List.getElem?_eq_some_iff.1 jm).1
      have l2 := (List.getElem?_eq_some_iff.1 jb).1
      have lm := (List.getElem?_eq_some_iff.1 jl).1
      have key : ∀ (x : Nat) (A : Blk), x ≠ 5 → (gl.set 5 A)[x]? = gl[x]? := fun x A hx => List.getElem?_set_ne (Ne.symm hx)
      refine Told.mk [(3, .ptr (.loc 0) 0), (4, .fp [.mp (keysW a2) (valsW a2)])] [.cells true [.gl (.loc 1) 1 n2.length], .flat true (n2.flatMap encI)] (marks' := []) ?_ ?_
      · conv => whnf
        have hmn : ([2, m] : List Nat).Nodup := by simp; omega
        have hm4 : 4 ∉ ([2, m] : List Nat) := by simp; omega
        have ho : outsOk [(0, [D.mp (keysW a2) (valsW a2)])] [(1, keysW a2, valsW a2)] [2, m] [.cells true [.gl (.loc 1) 1 n2.length], .flat true (n2.flatMap encI)] = true := by
          have h9 : ∀ m' : Nat, outsOk [(0, [D.mp (keysW a2) (valsW a2)])] [(1, keysW a2, valsW a2)] [2, m' + 2] [.cells true [.gl (.loc 1) 1 n2.length], .flat true (n2.flatMap encI)] = true := fun _ => rfl
          have := h9 (m - 2)
          rw [show m - 2 + 2 = m by omega] at this
          exact this
        refine Retell.turn ⟨[2, m], gl.length, [(0, [.mp (keysW a2) (valsW a2)])], [(1, keysW a2, valsW a2)]⟩ (TurnOk.mk' _ _ [(0, [.mp (keysW a2) (valsW a2)])] [(1, keysW a2, valsW a2)] (OutOk.lift _) (Nat.ble_eq_true_of_le (by simp)) hmn
          (BTos.cells (blt_of l2) ((key 2 _ (by omega)).trans jb) rfl (by repeat' (first | exact VTo.undef | exact FrTo.leaf | refine FrTo.node ?_ ?_ ?_ | refine FrTo.none ?_ ?_ | exact VTo.sc (by first | rfl | (congr 1; omega) | (congr 1; simp; omega)) | exact VTos_dv _ _ | refine VTos.cons ?_ ?_ | exact VTos.nil | refine VTo.agg ?_ | refine VTo.tuple ?_ | refine VTo.func ?_ ?_ | exact VTo.fs | exact VTo.fp | exact VTo.nilptr | exact VTo.nilslice | exact VTo.nilfunc | exact VTo.ptr rfl | exact VTo.gl rfl | exact VTo.map rfl | exact VTo.yld rfl | exact VTo.fmMap rfl | exact VTo.fm | exact VTo.glNil' (by decide) rfl rfl | exact VTo.fsNil (by decide) | exact VTo.fsSl rfl rfl (by simp [flat_len encE_len]) | exact VTo.fpPtr rfl | exact VTo.fsGl rfl (by first | rfl | exact flat_len encI_len _ | exact flat_len encT_len _ | exact flat_len encS_len _ | exact flat_len encP_len _ | exact flat_len encL_len _ | exact flat_len encE_len _ | (simp [flat_len encP_len]; done) | simp [flat_len encI_len, flat_len encS_len]))) (BTos.flat (blt_of lm) ((key m _ (by omega)).trans jl) rfl BTos.nil))
          (FzAll.row ((key 0 _ (by omega)).trans jc) rfl (RowTo.vtos (VTos.cons (VTo.fmMap rfl) VTos.nil)) FzAll.nil) ⟨⟨esW a2, ((key 1 _ (by omega)).trans jm), EsTo.esW a2⟩, trivial⟩ ho) (by repeat' (first | exact VTo.undef | exact FrTo.leaf | refine FrTo.node ?_ ?_ ?_ | refine FrTo.none ?_ ?_ | exact VTo.sc (by first | rfl | (congr 1; omega) | (congr 1; simp; omega)) | exact VTos_dv _ _ | refine VTos.cons ?_ ?_ | exact VTos.nil | refine VTo.agg ?_ | refine VTo.tuple ?_ | refine VTo.func ?_ ?_ | exact VTo.fs | exact VTo.fp | exact VTo.nilptr | exact VTo.nilslice | exact VTo.nilfunc | exact VTo.ptr rfl | exact VTo.gl rfl | exact VTo.map rfl | exact VTo.yld rfl | exact VTo.fmMap rfl | exact VTo.fm | exact VTo.glNil' (by decide) rfl rfl | exact VTo.fsNil (by decide) | exact VTo.fsSl rfl rfl (by simp [flat_len encE_len]) | exact VTo.fpPtr rfl | exact VTo.fsGl rfl (by first | rfl | exact flat_len encI_len _ | exact flat_len encT_len _ | exact flat_len encS_len _ | exact flat_len encP_len _ | exact flat_len encL_len _ | exact flat_len encE_len _ | (simp [flat_len encP_len]; done) | simp [flat_len encI_len, flat_len encS_len])))
          (MkTo.drop hm4 ((key 4 _ (by omega)).trans jk) MkTo.nil)
      · conv => whnf
        repeat' (first | (refine VLd.intro rfl ?_; conv => whnf) | (refine VArith.i64 (by first | omega | (dsimp only; omega)) ?_; conv => whnf) | (refine VNeed.intro (by first | rfl | (simp; omega) | (simp; done)) ?_; conv => whnf) | (refine VMem.store rfl rfl rfl rfl ?_; conv => whnf) | (refine VSame.intro rfl ?_; conv => whnf) | (refine VIte.dec (fun _ => ?_) (fun _ => ?_) <;> conv => whnf) | (refine VIte.ndec (fun _ => ?_) (fun _ => ?_) <;> conv => whnf) | (refine VIte.beq (fun _ => ?_) (fun _ => ?_) <;> conv => whnf) | (refine VIte.bne (fun _ => ?_) (fun _ => ?_) <;> conv => whnf) | (refine VIte.intro (fun _ => ?_) (fun _ => ?_) <;> conv => whnf) | (refine VCall.intro (hs _ _ rfl) ?_; conv => whnf))
        rw [← hol]
        refine VOut.data 2 [(1, (ordL l).flatMap encI)] [] rfl (by repeat' (first | exact FzAll.nil | refine FzAll.flat rfl ?_ | refine FzAll.row rfl rfl (RowTo.one rfl (by simp)) ?_)) (by exact FmAll.nil) (by repeat' (first | exact VTo.undef | exact FrTo.leaf | refine FrTo.node ?_ ?_ ?_ | refine FrTo.none ?_ ?_ | exact VTo.sc (by first | rfl | (congr 1; omega) | (congr 1; simp; omega)) | exact VTos_dv _ _ | refine VTos.cons ?_ ?_ | exact VTos.nil | refine VTo.agg ?_ | refine VTo.tuple ?_ | refine VTo.func ?_ ?_ | exact VTo.fs | exact VTo.fp | exact VTo.nilptr | exact VTo.nilslice | exact VTo.nilfunc | exact VTo.ptr rfl | exact VTo.gl rfl | exact VTo.map rfl | exact VTo.yld rfl | exact VTo.fmMap rfl | exact VTo.fm | exact VTo.glNil' (by decide) rfl rfl | exact VTo.fsNil (by decide) | exact VTo.fsSl rfl rfl (by simp [flat_len encE_len]) | exact VTo.fpPtr rfl | exact VTo.fsGl rfl (by first | rfl | exact flat_len encI_len _ | exact flat_len encT_len _ | exact flat_len encS_len _ | exact flat_len encP_len _ | exact flat_len encL_len _ | exact flat_len encE_len _ | (simp [flat_len encP_len]; done) | simp [flat_len encI_len, flat_len encS_len])))
    · rintro e g _ hF
      exact hF.elim
end Go.Proofs.Ytmpjpjfkbmlmfaa

open Go.Vm
namespace Go.Vm

theorem flatI (l : List Int) : l.flatMap encI = l.map DI := by
  induction l with
  | nil => rfl
  | cons a l ih => rw [List.flatMap_cons, ih]; rfl
/-- Elements behind a place move on by one. -/
theorem VMem.shift {P : Program} {t ty : TypeId} {e bytes : Nat} {zero : List V} {s_ : Nat} {a_ : Bool} {z_ : V} {h : Hp} {i : Id} {out : List Int} {z : Int} {at_ o1 o2 n1 n2 : Nat} {K : V → Hp → Prop} (hTt : tiOf P t = some ⟨.slice e 1 bytes zero, s_, a_, z_⟩)
    (hb : h.get i = some (.flat true ((out ++ [z]).flatMap encI))) (ha : at_ ≤ out.length) (h1 : o1 = at_ + 1) (h2 : n1 = out.length - at_) (h3 : o2 = at_) (h4 : n2 = out.length + 1 - at_)
    (hK : K (.s (.int .i64 (out.length - at_ : Nat))) (h.set i (.flat true (((out ++ [z]).take (at_ + 1) ++ out.drop at_).flatMap encI)))) : VMem P (opCopy #[t, t] ty) [.slice i o1 1 n1 none, .slice i o2 1 n2 none] h K := by
  subst h1 h2 h3 h4
  refine VMem.intro (does_copy (n := out.length + 1 - o2) (m := out.length - o2) (news := (((out ++ [z]).drop o2).map DI).map D.v) (l := ((out ++ [z]).flatMap encI).map D.v) (tiOf_ok P) hTt hb rfl ?_ ?_ (by omega) ?_) hK
  · simp only [SegOf]
    refine ⟨trivial, trivial, _, true, _, hb, rfl, by rw [List.length_map, flat_len encI_len, List.length_append, List.length_singleton]; omega, ?_⟩
    rw [flatI, ← List.map_drop, ← List.map_drop, List.take_of_length_le (by simp)]
  · rw [List.length_map, flat_len encI_len]; simp; omega
  · have e1 : ((((out ++ [z]).drop o2).map DI).map D.v).take ((out.length - o2) * 1) = ((out.drop o2).map DI).map D.v := by
      rw [Nat.mul_one, ← List.map_take, ← List.map_take, List.drop_append_of_le_length ha, List.take_append_of_le_length (by simp), List.take_of_length_le (by simp)]
    have e2 : (((out ++ [z]).flatMap encI).map D.v).drop (o2 + 1 + (out.length - o2) * 1) = [] := List.drop_of_length_le (by rw [List.length_map, flat_len encI_len]; simp; omega)
    rw [e1, e2, List.append_nil]
    simp only [Blk.row, flatI, List.map_append, List.map_take]
end Go.Vm
namespace Go.Proofs.Ytmpjpjfkbmlmfaa
set_option maxRecDepth 20000
set_option maxHeartbeats 4000000
/-- The order of the reference: each one is put behind those that come ahead of it. -/
def roS (l : Lnd) : Nat → List Int
  | 0 => []
  | k + 1 => bif freeQ l k then insS (fun y => ahB l k y) (roS l k) k else roS l k
theorem insS_set {q : Int → Bool} {out : List Int} {x z : Int} : (((out ++ [z]).take (posS q out out.length + 1) ++ out.drop (posS q out out.length))).set (posS q out out.length) x = insS q out x := by
  have hp := posS_le q out out.length
  unfold insS
  generalize posS q out out.length = p at hp
  have h1 : ((out ++ [z]).take (p + 1)).length = p + 1 := by simp; omega
  have hLp : p < (out ++ [z]).length := by simp; omega
  have hL : (out ++ [z])[p]? = some (out ++ [z])[p] := List.getElem?_eq_getElem hLp
  have h2 : ((out ++ [z]).take p).length = p := by simp; omega
  rw [List.set_append_left _ _ (by omega), List.take_add_one, hL, Option.toList, List.set_append_right _ _ (by omega), h2, Nat.sub_self, List.set_cons_zero, List.append_assoc, List.singleton_append, List.take_append_of_le_length hp]
theorem isGo_app (q : Int → Int → Bool) (l : List Int) (x : Int) : ∀ m, m ≤ l.length → isGo q (l ++ [x]) m = isGo q l m
  | 0, _ => rfl
  | m + 1, h => by
    have e : (l ++ [x]).getD m 0 = l.getD m 0 := by rw [List.getD_eq_getElem?_getD, List.getD_eq_getElem?_getD, List.getElem?_append_left (by omega)]
    rw [isGo, isGo, e, isGo_app q l x m (by omega)]
/-- It is the same order. -/
theorem roS_eq (l : Lnd) : ∀ k, roS l k = isrt (ahB l) (frL l k)
  | 0 => rfl
  | k + 1 => by
    rw [roS, roS_eq l k]
    have e : frL l (k + 1) = if freeQ l k then frL l k ++ [(k : Int)] else frL l k := rfl
    rw [e]
    cases freeQ l k
    · rfl
    · rw [cond_true, if_pos rfl]
      unfold isrt
      rw [List.length_append, List.length_singleton, isGo, isGo_app _ _ _ _ (Nat.le_refl _)]
      have : (frL l k ++ [(k : Int)]).getD (frL l k).length 0 = (k : Int) := by rw [List.getD_eq_getElem?_getD, List.getElem?_append_right (Nat.le_refl _), Nat.sub_self]; rfl
      rw [this]
theorem roS_len (l : Lnd) (k : Nat) : (roS l k).length ≤ k := by rw [roS_eq, isrt_len]; exact selS_len _ _
theorem roS_mem {l : Lnd} {k : Nat} {y : Int} (h : y ∈ roS l k) : ∃ j : Nat, j < k ∧ y = j ∧ freeQ l j = true := by
  rw [roS_eq] at h
  exact mem_selS.1 (isGo_mem (Nat.le_refl _) y h)
theorem vc_rorder (l : Lnd) (h : Hp) (o : Ok l) : VC Try.prog 54 [vL l] h (ints (ordL l)) h := by
  have hn := o.n
  have hend : roS l l.ss.length = ordL l := roS_eq l _
  refine VC.body Try.func54 rfl Try.ntmps54 Try.call54 (h.grows_refl) rfl ?_; conv => whnf
  repeat (first | (refine VLd.intro rfl ?_; conv => whnf) | (refine VArith.i64 (by first | omega | (dsimp only; omega)) ?_; conv => whnf) | (refine VNeed.intro (by first | rfl | (simp; omega) | (simp; done)) ?_; conv => whnf) | (refine VMem.store rfl rfl rfl rfl ?_; conv => whnf) | (refine VSame.intro rfl ?_; conv => whnf) | (refine VDraw.go [] (by kernel_rfl) (by kernel_rfl) ?_; conv => whnf))
  refine VCode.lp (fun x : Nat × List Int => [(1, .ptr (.loc 0) 0), (3, .gl (.loc 1) 1 x.2.length), (4, I x.1)]) (fun x => [.flat true (encN l), .flat true (x.2.flatMap encI)]) (fun x => x.1 ≤ l.ss.length ∧ x.2 = roS l x.1) (fun x => l.ss.length - x.1) (0, []) ⟨Nat.zero_le _, rfl⟩ ?_ ?_
  · conv => whnf
    refine Retell.turn ⟨[0,1], 1, [], []⟩ (TurnOk.mk' _ _ [] [] (OutOk.lift _) rfl (by decide) (by repeat' (first | exact BTos.nil | refine BTos.flat rfl rfl (by first | rfl | simp) ?_ | refine BTos.new rfl ?_ | refine BTos.dead rfl rfl ?_ | refine BTos.esE rfl rfl ?_ | refine BTos.row rfl rfl rfl (RowTo.snoc (RowTo.one rfl (by simp))) ?_ | refine BTos.cells rfl rfl rfl (by repeat' (first | exact VTo.undef | exact FrTo.leaf | refine FrTo.node ?_ ?_ ?_ | refine FrTo.none ?_ ?_ | exact VTo.sc (by first | rfl | (congr 1; omega) | (congr 1; simp; omega)) | exact VTos_dv _ _ | refine VTos.cons ?_ ?_ | exact VTos.nil | refine VTo.agg ?_ | refine VTo.tuple ?_ | refine VTo.func ?_ ?_ | exact VTo.fs | exact VTo.fp | exact VTo.nilptr | exact VTo.nilslice | exact VTo.nilfunc | exact VTo.ptr rfl | exact VTo.gl rfl | exact VTo.map rfl | exact VTo.yld rfl | exact VTo.fmMap rfl | exact VTo.fm | exact VTo.glNil' (by decide) rfl rfl | exact VTo.fsNil (by decide) | exact VTo.fsSl rfl rfl (by simp [flat_len encE_len]) | exact VTo.fpPtr rfl | exact VTo.fsGl rfl (by first | rfl | exact flat_len encI_len _ | exact flat_len encT_len _ | exact flat_len encS_len _ | exact flat_len encP_len _ | exact flat_len encL_len _ | exact flat_len encE_len _ | (simp [flat_len encP_len]; done) | simp [flat_len encI_len, flat_len encS_len]))) ?_)) trivial trivial rfl) (by repeat' (first | exact VTo.undef | exact FrTo.leaf | refine FrTo.node ?_ ?_ ?_ | refine FrTo.none ?_ ?_ | exact VTo.sc (by first | rfl | (congr 1; omega) | (congr 1; simp; omega)) | exact VTos_dv _ _ | refine VTos.cons ?_ ?_ | exact VTos.nil | refine VTo.agg ?_ | refine VTo.tuple ?_ | refine VTo.func ?_ ?_ | exact VTo.fs | exact VTo.fp | exact VTo.nilptr | exact VTo.nilslice | exact VTo.nilfunc | exact VTo.ptr rfl | exact VTo.gl rfl | exact VTo.map rfl | exact VTo.yld rfl | exact VTo.fmMap rfl | exact VTo.fm | exact VTo.glNil' (by decide) rfl rfl | exact VTo.fsNil (by decide) | exact VTo.fsSl rfl rfl (by simp [flat_len encE_len]) | exact VTo.fpPtr rfl | exact VTo.fsGl rfl (by first | rfl | exact flat_len encI_len _ | exact flat_len encT_len _ | exact flat_len encS_len _ | exact flat_len encP_len _ | exact flat_len encL_len _ | exact flat_len encE_len _ | (simp [flat_len encP_len]; done) | simp [flat_len encI_len, flat_len encS_len]))) (by first | rfl | (repeat' (first | exact MkTo.nil | refine MkTo.keep rfl ?_ | refine MkTo.drop (by decide) rfl ?_)))
  · rintro ⟨k, out⟩ ⟨hk, hw⟩
    dsimp only at hk hw
    have hol : out.length ≤ k := by rw [hw]; exact roS_len l k
    have hom := fun y (hy : y ∈ out) => roS_mem (l := l) (k := k) (y := y) (by rw [← hw]; exact hy)
    conv => whnf
    repeat (first | (refine VLd.intro rfl ?_; conv => whnf) | (refine VArith.i64 (by first | omega | (dsimp only; omega)) ?_; conv => whnf) | (refine VNeed.intro (by first | rfl | (simp; omega) | (simp; done)) ?_; conv => whnf) | (refine VMem.store rfl rfl rfl rfl ?_; conv => whnf) | (refine VSame.intro rfl ?_; conv => whnf) | (refine VDraw.go [] (by kernel_rfl) (by kernel_rfl) ?_; conv => whnf))
    refine VIte.dec (fun h3 => ?_) (fun h3 => ?_)
    · have hs : l.ss[k]? = some l.ss[k] := List.getElem?_eq_getElem (by omega)
      have q1 := o.ss _ (List.getElem_mem (by omega : k < l.ss.length))
      have es := sAt_eq hs
      have hnx : roS l (k + 1) = bif freeQ l k then insS (fun y => ahB l k y) out k else out := by rw [roS, ← hw]
      have hfq : freeQ l k = decide (l.ss[k].we = -1) := by unfold freeQ; rw [es]; rfl
      generalize l.ss[k] = s at hs q1 es hfq
      conv => whnf
      repeat' (first | (refine VLd.intro rfl ?_; conv => whnf) | (refine VArith.i64 (by first | omega | (dsimp only; omega)) ?_; conv => whnf) | (refine VNeed.intro (by first | rfl | (simp; omega) | (simp; done)) ?_; conv => whnf) | (refine VMem.store rfl rfl rfl rfl ?_; conv => whnf) | (refine VSame.intro rfl ?_; conv => whnf) | (refine VIte.dec (fun _ => ?_) (fun _ => ?_) <;> conv => whnf) | (refine VIte.ndec (fun _ => ?_) (fun _ => ?_) <;> conv => whnf) | (refine VIte.beq (fun _ => ?_) (fun _ => ?_) <;> conv => whnf) | (refine VIte.bne (fun _ => ?_) (fun _ => ?_) <;> conv => whnf) | (refine VIte.intro (fun _ => ?_) (fun _ => ?_) <;> conv => whnf) | (refine VAny.ix encT_len k rfl rfl hs ?_; conv => whnf))
      · rename_i hwe
        rw [hfq, decide_eq_false (by omega), cond_false] at hnx
        refine LEnd.intro (k + 1, out) ⟨by dsimp only; omega, hnx.symm⟩ (by dsimp only; omega) ?_
        conv => whnf
        refine Retell.turn ⟨[0,1], 2, [], []⟩ (TurnOk.mk' _ _ [] [] (OutOk.lift _) rfl (by decide) (by repeat' (first | exact BTos.nil | refine BTos.flat rfl rfl (by first | rfl | simp) ?_ | refine BTos.new rfl ?_ | refine BTos.dead rfl rfl ?_ | refine BTos.esE rfl rfl ?_ | refine BTos.row rfl rfl rfl (RowTo.snoc (RowTo.one rfl (by simp))) ?_ | refine BTos.cells rfl rfl rfl (by repeat' (first | exact VTo.undef | exact FrTo.leaf | refine FrTo.node ?_ ?_ ?_ | refine FrTo.none ?_ ?_ | exact VTo.sc (by first | rfl | (congr 1; omega) | (congr 1; simp; omega)) | exact VTos_dv _ _ | refine VTos.cons ?_ ?_ | exact VTos.nil | refine VTo.agg ?_ | refine VTo.tuple ?_ | refine VTo.func ?_ ?_ | exact VTo.fs | exact VTo.fp | exact VTo.nilptr | exact VTo.nilslice | exact VTo.nilfunc | exact VTo.ptr rfl | exact VTo.gl rfl | exact VTo.map rfl | exact VTo.yld rfl | exact VTo.fmMap rfl | exact VTo.fm | exact VTo.glNil' (by decide) rfl rfl | exact VTo.fsNil (by decide) | exact VTo.fsSl rfl rfl (by simp [flat_len encE_len]) | exact VTo.fpPtr rfl | exact VTo.fsGl rfl (by first | rfl | exact flat_len encI_len _ | exact flat_len encT_len _ | exact flat_len encS_len _ | exact flat_len encP_len _ | exact flat_len encL_len _ | exact flat_len encE_len _ | (simp [flat_len encP_len]; done) | simp [flat_len encI_len, flat_len encS_len]))) ?_)) trivial trivial rfl) (by repeat' (first | exact VTo.undef | exact FrTo.leaf | refine FrTo.node ?_ ?_ ?_ | refine FrTo.none ?_ ?_ | exact VTo.sc (by first | rfl | (congr 1; omega) | (congr 1; simp; omega)) | exact VTos_dv _ _ | refine VTos.cons ?_ ?_ | exact VTos.nil | refine VTo.agg ?_ | refine VTo.tuple ?_ | refine VTo.func ?_ ?_ | exact VTo.fs | exact VTo.fp | exact VTo.nilptr | exact VTo.nilslice | exact VTo.nilfunc | exact VTo.ptr rfl | exact VTo.gl rfl | exact VTo.map rfl | exact VTo.yld rfl | exact VTo.fmMap rfl | exact VTo.fm | exact VTo.glNil' (by decide) rfl rfl | exact VTo.fsNil (by decide) | exact VTo.fsSl rfl rfl (by simp [flat_len encE_len]) | exact VTo.fpPtr rfl | exact VTo.fsGl rfl (by first | rfl | exact flat_len encI_len _ | exact flat_len encT_len _ | exact flat_len encS_len _ | exact flat_len encP_len _ | exact flat_len encL_len _ | exact flat_len encE_len _ | (simp [flat_len encP_len]; done) | simp [flat_len encI_len, flat_len encS_len]))) (by first | rfl | (repeat' (first | exact MkTo.nil | refine MkTo.keep rfl ?_ | refine MkTo.drop (by decide) rfl ?_)))
      · rename_i hwe
        rw [hfq, decide_eq_true (by omega), cond_true] at hnx
        refine VCode.lp (fun j : Nat => [(1, .ptr (.loc 0) 0), (3, .gl (.loc 1) 1 out.length), (4, I k), (5, I j)]) (fun _ => [.flat true (encN l), .flat true (out.flatMap encI)]) (fun j => j ≤ out.length ∧ posS (fun y => ahB l k y) out out.length = posS (fun y => ahB l k y) out j) (fun j => j) out.length ⟨Nat.le_refl _, rfl⟩ ?_ ?_
        · conv => whnf
          refine Retell.turn ⟨[0,1], 2, [], []⟩ (TurnOk.mk' _ _ [] [] (OutOk.lift _) rfl (by decide) (by repeat' (first | exact BTos.nil | refine BTos.flat rfl rfl (by first | rfl | simp) ?_ | refine BTos.new rfl ?_ | refine BTos.dead rfl rfl ?_ | refine BTos.esE rfl rfl ?_ | refine BTos.row rfl rfl rfl (RowTo.snoc (RowTo.one rfl (by simp))) ?_ | refine BTos.cells rfl rfl rfl (by repeat' (first | exact VTo.undef | exact FrTo.leaf | refine FrTo.node ?_ ?_ ?_ | refine FrTo.none ?_ ?_ | exact VTo.sc (by first | rfl | (congr 1; omega) | (congr 1; simp; omega)) | exact VTos_dv _ _ | refine VTos.cons ?_ ?_ | exact VTos.nil | refine VTo.agg ?_ | refine VTo.tuple ?_ | refine VTo.func ?_ ?_ | exact VTo.fs | exact VTo.fp | exact VTo.nilptr | exact VTo.nilslice | exact VTo.nilfunc | exact VTo.ptr rfl | exact VTo.gl rfl | exact VTo.map rfl | exact VTo.yld rfl | exact VTo.fmMap rfl | exact VTo.fm | exact VTo.glNil' (by decide) rfl rfl | exact VTo.fsNil (by decide) | exact VTo.fsSl rfl rfl (by simp [flat_len encE_len]) | exact VTo.fpPtr rfl | exact VTo.fsGl rfl (by first | rfl | exact flat_len encI_len _ | exact flat_len encT_len _ | exact flat_len encS_len _ | exact flat_len encP_len _ | exact flat_len encL_len _ | exact flat_len encE_len _ | (simp [flat_len encP_len]; done) | simp [flat_len encI_len, flat_len encS_len]))) ?_)) trivial trivial rfl) (by repeat' (first | exact VTo.undef | exact FrTo.leaf | refine FrTo.node ?_ ?_ ?_ | refine FrTo.none ?_ ?_ | exact VTo.sc (by first | rfl | (congr 1; omega) | (congr 1; simp; omega)) | exact VTos_dv _ _ | refine VTos.cons ?_ ?_ | exact VTos.nil | refine VTo.agg ?_ | refine VTo.tuple ?_ | refine VTo.func ?_ ?_ | exact VTo.fs | exact VTo.fp | exact VTo.nilptr | exact VTo.nilslice | exact VTo.nilfunc | exact VTo.ptr rfl | exact VTo.gl rfl | exact VTo.map rfl | exact VTo.yld rfl | exact VTo.fmMap rfl | exact VTo.fm | exact VTo.glNil' (by decide) rfl rfl | exact VTo.fsNil (by decide) | exact VTo.fsSl rfl rfl (by simp [flat_len encE_len]) | exact VTo.fpPtr rfl | exact VTo.fsGl rfl (by first | rfl | exact flat_len encI_len _ | exact flat_len encT_len _ | exact flat_len encS_len _ | exact flat_len encP_len _ | exact flat_len encL_len _ | exact flat_len encE_len _ | (simp [flat_len encP_len]; done) | simp [flat_len encI_len, flat_len encS_len]))) (by first | rfl | (repeat' (first | exact MkTo.nil | refine MkTo.keep rfl ?_ | refine MkTo.drop (by decide) rfl ?_)))
        · rintro j ⟨hj, hpos⟩
          have fin : ∀ (hp : posS (fun y => ahB l k y) out j = j), ((out ++ [0]).take (j + 1) ++ out.drop j).set j (k : Int) = roS l (k + 1) := fun hp => by
            rw [hnx, ← insS_set (z := 0), hpos, hp]
          have hlen1 : ((out ++ [0]).take (j + 1) ++ out.drop j).length = out.length + 1 := by simp; omega
          have hat : ((out ++ [0]).take (j + 1) ++ out.drop j)[j]? = some (((out ++ [0]).take (j + 1) ++ out.drop j)[j]'(by omega)) := List.getElem?_eq_getElem _
          rcases Nat.eq_zero_or_pos j with hj0 | hj0
          · subst hj0
            conv => whnf
            repeat' (first | (refine VLd.intro rfl ?_; conv => whnf) | (refine VArith.i64 (by first | omega | (dsimp only; omega)) ?_; conv => whnf) | (refine VNeed.intro (by first | rfl | (simp; omega) | (simp; done)) ?_; conv => whnf) | (refine VMem.store rfl rfl rfl rfl ?_; conv => whnf) | (refine VSame.intro rfl ?_; conv => whnf) | (refine VDraw.go [] (by kernel_rfl) (by kernel_rfl) ?_; conv => whnf) | (refine VIte.dec (fun _ => ?_) (fun _ => ?_) <;> conv => whnf) | (refine VIte.ndec (fun _ => ?_) (fun _ => ?_) <;> conv => whnf) | (refine VIte.beq (fun _ => ?_) (fun _ => ?_) <;> conv => whnf) | (refine VIte.bne (fun _ => ?_) (fun _ => ?_) <;> conv => whnf) | (refine VIte.intro (fun _ => ?_) (fun _ => ?_) <;> conv => whnf))
            all_goals try (exfalso; omega)
            refine VMem.app1 (l := out) (0 : Int) encI_len rfl rfl rfl rfl rfl (by omega) ?_
            conv => whnf
            repeat (first | (refine VLd.intro rfl ?_; conv => whnf) | (refine VArith.i64 (by first | omega | (dsimp only; omega)) ?_; conv => whnf) | (refine VNeed.intro (by first | rfl | (simp; omega) | (simp; done)) ?_; conv => whnf) | (refine VMem.store rfl rfl rfl rfl ?_; conv => whnf) | (refine VSame.intro rfl ?_; conv => whnf) | (refine VDraw.go [] (by kernel_rfl) (by kernel_rfl) ?_; conv => whnf))
            refine VAny.intro (v := .slice (.loc 3) (((0 : Int) + 1).toNat * 1) 1 (out.length - 0) none) ⟨by omega, out.length - 0, by omega, .inr ⟨by omega, rfl⟩⟩ ?_
            conv => whnf
            repeat (first | (refine VLd.intro rfl ?_; conv => whnf) | (refine VArith.i64 (by first | omega | (dsimp only; omega)) ?_; conv => whnf) | (refine VNeed.intro (by first | rfl | (simp; omega) | (simp; done)) ?_; conv => whnf) | (refine VMem.store rfl rfl rfl rfl ?_; conv => whnf) | (refine VSame.intro rfl ?_; conv => whnf) | (refine VDraw.go [] (by kernel_rfl) (by kernel_rfl) ?_; conv => whnf))
            refine VAny.intro (v := .slice (.loc 3) ((0 : Int).toNat * 1) 1 (out.length + 1 - 0) none) ⟨by omega, out.length + 1 - 0, by omega, .inr ⟨by omega, rfl⟩⟩ ?_
            conv => whnf
            refine VMem.shift (out := out) (z := 0) (at_ := 0) rfl rfl hj (by omega) rfl (by omega) rfl ?_
            conv => whnf
            repeat (first | (refine VLd.intro rfl ?_; conv => whnf) | (refine VArith.i64 (by first | omega | (dsimp only; omega)) ?_; conv => whnf) | (refine VNeed.intro (by first | rfl | (simp; omega) | (simp; done)) ?_; conv => whnf) | (refine VMem.store rfl rfl rfl rfl ?_; conv => whnf) | (refine VSame.intro rfl ?_; conv => whnf) | (refine VDraw.go [] (by kernel_rfl) (by kernel_rfl) ?_; conv => whnf))
            refine VMem.setRec encI_len 0 0 (k : Int) rfl rfl rfl hat (by decide) rfl (by simp) ?_
            conv => whnf
            repeat (first | (refine VLd.intro rfl ?_; conv => whnf) | (refine VArith.i64 (by first | omega | (dsimp only; omega)) ?_; conv => whnf) | (refine VNeed.intro (by first | rfl | (simp; omega) | (simp; done)) ?_; conv => whnf) | (refine VMem.store rfl rfl rfl rfl ?_; conv => whnf) | (refine VSame.intro rfl ?_; conv => whnf) | (refine VDraw.go [] (by kernel_rfl) (by kernel_rfl) ?_; conv => whnf))
            refine LEnd.intro (k + 1, roS l (k + 1)) ⟨by dsimp only; omega, rfl⟩ (by dsimp only; omega) ?_
            conv => whnf
            rw [fin rfl, show out.length + 1 = (roS l (k + 1)).length by rw [hnx, insS_len]]
            refine Retell.turn ⟨[0,3], 4, [], []⟩ (TurnOk.mk' _ _ [] [] (OutOk.lift _) rfl (by decide) (by repeat' (first | exact BTos.nil | refine BTos.flat rfl rfl (by first | rfl | simp) ?_ | refine BTos.new rfl ?_ | refine BTos.dead rfl rfl ?_ | refine BTos.esE rfl rfl ?_ | refine BTos.row rfl rfl rfl (RowTo.snoc (RowTo.one rfl (by simp))) ?_ | refine BTos.cells rfl rfl rfl (by repeat' (first | exact VTo.undef | exact FrTo.leaf | refine FrTo.node ?_ ?_ ?_ | refine FrTo.none ?_ ?_ | exact VTo.sc (by first | rfl | (congr 1; omega) | (congr 1; simp; omega)) | exact VTos_dv _ _ | refine VTos.cons ?_ ?_ | exact VTos.nil | refine VTo.agg ?_ | refine VTo.tuple ?_ | refine VTo.func ?_ ?_ | exact VTo.fs | exact VTo.fp | exact VTo.nilptr | exact VTo.nilslice | exact VTo.nilfunc | exact VTo.ptr rfl | exact VTo.gl rfl | exact VTo.map rfl | exact VTo.yld rfl | exact VTo.fmMap rfl | exact VTo.fm | exact VTo.glNil' (by decide) rfl rfl | exact VTo.fsNil (by decide) | exact VTo.fsSl rfl rfl (by simp [flat_len encE_len]) | exact VTo.fpPtr rfl | exact VTo.fsGl rfl (by first | rfl | exact flat_len encI_len _ | exact flat_len encT_len _ | exact flat_len encS_len _ | exact flat_len encP_len _ | exact flat_len encL_len _ | exact flat_len encE_len _ | (simp [flat_len encP_len]; done) | simp [flat_len encI_len, flat_len encS_len]))) ?_)) trivial trivial rfl) (by repeat' (first | exact VTo.undef | exact FrTo.leaf | refine FrTo.node ?_ ?_ ?_ | refine FrTo.none ?_ ?_ | exact VTo.sc (by first | rfl | (congr 1; omega) | (congr 1; simp; omega)) | exact VTos_dv _ _ | refine VTos.cons ?_ ?_ | exact VTos.nil | refine VTo.agg ?_ | refine VTo.tuple ?_ | refine VTo.func ?_ ?_ | exact VTo.fs | exact VTo.fp | exact VTo.nilptr | exact VTo.nilslice | exact VTo.nilfunc | exact VTo.ptr rfl | exact VTo.gl rfl | exact VTo.map rfl | exact VTo.yld rfl | exact VTo.fmMap rfl | exact VTo.fm | exact VTo.glNil' (by decide) rfl rfl | exact VTo.fsNil (by decide) | exact VTo.fsSl rfl rfl (by simp [flat_len encE_len]) | exact VTo.fpPtr rfl | exact VTo.fsGl rfl (by first | rfl | exact flat_len encI_len _ | exact flat_len encT_len _ | exact flat_len encS_len _ | exact flat_len encP_len _ | exact flat_len encL_len _ | exact flat_len encE_len _ | (simp [flat_len encP_len]; done) | simp [flat_len encI_len, flat_len encS_len]))) (by first | rfl | (repeat' (first | exact MkTo.nil | refine MkTo.keep rfl ?_ | refine MkTo.drop (by decide) rfl ?_)))
          · have hb : out[j - 1]? = some (out.getD (j - 1) 0) := by
              have : out[j - 1]? = some out[j - 1] := List.getElem?_eq_getElem (by omega)
              rw [List.getD_eq_getElem?_getD, this]; rfl
            obtain ⟨n, hn1, hn2, hn3⟩ := hom _ (List.mem_of_getElem? hb)
            have ht : l.ss[n]? = some l.ss[n] := List.getElem?_eq_getElem (by omega)
            have q2 := o.ss _ (List.getElem_mem (by omega : n < l.ss.length))
            have et := sAt_eq ht
            have hps : posS (fun y => ahB l k y) out j = if fst2 s l.ss[n] then posS (fun y => ahB l k y) out (j - 1) else j := by
              obtain ⟨j', rfl⟩ : ∃ j', j = j' + 1 := ⟨j - 1, by omega⟩
              rw [posS]
              rw [Nat.add_sub_cancel] at hn2
              simp only [hn2]
              unfold ahB
              rw [Int.toNat_natCast, Int.toNat_natCast, es, et]
              rfl
            rw [hn2] at hb
            have cf := fun h => vc_first s l.ss[n] h q1.no q1.so q2.no q2.so
            generalize l.ss[n] = t at ht et hps cf
            cases hft : fst2 s t
            · rw [hft] at cf hps
              rw [if_neg (by decide)] at hps
              conv => whnf
              repeat' (first | (refine VLd.intro rfl ?_; conv => whnf) | (refine VArith.i64 (by first | omega | (dsimp only; omega)) ?_; conv => whnf) | (refine VNeed.intro (by first | rfl | (simp; omega) | (simp; done)) ?_; conv => whnf) | (refine VMem.store rfl rfl rfl rfl ?_; conv => whnf) | (refine VSame.intro rfl ?_; conv => whnf) | (refine VDraw.go [] (by kernel_rfl) (by kernel_rfl) ?_; conv => whnf) | (refine VIte.dec (fun _ => ?_) (fun _ => ?_) <;> conv => whnf) | (refine VIte.ndec (fun _ => ?_) (fun _ => ?_) <;> conv => whnf) | (refine VIte.beq (fun _ => ?_) (fun _ => ?_) <;> conv => whnf) | (refine VIte.bne (fun _ => ?_) (fun _ => ?_) <;> conv => whnf) | (refine VIte.intro (fun _ => ?_) (fun _ => ?_) <;> conv => whnf) | (refine VAny.ix encT_len k rfl rfl hs ?_; conv => whnf) | (refine VAny.ix encT_len n rfl rfl ht ?_; conv => whnf) | (refine VLd.recc encI_len (j - 1) 0 rfl rfl rfl hb (by decide) rfl (by simp only [Nat.zero_add, Nat.mul_one]; omega) ?_; conv => whnf) | (refine VCall.intro (cf _) ?_; conv => whnf))
              all_goals try (exfalso; omega)
              refine VMem.app1 (l := out) (0 : Int) encI_len rfl rfl rfl rfl rfl (by omega) ?_
              conv => whnf
              repeat (first | (refine VLd.intro rfl ?_; conv => whnf) | (refine VArith.i64 (by first | omega | (dsimp only; omega)) ?_; conv => whnf) | (refine VNeed.intro (by first | rfl | (simp; omega) | (simp; done)) ?_; conv => whnf) | (refine VMem.store rfl rfl rfl rfl ?_; conv => whnf) | (refine VSame.intro rfl ?_; conv => whnf) | (refine VDraw.go [] (by kernel_rfl) (by kernel_rfl) ?_; conv => whnf))
              refine VAny.intro (v := .slice (.loc 3) (((j : Int) + 1).toNat * 1) 1 (out.length - j) none) ⟨by omega, out.length - j, by omega, .inr ⟨by omega, rfl⟩⟩ ?_
              conv => whnf
              repeat (first | (refine VLd.intro rfl ?_; conv => whnf) | (refine VArith.i64 (by first | omega | (dsimp only; omega)) ?_; conv => whnf) | (refine VNeed.intro (by first | rfl | (simp; omega) | (simp; done)) ?_; conv => whnf) | (refine VMem.store rfl rfl rfl rfl ?_; conv => whnf) | (refine VSame.intro rfl ?_; conv => whnf) | (refine VDraw.go [] (by kernel_rfl) (by kernel_rfl) ?_; conv => whnf))
              refine VAny.intro (v := .slice (.loc 3) ((j : Int).toNat * 1) 1 (out.length + 1 - j) none) ⟨by omega, out.length + 1 - j, by omega, .inr ⟨by omega, rfl⟩⟩ ?_
              conv => whnf
              refine VMem.shift (out := out) (z := 0) (at_ := j) rfl rfl hj (by omega) rfl (by omega) rfl ?_
              conv => whnf
              repeat (first | (refine VLd.intro rfl ?_; conv => whnf) | (refine VArith.i64 (by first | omega | (dsimp only; omega)) ?_; conv => whnf) | (refine VNeed.intro (by first | rfl | (simp; omega) | (simp; done)) ?_; conv => whnf) | (refine VMem.store rfl rfl rfl rfl ?_; conv => whnf) | (refine VSame.intro rfl ?_; conv => whnf) | (refine VDraw.go [] (by kernel_rfl) (by kernel_rfl) ?_; conv => whnf))
              refine VMem.setRec encI_len j 0 (k : Int) rfl rfl rfl hat (by decide) rfl (by simp) ?_
              conv => whnf
              repeat (first | (refine VLd.intro rfl ?_; conv => whnf) | (refine VArith.i64 (by first | omega | (dsimp only; omega)) ?_; conv => whnf) | (refine VNeed.intro (by first | rfl | (simp; omega) | (simp; done)) ?_; conv => whnf) | (refine VMem.store rfl rfl rfl rfl ?_; conv => whnf) | (refine VSame.intro rfl ?_; conv => whnf) | (refine VDraw.go [] (by kernel_rfl) (by kernel_rfl) ?_; conv => whnf))
              refine LEnd.intro (k + 1, roS l (k + 1)) ⟨by dsimp only; omega, rfl⟩ (by dsimp only; omega) ?_
              conv => whnf
              rw [fin hps, show out.length + 1 = (roS l (k + 1)).length by rw [hnx, insS_len]]
              refine Retell.turn ⟨[0,3], 4, [], []⟩ (TurnOk.mk' _ _ [] [] (OutOk.lift _) rfl (by decide) (by repeat' (first | exact BTos.nil | refine BTos.flat rfl rfl (by first | rfl | simp) ?_ | refine BTos.new rfl ?_ | refine BTos.dead rfl rfl ?_ | refine BTos.esE rfl rfl ?_ | refine BTos.row rfl rfl rfl (RowTo.snoc (RowTo.one rfl (by simp))) ?_ | refine BTos.cells rfl rfl rfl (by repeat' (first | exact VTo.undef | exact FrTo.leaf | refine FrTo.node ?_ ?_ ?_ | refine FrTo.none ?_ ?_ | exact VTo.sc (by first | rfl | (congr 1; omega) | (congr 1; simp; omega)) | exact VTos_dv _ _ | refine VTos.cons ?_ ?_ | exact VTos.nil | refine VTo.agg ?_ | refine VTo.tuple ?_ | refine VTo.func ?_ ?_ | exact VTo.fs | exact VTo.fp | exact VTo.nilptr | exact VTo.nilslice | exact VTo.nilfunc | exact VTo.ptr rfl | exact VTo.gl rfl | exact VTo.map rfl | exact VTo.yld rfl | exact VTo.fmMap rfl | exact VTo.fm | exact VTo.glNil' (by decide) rfl rfl | exact VTo.fsNil (by decide) | exact VTo.fsSl rfl rfl (by simp [flat_len encE_len]) | exact VTo.fpPtr rfl | exact VTo.fsGl rfl (by first | rfl | exact flat_len encI_len _ | exact flat_len encT_len _ | exact flat_len encS_len _ | exact flat_len encP_len _ | exact flat_len encL_len _ | exact flat_len encE_len _ | (simp [flat_len encP_len]; done) | simp [flat_len encI_len, flat_len encS_len]))) ?_)) trivial trivial rfl) (by repeat' (first | exact VTo.undef | exact FrTo.leaf | refine FrTo.node ?_ ?_ ?_ | refine FrTo.none ?_ ?_ | exact VTo.sc (by first | rfl | (congr 1; omega) | (congr 1; simp; omega)) | exact VTos_dv _ _ | refine VTos.cons ?_ ?_ | exact VTos.nil | refine VTo.agg ?_ | refine VTo.tuple ?_ | refine VTo.func ?_ ?_ | exact VTo.fs | exact VTo.fp | exact VTo.nilptr | exact VTo.nilslice | exact VTo.nilfunc | exact VTo.ptr rfl | exact VTo.gl rfl | exact VTo.map rfl | exact VTo.yld rfl | exact VTo.fmMap rfl | exact VTo.fm | exact VTo.glNil' (by decide) rfl rfl | exact VTo.fsNil (by decide) | exact VTo.fsSl rfl rfl (by simp [flat_len encE_len]) | exact VTo.fpPtr rfl | exact VTo.fsGl rfl (by first | rfl | exact flat_len encI_len _ | exact flat_len encT_len _ | exact flat_len encS_len _ | exact flat_len encP_len _ | exact flat_len encL_len _ | exact flat_len encE_len _ | (simp [flat_len encP_len]; done) | simp [flat_len encI_len, flat_len encS_len]))) (by first | rfl | (repeat' (first | exact MkTo.nil | refine MkTo.keep rfl ?_ | refine MkTo.drop (by decide) rfl ?_)))
            · rw [hft] at cf hps
              rw [if_pos rfl] at hps
              conv => whnf
              repeat' (first | (refine VLd.intro rfl ?_; conv => whnf) | (refine VArith.i64 (by first | omega | (dsimp only; omega)) ?_; conv => whnf) | (refine VNeed.intro (by first | rfl | (simp; omega) | (simp; done)) ?_; conv => whnf) | (refine VMem.store rfl rfl rfl rfl ?_; conv => whnf) | (refine VSame.intro rfl ?_; conv => whnf) | (refine VDraw.go [] (by kernel_rfl) (by kernel_rfl) ?_; conv => whnf) | (refine VIte.dec (fun _ => ?_) (fun _ => ?_) <;> conv => whnf) | (refine VIte.ndec (fun _ => ?_) (fun _ => ?_) <;> conv => whnf) | (refine VIte.beq (fun _ => ?_) (fun _ => ?_) <;> conv => whnf) | (refine VIte.bne (fun _ => ?_) (fun _ => ?_) <;> conv => whnf) | (refine VIte.intro (fun _ => ?_) (fun _ => ?_) <;> conv => whnf) | (refine VAny.ix encT_len k rfl rfl hs ?_; conv => whnf) | (refine VAny.ix encT_len n rfl rfl ht ?_; conv => whnf) | (refine VLd.recc encI_len (j - 1) 0 rfl rfl rfl hb (by decide) rfl (by simp only [Nat.zero_add, Nat.mul_one]; omega) ?_; conv => whnf) | (refine VCall.intro (cf _) ?_; conv => whnf))
              all_goals try (exfalso; omega)
              refine LEnd.intro (j - 1) ⟨by omega, by rw [hpos, hps]⟩ (by omega) ?_
              conv => whnf
              refine Retell.turn ⟨[0,1], 2, [], []⟩ (TurnOk.mk' _ _ [] [] (OutOk.lift _) rfl (by decide) (by repeat' (first | exact BTos.nil | refine BTos.flat rfl rfl (by first | rfl | simp) ?_ | refine BTos.new rfl ?_ | refine BTos.dead rfl rfl ?_ | refine BTos.esE rfl rfl ?_ | refine BTos.row rfl rfl rfl (RowTo.snoc (RowTo.one rfl (by simp))) ?_ | refine BTos.cells rfl rfl rfl (by repeat' (first | exact VTo.undef | exact FrTo.leaf | refine FrTo.node ?_ ?_ ?_ | refine FrTo.none ?_ ?_ | exact VTo.sc (by first | rfl | (congr 1; omega) | (congr 1; simp; omega)) | exact VTos_dv _ _ | refine VTos.cons ?_ ?_ | exact VTos.nil | refine VTo.agg ?_ | refine VTo.tuple ?_ | refine VTo.func ?_ ?_ | exact VTo.fs | exact VTo.fp | exact VTo.nilptr | exact VTo.nilslice | exact VTo.nilfunc | exact VTo.ptr rfl | exact VTo.gl rfl | exact VTo.map rfl | exact VTo.yld rfl | exact VTo.fmMap rfl | exact VTo.fm | exact VTo.glNil' (by decide) rfl rfl | exact VTo.fsNil (by decide) | exact VTo.fsSl rfl rfl (by simp [flat_len encE_len]) | exact VTo.fpPtr rfl | exact VTo.fsGl rfl (by first | rfl | exact flat_len encI_len _ | exact flat_len encT_len _ | exact flat_len encS_len _ | exact flat_len encP_len _ | exact flat_len encL_len _ | exact flat_len encE_len _ | (simp [flat_len encP_len]; done) | simp [flat_len encI_len, flat_len encS_len]))) ?_)) trivial trivial rfl) (by repeat' (first | exact VTo.undef | exact FrTo.leaf | refine FrTo.node ?_ ?_ ?_ | refine FrTo.none ?_ ?_ | exact VTo.sc (by first | rfl | (congr 1; omega) | (congr 1; simp; omega)) | exact VTos_dv _ _ | refine VTos.cons ?_ ?_ | exact VTos.nil | refine VTo.agg ?_ | refine VTo.tuple ?_ | refine VTo.func ?_ ?_ | exact VTo.fs | exact VTo.fp | exact VTo.nilptr | exact VTo.nilslice | exact VTo.nilfunc | exact VTo.ptr rfl | exact VTo.gl rfl | exact VTo.map rfl | exact VTo.yld rfl | exact VTo.fmMap rfl | exact VTo.fm | exact VTo.glNil' (by decide) rfl rfl | exact VTo.fsNil (by decide) | exact VTo.fsSl rfl rfl (by simp [flat_len encE_len]) | exact VTo.fpPtr rfl | exact VTo.fsGl rfl (by first | rfl | exact flat_len encI_len _ | exact flat_len encT_len _ | exact flat_len encS_len _ | exact flat_len encP_len _ | exact flat_len encL_len _ | exact flat_len encE_len _ | (simp [flat_len encP_len]; done) | simp [flat_len encI_len, flat_len encS_len]))) (by first | rfl | (repeat' (first | exact MkTo.nil | refine MkTo.keep rfl ?_ | refine MkTo.drop (by decide) rfl ?_)))
    · have hkn : k = l.ss.length := by dsimp only at h3; omega
      subst hkn
      rw [hend] at hw
      subst hw
      conv => whnf
      repeat' (first | (refine VLd.intro rfl ?_; conv => whnf) | (refine VArith.i64 (by first | omega | (dsimp only; omega)) ?_; conv => whnf) | (refine VNeed.intro (by first | rfl | (simp; omega) | (simp; done)) ?_; conv => whnf) | (refine VMem.store rfl rfl rfl rfl ?_; conv => whnf) | (refine VSame.intro rfl ?_; conv => whnf) | (refine VDraw.go [] (by kernel_rfl) (by kernel_rfl) ?_; conv => whnf) | (refine VIte.dec (fun _ => ?_) (fun _ => ?_) <;> conv => whnf) | (refine VIte.ndec (fun _ => ?_) (fun _ => ?_) <;> conv => whnf) | (refine VIte.beq (fun _ => ?_) (fun _ => ?_) <;> conv => whnf) | (refine VIte.bne (fun _ => ?_) (fun _ => ?_) <;> conv => whnf) | (refine VIte.intro (fun _ => ?_) (fun _ => ?_) <;> conv => whnf))
      refine VOut.data 2 [(1, (ordL l).flatMap encI)] [] rfl (by repeat' (first | exact FzAll.nil | refine FzAll.flat rfl ?_ | refine FzAll.row rfl rfl (RowTo.one rfl (by simp)) ?_)) (by exact FmAll.nil) (by repeat' (first | exact VTo.undef | exact FrTo.leaf | refine FrTo.node ?_ ?_ ?_ | refine FrTo.none ?_ ?_ | exact VTo.sc (by first | rfl | (congr 1; omega) | (congr 1; simp; omega)) | exact VTos_dv _ _ | refine VTos.cons ?_ ?_ | exact VTos.nil | refine VTo.agg ?_ | refine VTo.tuple ?_ | refine VTo.func ?_ ?_ | exact VTo.fs | exact VTo.fp | exact VTo.nilptr | exact VTo.nilslice | exact VTo.nilfunc | exact VTo.ptr rfl | exact VTo.gl rfl | exact VTo.map rfl | exact VTo.yld rfl | exact VTo.fmMap rfl | exact VTo.fm | exact VTo.glNil' (by decide) rfl rfl | exact VTo.fsNil (by decide) | exact VTo.fsSl rfl rfl (by simp [flat_len encE_len]) | exact VTo.fpPtr rfl | exact VTo.fsGl rfl (by first | rfl | exact flat_len encI_len _ | exact flat_len encT_len _ | exact flat_len encS_len _ | exact flat_len encP_len _ | exact flat_len encL_len _ | exact flat_len encE_len _ | (simp [flat_len encP_len]; done) | simp [flat_len encI_len, flat_len encS_len])))
end Go.Proofs.Ytmpjpjfkbmlmfaa

open Go.Vm
namespace Go.Proofs.Ytmpjpjfkbmlmfaa
set_option maxRecDepth 20000
set_option maxHeartbeats 4000000

theorem vc_Order_ok (l : Lnd) (h : Hp) (o : Ok l) : VC Try.prog 15 [vL l] h (.tuple [ints (ordL l), I 0]) h := by
  refine VC.body Try.func15 rfl Try.ntmps15 Try.call15 (h.grows_refl) rfl ?_; conv => whnf
  repeat' (first | (refine VLd.intro rfl ?_; conv => whnf) | (refine VArith.i64 (by first | omega | (dsimp only; omega)) ?_; conv => whnf) | (refine VNeed.intro (by first | rfl | (simp; omega) | (simp; done)) ?_; conv => whnf) | (refine VMem.store rfl rfl rfl rfl ?_; conv => whnf) | (refine VSame.intro rfl ?_; conv => whnf) | (refine VDraw.go [] (by kernel_rfl) (by kernel_rfl) ?_; conv => whnf) | (refine VIte.dec (fun _ => ?_) (fun _ => ?_) <;> conv => whnf) | (refine VIte.ndec (fun _ => ?_) (fun _ => ?_) <;> conv => whnf) | (refine VIte.beq (fun _ => ?_) (fun _ => ?_) <;> conv => whnf) | (refine VIte.bne (fun _ => ?_) (fun _ => ?_) <;> conv => whnf) | (refine VIte.intro (fun _ => ?_) (fun _ => ?_) <;> conv => whnf) | (refine VCall.intro (vc_opened_ok l _ o) ?_; conv => whnf) | (refine VCall.intro (vc_order l _ o) ?_; conv => whnf))
  exact VOut.same rfl
theorem vc_Order_no (l : Lnd) (h : Hp) (hn : l.ss.length ≤ 4000000) (hv : l.vs.length ≤ 4000000) (h0 : chk l ≠ 0) : VC Try.prog 15 [vL l] h (.tuple [.nilslice, I (chk l)]) h := by
  refine VC.body Try.func15 rfl Try.ntmps15 Try.call15 (h.grows_refl) rfl ?_; conv => whnf
  repeat' (first | (refine VLd.intro rfl ?_; conv => whnf) | (refine VArith.i64 (by first | omega | (dsimp only; omega)) ?_; conv => whnf) | (refine VNeed.intro (by first | rfl | (simp; omega) | (simp; done)) ?_; conv => whnf) | (refine VMem.store rfl rfl rfl rfl ?_; conv => whnf) | (refine VSame.intro rfl ?_; conv => whnf) | (refine VDraw.go [] (by kernel_rfl) (by kernel_rfl) ?_; conv => whnf) | (refine VIte.dec (fun _ => ?_) (fun _ => ?_) <;> conv => whnf) | (refine VIte.ndec (fun _ => ?_) (fun _ => ?_) <;> conv => whnf) | (refine VIte.beq (fun _ => ?_) (fun _ => ?_) <;> conv => whnf) | (refine VIte.bne (fun _ => ?_) (fun _ => ?_) <;> conv => whnf) | (refine VIte.intro (fun _ => ?_) (fun _ => ?_) <;> conv => whnf) | (refine VCall.intro (vc_opened_no l _ hn hv h0) ?_; conv => whnf))
  all_goals first | exact VOut.same rfl | omega
theorem vc_rOrder_ok (l : Lnd) (h : Hp) (o : Ok l) : VC Try.prog 16 [vL l] h (.tuple [ints (ordL l), I 0]) h := by
  refine VC.body Try.func16 rfl Try.ntmps16 Try.call16 (h.grows_refl) rfl ?_; conv => whnf
  repeat' (first | (refine VLd.intro rfl ?_; conv => whnf) | (refine VArith.i64 (by first | omega | (dsimp only; omega)) ?_; conv => whnf) | (refine VNeed.intro (by first | rfl | (simp; omega) | (simp; done)) ?_; conv => whnf) | (refine VMem.store rfl rfl rfl rfl ?_; conv => whnf) | (refine VSame.intro rfl ?_; conv => whnf) | (refine VDraw.go [] (by kernel_rfl) (by kernel_rfl) ?_; conv => whnf) | (refine VIte.dec (fun _ => ?_) (fun _ => ?_) <;> conv => whnf) | (refine VIte.ndec (fun _ => ?_) (fun _ => ?_) <;> conv => whnf) | (refine VIte.beq (fun _ => ?_) (fun _ => ?_) <;> conv => whnf) | (refine VIte.bne (fun _ => ?_) (fun _ => ?_) <;> conv => whnf) | (refine VIte.intro (fun _ => ?_) (fun _ => ?_) <;> conv => whnf) | (refine VCall.intro (vc_rcheck_ok l _ o) ?_; conv => whnf) | (refine VCall.intro (vc_rorder l _ o) ?_; conv => whnf))
  exact VOut.same rfl
theorem vc_rOrder_no (l : Lnd) (h : Hp) (hn : l.ss.length ≤ 4000000) (hv : l.vs.length ≤ 4000000) (h0 : chk l ≠ 0) : VC Try.prog 16 [vL l] h (.tuple [.nilslice, I (chk l)]) h := by
  refine VC.body Try.func16 rfl Try.ntmps16 Try.call16 (h.grows_refl) rfl ?_; conv => whnf
  repeat' (first | (refine VLd.intro rfl ?_; conv => whnf) | (refine VArith.i64 (by first | omega | (dsimp only; omega)) ?_; conv => whnf) | (refine VNeed.intro (by first | rfl | (simp; omega) | (simp; done)) ?_; conv => whnf) | (refine VMem.store rfl rfl rfl rfl ?_; conv => whnf) | (refine VSame.intro rfl ?_; conv => whnf) | (refine VDraw.go [] (by kernel_rfl) (by kernel_rfl) ?_; conv => whnf) | (refine VIte.dec (fun _ => ?_) (fun _ => ?_) <;> conv => whnf) | (refine VIte.ndec (fun _ => ?_) (fun _ => ?_) <;> conv => whnf) | (refine VIte.beq (fun _ => ?_) (fun _ => ?_) <;> conv => whnf) | (refine VIte.bne (fun _ => ?_) (fun _ => ?_) <;> conv => whnf) | (refine VIte.intro (fun _ => ?_) (fun _ => ?_) <;> conv => whnf) | (refine VCall.intro (vc_rcheck l _ hn hv) ?_; conv => whnf))
  all_goals first | exact VOut.same rfl | omega
/-! ### Exchanges by order -/
def prt (l : Lnd) (f : List Int) (c n w : Int) (i : Nat) : Int := if (i : Int) = c then n else if (i : Int) ∈ f then w else bif freeQ l i then 0 else (1 - (sAt l i).ow) * w
def exL (l : Lnd) (f : List Int) (c n w : Int) : List Int := (List.range l.ss.length).map (prt l f c n w)
theorem exL_len (l : Lnd) (f : List Int) (c n w : Int) : (exL l f c n w).length = l.ss.length := by simp [exL]
theorem exL_at {l : Lnd} {f : List Int} {c n w : Int} {i : Nat} (h : i < l.ss.length) : (exL l f c n w)[i]? = some (prt l f c n w i) := by simp [exL, h]
theorem exL_ext {l : Lnd} {f : List Int} {c n w : Int} {L : List Int} (hl : L.length = l.ss.length) (h : ∀ j, j < l.ss.length → L[j]? = some (prt l f c n w j)) : L = exL l f c n w := by
  apply List.ext_getElem?
  intro j
  rcases Nat.lt_or_ge j l.ss.length with hj | hj
  · rw [h j hj, exL_at hj]
  · rw [List.getElem?_eq_none (by rw [hl]; exact hj), List.getElem?_eq_none (by rw [exL_len]; exact hj)]
theorem exL_set {l : Lnd} {f : List Int} {n w : Int} {i : Nat} (h : i < l.ss.length) : (exL l f (-1) n w).set i w = exL l (f ++ [(i : Int)]) (-1) n w := by
  refine exL_ext (by rw [List.length_set, exL_len]) fun j hj => ?_
  have hj1 : ¬ ((j : Int) = -1) := by omega
  rw [List.getElem?_set, exL_len, exL_at hj]
  unfold prt
  rw [if_neg hj1, if_neg hj1]
  by_cases e : i = j
  · subst e; rw [if_pos rfl, if_pos hj, if_pos (by simp)]
  · have : (j : Int) ∈ f ++ [(i : Int)] ↔ (j : Int) ∈ f := by simp; omega
    rw [if_neg e]
    simp only [this]
theorem exL_cut {l : Lnd} {f : List Int} {n m w : Int} {i : Nat} (h : i < l.ss.length) : (exL l f (-1) m w).set i n = exL l f i n w := by
  refine exL_ext (by rw [List.length_set, exL_len]) fun j hj => ?_
  have hj1 : ¬ ((j : Int) = -1) := by omega
  rw [List.getElem?_set, exL_len, exL_at hj]
  unfold prt
  rw [if_neg hj1]
  by_cases e : i = j
  · subst e; rw [if_pos rfl, if_pos hj, if_pos rfl]
  · have hji : ¬ ((j : Int) = (i : Int)) := by omega
    rw [if_neg e, if_neg hji]
theorem exL_irr (l : Lnd) (f : List Int) (n m w : Int) : exL l f (-1) n w = exL l f (-1) m w := by
  unfold exL
  refine List.map_congr_left fun i _ => ?_
  have hi : ¬ ((i : Int) = -1) := by omega
  unfold prt
  rw [if_neg hi, if_neg hi]
/-- The first ones of one list, the others of another one. -/
def mixL (A B : List Int) (k : Nat) : List Int := A.take k ++ B.drop k
theorem mixL_at {A B : List Int} {k : Nat} (hAB : A.length = B.length) (hk : k < B.length) : (mixL A B k)[k]? = B[k]? := by
  unfold mixL
  have : (A.take k).length = k := by simp; omega
  rw [List.getElem?_append_right (by omega), this, Nat.sub_self, List.getElem?_drop]; simp
theorem mixL_set {A B : List Int} {k : Nat} {a : Int} (hAB : A.length = B.length) (ha : A[k]? = some a) : (mixL A B k).set k a = mixL A B (k + 1) := by
  obtain ⟨hlt, e⟩ := List.getElem?_eq_some_iff.1 ha
  unfold mixL
  have h1 : (A.take k).length = k := by simp; omega
  rw [List.set_append_right _ _ (by omega), h1, Nat.sub_self, List.drop_eq_getElem_cons (by omega : k < B.length), List.set_cons_zero, List.take_add_one, ha]
  simp
theorem mixL_len {A B : List Int} {k : Nat} (hAB : A.length = B.length) (hk : k ≤ B.length) : (mixL A B k).length = B.length := by unfold mixL; simp; omega
theorem tmod_nat (a b : Nat) : (a : Int).tmod b = ((a % b : Nat) : Int) := by
  rw [Int.tmod_eq_emod_of_nonneg (by omega)]; rfl
theorem tdiv_nat (a b : Nat) : (a : Int).tdiv b = ((a / b : Nat) : Int) := by
  rw [Int.tdiv_eq_ediv_of_nonneg (by omega)]; rfl
theorem vc_given (l : Lnd) (f : List Int) (c : Int) (n w : Nat) (h : Hp) (o : Ok l) (hf : ∀ x ∈ f, ∃ j : Nat, j < l.ss.length ∧ x = j) (hfl : f.length ≤ 4000000) (hc : c = -1 ∨ ∃ j : Nat, j < l.ss.length ∧ c = j) (hw : 0 < w) (hw2 : w ≤ 2000) (hnb : n ≤ 1000000) :
    VC Try.prog 56 [.fp (encN l), ints f, I c, I n, I w] h (vX ⟨(w / Nat.gcd n w : Nat), exL l f c (n / Nat.gcd n w : Nat) (w / Nat.gcd n w : Nat)⟩) h := by
  have hn := o.n
  obtain ⟨G, hG⟩ : ∃ G, G = Nat.gcd n w := ⟨_, rfl⟩
  rw [← hG]
  have hGp : 0 < G := by rw [hG]; exact Nat.gcd_pos_of_pos_right _ hw
  have hc1 := fun h => vc_now l h o
  refine VC.body Try.func56 rfl Try.ntmps56 Try.call56 (h.grows_refl) rfl ?_; conv => whnf
  repeat' (first | (refine VLd.intro rfl ?_; conv => whnf) | (refine VArith.i64 (by first | omega | (dsimp only; omega)) ?_; conv => whnf) | (refine VNeed.intro (by first | rfl | (simp; omega) | (simp; done)) ?_; conv => whnf) | (refine VMem.store rfl rfl rfl rfl ?_; conv => whnf) | (refine VSame.intro rfl ?_; conv => whnf) | (refine VDraw.go [] (by kernel_rfl) (by kernel_rfl) ?_; conv => whnf) | (refine VIte.dec (fun _ => ?_) (fun _ => ?_) <;> conv => whnf) | (refine VIte.ndec (fun _ => ?_) (fun _ => ?_) <;> conv => whnf) | (refine VIte.beq (fun _ => ?_) (fun _ => ?_) <;> conv => whnf) | (refine VIte.bne (fun _ => ?_) (fun _ => ?_) <;> conv => whnf) | (refine VIte.intro (fun _ => ?_) (fun _ => ?_) <;> conv => whnf))
  refine VCode.lp (fun x : Nat × Nat => [(0, .fp (encN l)), (1, ints f), (2, I c), (3, I n), (4, I w), (10, .ptr (.loc 0) 0), (11, I x.1), (12, I x.2)]) (fun _ => [.flat true [DI 0, .nilslice]]) (fun x => Nat.gcd x.1 x.2 = G ∧ x.1 ≤ 1000000 ∧ x.2 ≤ 1000000) (fun x => x.2) (n, w) ⟨hG.symm, hnb, by dsimp only; omega⟩ ?_ ?_
  · conv => whnf
    refine Retell.turn ⟨[0], 1, [], []⟩ (TurnOk.mk' _ _ [] [] (OutOk.lift _) rfl (by decide) (by repeat' (first | exact BTos.nil | refine BTos.flat rfl rfl (by first | rfl | simp) ?_ | refine BTos.new rfl ?_ | refine BTos.dead rfl rfl ?_ | refine BTos.esE rfl rfl ?_ | refine BTos.row rfl rfl rfl (RowTo.snoc (RowTo.one rfl (by simp))) ?_ | refine BTos.cells rfl rfl rfl (by repeat' (first | exact VTo.undef | exact FrTo.leaf | refine FrTo.node ?_ ?_ ?_ | refine FrTo.none ?_ ?_ | exact VTo.sc (by first | rfl | (congr 1; omega) | (congr 1; simp; omega)) | exact VTos_dv _ _ | refine VTos.cons ?_ ?_ | exact VTos.nil | refine VTo.agg ?_ | refine VTo.tuple ?_ | refine VTo.func ?_ ?_ | exact VTo.fs | exact VTo.fp | exact VTo.nilptr | exact VTo.nilslice | exact VTo.nilfunc | exact VTo.ptr rfl | exact VTo.gl rfl | exact VTo.map rfl | exact VTo.yld rfl | exact VTo.fmMap rfl | exact VTo.fm | exact VTo.glNil' (by decide) rfl rfl | exact VTo.fsNil (by decide) | exact VTo.fsSl rfl rfl (by simp [flat_len encE_len]) | exact VTo.fpPtr rfl | exact VTo.fsGl rfl (by first | rfl | exact flat_len encI_len _ | exact flat_len encT_len _ | exact flat_len encS_len _ | exact flat_len encP_len _ | exact flat_len encL_len _ | exact flat_len encE_len _ | (simp [flat_len encP_len]; done) | simp [flat_len encI_len, flat_len encS_len]))) ?_)) trivial trivial rfl) (by repeat' (first | exact VTo.undef | exact FrTo.leaf | refine FrTo.node ?_ ?_ ?_ | refine FrTo.none ?_ ?_ | exact VTo.sc (by first | rfl | (congr 1; omega) | (congr 1; simp; omega)) | exact VTos_dv _ _ | refine VTos.cons ?_ ?_ | exact VTos.nil | refine VTo.agg ?_ | refine VTo.tuple ?_ | refine VTo.func ?_ ?_ | exact VTo.fs | exact VTo.fp | exact VTo.nilptr | exact VTo.nilslice | exact VTo.nilfunc | exact VTo.ptr rfl | exact VTo.gl rfl | exact VTo.map rfl | exact VTo.yld rfl | exact VTo.fmMap rfl | exact VTo.fm | exact VTo.glNil' (by decide) rfl rfl | exact VTo.fsNil (by decide) | exact VTo.fsSl rfl rfl (by simp [flat_len encE_len]) | exact VTo.fpPtr rfl | exact VTo.fsGl rfl (by first | rfl | exact flat_len encI_len _ | exact flat_len encT_len _ | exact flat_len encS_len _ | exact flat_len encP_len _ | exact flat_len encL_len _ | exact flat_len encE_len _ | (simp [flat_len encP_len]; done) | simp [flat_len encI_len, flat_len encS_len]))) (by first | rfl | (repeat' (first | exact MkTo.nil | refine MkTo.keep rfl ?_ | refine MkTo.drop (by decide) rfl ?_)))
  · rintro ⟨a, b⟩ ⟨hab, ha1, hb1⟩
    dsimp only at hab ha1 hb1
    conv => whnf
    refine VIte.bne (fun h3 => ?_) (fun h3 => ?_)
    · have hb0 : 0 < b := by dsimp only at h3; omega
      have hml := Nat.mod_lt a hb0
      have hm2 : a % b ≤ 1000000 := by omega
      have hmm : Nat.gcd b (a % b) = G := by rw [← hab, Nat.gcd_comm b, ← Nat.gcd_rec, Nat.gcd_comm]
      have ht := tmod_nat a b
      conv => whnf
      repeat' (first | (refine VLd.intro rfl ?_; conv => whnf) | (refine VArith.i64 (by first | omega | (dsimp only; omega)) ?_; conv => whnf) | (refine VNeed.intro (by first | rfl | (simp; omega) | (simp; done)) ?_; conv => whnf) | (refine VMem.store rfl rfl rfl rfl ?_; conv => whnf) | (refine VSame.intro rfl ?_; conv => whnf) | (refine VDraw.go [] (by kernel_rfl) (by kernel_rfl) ?_; conv => whnf) | (refine VIte.dec (fun _ => ?_) (fun _ => ?_) <;> conv => whnf) | (refine VIte.ndec (fun _ => ?_) (fun _ => ?_) <;> conv => whnf) | (refine VIte.beq (fun _ => ?_) (fun _ => ?_) <;> conv => whnf) | (refine VIte.bne (fun _ => ?_) (fun _ => ?_) <;> conv => whnf) | (refine VIte.intro (fun _ => ?_) (fun _ => ?_) <;> conv => whnf))
      refine LEnd.intro (b, a % b) ⟨hmm, by dsimp only; omega, by dsimp only; omega⟩ (by dsimp only; omega) ?_
      conv => whnf
      rw [ht]
      refine Retell.turn ⟨[0], 1, [], []⟩ (TurnOk.mk' _ _ [] [] (OutOk.lift _) rfl (by decide) (by repeat' (first | exact BTos.nil | refine BTos.flat rfl rfl (by first | rfl | simp) ?_ | refine BTos.new rfl ?_ | refine BTos.dead rfl rfl ?_ | refine BTos.esE rfl rfl ?_ | refine BTos.row rfl rfl rfl (RowTo.snoc (RowTo.one rfl (by simp))) ?_ | refine BTos.cells rfl rfl rfl (by repeat' (first | exact VTo.undef | exact FrTo.leaf | refine FrTo.node ?_ ?_ ?_ | refine FrTo.none ?_ ?_ | exact VTo.sc (by first | rfl | (congr 1; omega) | (congr 1; simp; omega)) | exact VTos_dv _ _ | refine VTos.cons ?_ ?_ | exact VTos.nil | refine VTo.agg ?_ | refine VTo.tuple ?_ | refine VTo.func ?_ ?_ | exact VTo.fs | exact VTo.fp | exact VTo.nilptr | exact VTo.nilslice | exact VTo.nilfunc | exact VTo.ptr rfl | exact VTo.gl rfl | exact VTo.map rfl | exact VTo.yld rfl | exact VTo.fmMap rfl | exact VTo.fm | exact VTo.glNil' (by decide) rfl rfl | exact VTo.fsNil (by decide) | exact VTo.fsSl rfl rfl (by simp [flat_len encE_len]) | exact VTo.fpPtr rfl | exact VTo.fsGl rfl (by first | rfl | exact flat_len encI_len _ | exact flat_len encT_len _ | exact flat_len encS_len _ | exact flat_len encP_len _ | exact flat_len encL_len _ | exact flat_len encE_len _ | (simp [flat_len encP_len]; done) | simp [flat_len encI_len, flat_len encS_len]))) ?_)) trivial trivial rfl) (by repeat' (first | exact VTo.undef | exact FrTo.leaf | refine FrTo.node ?_ ?_ ?_ | refine FrTo.none ?_ ?_ | exact VTo.sc (by first | rfl | (congr 1; omega) | (congr 1; simp; omega)) | exact VTos_dv _ _ | refine VTos.cons ?_ ?_ | exact VTos.nil | refine VTo.agg ?_ | refine VTo.tuple ?_ | refine VTo.func ?_ ?_ | exact VTo.fs | exact VTo.fp | exact VTo.nilptr | exact VTo.nilslice | exact VTo.nilfunc | exact VTo.ptr rfl | exact VTo.gl rfl | exact VTo.map rfl | exact VTo.yld rfl | exact VTo.fmMap rfl | exact VTo.fm | exact VTo.glNil' (by decide) rfl rfl | exact VTo.fsNil (by decide) | exact VTo.fsSl rfl rfl (by simp [flat_len encE_len]) | exact VTo.fpPtr rfl | exact VTo.fsGl rfl (by first | rfl | exact flat_len encI_len _ | exact flat_len encT_len _ | exact flat_len encS_len _ | exact flat_len encP_len _ | exact flat_len encL_len _ | exact flat_len encE_len _ | (simp [flat_len encP_len]; done) | simp [flat_len encI_len, flat_len encS_len]))) (by first | rfl | (repeat' (first | exact MkTo.nil | refine MkTo.keep rfl ?_ | refine MkTo.drop (by decide) rfl ?_)))
    · have hb0 : b = 0 := by dsimp only at h3; omega
      subst hb0
      rw [Nat.gcd_zero_right] at hab
      subst hab
      have t1 := tdiv_nat n a
      have t2 := tdiv_nat w a
      obtain ⟨N, hN⟩ : ∃ N, N = n / a := ⟨_, rfl⟩
      obtain ⟨M, hM⟩ : ∃ M, M = w / a := ⟨_, rfl⟩
      rw [← hN] at t1
      rw [← hM] at t2
      rw [← hN, ← hM]
      have hM2 : M ≤ 2000 := by rw [hM]; exact Nat.le_trans (Nat.div_le_self _ _) hw2
      conv => whnf
      repeat' (first | (refine VLd.intro rfl ?_; conv => whnf) | (refine VArith.i64 (by first | omega | (dsimp only; omega)) ?_; conv => whnf) | (refine VNeed.intro (by first | rfl | (simp; omega) | (simp; done)) ?_; conv => whnf) | (refine VMem.store rfl rfl rfl rfl ?_; conv => whnf) | (refine VSame.intro rfl ?_; conv => whnf) | (refine VDraw.go [] (by kernel_rfl) (by kernel_rfl) ?_; conv => whnf) | (refine VIte.dec (fun _ => ?_) (fun _ => ?_) <;> conv => whnf) | (refine VIte.ndec (fun _ => ?_) (fun _ => ?_) <;> conv => whnf) | (refine VIte.beq (fun _ => ?_) (fun _ => ?_) <;> conv => whnf) | (refine VIte.bne (fun _ => ?_) (fun _ => ?_) <;> conv => whnf) | (refine VIte.intro (fun _ => ?_) (fun _ => ?_) <;> conv => whnf))
      have hN2 : N ≤ 1000000 := by rw [hN]; exact Nat.le_trans (Nat.div_le_self _ _) hnb
      rw [t1, t2, wrap_i64 (n := (N : Int)) (by omega), wrap_i64 (n := (M : Int)) (by omega)]
      refine VMem.make (n := l.ss.length) (0 : Int) encI_len rfl rfl rfl rfl rfl rfl (by omega) ?_
      conv => whnf
      repeat' (first | (refine VLd.intro rfl ?_; conv => whnf) | (refine VArith.i64 (by first | omega | (dsimp only; omega)) ?_; conv => whnf) | (refine VNeed.intro (by first | rfl | (simp; omega) | (simp; done)) ?_; conv => whnf) | (refine VMem.store rfl rfl rfl rfl ?_; conv => whnf) | (refine VSame.intro rfl ?_; conv => whnf) | (refine VIte.dec (fun _ => ?_) (fun _ => ?_) <;> conv => whnf) | (refine VIte.ndec (fun _ => ?_) (fun _ => ?_) <;> conv => whnf) | (refine VIte.beq (fun _ => ?_) (fun _ => ?_) <;> conv => whnf) | (refine VIte.bne (fun _ => ?_) (fun _ => ?_) <;> conv => whnf) | (refine VIte.intro (fun _ => ?_) (fun _ => ?_) <;> conv => whnf))
      refine VDraw.go [(1, 3)] (by kernel_rfl) (by kernel_rfl) ?_
      conv => whnf
      repeat' (first | (refine VLd.intro rfl ?_; conv => whnf) | (refine VArith.i64 (by first | omega | (dsimp only; omega)) ?_; conv => whnf) | (refine VNeed.intro (by first | rfl | (simp; omega) | (simp; done)) ?_; conv => whnf) | (refine VMem.store rfl rfl rfl rfl ?_; conv => whnf) | (refine VSame.intro rfl ?_; conv => whnf) | (refine VIte.dec (fun _ => ?_) (fun _ => ?_) <;> conv => whnf) | (refine VIte.ndec (fun _ => ?_) (fun _ => ?_) <;> conv => whnf) | (refine VIte.beq (fun _ => ?_) (fun _ => ?_) <;> conv => whnf) | (refine VIte.bne (fun _ => ?_) (fun _ => ?_) <;> conv => whnf) | (refine VIte.intro (fun _ => ?_) (fun _ => ?_) <;> conv => whnf) | (refine VCall.intro (hc1 _) ?_; conv => whnf))
      refine VMem.copyFs (l := List.replicate l.ss.length (0 : Int)) (l2 := nowP l) encI_len rfl rfl (by simp) rfl (nowP_len l).symm ?_
      conv => whnf
      repeat' (first | (refine VLd.intro rfl ?_; conv => whnf) | (refine VArith.i64 (by first | omega | (dsimp only; omega)) ?_; conv => whnf) | (refine VNeed.intro (by first | rfl | (simp; omega) | (simp; done)) ?_; conv => whnf) | (refine VMem.store rfl rfl rfl rfl ?_; conv => whnf) | (refine VSame.intro rfl ?_; conv => whnf) | (refine VIte.dec (fun _ => ?_) (fun _ => ?_) <;> conv => whnf) | (refine VIte.ndec (fun _ => ?_) (fun _ => ?_) <;> conv => whnf) | (refine VIte.beq (fun _ => ?_) (fun _ => ?_) <;> conv => whnf) | (refine VIte.bne (fun _ => ?_) (fun _ => ?_) <;> conv => whnf) | (refine VIte.intro (fun _ => ?_) (fun _ => ?_) <;> conv => whnf))
      have hAB : (exL l [] (-1) 0 (M : Int)).length = (nowP l).length := by rw [exL_len, nowP_len]
      refine VCode.lp (fun k : Nat => [(0, .fp (encN l)), (1, ints f), (2, I c), (3, I N), (4, I M), (10, .ptr (.loc 0) 0), (13, .ptr (.loc 2) 0), (48, I l.ss.length), (49, I k)])
        (fun k => [.flat true [DI 0, .nilslice], .flat true ((mixL (exL l [] (-1) 0 (M : Int)) (nowP l) k).flatMap encI), .cells true [I M, .gl (.loc 1) 1 l.ss.length]]) (fun k => k ≤ l.ss.length) (fun k => l.ss.length - k) 0 (Nat.zero_le _) ?_ ?_
      · conv => whnf
        refine Retell.turn ⟨[0,1,2], 3, [], []⟩ (TurnOk.mk' _ _ [] [] (OutOk.lift _) rfl (by decide) (by repeat' (first | exact BTos.nil | refine BTos.flat rfl rfl (by first | rfl | simp) ?_ | refine BTos.new rfl ?_ | refine BTos.dead rfl rfl ?_ | refine BTos.esE rfl rfl ?_ | refine BTos.row rfl rfl rfl (RowTo.snoc (RowTo.one rfl (by simp))) ?_ | refine BTos.cells rfl rfl rfl (by repeat' (first | exact VTo.undef | exact FrTo.leaf | refine FrTo.node ?_ ?_ ?_ | refine FrTo.none ?_ ?_ | exact VTo.sc (by first | rfl | (congr 1; omega) | (congr 1; simp; omega)) | exact VTos_dv _ _ | refine VTos.cons ?_ ?_ | exact VTos.nil | refine VTo.agg ?_ | refine VTo.tuple ?_ | refine VTo.func ?_ ?_ | exact VTo.fs | exact VTo.fp | exact VTo.nilptr | exact VTo.nilslice | exact VTo.nilfunc | exact VTo.ptr rfl | exact VTo.gl rfl | exact VTo.map rfl | exact VTo.yld rfl | exact VTo.fmMap rfl | exact VTo.fm | exact VTo.glNil' (by decide) rfl rfl | exact VTo.fsNil (by decide) | exact VTo.fsSl rfl rfl (by simp [flat_len encE_len]) | exact VTo.fpPtr rfl | exact VTo.fsGl rfl (by first | rfl | exact flat_len encI_len _ | exact flat_len encT_len _ | exact flat_len encS_len _ | exact flat_len encP_len _ | exact flat_len encL_len _ | exact flat_len encE_len _ | (simp [flat_len encP_len]; done) | simp [flat_len encI_len, flat_len encS_len]))) ?_)) trivial trivial rfl) (by repeat' (first | exact VTo.undef | exact FrTo.leaf | refine FrTo.node ?_ ?_ ?_ | refine FrTo.none ?_ ?_ | exact VTo.sc (by first | rfl | (congr 1; omega) | (congr 1; simp; omega)) | exact VTos_dv _ _ | refine VTos.cons ?_ ?_ | exact VTos.nil | refine VTo.agg ?_ | refine VTo.tuple ?_ | refine VTo.func ?_ ?_ | exact VTo.fs | exact VTo.fp | exact VTo.nilptr | exact VTo.nilslice | exact VTo.nilfunc | exact VTo.ptr rfl | exact VTo.gl rfl | exact VTo.map rfl | exact VTo.yld rfl | exact VTo.fmMap rfl | exact VTo.fm | exact VTo.glNil' (by decide) rfl rfl | exact VTo.fsNil (by decide) | exact VTo.fsSl rfl rfl (by simp [flat_len encE_len]) | exact VTo.fpPtr rfl | exact VTo.fsGl rfl (by first | rfl | exact flat_len encI_len _ | exact flat_len encT_len _ | exact flat_len encS_len _ | exact flat_len encP_len _ | exact flat_len encL_len _ | exact flat_len encE_len _ | (simp [flat_len encP_len]; done) | simp [flat_len encI_len, flat_len encS_len]))) (by first | rfl | (repeat' (first | exact MkTo.nil | refine MkTo.keep rfl ?_ | refine MkTo.drop (by decide) rfl ?_)))
      · intro k hk
        conv => whnf
        refine VIte.dec (fun h4 => ?_) (fun h4 => ?_)
        · have hs : l.ss[k]? = some l.ss[k] := List.getElem?_eq_getElem (by omega)
          have q1 := o.ss _ (List.getElem_mem (by omega : k < l.ss.length))
          have es := sAt_eq hs
          have hx1 : (mixL (exL l [] (-1) 0 (M : Int)) (nowP l) k)[k]? = some (1 - l.ss[k].ow) := by rw [mixL_at hAB (by rw [nowP_len]; omega)]; simp [nowP, hs]
          have hx2 := exL_at (l := l) (f := []) (c := -1) (n := 0) (w := (M : Int)) (i := k) (by omega)
          have hx3 := mixL_set hAB hx2
          have hml := mixL_len (k := k) hAB (by rw [nowP_len]; omega)
          rw [nowP_len] at hml
          have hcb := fun h => vc_bound l k h (by omega)
          rw [bdAt_eq hs] at hcb
          have hpr : prt l [] (-1) 0 (M : Int) k = bif isFree l.ss[k] then 0 else (1 - l.ss[k].ow) * (M : Int) := by
            have hk1 : ¬ ((k : Int) = -1) := by omega
            unfold prt freeQ
            rw [if_neg hk1, if_neg (by simp), es]
          rw [hpr] at hx3
          generalize l.ss[k] = s at hs q1 hx1 hx3 hcb
          have q2 := q1.ow
          have m1 := mul_le (a := 1 - s.ow) (b := (M : Int)) (A := 1) (B := 2000) (by omega) (by omega)
          conv => whnf
          repeat' (first | (refine VLd.intro rfl ?_; conv => whnf) | (refine VArith.i64 (by first | omega | (dsimp only; omega)) ?_; conv => whnf) | (refine VNeed.intro (by first | rfl | (simp; omega) | (simp; done)) ?_; conv => whnf) | (refine VMem.store rfl rfl rfl rfl ?_; conv => whnf) | (refine VSame.intro rfl ?_; conv => whnf) | (refine VIte.dec (fun _ => ?_) (fun _ => ?_) <;> conv => whnf) | (refine VIte.ndec (fun _ => ?_) (fun _ => ?_) <;> conv => whnf) | (refine VIte.beq (fun _ => ?_) (fun _ => ?_) <;> conv => whnf) | (refine VIte.bne (fun _ => ?_) (fun _ => ?_) <;> conv => whnf) | (refine VIte.intro (fun _ => ?_) (fun _ => ?_) <;> conv => whnf) | (refine VLd.recc encI_len k 0 rfl rfl rfl hx1 (by decide) rfl (by simp) ?_; conv => whnf))
          refine VMem.setRec encI_len k 0 ((1 - s.ow) * (M : Int)) rfl rfl rfl hx1 (by decide) rfl (by simp) ?_
          conv => whnf
          cases hfr : isFree s
          · rw [hfr] at hcb hx3
            rw [cond_false] at hx3
            repeat' (first | (refine VLd.intro rfl ?_; conv => whnf) | (refine VArith.i64 (by first | omega | (dsimp only; omega)) ?_; conv => whnf) | (refine VNeed.intro (by first | rfl | (simp; omega) | (simp; done)) ?_; conv => whnf) | (refine VMem.store rfl rfl rfl rfl ?_; conv => whnf) | (refine VSame.intro rfl ?_; conv => whnf) | (refine VIte.dec (fun _ => ?_) (fun _ => ?_) <;> conv => whnf) | (refine VIte.ndec (fun _ => ?_) (fun _ => ?_) <;> conv => whnf) | (refine VIte.beq (fun _ => ?_) (fun _ => ?_) <;> conv => whnf) | (refine VIte.bne (fun _ => ?_) (fun _ => ?_) <;> conv => whnf) | (refine VIte.intro (fun _ => ?_) (fun _ => ?_) <;> conv => whnf) | (refine VCall.intro (hcb _) ?_; conv => whnf))
            refine LEnd.intro (k + 1) (by omega) (by omega) ?_
            conv => whnf
            rw [hx3]
            refine Retell.turn ⟨[0,1,2], 3, [], []⟩ (TurnOk.mk' _ _ [] [] (OutOk.lift _) rfl (by decide) (by repeat' (first | exact BTos.nil | refine BTos.flat rfl rfl (by first | rfl | simp) ?_ | refine BTos.new rfl ?_ | refine BTos.dead rfl rfl ?_ | refine BTos.esE rfl rfl ?_ | refine BTos.row rfl rfl rfl (RowTo.snoc (RowTo.one rfl (by simp))) ?_ | refine BTos.cells rfl rfl rfl (by repeat' (first | exact VTo.undef | exact FrTo.leaf | refine FrTo.node ?_ ?_ ?_ | refine FrTo.none ?_ ?_ | exact VTo.sc (by first | rfl | (congr 1; omega) | (congr 1; simp; omega)) | exact VTos_dv _ _ | refine VTos.cons ?_ ?_ | exact VTos.nil | refine VTo.agg ?_ | refine VTo.tuple ?_ | refine VTo.func ?_ ?_ | exact VTo.fs | exact VTo.fp | exact VTo.nilptr | exact VTo.nilslice | exact VTo.nilfunc | exact VTo.ptr rfl | exact VTo.gl rfl | exact VTo.map rfl | exact VTo.yld rfl | exact VTo.fmMap rfl | exact VTo.fm | exact VTo.glNil' (by decide) rfl rfl | exact VTo.fsNil (by decide) | exact VTo.fsSl rfl rfl (by simp [flat_len encE_len]) | exact VTo.fpPtr rfl | exact VTo.fsGl rfl (by first | rfl | exact flat_len encI_len _ | exact flat_len encT_len _ | exact flat_len encS_len _ | exact flat_len encP_len _ | exact flat_len encL_len _ | exact flat_len encE_len _ | (simp [flat_len encP_len]; done) | simp [flat_len encI_len, flat_len encS_len]))) ?_)) trivial trivial rfl) (by repeat' (first | exact VTo.undef | exact FrTo.leaf | refine FrTo.node ?_ ?_ ?_ | refine FrTo.none ?_ ?_ | exact VTo.sc (by first | rfl | (congr 1; omega) | (congr 1; simp; omega)) | exact VTos_dv _ _ | refine VTos.cons ?_ ?_ | exact VTos.nil | refine VTo.agg ?_ | refine VTo.tuple ?_ | refine VTo.func ?_ ?_ | exact VTo.fs | exact VTo.fp | exact VTo.nilptr | exact VTo.nilslice | exact VTo.nilfunc | exact VTo.ptr rfl | exact VTo.gl rfl | exact VTo.map rfl | exact VTo.yld rfl | exact VTo.fmMap rfl | exact VTo.fm | exact VTo.glNil' (by decide) rfl rfl | exact VTo.fsNil (by decide) | exact VTo.fsSl rfl rfl (by simp [flat_len encE_len]) | exact VTo.fpPtr rfl | exact VTo.fsGl rfl (by first | rfl | exact flat_len encI_len _ | exact flat_len encT_len _ | exact flat_len encS_len _ | exact flat_len encP_len _ | exact flat_len encL_len _ | exact flat_len encE_len _ | (simp [flat_len encP_len]; done) | simp [flat_len encI_len, flat_len encS_len]))) (by first | rfl | (repeat' (first | exact MkTo.nil | refine MkTo.keep rfl ?_ | refine MkTo.drop (by decide) rfl ?_)))
          · rw [hfr] at hcb hx3
            rw [cond_true] at hx3
            have hx4 : ((mixL (exL l [] (-1) 0 (M : Int)) (nowP l) k).set k ((1 - s.ow) * (M : Int)))[k]? = some ((1 - s.ow) * (M : Int)) := by rw [List.getElem?_set_self (by omega)]
            have hx5 : ((mixL (exL l [] (-1) 0 (M : Int)) (nowP l) k).set k ((1 - s.ow) * (M : Int))).set k 0 = (mixL (exL l [] (-1) 0 (M : Int)) (nowP l) k).set k 0 := by rw [List.set_set]
            repeat' (first | (refine VLd.intro rfl ?_; conv => whnf) | (refine VArith.i64 (by first | omega | (dsimp only; omega)) ?_; conv => whnf) | (refine VNeed.intro (by first | rfl | (simp; omega) | (simp; done)) ?_; conv => whnf) | (refine VMem.store rfl rfl rfl rfl ?_; conv => whnf) | (refine VSame.intro rfl ?_; conv => whnf) | (refine VIte.dec (fun _ => ?_) (fun _ => ?_) <;> conv => whnf) | (refine VIte.ndec (fun _ => ?_) (fun _ => ?_) <;> conv => whnf) | (refine VIte.beq (fun _ => ?_) (fun _ => ?_) <;> conv => whnf) | (refine VIte.bne (fun _ => ?_) (fun _ => ?_) <;> conv => whnf) | (refine VIte.intro (fun _ => ?_) (fun _ => ?_) <;> conv => whnf) | (refine VCall.intro (hcb _) ?_; conv => whnf))
            refine VMem.setRec encI_len k 0 (0 : Int) rfl rfl rfl hx4 (by decide) rfl (by simp) ?_
            conv => whnf
            repeat' (first | (refine VLd.intro rfl ?_; conv => whnf) | (refine VArith.i64 (by first | omega | (dsimp only; omega)) ?_; conv => whnf) | (refine VNeed.intro (by first | rfl | (simp; omega) | (simp; done)) ?_; conv => whnf) | (refine VMem.store rfl rfl rfl rfl ?_; conv => whnf) | (refine VSame.intro rfl ?_; conv => whnf) | (refine VIte.dec (fun _ => ?_) (fun _ => ?_) <;> conv => whnf) | (refine VIte.ndec (fun _ => ?_) (fun _ => ?_) <;> conv => whnf) | (refine VIte.beq (fun _ => ?_) (fun _ => ?_) <;> conv => whnf) | (refine VIte.bne (fun _ => ?_) (fun _ => ?_) <;> conv => whnf) | (refine VIte.intro (fun _ => ?_) (fun _ => ?_) <;> conv => whnf))
            refine LEnd.intro (k + 1) (by omega) (by omega) ?_
            conv => whnf
            rw [hx5, hx3]
            refine Retell.turn ⟨[0,1,2], 3, [], []⟩ (TurnOk.mk' _ _ [] [] (OutOk.lift _) rfl (by decide) (by repeat' (first | exact BTos.nil | refine BTos.flat rfl rfl (by first | rfl | simp) ?_ | refine BTos.new rfl ?_ | refine BTos.dead rfl rfl ?_ | refine BTos.esE rfl rfl ?_ | refine BTos.row rfl rfl rfl (RowTo.snoc (RowTo.one rfl (by simp))) ?_ | refine BTos.cells rfl rfl rfl (by repeat' (first | exact VTo.undef | exact FrTo.leaf | refine FrTo.node ?_ ?_ ?_ | refine FrTo.none ?_ ?_ | exact VTo.sc (by first | rfl | (congr 1; omega) | (congr 1; simp; omega)) | exact VTos_dv _ _ | refine VTos.cons ?_ ?_ | exact VTos.nil | refine VTo.agg ?_ | refine VTo.tuple ?_ | refine VTo.func ?_ ?_ | exact VTo.fs | exact VTo.fp | exact VTo.nilptr | exact VTo.nilslice | exact VTo.nilfunc | exact VTo.ptr rfl | exact VTo.gl rfl | exact VTo.map rfl | exact VTo.yld rfl | exact VTo.fmMap rfl | exact VTo.fm | exact VTo.glNil' (by decide) rfl rfl | exact VTo.fsNil (by decide) | exact VTo.fsSl rfl rfl (by simp [flat_len encE_len]) | exact VTo.fpPtr rfl | exact VTo.fsGl rfl (by first | rfl | exact flat_len encI_len _ | exact flat_len encT_len _ | exact flat_len encS_len _ | exact flat_len encP_len _ | exact flat_len encL_len _ | exact flat_len encE_len _ | (simp [flat_len encP_len]; done) | simp [flat_len encI_len, flat_len encS_len]))) ?_)) trivial trivial rfl) (by repeat' (first | exact VTo.undef | exact FrTo.leaf | refine FrTo.node ?_ ?_ ?_ | refine FrTo.none ?_ ?_ | exact VTo.sc (by first | rfl | (congr 1; omega) | (congr 1; simp; omega)) | exact VTos_dv _ _ | refine VTos.cons ?_ ?_ | exact VTos.nil | refine VTo.agg ?_ | refine VTo.tuple ?_ | refine VTo.func ?_ ?_ | exact VTo.fs | exact VTo.fp | exact VTo.nilptr | exact VTo.nilslice | exact VTo.nilfunc | exact VTo.ptr rfl | exact VTo.gl rfl | exact VTo.map rfl | exact VTo.yld rfl | exact VTo.fmMap rfl | exact VTo.fm | exact VTo.glNil' (by decide) rfl rfl | exact VTo.fsNil (by decide) | exact VTo.fsSl rfl rfl (by simp [flat_len encE_len]) | exact VTo.fpPtr rfl | exact VTo.fsGl rfl (by first | rfl | exact flat_len encI_len _ | exact flat_len encT_len _ | exact flat_len encS_len _ | exact flat_len encP_len _ | exact flat_len encL_len _ | exact flat_len encE_len _ | (simp [flat_len encP_len]; done) | simp [flat_len encI_len, flat_len encS_len]))) (by first | rfl | (repeat' (first | exact MkTo.nil | refine MkTo.keep rfl ?_ | refine MkTo.drop (by decide) rfl ?_)))
        · have he : mixL (exL l [] (-1) 0 (M : Int)) (nowP l) k = exL l [] (-1) 0 (M : Int) := by
            unfold mixL
            rw [List.take_of_length_le (by rw [exL_len]; omega), List.drop_of_length_le (by rw [nowP_len]; omega), List.append_nil]
          rw [he]
          conv => whnf
          repeat' (first | (refine VLd.intro rfl ?_; conv => whnf) | (refine VArith.i64 (by first | omega | (dsimp only; omega)) ?_; conv => whnf) | (refine VNeed.intro (by first | rfl | (simp; omega) | (simp; done)) ?_; conv => whnf) | (refine VMem.store rfl rfl rfl rfl ?_; conv => whnf) | (refine VSame.intro rfl ?_; conv => whnf) | (refine VIte.dec (fun _ => ?_) (fun _ => ?_) <;> conv => whnf) | (refine VIte.ndec (fun _ => ?_) (fun _ => ?_) <;> conv => whnf) | (refine VIte.beq (fun _ => ?_) (fun _ => ?_) <;> conv => whnf) | (refine VIte.bne (fun _ => ?_) (fun _ => ?_) <;> conv => whnf) | (refine VIte.intro (fun _ => ?_) (fun _ => ?_) <;> conv => whnf))
          refine VCode.lp (fun k : Nat => [(2, I c), (3, I N), (4, I M), (10, .ptr (.loc 0) 0), (13, .ptr (.loc 2) 0), (69, ints f), (70, I f.length), (71, I k)])
            (fun k => [.flat true [DI 0, .nilslice], .flat true ((exL l (f.take k) (-1) 0 (M : Int)).flatMap encI), .cells true [I M, .gl (.loc 1) 1 l.ss.length]]) (fun k => k ≤ f.length) (fun k => f.length - k) 0 (Nat.zero_le _) ?_ ?_
          · conv => whnf
            refine Retell.turn ⟨[0,1,2], 3, [], []⟩ (TurnOk.mk' _ _ [] [] (OutOk.lift _) rfl (by decide) (by repeat' (first | exact BTos.nil | refine BTos.flat rfl rfl (by first | rfl | simp) ?_ | refine BTos.new rfl ?_ | refine BTos.dead rfl rfl ?_ | refine BTos.esE rfl rfl ?_ | refine BTos.row rfl rfl rfl (RowTo.snoc (RowTo.one rfl (by simp))) ?_ | refine BTos.cells rfl rfl rfl (by repeat' (first | exact VTo.undef | exact FrTo.leaf | refine FrTo.node ?_ ?_ ?_ | refine FrTo.none ?_ ?_ | exact VTo.sc (by first | rfl | (congr 1; omega) | (congr 1; simp; omega)) | exact VTos_dv _ _ | refine VTos.cons ?_ ?_ | exact VTos.nil | refine VTo.agg ?_ | refine VTo.tuple ?_ | refine VTo.func ?_ ?_ | exact VTo.fs | exact VTo.fp | exact VTo.nilptr | exact VTo.nilslice | exact VTo.nilfunc | exact VTo.ptr rfl | exact VTo.gl rfl | exact VTo.map rfl | exact VTo.yld rfl | exact VTo.fmMap rfl | exact VTo.fm | exact VTo.glNil' (by decide) rfl rfl | exact VTo.fsNil (by decide) | exact VTo.fsSl rfl rfl (by simp [flat_len encE_len]) | exact VTo.fpPtr rfl | exact VTo.fsGl rfl (by first | rfl | exact flat_len encI_len _ | exact flat_len encT_len _ | exact flat_len encS_len _ | exact flat_len encP_len _ | exact flat_len encL_len _ | exact flat_len encE_len _ | (simp [flat_len encP_len]; done) | simp [flat_len encI_len, flat_len encS_len]))) ?_)) trivial trivial rfl) (by repeat' (first | exact VTo.undef | exact FrTo.leaf | refine FrTo.node ?_ ?_ ?_ | refine FrTo.none ?_ ?_ | exact VTo.sc (by first | rfl | (congr 1; omega) | (congr 1; simp; omega)) | exact VTos_dv _ _ | refine VTos.cons ?_ ?_ | exact VTos.nil | refine VTo.agg ?_ | refine VTo.tuple ?_ | refine VTo.func ?_ ?_ | exact VTo.fs | exact VTo.fp | exact VTo.nilptr | exact VTo.nilslice | exact VTo.nilfunc | exact VTo.ptr rfl | exact VTo.gl rfl | exact VTo.map rfl | exact VTo.yld rfl | exact VTo.fmMap rfl | exact VTo.fm | exact VTo.glNil' (by decide) rfl rfl | exact VTo.fsNil (by decide) | exact VTo.fsSl rfl rfl (by simp [flat_len encE_len]) | exact VTo.fpPtr rfl | exact VTo.fsGl rfl (by first | rfl | exact flat_len encI_len _ | exact flat_len encT_len _ | exact flat_len encS_len _ | exact flat_len encP_len _ | exact flat_len encL_len _ | exact flat_len encE_len _ | (simp [flat_len encP_len]; done) | simp [flat_len encI_len, flat_len encS_len]))) (by first | rfl | (repeat' (first | exact MkTo.nil | refine MkTo.keep rfl ?_ | refine MkTo.drop (by decide) rfl ?_)))
          · intro k hk
            conv => whnf
            refine VIte.dec (fun h5 => ?_) (fun h5 => ?_)
            · have hx : f[k]? = some f[k] := List.getElem?_eq_getElem (by omega)
              obtain ⟨j, hj1, hj2⟩ := hf _ (List.getElem_mem (by omega : k < f.length))
              rw [hj2] at hx
              have hat := exL_at (l := l) (f := f.take k) (c := -1) (n := 0) (w := (M : Int)) hj1
              have hst := exL_set (l := l) (f := f.take k) (n := 0) (w := (M : Int)) hj1
              have htk : f.take k ++ [(j : Int)] = f.take (k + 1) := by rw [List.take_add_one, hx]; rfl
              rw [htk] at hst
              conv => whnf
              repeat' (first | (refine VLd.intro rfl ?_; conv => whnf) | (refine VArith.i64 (by first | omega | (dsimp only; omega)) ?_; conv => whnf) | (refine VNeed.intro (by first | rfl | (simp; omega) | (simp; done)) ?_; conv => whnf) | (refine VMem.store rfl rfl rfl rfl ?_; conv => whnf) | (refine VSame.intro rfl ?_; conv => whnf) | (refine VIte.dec (fun _ => ?_) (fun _ => ?_) <;> conv => whnf) | (refine VIte.ndec (fun _ => ?_) (fun _ => ?_) <;> conv => whnf) | (refine VIte.beq (fun _ => ?_) (fun _ => ?_) <;> conv => whnf) | (refine VIte.bne (fun _ => ?_) (fun _ => ?_) <;> conv => whnf) | (refine VIte.intro (fun _ => ?_) (fun _ => ?_) <;> conv => whnf) | (refine VAny.ix encI_len k rfl rfl hx ?_; conv => whnf))
              refine VMem.setRec encI_len j 0 (M : Int) rfl rfl rfl hat (by decide) rfl (by simp) ?_
              conv => whnf
              repeat' (first | (refine VLd.intro rfl ?_; conv => whnf) | (refine VArith.i64 (by first | omega | (dsimp only; omega)) ?_; conv => whnf) | (refine VNeed.intro (by first | rfl | (simp; omega) | (simp; done)) ?_; conv => whnf) | (refine VMem.store rfl rfl rfl rfl ?_; conv => whnf) | (refine VSame.intro rfl ?_; conv => whnf) | (refine VIte.dec (fun _ => ?_) (fun _ => ?_) <;> conv => whnf) | (refine VIte.ndec (fun _ => ?_) (fun _ => ?_) <;> conv => whnf) | (refine VIte.beq (fun _ => ?_) (fun _ => ?_) <;> conv => whnf) | (refine VIte.bne (fun _ => ?_) (fun _ => ?_) <;> conv => whnf) | (refine VIte.intro (fun _ => ?_) (fun _ => ?_) <;> conv => whnf))
              refine LEnd.intro (k + 1) (by omega) (by omega) ?_
              conv => whnf
              rw [hst]
              refine Retell.turn ⟨[0,1,2], 3, [], []⟩ (TurnOk.mk' _ _ [] [] (OutOk.lift _) rfl (by decide) (by repeat' (first | exact BTos.nil | refine BTos.flat rfl rfl (by first | rfl | simp) ?_ | refine BTos.new rfl ?_ | refine BTos.dead rfl rfl ?_ | refine BTos.esE rfl rfl ?_ | refine BTos.row rfl rfl rfl (RowTo.snoc (RowTo.one rfl (by simp))) ?_ | refine BTos.cells rfl rfl rfl (by repeat' (first | exact VTo.undef | exact FrTo.leaf | refine FrTo.node ?_ ?_ ?_ | refine FrTo.none ?_ ?_ | exact VTo.sc (by first | rfl | (congr 1; omega) | (congr 1; simp; omega)) | exact VTos_dv _ _ | refine VTos.cons ?_ ?_ | exact VTos.nil | refine VTo.agg ?_ | refine VTo.tuple ?_ | refine VTo.func ?_ ?_ | exact VTo.fs | exact VTo.fp | exact VTo.nilptr | exact VTo.nilslice | exact VTo.nilfunc | exact VTo.ptr rfl | exact VTo.gl rfl | exact VTo.map rfl | exact VTo.yld rfl | exact VTo.fmMap rfl | exact VTo.fm | exact VTo.glNil' (by decide) rfl rfl | exact VTo.fsNil (by decide) | exact VTo.fsSl rfl rfl (by simp [flat_len encE_len]) | exact VTo.fpPtr rfl | exact VTo.fsGl rfl (by first | rfl | exact flat_len encI_len _ | exact flat_len encT_len _ | exact flat_len encS_len _ | exact flat_len encP_len _ | exact flat_len encL_len _ | exact flat_len encE_len _ | (simp [flat_len encP_len]; done) | simp [flat_len encI_len, flat_len encS_len]))) ?_)) trivial trivial rfl) (by repeat' (first | exact VTo.undef | exact FrTo.leaf | refine FrTo.node ?_ ?_ ?_ | refine FrTo.none ?_ ?_ | exact VTo.sc (by first | rfl | (congr 1; omega) | (congr 1; simp; omega)) | exact VTos_dv _ _ | refine VTos.cons ?_ ?_ | exact VTos.nil | refine VTo.agg ?_ | refine VTo.tuple ?_ | refine VTo.func ?_ ?_ | exact VTo.fs | exact VTo.fp | exact VTo.nilptr | exact VTo.nilslice | exact VTo.nilfunc | exact VTo.ptr rfl | exact VTo.gl rfl | exact VTo.map rfl | exact VTo.yld rfl | exact VTo.fmMap rfl | exact VTo.fm | exact VTo.glNil' (by decide) rfl rfl | exact VTo.fsNil (by decide) | exact VTo.fsSl rfl rfl (by simp [flat_len encE_len]) | exact VTo.fpPtr rfl | exact VTo.fsGl rfl (by first | rfl | exact flat_len encI_len _ | exact flat_len encT_len _ | exact flat_len encS_len _ | exact flat_len encP_len _ | exact flat_len encL_len _ | exact flat_len encE_len _ | (simp [flat_len encP_len]; done) | simp [flat_len encI_len, flat_len encS_len]))) (by first | rfl | (repeat' (first | exact MkTo.nil | refine MkTo.keep rfl ?_ | refine MkTo.drop (by decide) rfl ?_)))
            · have hkf : f.take k = f := List.take_of_length_le (by omega)
              rw [hkf]
              rcases hc with rfl | ⟨j, hj1, rfl⟩
              · have hel := exL_len l f (-1) (N : Int) (M : Int)
                rw [exL_irr l f 0 (N : Int) (M : Int), show l.ss.length = (exL l f (-1) (N : Int) (M : Int)).length from hel.symm]
                conv => whnf
                repeat' (first | (refine VLd.intro rfl ?_; conv => whnf) | (refine VArith.i64 (by first | omega | (dsimp only; omega)) ?_; conv => whnf) | (refine VNeed.intro (by first | rfl | (simp; omega) | (simp; done)) ?_; conv => whnf) | (refine VMem.store rfl rfl rfl rfl ?_; conv => whnf) | (refine VSame.intro rfl ?_; conv => whnf) | (refine VDraw.go [] (by kernel_rfl) (by kernel_rfl) ?_; conv => whnf) | (refine VIte.dec (fun _ => ?_) (fun _ => ?_) <;> conv => whnf) | (refine VIte.ndec (fun _ => ?_) (fun _ => ?_) <;> conv => whnf) | (refine VIte.beq (fun _ => ?_) (fun _ => ?_) <;> conv => whnf) | (refine VIte.bne (fun _ => ?_) (fun _ => ?_) <;> conv => whnf) | (refine VIte.intro (fun _ => ?_) (fun _ => ?_) <;> conv => whnf))
                refine VOut.data 3 [(1, (exL l f (-1) (N : Int) (M : Int)).flatMap encI)] [] rfl (by repeat' (first | exact FzAll.nil | refine FzAll.flat rfl ?_ | refine FzAll.row rfl rfl (RowTo.one rfl (by simp)) ?_)) (by exact FmAll.nil) (by repeat' (first | exact VTo.undef | exact FrTo.leaf | refine FrTo.node ?_ ?_ ?_ | refine FrTo.none ?_ ?_ | exact VTo.sc (by first | rfl | (congr 1; omega) | (congr 1; simp; omega)) | exact VTos_dv _ _ | refine VTos.cons ?_ ?_ | exact VTos.nil | refine VTo.agg ?_ | refine VTo.tuple ?_ | refine VTo.func ?_ ?_ | exact VTo.fs | exact VTo.fp | exact VTo.nilptr | exact VTo.nilslice | exact VTo.nilfunc | exact VTo.ptr rfl | exact VTo.gl rfl | exact VTo.map rfl | exact VTo.yld rfl | exact VTo.fmMap rfl | exact VTo.fm | exact VTo.glNil' (by decide) rfl rfl | exact VTo.fsNil (by decide) | exact VTo.fsSl rfl rfl (by simp [flat_len encE_len]) | exact VTo.fpPtr rfl | exact VTo.fsGl rfl (by first | rfl | exact flat_len encI_len _ | exact flat_len encT_len _ | exact flat_len encS_len _ | exact flat_len encP_len _ | exact flat_len encL_len _ | exact flat_len encE_len _ | (simp [flat_len encP_len]; done) | simp [flat_len encI_len, flat_len encS_len])))
              · have hat := exL_at (l := l) (f := f) (c := -1) (n := 0) (w := (M : Int)) hj1
                have hst := exL_cut (l := l) (f := f) (n := (N : Int)) (m := 0) (w := (M : Int)) hj1
                have hel := exL_len l f (j : Int) (N : Int) (M : Int)
                conv => whnf
                repeat' (first | (refine VLd.intro rfl ?_; conv => whnf) | (refine VArith.i64 (by first | omega | (dsimp only; omega)) ?_; conv => whnf) | (refine VNeed.intro (by first | rfl | (simp; omega) | (simp; done)) ?_; conv => whnf) | (refine VMem.store rfl rfl rfl rfl ?_; conv => whnf) | (refine VSame.intro rfl ?_; conv => whnf) | (refine VDraw.go [] (by kernel_rfl) (by kernel_rfl) ?_; conv => whnf) | (refine VIte.dec (fun _ => ?_) (fun _ => ?_) <;> conv => whnf) | (refine VIte.ndec (fun _ => ?_) (fun _ => ?_) <;> conv => whnf) | (refine VIte.beq (fun _ => ?_) (fun _ => ?_) <;> conv => whnf) | (refine VIte.bne (fun _ => ?_) (fun _ => ?_) <;> conv => whnf) | (refine VIte.intro (fun _ => ?_) (fun _ => ?_) <;> conv => whnf))
                all_goals try (exfalso; omega)
                refine VMem.setRec encI_len j 0 (N : Int) rfl rfl rfl hat (by decide) rfl (by simp) ?_
                conv => whnf
                repeat' (first | (refine VLd.intro rfl ?_; conv => whnf) | (refine VArith.i64 (by first | omega | (dsimp only; omega)) ?_; conv => whnf) | (refine VNeed.intro (by first | rfl | (simp; omega) | (simp; done)) ?_; conv => whnf) | (refine VMem.store rfl rfl rfl rfl ?_; conv => whnf) | (refine VSame.intro rfl ?_; conv => whnf) | (refine VDraw.go [] (by kernel_rfl) (by kernel_rfl) ?_; conv => whnf) | (refine VIte.dec (fun _ => ?_) (fun _ => ?_) <;> conv => whnf) | (refine VIte.ndec (fun _ => ?_) (fun _ => ?_) <;> conv => whnf) | (refine VIte.beq (fun _ => ?_) (fun _ => ?_) <;> conv => whnf) | (refine VIte.bne (fun _ => ?_) (fun _ => ?_) <;> conv => whnf) | (refine VIte.intro (fun _ => ?_) (fun _ => ?_) <;> conv => whnf))
                rw [hst, show l.ss.length = (exL l f (j : Int) (N : Int) (M : Int)).length from hel.symm]
                refine VOut.data 3 [(1, (exL l f (j : Int) (N : Int) (M : Int)).flatMap encI)] [] rfl (by repeat' (first | exact FzAll.nil | refine FzAll.flat rfl ?_ | refine FzAll.row rfl rfl (RowTo.one rfl (by simp)) ?_)) (by exact FmAll.nil) (by repeat' (first | exact VTo.undef | exact FrTo.leaf | refine FrTo.node ?_ ?_ ?_ | refine FrTo.none ?_ ?_ | exact VTo.sc (by first | rfl | (congr 1; omega) | (congr 1; simp; omega)) | exact VTos_dv _ _ | refine VTos.cons ?_ ?_ | exact VTos.nil | refine VTo.agg ?_ | refine VTo.tuple ?_ | refine VTo.func ?_ ?_ | exact VTo.fs | exact VTo.fp | exact VTo.nilptr | exact VTo.nilslice | exact VTo.nilfunc | exact VTo.ptr rfl | exact VTo.gl rfl | exact VTo.map rfl | exact VTo.yld rfl | exact VTo.fmMap rfl | exact VTo.fm | exact VTo.glNil' (by decide) rfl rfl | exact VTo.fsNil (by decide) | exact VTo.fsSl rfl rfl (by simp [flat_len encE_len]) | exact VTo.fpPtr rfl | exact VTo.fsGl rfl (by first | rfl | exact flat_len encI_len _ | exact flat_len encT_len _ | exact flat_len encS_len _ | exact flat_len encP_len _ | exact flat_len encL_len _ | exact flat_len encE_len _ | (simp [flat_len encP_len]; done) | simp [flat_len encI_len, flat_len encS_len])))
end Go.Proofs.Ytmpjpjfkbmlmfaa

open Go.Vm
namespace Go.Proofs.Ytmpjpjfkbmlmfaa
set_option maxRecDepth 20000
set_option maxHeartbeats 4000000

theorem gcd_step {n w k : Nat} (hw : 0 < w) (hk : 1 < k) (hG : Nat.gcd n w ≤ k) : (n % k = 0 ∧ w % k = 0) ↔ k = Nat.gcd n w := by
  constructor
  · rintro ⟨h1, h2⟩
    have : k ∣ Nat.gcd n w := Nat.dvd_gcd (Nat.dvd_of_mod_eq_zero h1) (Nat.dvd_of_mod_eq_zero h2)
    have := Nat.le_of_dvd (Nat.gcd_pos_of_pos_right _ hw) this
    omega
  · intro h
    rw [h]
    exact ⟨Nat.mod_eq_zero_of_dvd (Nat.gcd_dvd_left _ _), Nat.mod_eq_zero_of_dvd (Nat.gcd_dvd_right _ _)⟩
theorem gcd_done {n w k : Nat} (hw : 0 < w) (hk : 1 < k) : ¬ ((n / Nat.gcd n w) % k = 0 ∧ (w / Nat.gcd n w) % k = 0) := by
  rintro ⟨h1, h2⟩
  have hp := Nat.gcd_pos_of_pos_right n hw
  have d1 : Nat.gcd n w * k ∣ n := Nat.mul_dvd_of_dvd_div (Nat.gcd_dvd_left _ _) (Nat.dvd_of_mod_eq_zero h1)
  have d2 : Nat.gcd n w * k ∣ w := Nat.mul_dvd_of_dvd_div (Nat.gcd_dvd_right _ _) (Nat.dvd_of_mod_eq_zero h2)
  have := Nat.le_of_dvd hp (Nat.dvd_gcd d1 d2)
  have h3 : Nat.gcd n w * 2 ≤ Nat.gcd n w * k := Nat.mul_le_mul_left _ hk
  omega
theorem ord_mem {l : Lnd} {x : Int} (h : x ∈ ordL l) : ∃ j : Nat, j < l.ss.length ∧ x = j ∧ freeQ l j = true := by
  have := isGo_mem (q := ahB l) (l := frL l l.ss.length) (Nat.le_refl _) x h
  exact mem_selS.1 this
theorem ord_len (l : Lnd) : (ordL l).length ≤ l.ss.length := by
  have : (ordL l).length = (frL l l.ss.length).length := isrt_len _ _
  rw [this]; exact selS_len _ _
/-- The stretch that is cut. -/
def cutC (l : Lnd) (many : Nat) : Int := (ordL l).getD many (-1)
theorem vc_made (l : Lnd) (many n w : Nat) (h : Hp) (o : Ok l) (hm : many ≤ (ordL l).length) (hw : 0 < w) (hw2 : w ≤ 2000) (hnb : n ≤ 1000000) :
    VC Try.prog 59 [vL l, I many, I n, I w] h (vX ⟨(w / Nat.gcd n w : Nat), exL l ((ordL l).take many) (cutC l many) (n / Nat.gcd n w : Nat) (w / Nat.gcd n w : Nat)⟩) h := by
  have hn := o.n
  obtain ⟨G, hG⟩ : ∃ G, G = Nat.gcd n w := ⟨_, rfl⟩
  have hGp : 0 < G := by rw [hG]; exact Nat.gcd_pos_of_pos_right _ hw
  have hGw : G ≤ w := by rw [hG]; exact Nat.le_of_dvd hw (Nat.gcd_dvd_right _ _)
  have hgs := fun k => gcd_step (n := n) (k := k) hw
  have hgd := fun k => gcd_done (n := n) (k := k) hw
  rw [← hG] at hgs hgd ⊢
  have hco := fun h => vc_rorder l h o
  obtain ⟨N, hN⟩ : ∃ N, N = n / G := ⟨_, rfl⟩
  obtain ⟨M, hM⟩ : ∃ M, M = w / G := ⟨_, rfl⟩
  have hM2 : M ≤ 2000 := by rw [hM]; exact Nat.le_trans (Nat.div_le_self _ _) hw2
  have hN2 : N ≤ 1000000 := by rw [hN]; exact Nat.le_trans (Nat.div_le_self _ _) hnb
  rw [← hN, ← hM] at hgd ⊢
  refine VC.body Try.func59 rfl Try.ntmps59 Try.call59 (h.grows_refl) rfl ?_; conv => whnf
  repeat' (first | (refine VLd.intro rfl ?_; conv => whnf) | (refine VArith.i64 (by first | omega | (dsimp only; omega)) ?_; conv => whnf) | (refine VNeed.intro (by first | rfl | (simp; omega) | (simp; done)) ?_; conv => whnf) | (refine VMem.store rfl rfl rfl rfl ?_; conv => whnf) | (refine VSame.intro rfl ?_; conv => whnf) | (refine VDraw.go [] (by kernel_rfl) (by kernel_rfl) ?_; conv => whnf) | (refine VIte.dec (fun _ => ?_) (fun _ => ?_) <;> conv => whnf) | (refine VIte.ndec (fun _ => ?_) (fun _ => ?_) <;> conv => whnf) | (refine VIte.beq (fun _ => ?_) (fun _ => ?_) <;> conv => whnf) | (refine VIte.bne (fun _ => ?_) (fun _ => ?_) <;> conv => whnf) | (refine VIte.intro (fun _ => ?_) (fun _ => ?_) <;> conv => whnf))
  refine VCode.lp (fun x : Nat × Nat × Nat => [(1, I many), (2, I x.2.1), (3, I x.2.2), (4, .ptr (.loc 0) 0), (8, .ptr (.loc 1) 0), (9, I x.1)]) (fun _ => [.flat true (encN l), .flat true [DI 0, .nilslice]]) (fun x => x.1 ≤ 2000 ∧ ((G ≤ x.1 ∧ x.2 = (n, w)) ∨ (x.1 < G ∧ x.2 = (N, M)))) (fun x => x.1) (w, n, w) ⟨hw2, .inl ⟨hGw, rfl⟩⟩ ?_ ?_
  · conv => whnf
    refine Retell.turn ⟨[0,1], 2, [], []⟩ (TurnOk.mk' _ _ [] [] (OutOk.lift _) rfl (by decide) (by repeat' (first | exact BTos.nil | refine BTos.flat rfl rfl (by first | rfl | simp) ?_ | refine BTos.new rfl ?_ | refine BTos.dead rfl rfl ?_ | refine BTos.esE rfl rfl ?_ | refine BTos.row rfl rfl rfl (RowTo.snoc (RowTo.one rfl (by simp))) ?_ | refine BTos.cells rfl rfl rfl (by repeat' (first | exact VTo.undef | exact FrTo.leaf | refine FrTo.node ?_ ?_ ?_ | refine FrTo.none ?_ ?_ | exact VTo.sc (by first | rfl | (congr 1; omega) | (congr 1; simp; omega)) | exact VTos_dv _ _ | refine VTos.cons ?_ ?_ | exact VTos.nil | refine VTo.agg ?_ | refine VTo.tuple ?_ | refine VTo.func ?_ ?_ | exact VTo.fs | exact VTo.fp | exact VTo.nilptr | exact VTo.nilslice | exact VTo.nilfunc | exact VTo.ptr rfl | exact VTo.gl rfl | exact VTo.map rfl | exact VTo.yld rfl | exact VTo.fmMap rfl | exact VTo.fm | exact VTo.glNil' (by decide) rfl rfl | exact VTo.fsNil (by decide) | exact VTo.fsSl rfl rfl (by simp [flat_len encE_len]) | exact VTo.fpPtr rfl | exact VTo.fsGl rfl (by first | rfl | exact flat_len encI_len _ | exact flat_len encT_len _ | exact flat_len encS_len _ | exact flat_len encP_len _ | exact flat_len encL_len _ | exact flat_len encE_len _ | (simp [flat_len encP_len]; done) | simp [flat_len encI_len, flat_len encS_len]))) ?_)) trivial trivial rfl) (by repeat' (first | exact VTo.undef | exact FrTo.leaf | refine FrTo.node ?_ ?_ ?_ | refine FrTo.none ?_ ?_ | exact VTo.sc (by first | rfl | (congr 1; omega) | (congr 1; simp; omega)) | exact VTos_dv _ _ | refine VTos.cons ?_ ?_ | exact VTos.nil | refine VTo.agg ?_ | refine VTo.tuple ?_ | refine VTo.func ?_ ?_ | exact VTo.fs | exact VTo.fp | exact VTo.nilptr | exact VTo.nilslice | exact VTo.nilfunc | exact VTo.ptr rfl | exact VTo.gl rfl | exact VTo.map rfl | exact VTo.yld rfl | exact VTo.fmMap rfl | exact VTo.fm | exact VTo.glNil' (by decide) rfl rfl | exact VTo.fsNil (by decide) | exact VTo.fsSl rfl rfl (by simp [flat_len encE_len]) | exact VTo.fpPtr rfl | exact VTo.fsGl rfl (by first | rfl | exact flat_len encI_len _ | exact flat_len encT_len _ | exact flat_len encS_len _ | exact flat_len encP_len _ | exact flat_len encL_len _ | exact flat_len encE_len _ | (simp [flat_len encP_len]; done) | simp [flat_len encI_len, flat_len encS_len]))) (by first | rfl | (repeat' (first | exact MkTo.nil | refine MkTo.keep rfl ?_ | refine MkTo.drop (by decide) rfl ?_)))
  · rintro ⟨k, a, b⟩ ⟨hk, hab⟩
    dsimp only at hk hab
    conv => whnf
    repeat (first | (refine VLd.intro rfl ?_; conv => whnf) | (refine VArith.i64 (by first | omega | (dsimp only; omega)) ?_; conv => whnf) | (refine VNeed.intro (by first | rfl | (simp; omega) | (simp; done)) ?_; conv => whnf) | (refine VMem.store rfl rfl rfl rfl ?_; conv => whnf) | (refine VSame.intro rfl ?_; conv => whnf) | (refine VDraw.go [] (by kernel_rfl) (by kernel_rfl) ?_; conv => whnf))
    refine VIte.dec (fun h3 => ?_) (fun h3 => ?_)
    · have hk1 : 1 < k := by dsimp only at h3; omega
      have t1 := tmod_nat a k
      have t2 := tmod_nat b k
      have t3 := tdiv_nat a k
      have t4 := tdiv_nat b k
      have hab2 : a ≤ 1000000 ∧ b ≤ 1000000 := by
        rcases hab with ⟨_, h⟩ | ⟨_, h⟩ <;> cases h <;> omega
      have hdv : (a % k = 0 ∧ b % k = 0) → a / k = N ∧ b / k = M ∧ k = G := by
        rintro ⟨e1, e2⟩
        rcases hab with ⟨hg, h⟩ | ⟨hg, h⟩
        · cases h
          have := (hgs k hk1 hg).1 ⟨e1, e2⟩
          rw [hN, hM, this]; exact ⟨rfl, rfl, rfl⟩
        · cases h
          exact absurd ⟨e1, e2⟩ (hgd k hk1)
      have hnd : ¬ (a % k = 0 ∧ b % k = 0) → (G ≤ k - 1 ∧ (a, b) = (n, w)) ∨ (k - 1 < G ∧ (a, b) = (N, M)) := by
        intro e
        rcases hab with ⟨hg, h⟩ | ⟨hg, h⟩
        · cases h
          have : k ≠ G := fun h => e ((hgs k hk1 hg).2 h)
          exact .inl ⟨by omega, rfl⟩
        · exact .inr ⟨by omega, h⟩
      conv => whnf
      repeat' (first | (refine VLd.intro rfl ?_; conv => whnf) | (refine VArith.i64 (by first | omega | (dsimp only; omega)) ?_; conv => whnf) | (refine VNeed.intro (by first | rfl | (simp; omega) | (simp; done)) ?_; conv => whnf) | (refine VMem.store rfl rfl rfl rfl ?_; conv => whnf) | (refine VSame.intro rfl ?_; conv => whnf) | (refine VDraw.go [] (by kernel_rfl) (by kernel_rfl) ?_; conv => whnf) | (refine VIte.dec (fun _ => ?_) (fun _ => ?_) <;> conv => whnf) | (refine VIte.ndec (fun _ => ?_) (fun _ => ?_) <;> conv => whnf) | (refine VIte.beq (fun _ => ?_) (fun _ => ?_) <;> conv => whnf) | (refine VIte.bne (fun _ => ?_) (fun _ => ?_) <;> conv => whnf) | (refine VIte.intro (fun _ => ?_) (fun _ => ?_) <;> conv => whnf))
      · rename_i e1 e2
        rw [t1] at e1
        rw [t2] at e2
        obtain ⟨d1, d2, d3⟩ := hdv ⟨by omega, by omega⟩
        rw [t3, t4, d1, d2, wrap_i64 (n := (N : Int)) (by omega), wrap_i64 (n := (M : Int)) (by omega)]
        refine LEnd.intro (k - 1, N, M) ⟨by dsimp only; omega, .inr ⟨by dsimp only; omega, rfl⟩⟩ (by dsimp only; omega) ?_
        conv => whnf
        refine Retell.turn ⟨[0,1], 2, [], []⟩ (TurnOk.mk' _ _ [] [] (OutOk.lift _) rfl (by decide) (by repeat' (first | exact BTos.nil | refine BTos.flat rfl rfl (by first | rfl | simp) ?_ | refine BTos.new rfl ?_ | refine BTos.dead rfl rfl ?_ | refine BTos.esE rfl rfl ?_ | refine BTos.row rfl rfl rfl (RowTo.snoc (RowTo.one rfl (by simp))) ?_ | refine BTos.cells rfl rfl rfl (by repeat' (first | exact VTo.undef | exact FrTo.leaf | refine FrTo.node ?_ ?_ ?_ | refine FrTo.none ?_ ?_ | exact VTo.sc (by first | rfl | (congr 1; omega) | (congr 1; simp; omega)) | exact VTos_dv _ _ | refine VTos.cons ?_ ?_ | exact VTos.nil | refine VTo.agg ?_ | refine VTo.tuple ?_ | refine VTo.func ?_ ?_ | exact VTo.fs | exact VTo.fp | exact VTo.nilptr | exact VTo.nilslice | exact VTo.nilfunc | exact VTo.ptr rfl | exact VTo.gl rfl | exact VTo.map rfl | exact VTo.yld rfl | exact VTo.fmMap rfl | exact VTo.fm | exact VTo.glNil' (by decide) rfl rfl | exact VTo.fsNil (by decide) | exact VTo.fsSl rfl rfl (by simp [flat_len encE_len]) | exact VTo.fpPtr rfl | exact VTo.fsGl rfl (by first | rfl | exact flat_len encI_len _ | exact flat_len encT_len _ | exact flat_len encS_len _ | exact flat_len encP_len _ | exact flat_len encL_len _ | exact flat_len encE_len _ | (simp [flat_len encP_len]; done) | simp [flat_len encI_len, flat_len encS_len]))) ?_)) trivial trivial rfl) (by repeat' (first | exact VTo.undef | exact FrTo.leaf | refine FrTo.node ?_ ?_ ?_ | refine FrTo.none ?_ ?_ | exact VTo.sc (by first | rfl | (congr 1; omega) | (congr 1; simp; omega)) | exact VTos_dv _ _ | refine VTos.cons ?_ ?_ | exact VTos.nil | refine VTo.agg ?_ | refine VTo.tuple ?_ | refine VTo.func ?_ ?_ | exact VTo.fs | exact VTo.fp | exact VTo.nilptr | exact VTo.nilslice | exact VTo.nilfunc | exact VTo.ptr rfl | exact VTo.gl rfl | exact VTo.map rfl | exact VTo.yld rfl | exact VTo.fmMap rfl | exact VTo.fm | exact VTo.glNil' (by decide) rfl rfl | exact VTo.fsNil (by decide) | exact VTo.fsSl rfl rfl (by simp [flat_len encE_len]) | exact VTo.fpPtr rfl | exact VTo.fsGl rfl (by first | rfl | exact flat_len encI_len _ | exact flat_len encT_len _ | exact flat_len encS_len _ | exact flat_len encP_len _ | exact flat_len encL_len _ | exact flat_len encE_len _ | (simp [flat_len encP_len]; done) | simp [flat_len encI_len, flat_len encS_len]))) (by first | rfl | (repeat' (first | exact MkTo.nil | refine MkTo.keep rfl ?_ | refine MkTo.drop (by decide) rfl ?_)))
      · rename_i e1 e2
        rw [t2] at e2
        refine LEnd.intro (k - 1, a, b) ⟨by dsimp only; omega, hnd (by rintro ⟨_, h⟩; exact e2 (by omega))⟩ (by dsimp only; omega) ?_
        conv => whnf
        refine Retell.turn ⟨[0,1], 2, [], []⟩ (TurnOk.mk' _ _ [] [] (OutOk.lift _) rfl (by decide) (by repeat' (first | exact BTos.nil | refine BTos.flat rfl rfl (by first | rfl | simp) ?_ | refine BTos.new rfl ?_ | refine BTos.dead rfl rfl ?_ | refine BTos.esE rfl rfl ?_ | refine BTos.row rfl rfl rfl (RowTo.snoc (RowTo.one rfl (by simp))) ?_ | refine BTos.cells rfl rfl rfl (by repeat' (first | exact VTo.undef | exact FrTo.leaf | refine FrTo.node ?_ ?_ ?_ | refine FrTo.none ?_ ?_ | exact VTo.sc (by first | rfl | (congr 1; omega) | (congr 1; simp; omega)) | exact VTos_dv _ _ | refine VTos.cons ?_ ?_ | exact VTos.nil | refine VTo.agg ?_ | refine VTo.tuple ?_ | refine VTo.func ?_ ?_ | exact VTo.fs | exact VTo.fp | exact VTo.nilptr | exact VTo.nilslice | exact VTo.nilfunc | exact VTo.ptr rfl | exact VTo.gl rfl | exact VTo.map rfl | exact VTo.yld rfl | exact VTo.fmMap rfl | exact VTo.fm | exact VTo.glNil' (by decide) rfl rfl | exact VTo.fsNil (by decide) | exact VTo.fsSl rfl rfl (by simp [flat_len encE_len]) | exact VTo.fpPtr rfl | exact VTo.fsGl rfl (by first | rfl | exact flat_len encI_len _ | exact flat_len encT_len _ | exact flat_len encS_len _ | exact flat_len encP_len _ | exact flat_len encL_len _ | exact flat_len encE_len _ | (simp [flat_len encP_len]; done) | simp [flat_len encI_len, flat_len encS_len]))) ?_)) trivial trivial rfl) (by repeat' (first | exact VTo.undef | exact FrTo.leaf | refine FrTo.node ?_ ?_ ?_ | refine FrTo.none ?_ ?_ | exact VTo.sc (by first | rfl | (congr 1; omega) | (congr 1; simp; omega)) | exact VTos_dv _ _ | refine VTos.cons ?_ ?_ | exact VTos.nil | refine VTo.agg ?_ | refine VTo.tuple ?_ | refine VTo.func ?_ ?_ | exact VTo.fs | exact VTo.fp | exact VTo.nilptr | exact VTo.nilslice | exact VTo.nilfunc | exact VTo.ptr rfl | exact VTo.gl rfl | exact VTo.map rfl | exact VTo.yld rfl | exact VTo.fmMap rfl | exact VTo.fm | exact VTo.glNil' (by decide) rfl rfl | exact VTo.fsNil (by decide) | exact VTo.fsSl rfl rfl (by simp [flat_len encE_len]) | exact VTo.fpPtr rfl | exact VTo.fsGl rfl (by first | rfl | exact flat_len encI_len _ | exact flat_len encT_len _ | exact flat_len encS_len _ | exact flat_len encP_len _ | exact flat_len encL_len _ | exact flat_len encE_len _ | (simp [flat_len encP_len]; done) | simp [flat_len encI_len, flat_len encS_len]))) (by first | rfl | (repeat' (first | exact MkTo.nil | refine MkTo.keep rfl ?_ | refine MkTo.drop (by decide) rfl ?_)))
      · rename_i e1
        rw [t1] at e1
        refine LEnd.intro (k - 1, a, b) ⟨by dsimp only; omega, hnd (by rintro ⟨h, _⟩; exact e1 (by omega))⟩ (by dsimp only; omega) ?_
        conv => whnf
        refine Retell.turn ⟨[0,1], 2, [], []⟩ (TurnOk.mk' _ _ [] [] (OutOk.lift _) rfl (by decide) (by repeat' (first | exact BTos.nil | refine BTos.flat rfl rfl (by first | rfl | simp) ?_ | refine BTos.new rfl ?_ | refine BTos.dead rfl rfl ?_ | refine BTos.esE rfl rfl ?_ | refine BTos.row rfl rfl rfl (RowTo.snoc (RowTo.one rfl (by simp))) ?_ | refine BTos.cells rfl rfl rfl (by repeat' (first | exact VTo.undef | exact FrTo.leaf | refine FrTo.node ?_ ?_ ?_ | refine FrTo.none ?_ ?_ | exact VTo.sc (by first | rfl | (congr 1; omega) | (congr 1; simp; omega)) | exact VTos_dv _ _ | refine VTos.cons ?_ ?_ | exact VTos.nil | refine VTo.agg ?_ | refine VTo.tuple ?_ | refine VTo.func ?_ ?_ | exact VTo.fs | exact VTo.fp | exact VTo.nilptr | exact VTo.nilslice | exact VTo.nilfunc | exact VTo.ptr rfl | exact VTo.gl rfl | exact VTo.map rfl | exact VTo.yld rfl | exact VTo.fmMap rfl | exact VTo.fm | exact VTo.glNil' (by decide) rfl rfl | exact VTo.fsNil (by decide) | exact VTo.fsSl rfl rfl (by simp [flat_len encE_len]) | exact VTo.fpPtr rfl | exact VTo.fsGl rfl (by first | rfl | exact flat_len encI_len _ | exact flat_len encT_len _ | exact flat_len encS_len _ | exact flat_len encP_len _ | exact flat_len encL_len _ | exact flat_len encE_len _ | (simp [flat_len encP_len]; done) | simp [flat_len encI_len, flat_len encS_len]))) ?_)) trivial trivial rfl) (by repeat' (first | exact VTo.undef | exact FrTo.leaf | refine FrTo.node ?_ ?_ ?_ | refine FrTo.none ?_ ?_ | exact VTo.sc (by first | rfl | (congr 1; omega) | (congr 1; simp; omega)) | exact VTos_dv _ _ | refine VTos.cons ?_ ?_ | exact VTos.nil | refine VTo.agg ?_ | refine VTo.tuple ?_ | refine VTo.func ?_ ?_ | exact VTo.fs | exact VTo.fp | exact VTo.nilptr | exact VTo.nilslice | exact VTo.nilfunc | exact VTo.ptr rfl | exact VTo.gl rfl | exact VTo.map rfl | exact VTo.yld rfl | exact VTo.fmMap rfl | exact VTo.fm | exact VTo.glNil' (by decide) rfl rfl | exact VTo.fsNil (by decide) | exact VTo.fsSl rfl rfl (by simp [flat_len encE_len]) | exact VTo.fpPtr rfl | exact VTo.fsGl rfl (by first | rfl | exact flat_len encI_len _ | exact flat_len encT_len _ | exact flat_len encS_len _ | exact flat_len encP_len _ | exact flat_len encL_len _ | exact flat_len encE_len _ | (simp [flat_len encP_len]; done) | simp [flat_len encI_len, flat_len encS_len]))) (by first | rfl | (repeat' (first | exact MkTo.nil | refine MkTo.keep rfl ?_ | refine MkTo.drop (by decide) rfl ?_)))
    · have hab3 : a = N ∧ b = M := by
        dsimp only at h3
        rcases hab with ⟨hg, h⟩ | ⟨hg, h⟩
        · cases h
          have hG1 : G = 1 := by omega
          rw [hN, hM, hG1, Nat.div_one, Nat.div_one]; exact ⟨rfl, rfl⟩
        · cases h; exact ⟨rfl, rfl⟩
      obtain ⟨rfl, rfl⟩ := hab3
      have hol := ord_len l
      have hom := fun x hx => ord_mem (l := l) (x := x) hx
      conv => whnf
      repeat' (first | (refine VLd.intro rfl ?_; conv => whnf) | (refine VArith.i64 (by first | omega | (dsimp only; omega)) ?_; conv => whnf) | (refine VNeed.intro (by first | rfl | (simp; omega) | (simp; done)) ?_; conv => whnf) | (refine VMem.store rfl rfl rfl rfl ?_; conv => whnf) | (refine VSame.intro rfl ?_; conv => whnf) | (refine VIte.dec (fun _ => ?_) (fun _ => ?_) <;> conv => whnf) | (refine VIte.ndec (fun _ => ?_) (fun _ => ?_) <;> conv => whnf) | (refine VIte.beq (fun _ => ?_) (fun _ => ?_) <;> conv => whnf) | (refine VIte.bne (fun _ => ?_) (fun _ => ?_) <;> conv => whnf) | (refine VIte.intro (fun _ => ?_) (fun _ => ?_) <;> conv => whnf))
      refine VCode.lp (fun x : Nat × List Int => [(1, I many), (2, I a), (3, I b), (4, .ptr (.loc 0) 0), (8, .ptr (.loc 1) 0), (10, .ptr (.loc 2) 0), (11, I x.1)]) (fun x => [.flat true (encN l), .flat true [DI 0, .nilslice], .cells true [I b, .gl (.loc 3) 1 x.2.length], .flat true (x.2.flatMap encI)]) (fun x => x.1 ≤ l.ss.length ∧ x.2 = (exL l [] (-1) (a : Int) (b : Int)).take x.1) (fun x => l.ss.length - x.1) (0, []) ⟨Nat.zero_le _, rfl⟩ ?_ ?_
      · conv => whnf
        refine Retell.turn ⟨[0,1,2,3], 3, [], []⟩ (TurnOk.mk' _ _ [] [] (OutOk.lift _) rfl (by decide) (by repeat' (first | exact BTos.nil | refine BTos.flat rfl rfl (by first | rfl | simp) ?_ | refine BTos.new rfl ?_ | refine BTos.dead rfl rfl ?_ | refine BTos.esE rfl rfl ?_ | refine BTos.row rfl rfl rfl (RowTo.snoc (RowTo.one rfl (by simp))) ?_ | refine BTos.cells rfl rfl rfl (by repeat' (first | exact VTo.undef | exact FrTo.leaf | refine FrTo.node ?_ ?_ ?_ | refine FrTo.none ?_ ?_ | exact VTo.sc (by first | rfl | (congr 1; omega) | (congr 1; simp; omega)) | exact VTos_dv _ _ | refine VTos.cons ?_ ?_ | exact VTos.nil | refine VTo.agg ?_ | refine VTo.tuple ?_ | refine VTo.func ?_ ?_ | exact VTo.fs | exact VTo.fp | exact VTo.nilptr | exact VTo.nilslice | exact VTo.nilfunc | exact VTo.ptr rfl | exact VTo.gl rfl | exact VTo.map rfl | exact VTo.yld rfl | exact VTo.fmMap rfl | exact VTo.fm | exact VTo.glNil' (by decide) rfl rfl | exact VTo.fsNil (by decide) | exact VTo.fsSl rfl rfl (by simp [flat_len encE_len]) | exact VTo.fpPtr rfl | exact VTo.fsGl rfl (by first | rfl | exact flat_len encI_len _ | exact flat_len encT_len _ | exact flat_len encS_len _ | exact flat_len encP_len _ | exact flat_len encL_len _ | exact flat_len encE_len _ | (simp [flat_len encP_len]; done) | simp [flat_len encI_len, flat_len encS_len]))) ?_)) trivial trivial rfl) (by repeat' (first | exact VTo.undef | exact FrTo.leaf | refine FrTo.node ?_ ?_ ?_ | refine FrTo.none ?_ ?_ | exact VTo.sc (by first | rfl | (congr 1; omega) | (congr 1; simp; omega)) | exact VTos_dv _ _ | refine VTos.cons ?_ ?_ | exact VTos.nil | refine VTo.agg ?_ | refine VTo.tuple ?_ | refine VTo.func ?_ ?_ | exact VTo.fs | exact VTo.fp | exact VTo.nilptr | exact VTo.nilslice | exact VTo.nilfunc | exact VTo.ptr rfl | exact VTo.gl rfl | exact VTo.map rfl | exact VTo.yld rfl | exact VTo.fmMap rfl | exact VTo.fm | exact VTo.glNil' (by decide) rfl rfl | exact VTo.fsNil (by decide) | exact VTo.fsSl rfl rfl (by simp [flat_len encE_len]) | exact VTo.fpPtr rfl | exact VTo.fsGl rfl (by first | rfl | exact flat_len encI_len _ | exact flat_len encT_len _ | exact flat_len encS_len _ | exact flat_len encP_len _ | exact flat_len encL_len _ | exact flat_len encE_len _ | (simp [flat_len encP_len]; done) | simp [flat_len encI_len, flat_len encS_len]))) (by first | rfl | (repeat' (first | exact MkTo.nil | refine MkTo.keep rfl ?_ | refine MkTo.drop (by decide) rfl ?_)))
      · rintro ⟨i, P⟩ ⟨hi, hP⟩
        dsimp only at hi hP
        have hPl : P.length ≤ l.ss.length := by rw [hP, List.length_take, exL_len]; omega
        conv => whnf
        repeat (first | (refine VLd.intro rfl ?_; conv => whnf) | (refine VArith.i64 (by first | omega | (dsimp only; omega)) ?_; conv => whnf) | (refine VNeed.intro (by first | rfl | (simp; omega) | (simp; done)) ?_; conv => whnf) | (refine VMem.store rfl rfl rfl rfl ?_; conv => whnf) | (refine VSame.intro rfl ?_; conv => whnf) | (refine VDraw.go [] (by kernel_rfl) (by kernel_rfl) ?_; conv => whnf))
        refine VIte.dec (fun h4 => ?_) (fun h4 => ?_)
        · have hs : l.ss[i]? = some l.ss[i] := List.getElem?_eq_getElem (by omega)
          have q1 := (o.ss _ (List.getElem_mem (by omega : i < l.ss.length))).ow
          have es := sAt_eq hs
          have hx2 := exL_at (l := l) (f := []) (c := -1) (n := (a : Int)) (w := (b : Int)) (i := i) (by omega)
          have hpr : prt l [] (-1) (a : Int) (b : Int) i = bif isFree l.ss[i] then 0 else (1 - l.ss[i].ow) * (b : Int) := by
            have hk1 : ¬ ((i : Int) = -1) := by omega
            unfold prt freeQ
            rw [if_neg hk1, if_neg (by simp), es]
          have htk : (exL l [] (-1) (a : Int) (b : Int)).take (i + 1) = P ++ [prt l [] (-1) (a : Int) (b : Int) i] := by rw [List.take_add_one, hx2, hP]; rfl
          rw [hpr] at htk
          generalize l.ss[i] = s at hs q1 htk
          have p0 : (s.we ≠ -1 ∧ s.ow = 0) → (bif isFree s then 0 else (1 - s.ow) * (b : Int)) = (b : Int) := by
            rintro ⟨e1, e2⟩
            unfold isFree
            rw [decide_eq_false e1, e2, cond_false]; omega
          have p1 : ¬ (s.we ≠ -1 ∧ s.ow = 0) → (bif isFree s then 0 else (1 - s.ow) * (b : Int)) = 0 := by
            intro e
            unfold isFree
            by_cases e1 : s.we = -1
            · rw [decide_eq_true e1]; rfl
            · rw [decide_eq_false e1, cond_false, show s.ow = 1 by omega]; omega
          generalize (bif isFree s then 0 else (1 - s.ow) * (b : Int)) = pv at htk p0 p1
          conv => whnf
          repeat' (first | (refine VLd.intro rfl ?_; conv => whnf) | (refine VArith.i64 (by first | omega | (dsimp only; omega)) ?_; conv => whnf) | (refine VNeed.intro (by first | rfl | (simp; omega) | (simp; done)) ?_; conv => whnf) | (refine VMem.store rfl rfl rfl rfl ?_; conv => whnf) | (refine VSame.intro rfl ?_; conv => whnf) | (refine VDraw.go [] (by kernel_rfl) (by kernel_rfl) ?_; conv => whnf) | (refine VIte.dec (fun _ => ?_) (fun _ => ?_) <;> conv => whnf) | (refine VIte.ndec (fun _ => ?_) (fun _ => ?_) <;> conv => whnf) | (refine VIte.beq (fun _ => ?_) (fun _ => ?_) <;> conv => whnf) | (refine VIte.bne (fun _ => ?_) (fun _ => ?_) <;> conv => whnf) | (refine VIte.intro (fun _ => ?_) (fun _ => ?_) <;> conv => whnf) | (refine VAny.ix encT_len i rfl rfl hs ?_; conv => whnf))
          all_goals (first
            | (obtain rfl := p0 (by omega)
               refine VMem.app1 (l := P) (b : Int) encI_len rfl rfl rfl rfl rfl (by omega) ?_
               conv => whnf
               repeat' (first | (refine VLd.intro rfl ?_; conv => whnf) | (refine VArith.i64 (by first | omega | (dsimp only; omega)) ?_; conv => whnf) | (refine VNeed.intro (by first | rfl | (simp; omega) | (simp; done)) ?_; conv => whnf) | (refine VMem.store rfl rfl rfl rfl ?_; conv => whnf) | (refine VSame.intro rfl ?_; conv => whnf) | (refine VIte.dec (fun _ => ?_) (fun _ => ?_) <;> conv => whnf) | (refine VIte.ndec (fun _ => ?_) (fun _ => ?_) <;> conv => whnf) | (refine VIte.beq (fun _ => ?_) (fun _ => ?_) <;> conv => whnf) | (refine VIte.bne (fun _ => ?_) (fun _ => ?_) <;> conv => whnf) | (refine VIte.intro (fun _ => ?_) (fun _ => ?_) <;> conv => whnf))
               refine LEnd.intro (i + 1, P ++ [(b : Int)]) ⟨by dsimp only; omega, htk.symm⟩ (by dsimp only; omega) ?_
               conv => whnf
               rw [List.length_append]
               refine Retell.turn ⟨[0,1,2,5], 6, [], []⟩ (TurnOk.mk' _ _ [] [] (OutOk.lift _) rfl (by decide) (by repeat' (first | exact BTos.nil | refine BTos.flat rfl rfl (by first | rfl | simp) ?_ | refine BTos.new rfl ?_ | refine BTos.dead rfl rfl ?_ | refine BTos.esE rfl rfl ?_ | refine BTos.row rfl rfl rfl (RowTo.snoc (RowTo.one rfl (by simp))) ?_ | refine BTos.cells rfl rfl rfl (by repeat' (first | exact VTo.undef | exact FrTo.leaf | refine FrTo.node ?_ ?_ ?_ | refine FrTo.none ?_ ?_ | exact VTo.sc (by first | rfl | (congr 1; omega) | (congr 1; simp; omega)) | exact VTos_dv _ _ | refine VTos.cons ?_ ?_ | exact VTos.nil | refine VTo.agg ?_ | refine VTo.tuple ?_ | refine VTo.func ?_ ?_ | exact VTo.fs | exact VTo.fp | exact VTo.nilptr | exact VTo.nilslice | exact VTo.nilfunc | exact VTo.ptr rfl | exact VTo.gl rfl | exact VTo.map rfl | exact VTo.yld rfl | exact VTo.fmMap rfl | exact VTo.fm | exact VTo.glNil' (by decide) rfl rfl | exact VTo.fsNil (by decide) | exact VTo.fsSl rfl rfl (by simp [flat_len encE_len]) | exact VTo.fpPtr rfl | exact VTo.fsGl rfl (by first | rfl | exact flat_len encI_len _ | exact flat_len encT_len _ | exact flat_len encS_len _ | exact flat_len encP_len _ | exact flat_len encL_len _ | exact flat_len encE_len _ | (simp [flat_len encP_len]; done) | simp [flat_len encI_len, flat_len encS_len]))) ?_)) trivial trivial rfl) (by repeat' (first | exact VTo.undef | exact FrTo.leaf | refine FrTo.node ?_ ?_ ?_ | refine FrTo.none ?_ ?_ | exact VTo.sc (by first | rfl | (congr 1; omega) | (congr 1; simp; omega)) | exact VTos_dv _ _ | refine VTos.cons ?_ ?_ | exact VTos.nil | refine VTo.agg ?_ | refine VTo.tuple ?_ | refine VTo.func ?_ ?_ | exact VTo.fs | exact VTo.fp | exact VTo.nilptr | exact VTo.nilslice | exact VTo.nilfunc | exact VTo.ptr rfl | exact VTo.gl rfl | exact VTo.map rfl | exact VTo.yld rfl | exact VTo.fmMap rfl | exact VTo.fm | exact VTo.glNil' (by decide) rfl rfl | exact VTo.fsNil (by decide) | exact VTo.fsSl rfl rfl (by simp [flat_len encE_len]) | exact VTo.fpPtr rfl | exact VTo.fsGl rfl (by first | rfl | exact flat_len encI_len _ | exact flat_len encT_len _ | exact flat_len encS_len _ | exact flat_len encP_len _ | exact flat_len encL_len _ | exact flat_len encE_len _ | (simp [flat_len encP_len]; done) | simp [flat_len encI_len, flat_len encS_len]))) (by first | rfl | (repeat' (first | exact MkTo.nil | refine MkTo.keep rfl ?_ | refine MkTo.drop (by decide) rfl ?_))))
            | (obtain rfl := p1 (by omega)
               refine VMem.app1 (l := P) (0 : Int) encI_len rfl rfl rfl rfl rfl (by omega) ?_
               conv => whnf
               repeat' (first | (refine VLd.intro rfl ?_; conv => whnf) | (refine VArith.i64 (by first | omega | (dsimp only; omega)) ?_; conv => whnf) | (refine VNeed.intro (by first | rfl | (simp; omega) | (simp; done)) ?_; conv => whnf) | (refine VMem.store rfl rfl rfl rfl ?_; conv => whnf) | (refine VSame.intro rfl ?_; conv => whnf) | (refine VIte.dec (fun _ => ?_) (fun _ => ?_) <;> conv => whnf) | (refine VIte.ndec (fun _ => ?_) (fun _ => ?_) <;> conv => whnf) | (refine VIte.beq (fun _ => ?_) (fun _ => ?_) <;> conv => whnf) | (refine VIte.bne (fun _ => ?_) (fun _ => ?_) <;> conv => whnf) | (refine VIte.intro (fun _ => ?_) (fun _ => ?_) <;> conv => whnf))
               refine LEnd.intro (i + 1, P ++ [(0 : Int)]) ⟨by dsimp only; omega, htk.symm⟩ (by dsimp only; omega) ?_
               conv => whnf
               rw [List.length_append]
               refine Retell.turn ⟨[0,1,2,5], 6, [], []⟩ (TurnOk.mk' _ _ [] [] (OutOk.lift _) rfl (by decide) (by repeat' (first | exact BTos.nil | refine BTos.flat rfl rfl (by first | rfl | simp) ?_ | refine BTos.new rfl ?_ | refine BTos.dead rfl rfl ?_ | refine BTos.esE rfl rfl ?_ | refine BTos.row rfl rfl rfl (RowTo.snoc (RowTo.one rfl (by simp))) ?_ | refine BTos.cells rfl rfl rfl (by repeat' (first | exact VTo.undef | exact FrTo.leaf | refine FrTo.node ?_ ?_ ?_ | refine FrTo.none ?_ ?_ | exact VTo.sc (by first | rfl | (congr 1; omega) | (congr 1; simp; omega)) | exact VTos_dv _ _ | refine VTos.cons ?_ ?_ | exact VTos.nil | refine VTo.agg ?_ | refine VTo.tuple ?_ | refine VTo.func ?_ ?_ | exact VTo.fs | exact VTo.fp | exact VTo.nilptr | exact VTo.nilslice | exact VTo.nilfunc | exact VTo.ptr rfl | exact VTo.gl rfl | exact VTo.map rfl | exact VTo.yld rfl | exact VTo.fmMap rfl | exact VTo.fm | exact VTo.glNil' (by decide) rfl rfl | exact VTo.fsNil (by decide) | exact VTo.fsSl rfl rfl (by simp [flat_len encE_len]) | exact VTo.fpPtr rfl | exact VTo.fsGl rfl (by first | rfl | exact flat_len encI_len _ | exact flat_len encT_len _ | exact flat_len encS_len _ | exact flat_len encP_len _ | exact flat_len encL_len _ | exact flat_len encE_len _ | (simp [flat_len encP_len]; done) | simp [flat_len encI_len, flat_len encS_len]))) ?_)) trivial trivial rfl) (by repeat' (first | exact VTo.undef | exact FrTo.leaf | refine FrTo.node ?_ ?_ ?_ | refine FrTo.none ?_ ?_ | exact VTo.sc (by first | rfl | (congr 1; omega) | (congr 1; simp; omega)) | exact VTos_dv _ _ | refine VTos.cons ?_ ?_ | exact VTos.nil | refine VTo.agg ?_ | refine VTo.tuple ?_ | refine VTo.func ?_ ?_ | exact VTo.fs | exact VTo.fp | exact VTo.nilptr | exact VTo.nilslice | exact VTo.nilfunc | exact VTo.ptr rfl | exact VTo.gl rfl | exact VTo.map rfl | exact VTo.yld rfl | exact VTo.fmMap rfl | exact VTo.fm | exact VTo.glNil' (by decide) rfl rfl | exact VTo.fsNil (by decide) | exact VTo.fsSl rfl rfl (by simp [flat_len encE_len]) | exact VTo.fpPtr rfl | exact VTo.fsGl rfl (by first | rfl | exact flat_len encI_len _ | exact flat_len encT_len _ | exact flat_len encS_len _ | exact flat_len encP_len _ | exact flat_len encL_len _ | exact flat_len encE_len _ | (simp [flat_len encP_len]; done) | simp [flat_len encI_len, flat_len encS_len]))) (by first | rfl | (repeat' (first | exact MkTo.nil | refine MkTo.keep rfl ?_ | refine MkTo.drop (by decide) rfl ?_)))))
        · have hPe : P = exL l [] (-1) (a : Int) (b : Int) := by
            rw [hP]; exact List.take_of_length_le (by rw [exL_len]; dsimp only at h4; omega)
          subst hPe
          conv => whnf
          repeat' (first | (refine VLd.intro rfl ?_; conv => whnf) | (refine VArith.i64 (by first | omega | (dsimp only; omega)) ?_; conv => whnf) | (refine VNeed.intro (by first | rfl | (simp; omega) | (simp; done)) ?_; conv => whnf) | (refine VMem.store rfl rfl rfl rfl ?_; conv => whnf) | (refine VSame.intro rfl ?_; conv => whnf) | (refine VIte.dec (fun _ => ?_) (fun _ => ?_) <;> conv => whnf) | (refine VIte.ndec (fun _ => ?_) (fun _ => ?_) <;> conv => whnf) | (refine VIte.beq (fun _ => ?_) (fun _ => ?_) <;> conv => whnf) | (refine VIte.bne (fun _ => ?_) (fun _ => ?_) <;> conv => whnf) | (refine VIte.intro (fun _ => ?_) (fun _ => ?_) <;> conv => whnf) | (refine VCall.intro (hco _) ?_; conv => whnf))
          refine VCode.lp (fun j : Nat => [(1, I many), (2, I a), (3, I b), (8, .ptr (.loc 0) 0), (10, .ptr (.loc 1) 0), (13, ints (ordL l)), (14, I j)]) (fun j => [.flat true [DI 0, .nilslice], .cells true [I b, .gl (.loc 2) 1 l.ss.length], .flat true ((exL l ((ordL l).take j) (-1) (a : Int) (b : Int)).flatMap encI)]) (fun j => j ≤ many) (fun j => many - j) 0 (Nat.zero_le _) ?_ ?_
          · conv => whnf
            rw [exL_len]
            refine Retell.turn ⟨[1,2,3], 4, [], []⟩ (TurnOk.mk' _ _ [] [] (OutOk.lift _) rfl (by decide) (by repeat' (first | exact BTos.nil | refine BTos.flat rfl rfl (by first | rfl | simp) ?_ | refine BTos.new rfl ?_ | refine BTos.dead rfl rfl ?_ | refine BTos.esE rfl rfl ?_ | refine BTos.row rfl rfl rfl (RowTo.snoc (RowTo.one rfl (by simp))) ?_ | refine BTos.cells rfl rfl rfl (by repeat' (first | exact VTo.undef | exact FrTo.leaf | refine FrTo.node ?_ ?_ ?_ | refine FrTo.none ?_ ?_ | exact VTo.sc (by first | rfl | (congr 1; omega) | (congr 1; simp; omega)) | exact VTos_dv _ _ | refine VTos.cons ?_ ?_ | exact VTos.nil | refine VTo.agg ?_ | refine VTo.tuple ?_ | refine VTo.func ?_ ?_ | exact VTo.fs | exact VTo.fp | exact VTo.nilptr | exact VTo.nilslice | exact VTo.nilfunc | exact VTo.ptr rfl | exact VTo.gl rfl | exact VTo.map rfl | exact VTo.yld rfl | exact VTo.fmMap rfl | exact VTo.fm | exact VTo.glNil' (by decide) rfl rfl | exact VTo.fsNil (by decide) | exact VTo.fsSl rfl rfl (by simp [flat_len encE_len]) | exact VTo.fpPtr rfl | exact VTo.fsGl rfl (by first | rfl | exact flat_len encI_len _ | exact flat_len encT_len _ | exact flat_len encS_len _ | exact flat_len encP_len _ | exact flat_len encL_len _ | exact flat_len encE_len _ | (simp [flat_len encP_len]; done) | simp [flat_len encI_len, flat_len encS_len]))) ?_)) trivial trivial rfl) (by repeat' (first | exact VTo.undef | exact FrTo.leaf | refine FrTo.node ?_ ?_ ?_ | refine FrTo.none ?_ ?_ | exact VTo.sc (by first | rfl | (congr 1; omega) | (congr 1; simp; omega)) | exact VTos_dv _ _ | refine VTos.cons ?_ ?_ | exact VTos.nil | refine VTo.agg ?_ | refine VTo.tuple ?_ | refine VTo.func ?_ ?_ | exact VTo.fs | exact VTo.fp | exact VTo.nilptr | exact VTo.nilslice | exact VTo.nilfunc | exact VTo.ptr rfl | exact VTo.gl rfl | exact VTo.map rfl | exact VTo.yld rfl | exact VTo.fmMap rfl | exact VTo.fm | exact VTo.glNil' (by decide) rfl rfl | exact VTo.fsNil (by decide) | exact VTo.fsSl rfl rfl (by simp [flat_len encE_len]) | exact VTo.fpPtr rfl | exact VTo.fsGl rfl (by first | rfl | exact flat_len encI_len _ | exact flat_len encT_len _ | exact flat_len encS_len _ | exact flat_len encP_len _ | exact flat_len encL_len _ | exact flat_len encE_len _ | (simp [flat_len encP_len]; done) | simp [flat_len encI_len, flat_len encS_len]))) (by first | rfl | (repeat' (first | exact MkTo.nil | refine MkTo.keep rfl ?_ | refine MkTo.drop (by decide) rfl ?_)))
          · intro j hj
            conv => whnf
            repeat (first | (refine VLd.intro rfl ?_; conv => whnf) | (refine VArith.i64 (by first | omega | (dsimp only; omega)) ?_; conv => whnf) | (refine VNeed.intro (by first | rfl | (simp; omega) | (simp; done)) ?_; conv => whnf) | (refine VMem.store rfl rfl rfl rfl ?_; conv => whnf) | (refine VSame.intro rfl ?_; conv => whnf) | (refine VDraw.go [] (by kernel_rfl) (by kernel_rfl) ?_; conv => whnf))
            refine VIte.dec (fun h5 => ?_) (fun h5 => ?_)
            · have hx : (ordL l)[j]? = some (ordL l)[j] := List.getElem?_eq_getElem (by omega)
              obtain ⟨m, hm1, hm2, _⟩ := hom _ (List.getElem_mem (by omega : j < (ordL l).length))
              rw [hm2] at hx
              have hat := exL_at (l := l) (f := (ordL l).take j) (c := -1) (n := (a : Int)) (w := (b : Int)) hm1
              have hst := exL_set (l := l) (f := (ordL l).take j) (n := (a : Int)) (w := (b : Int)) hm1
              have htk : (ordL l).take j ++ [(m : Int)] = (ordL l).take (j + 1) := by rw [List.take_add_one, hx]; rfl
              rw [htk] at hst
              conv => whnf
              repeat' (first | (refine VLd.intro rfl ?_; conv => whnf) | (refine VArith.i64 (by first | omega | (dsimp only; omega)) ?_; conv => whnf) | (refine VNeed.intro (by first | rfl | (simp; omega) | (simp; done)) ?_; conv => whnf) | (refine VMem.store rfl rfl rfl rfl ?_; conv => whnf) | (refine VSame.intro rfl ?_; conv => whnf) | (refine VDraw.go [] (by kernel_rfl) (by kernel_rfl) ?_; conv => whnf) | (refine VIte.dec (fun _ => ?_) (fun _ => ?_) <;> conv => whnf) | (refine VIte.ndec (fun _ => ?_) (fun _ => ?_) <;> conv => whnf) | (refine VIte.beq (fun _ => ?_) (fun _ => ?_) <;> conv => whnf) | (refine VIte.bne (fun _ => ?_) (fun _ => ?_) <;> conv => whnf) | (refine VIte.intro (fun _ => ?_) (fun _ => ?_) <;> conv => whnf) | (refine VAny.ix encI_len j rfl rfl hx ?_; conv => whnf))
              refine VMem.setRec encI_len m 0 (b : Int) rfl rfl rfl hat (by decide) rfl (by simp) ?_
              conv => whnf
              repeat' (first | (refine VLd.intro rfl ?_; conv => whnf) | (refine VArith.i64 (by first | omega | (dsimp only; omega)) ?_; conv => whnf) | (refine VNeed.intro (by first | rfl | (simp; omega) | (simp; done)) ?_; conv => whnf) | (refine VMem.store rfl rfl rfl rfl ?_; conv => whnf) | (refine VSame.intro rfl ?_; conv => whnf) | (refine VIte.dec (fun _ => ?_) (fun _ => ?_) <;> conv => whnf) | (refine VIte.ndec (fun _ => ?_) (fun _ => ?_) <;> conv => whnf) | (refine VIte.beq (fun _ => ?_) (fun _ => ?_) <;> conv => whnf) | (refine VIte.bne (fun _ => ?_) (fun _ => ?_) <;> conv => whnf) | (refine VIte.intro (fun _ => ?_) (fun _ => ?_) <;> conv => whnf))
              refine LEnd.intro (j + 1) (by omega) (by omega) ?_
              conv => whnf
              rw [hst]
              refine Retell.turn ⟨[0,1,2], 3, [], []⟩ (TurnOk.mk' _ _ [] [] (OutOk.lift _) rfl (by decide) (by repeat' (first | exact BTos.nil | refine BTos.flat rfl rfl (by first | rfl | simp) ?_ | refine BTos.new rfl ?_ | refine BTos.dead rfl rfl ?_ | refine BTos.esE rfl rfl ?_ | refine BTos.row rfl rfl rfl (RowTo.snoc (RowTo.one rfl (by simp))) ?_ | refine BTos.cells rfl rfl rfl (by repeat' (first | exact VTo.undef | exact FrTo.leaf | refine FrTo.node ?_ ?_ ?_ | refine FrTo.none ?_ ?_ | exact VTo.sc (by first | rfl | (congr 1; omega) | (congr 1; simp; omega)) | exact VTos_dv _ _ | refine VTos.cons ?_ ?_ | exact VTos.nil | refine VTo.agg ?_ | refine VTo.tuple ?_ | refine VTo.func ?_ ?_ | exact VTo.fs | exact VTo.fp | exact VTo.nilptr | exact VTo.nilslice | exact VTo.nilfunc | exact VTo.ptr rfl | exact VTo.gl rfl | exact VTo.map rfl | exact VTo.yld rfl | exact VTo.fmMap rfl | exact VTo.fm | exact VTo.glNil' (by decide) rfl rfl | exact VTo.fsNil (by decide) | exact VTo.fsSl rfl rfl (by simp [flat_len encE_len]) | exact VTo.fpPtr rfl | exact VTo.fsGl rfl (by first | rfl | exact flat_len encI_len _ | exact flat_len encT_len _ | exact flat_len encS_len _ | exact flat_len encP_len _ | exact flat_len encL_len _ | exact flat_len encE_len _ | (simp [flat_len encP_len]; done) | simp [flat_len encI_len, flat_len encS_len]))) ?_)) trivial trivial rfl) (by repeat' (first | exact VTo.undef | exact FrTo.leaf | refine FrTo.node ?_ ?_ ?_ | refine FrTo.none ?_ ?_ | exact VTo.sc (by first | rfl | (congr 1; omega) | (congr 1; simp; omega)) | exact VTos_dv _ _ | refine VTos.cons ?_ ?_ | exact VTos.nil | refine VTo.agg ?_ | refine VTo.tuple ?_ | refine VTo.func ?_ ?_ | exact VTo.fs | exact VTo.fp | exact VTo.nilptr | exact VTo.nilslice | exact VTo.nilfunc | exact VTo.ptr rfl | exact VTo.gl rfl | exact VTo.map rfl | exact VTo.yld rfl | exact VTo.fmMap rfl | exact VTo.fm | exact VTo.glNil' (by decide) rfl rfl | exact VTo.fsNil (by decide) | exact VTo.fsSl rfl rfl (by simp [flat_len encE_len]) | exact VTo.fpPtr rfl | exact VTo.fsGl rfl (by first | rfl | exact flat_len encI_len _ | exact flat_len encT_len _ | exact flat_len encS_len _ | exact flat_len encP_len _ | exact flat_len encL_len _ | exact flat_len encE_len _ | (simp [flat_len encP_len]; done) | simp [flat_len encI_len, flat_len encS_len]))) (by first | rfl | (repeat' (first | exact MkTo.nil | refine MkTo.keep rfl ?_ | refine MkTo.drop (by decide) rfl ?_)))
            · have hjm : j = many := by omega
              subst hjm
              conv => whnf
              repeat' (first | (refine VLd.intro rfl ?_; conv => whnf) | (refine VArith.i64 (by first | omega | (dsimp only; omega)) ?_; conv => whnf) | (refine VNeed.intro (by first | rfl | (simp; omega) | (simp; done)) ?_; conv => whnf) | (refine VMem.store rfl rfl rfl rfl ?_; conv => whnf) | (refine VSame.intro rfl ?_; conv => whnf) | (refine VDraw.go [] (by kernel_rfl) (by kernel_rfl) ?_; conv => whnf) | (refine VIte.dec (fun _ => ?_) (fun _ => ?_) <;> conv => whnf) | (refine VIte.ndec (fun _ => ?_) (fun _ => ?_) <;> conv => whnf) | (refine VIte.beq (fun _ => ?_) (fun _ => ?_) <;> conv => whnf) | (refine VIte.bne (fun _ => ?_) (fun _ => ?_) <;> conv => whnf) | (refine VIte.intro (fun _ => ?_) (fun _ => ?_) <;> conv => whnf))
              · have hx : (ordL l)[j]? = some (ordL l)[j] := List.getElem?_eq_getElem (by omega)
                have hcc : cutC l j = (ordL l)[j] := by unfold cutC; rw [List.getD_eq_getElem?_getD, hx]; rfl
                obtain ⟨m, hm1, hm2, _⟩ := hom _ (List.getElem_mem (by omega : j < (ordL l).length))
                rw [hm2] at hx hcc
                have hat := exL_at (l := l) (f := (ordL l).take j) (c := -1) (n := (a : Int)) (w := (b : Int)) hm1
                have hst := exL_cut (l := l) (f := (ordL l).take j) (n := (a : Int)) (m := (a : Int)) (w := (b : Int)) hm1
                have hel := exL_len l ((ordL l).take j) (m : Int) (a : Int) (b : Int)
                rw [hcc]
                repeat' (first | (refine VLd.intro rfl ?_; conv => whnf) | (refine VArith.i64 (by first | omega | (dsimp only; omega)) ?_; conv => whnf) | (refine VNeed.intro (by first | rfl | (simp; omega) | (simp; done)) ?_; conv => whnf) | (refine VMem.store rfl rfl rfl rfl ?_; conv => whnf) | (refine VSame.intro rfl ?_; conv => whnf) | (refine VDraw.go [] (by kernel_rfl) (by kernel_rfl) ?_; conv => whnf) | (refine VIte.dec (fun _ => ?_) (fun _ => ?_) <;> conv => whnf) | (refine VIte.ndec (fun _ => ?_) (fun _ => ?_) <;> conv => whnf) | (refine VIte.beq (fun _ => ?_) (fun _ => ?_) <;> conv => whnf) | (refine VIte.bne (fun _ => ?_) (fun _ => ?_) <;> conv => whnf) | (refine VIte.intro (fun _ => ?_) (fun _ => ?_) <;> conv => whnf) | (refine VAny.ix encI_len j rfl rfl hx ?_; conv => whnf))
                refine VMem.setRec encI_len m 0 (a : Int) rfl rfl rfl hat (by decide) rfl (by simp) ?_
                conv => whnf
                repeat' (first | (refine VLd.intro rfl ?_; conv => whnf) | (refine VArith.i64 (by first | omega | (dsimp only; omega)) ?_; conv => whnf) | (refine VNeed.intro (by first | rfl | (simp; omega) | (simp; done)) ?_; conv => whnf) | (refine VMem.store rfl rfl rfl rfl ?_; conv => whnf) | (refine VSame.intro rfl ?_; conv => whnf) | (refine VDraw.go [] (by kernel_rfl) (by kernel_rfl) ?_; conv => whnf) | (refine VIte.dec (fun _ => ?_) (fun _ => ?_) <;> conv => whnf) | (refine VIte.ndec (fun _ => ?_) (fun _ => ?_) <;> conv => whnf) | (refine VIte.beq (fun _ => ?_) (fun _ => ?_) <;> conv => whnf) | (refine VIte.bne (fun _ => ?_) (fun _ => ?_) <;> conv => whnf) | (refine VIte.intro (fun _ => ?_) (fun _ => ?_) <;> conv => whnf))
                rw [hst, show l.ss.length = (exL l ((ordL l).take j) (m : Int) (a : Int) (b : Int)).length from hel.symm]
                refine VOut.data 3 [(2, (exL l ((ordL l).take j) (m : Int) (a : Int) (b : Int)).flatMap encI)] [] rfl (by repeat' (first | exact FzAll.nil | refine FzAll.flat rfl ?_ | refine FzAll.row rfl rfl (RowTo.one rfl (by simp)) ?_)) (by exact FmAll.nil) (by repeat' (first | exact VTo.undef | exact FrTo.leaf | refine FrTo.node ?_ ?_ ?_ | refine FrTo.none ?_ ?_ | exact VTo.sc (by first | rfl | (congr 1; omega) | (congr 1; simp; omega)) | exact VTos_dv _ _ | refine VTos.cons ?_ ?_ | exact VTos.nil | refine VTo.agg ?_ | refine VTo.tuple ?_ | refine VTo.func ?_ ?_ | exact VTo.fs | exact VTo.fp | exact VTo.nilptr | exact VTo.nilslice | exact VTo.nilfunc | exact VTo.ptr rfl | exact VTo.gl rfl | exact VTo.map rfl | exact VTo.yld rfl | exact VTo.fmMap rfl | exact VTo.fm | exact VTo.glNil' (by decide) rfl rfl | exact VTo.fsNil (by decide) | exact VTo.fsSl rfl rfl (by simp [flat_len encE_len]) | exact VTo.fpPtr rfl | exact VTo.fsGl rfl (by first | rfl | exact flat_len encI_len _ | exact flat_len encT_len _ | exact flat_len encS_len _ | exact flat_len encP_len _ | exact flat_len encL_len _ | exact flat_len encE_len _ | (simp [flat_len encP_len]; done) | simp [flat_len encI_len, flat_len encS_len])))
              · have hcc : cutC l j = -1 := by unfold cutC; rw [List.getD_eq_getElem?_getD, List.getElem?_eq_none (by omega)]; rfl
                have hel := exL_len l ((ordL l).take j) (-1) (a : Int) (b : Int)
                rw [hcc, show l.ss.length = (exL l ((ordL l).take j) (-1) (a : Int) (b : Int)).length from hel.symm]
                refine VOut.data 3 [(2, (exL l ((ordL l).take j) (-1) (a : Int) (b : Int)).flatMap encI)] [] rfl (by repeat' (first | exact FzAll.nil | refine FzAll.flat rfl ?_ | refine FzAll.row rfl rfl (RowTo.one rfl (by simp)) ?_)) (by exact FmAll.nil) (by repeat' (first | exact VTo.undef | exact FrTo.leaf | refine FrTo.node ?_ ?_ ?_ | refine FrTo.none ?_ ?_ | exact VTo.sc (by first | rfl | (congr 1; omega) | (congr 1; simp; omega)) | exact VTos_dv _ _ | refine VTos.cons ?_ ?_ | exact VTos.nil | refine VTo.agg ?_ | refine VTo.tuple ?_ | refine VTo.func ?_ ?_ | exact VTo.fs | exact VTo.fp | exact VTo.nilptr | exact VTo.nilslice | exact VTo.nilfunc | exact VTo.ptr rfl | exact VTo.gl rfl | exact VTo.map rfl | exact VTo.yld rfl | exact VTo.fmMap rfl | exact VTo.fm | exact VTo.glNil' (by decide) rfl rfl | exact VTo.fsNil (by decide) | exact VTo.fsSl rfl rfl (by simp [flat_len encE_len]) | exact VTo.fpPtr rfl | exact VTo.fsGl rfl (by first | rfl | exact flat_len encI_len _ | exact flat_len encT_len _ | exact flat_len encS_len _ | exact flat_len encP_len _ | exact flat_len encL_len _ | exact flat_len encE_len _ | (simp [flat_len encP_len]; done) | simp [flat_len encI_len, flat_len encS_len])))
end Go.Proofs.Ytmpjpjfkbmlmfaa

open Go.Vm
namespace Go.Proofs.Ytmpjpjfkbmlmfaa
set_option maxRecDepth 20000
set_option maxHeartbeats 1000000

theorem hN_set : ∀ {ss : List Str} {ps : List Int} {i : Nat} {s : Str} {p : Int} (v : Int), ss[i]? = some s → ps[i]? = some p → hN ss (ps.set i v) = hN ss ps + s.no * (v - p)
  | [], _, _, _, _, _, h, _ => by simp at h
  | _ :: _, [], _, _, _, _, _, h => by simp at h
  | t :: ss, q :: ps, 0, s, p, v, h1, h2 => by
    simp at h1 h2; subst h1 h2
    rw [List.set_cons_zero, hN, hN, Int.mul_sub]; omega
  | t :: ss, q :: ps, i + 1, s, p, v, h1, h2 => by
    rw [List.set_cons_succ, hN, hN, hN_set v (by simpa using h1) (by simpa using h2)]; omega
theorem hS_set {w : Int} : ∀ {ss : List Str} {ps : List Int} {i : Nat} {s : Str} {p : Int} (v : Int), ss[i]? = some s → ps[i]? = some p → hS w ss (ps.set i v) = hS w ss ps - s.so * (v - p)
  | [], _, _, _, _, _, h, _ => by simp at h
  | _ :: _, [], _, _, _, _, _, h => by simp at h
  | t :: ss, q :: ps, 0, s, p, v, h1, h2 => by
    simp at h1 h2; subst h1 h2
    rw [List.set_cons_zero, hS, hS, Int.mul_sub, Int.mul_sub, Int.mul_sub]; omega
  | t :: ss, q :: ps, i + 1, s, p, v, h1, h2 => by
    rw [List.set_cons_succ, hS, hS, hS_set v (by simpa using h1) (by simpa using h2)]; omega
theorem hN_scale (w : Int) : ∀ (ss : List Str) (ps : List Int), hN ss (ps.map (w * ·)) = w * hN ss ps
  | [], ps => by cases ps <;> simp [hN]
  | s :: ss, [] => by simp [hN]
  | s :: ss, p :: ps => by
    rw [List.map_cons, hN, hN, hN_scale w ss ps, Int.mul_add, ← Int.mul_assoc, ← Int.mul_assoc, Int.mul_comm s.no w]
theorem hS_scale (w : Int) : ∀ (ss : List Str) (ps : List Int), hS w ss (ps.map (w * ·)) = w * hS 1 ss ps
  | [], ps => by cases ps <;> simp [hS]
  | s :: ss, [] => by simp [hS]
  | s :: ss, p :: ps => by
    have e : w - w * p = w * (1 - p) := by rw [Int.mul_sub]; omega
    rw [List.map_cons, hS, hS, hS_scale w ss ps, Int.mul_add, e, ← Int.mul_assoc, ← Int.mul_assoc, Int.mul_comm s.so w]
theorem hN_mono : ∀ {ss : List Str} {ps qs : List Int}, (∀ s ∈ ss, 0 ≤ s.no) → ps.length = ss.length → qs.length = ss.length → (∀ (i : Nat) p q, ps[i]? = some p → qs[i]? = some q → p ≤ q) → hN ss ps ≤ hN ss qs
  | [], _, _, _, _, _, _ => by simp [hN]
  | s :: ss, [], _, _, h, _, _ => by simp at h
  | s :: ss, _ :: _, [], _, _, h, _ => by simp at h
  | s :: ss, p :: ps, q :: qs, hs, h1, h2, h => by
    have := hN_mono (fun t hm => hs t (List.mem_cons_of_mem _ hm)) (by simpa using h1) (by simpa using h2) (fun i p q hp hq => h (i + 1) p q (by simpa using hp) (by simpa using hq))
    have h0 := Int.mul_le_mul_of_nonneg_left (h 0 p q rfl rfl) (hs s (by simp))
    rw [hN, hN]; omega
theorem hS_mono {w : Int} : ∀ {ss : List Str} {ps qs : List Int}, (∀ s ∈ ss, 0 ≤ s.so) → ps.length = ss.length → qs.length = ss.length → (∀ (i : Nat) p q, ps[i]? = some p → qs[i]? = some q → p ≤ q) → hS w ss qs ≤ hS w ss ps
  | [], _, _, _, _, _, _ => by simp [hS]
  | s :: ss, [], _, _, h, _, _ => by simp at h
  | s :: ss, _ :: _, [], _, _, h, _ => by simp at h
  | s :: ss, p :: ps, q :: qs, hs, h1, h2, h => by
    have := hS_mono (w := w) (fun t hm => hs t (List.mem_cons_of_mem _ hm)) (by simpa using h1) (by simpa using h2) (fun i p q hp hq => h (i + 1) p q (by simpa using hp) (by simpa using hq))
    have h0 := Int.mul_le_mul_of_nonneg_left (show w - q ≤ w - p by have := h 0 p q rfl rfl; omega) (hs s (by simp))
    rw [hS, hS]; omega
/-! ### The order, place by place -/
theorem selS_nodup (q : Nat → Bool) : ∀ k, (selS q k).Nodup
  | 0 => List.nodup_nil
  | k + 1 => by
    rw [selS]
    split
    · rw [List.nodup_append]
      refine ⟨selS_nodup q k, by simp, ?_⟩
      intro a ha b hb
      rw [List.mem_singleton] at hb
      obtain ⟨j, h1, h2, _⟩ := mem_selS.1 ha
      omega
    · exact selS_nodup q k
theorem insS_nodup {q : Int → Bool} {out : List Int} {x : Int} (h : out.Nodup) (hx : x ∉ out) : (insS q out x).Nodup := by
  unfold insS
  generalize posS q out out.length = p
  rw [← List.take_append_drop p out] at h hx
  generalize out.take p = A at h hx
  generalize out.drop p = B at h hx
  rw [List.nodup_append] at h ⊢
  obtain ⟨h1, h2, h3⟩ := h
  refine ⟨h1, ?_, ?_⟩
  · rw [List.nodup_cons]
    exact ⟨fun hb => hx (List.mem_append.2 (.inr hb)), h2⟩
  · intro a ha b hb
    rcases List.mem_cons.1 hb with rfl | hb
    · intro e; subst e; exact hx (List.mem_append.2 (.inl ha))
    · exact h3 a ha b hb
theorem isGo_nodup {q : Int → Int → Bool} {l : List Int} (h : l.Nodup) : ∀ m, m ≤ l.length → (isGo q l m).Nodup ∧ ∀ y ∈ isGo q l m, y ∈ l.take m
  | 0, _ => ⟨List.nodup_nil, fun y hy => by cases hy⟩
  | m + 1, hm => by
    obtain ⟨h1, h2⟩ := isGo_nodup h m (by omega)
    have hx : l[m]? = some l[m] := List.getElem?_eq_getElem (by omega)
    have hg : l.getD m 0 = l[m] := by rw [List.getD_eq_getElem?_getD, hx]; rfl
    have hnot : l[m] ∉ l.take m := by
      intro hin
      rw [← List.take_append_drop m l, List.nodup_append] at h
      refine h.2.2 _ hin l[m] ?_ rfl
      rw [List.drop_eq_getElem_cons (by omega)]; exact List.mem_cons_self
    have htk : l.take (m + 1) = l.take m ++ [l[m]] := by rw [List.take_add_one, hx]; rfl
    rw [isGo, hg]
    refine ⟨insS_nodup h1 fun hin => hnot (h2 _ hin), fun y hy => ?_⟩
    rw [htk]
    rcases insS_mem.1 hy with rfl | hy
    · exact List.mem_append.2 (.inr List.mem_cons_self)
    · exact List.mem_append.2 (.inl (h2 y hy))
theorem ord_nodup (l : Lnd) : (ordL l).Nodup := (isGo_nodup (selS_nodup _ _) _ (Nat.le_refl _)).1
/-- The k-th stretch in the order. -/
def oS (l : Lnd) (k : Nat) : Str := sAt l ((ordL l).getD k 0).toNat
structure AtK (l : Lnd) (k j : Nat) : Prop where
  at_ : (ordL l)[k]? = some (j : Int)
  lt : j < l.ss.length
  free : freeQ l j = true
  new : (j : Int) ∉ (ordL l).take k
  tk : (ordL l).take (k + 1) = (ordL l).take k ++ [(j : Int)]
  cut : cutC l k = j
  st : l.ss[j]? = some (oS l k)
theorem at_k {l : Lnd} {k : Nat} (hk : k < (ordL l).length) : ∃ j, AtK l k j := by
  have hx : (ordL l)[k]? = some (ordL l)[k] := List.getElem?_eq_getElem hk
  obtain ⟨j, h1, h2, h3⟩ := ord_mem (List.getElem_mem hk)
  rw [h2] at hx
  have hs : l.ss[j]? = some l.ss[j] := List.getElem?_eq_getElem h1
  refine ⟨j, hx, h1, h3, ?_, by rw [List.take_add_one, hx]; rfl, by unfold cutC; rw [List.getD_eq_getElem?_getD, hx]; rfl, ?_⟩
  · intro hin
    have hn := ord_nodup l
    rw [← List.take_append_drop k (ordL l), List.nodup_append] at hn
    refine hn.2.2 _ hin (j : Int) ?_ rfl
    rw [List.drop_eq_getElem_cons hk, h2]; simp
  · unfold oS
    rw [List.getD_eq_getElem?_getD, hx, Option.getD_some, Int.toNat_natCast, sAt_eq hs]; exact hs
/-- The exchange in which the North has the first ones. -/
def xK (l : Lnd) (k : Nat) : Exc := ⟨1, exL l ((ordL l).take k) (-1) 0 1⟩
/-- And n of w parts of the next one. -/
def xC (l : Lnd) (k : Nat) (n w : Int) : Exc := ⟨w, exL l ((ordL l).take k) (cutC l k) n w⟩
theorem prt_free {l : Lnd} {f : List Int} {n w : Int} {j : Nat} (hf : freeQ l j = true) (hn : (j : Int) ∉ f) : prt l f (-1) n w j = 0 := by
  have h1 : ¬ ((j : Int) = -1) := by omega
  unfold prt
  rw [if_neg h1, if_neg hn, hf]; rfl
theorem xC_zero {l : Lnd} {k : Nat} (w : Int) : exL l ((ordL l).take k) (cutC l k) 0 w = exL l ((ordL l).take k) (-1) 0 w := by
  rcases Nat.lt_or_ge k (ordL l).length with hk | hk
  · obtain ⟨j, A⟩ := at_k hk
    have hat := exL_at (l := l) (f := (ordL l).take k) (c := -1) (n := 0) (w := w) A.lt
    rw [prt_free A.free A.new] at hat
    rw [A.cut, ← exL_cut (m := 0) A.lt]
    obtain ⟨h5, h6⟩ := List.getElem?_eq_some_iff.1 hat
    conv => rhs; rw [← List.set_getElem_self h5]
    rw [h6]
  · have : cutC l k = -1 := by unfold cutC; rw [List.getD_eq_getElem?_getD, List.getElem?_eq_none hk]; rfl
    rw [this]
theorem xC_full {l : Lnd} {k : Nat} {w : Int} (hk : k < (ordL l).length) : exL l ((ordL l).take k) (cutC l k) w w = exL l ((ordL l).take (k + 1)) (-1) 0 w := by
  obtain ⟨j, A⟩ := at_k hk
  rw [A.cut, ← exL_cut (m := 0) A.lt, A.tk, ← exL_set A.lt]
theorem exL_scale (l : Lnd) (f : List Int) (n w : Int) : exL l f (-1) n w = (exL l f (-1) 0 1).map (w * ·) := by
  unfold exL
  rw [List.map_map]
  refine List.map_congr_left fun i _ => ?_
  have h1 : ¬ ((i : Int) = -1) := by omega
  simp only [Function.comp_apply]
  unfold prt
  rw [if_neg h1, if_neg h1]
  split
  · omega
  · cases freeQ l i
    · simp only [cond_false]; rw [Int.mul_one, Int.mul_comm]
    · simp
def nK (l : Lnd) (k : Nat) : Int := gnN l (xK l k)
def sK (l : Lnd) (k : Nat) : Int := gnS l (xK l k)
theorem nK_succ {l : Lnd} {k : Nat} (hk : k < (ordL l).length) : nK l (k + 1) = nK l k + (oS l k).no ∧ sK l (k + 1) = sK l k - (oS l k).so := by
  obtain ⟨j, A⟩ := at_k hk
  have hat := exL_at (l := l) (f := (ordL l).take k) (c := -1) (n := 0) (w := 1) A.lt
  rw [prt_free A.free A.new] at hat
  have e : exL l ((ordL l).take (k + 1)) (-1) 0 1 = (exL l ((ordL l).take k) (-1) 0 1).set j 1 := by rw [A.tk, exL_set A.lt]
  have e1 := hN_set 1 A.st hat
  have e2 := hS_set (w := 1) 1 A.st hat
  rw [← e] at e1 e2
  unfold nK sK gnN gnS hasN hasS xK
  dsimp only
  rw [e1, e2]
  omega
theorem xC_gn {l : Lnd} {k : Nat} (n w : Int) (hk : k < (ordL l).length) : gnN l (xC l k n w) = w * nK l k + n * (oS l k).no ∧ gnS l (xC l k n w) = w * sK l k - n * (oS l k).so := by
  obtain ⟨j, A⟩ := at_k hk
  have hat := exL_at (l := l) (f := (ordL l).take k) (c := -1) (n := 0) (w := w) A.lt
  rw [prt_free A.free A.new] at hat
  have e : exL l ((ordL l).take k) (cutC l k) n w = (exL l ((ordL l).take k) (-1) 0 w).set j n := by rw [A.cut, exL_cut A.lt]
  have e1 := hN_set n A.st hat
  have e2 := hS_set (w := w) n A.st hat
  rw [← e, exL_scale l _ 0 w, hN_scale] at e1
  rw [← e, exL_scale l _ 0 w, hS_scale] at e2
  unfold nK sK gnN gnS hasN hasS xK xC
  dsimp only
  rw [e1, e2]
  simp only [Int.mul_sub, Int.one_mul, Int.mul_zero, Int.sub_zero, Int.mul_comm n]
  constructor <;> omega
end Go.Proofs.Ytmpjpjfkbmlmfaa

