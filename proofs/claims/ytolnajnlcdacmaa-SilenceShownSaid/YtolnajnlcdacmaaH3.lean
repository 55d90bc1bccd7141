/- Part 3 of the proof that SilenceShown returns true for every file, truth, paper, list and windows. No condition. -/
import Derived.Test.YtolnajnlcdacmaaH2
import Derived.Test.YtolnajnlcdacmaaRows
set_option linter.unusedVariables false
set_option linter.unusedSimpArgs false
open Go.Vm
namespace Go.Proofs.Ytolnajnlcdacmaa
set_option maxRecDepth 20000
set_option maxHeartbeats 400000

structure Pap where
  side : Int
  lo : Int
  hi : Int
  deriving DecidableEq
def encP (p : Pap) : List D := [DI p.side, DI p.lo, DI p.hi]
theorem encP_len (p : Pap) : (encP p).length = 3 := rfl
structure Fil where
  Y : Int
  G : Int
  ps : List Pap
def paps (ps : List Pap) : V := .fs 3 ps.length (ps.flatMap encP)
def vF (f : Fil) : V := .agg [I f.Y, I f.G, paps f.ps]
def encF (f : Fil) : List D := [DI f.Y, DI f.G, .sl 3 f.ps.length (f.ps.flatMap encP)]
theorem vc_from (n a b : Int) (h : Hp) : VC Try.prog 57 [I n, I a, I b] h (B (decide (a ≤ n ∧ n ≤ b))) h := by
  refine VC.body Try.func57 rfl Try.ntmps57 Try.call57 (h.grows_refl) rfl ?_; conv => whnf
  repeat' (first | (refine VLd.intro rfl ?_; conv => whnf) | (refine VArith.i64 (by omega) ?_; conv => whnf) | (refine VNeed.intro (by first | rfl | (simp; omega)) ?_; conv => whnf) | (refine VMem.store rfl rfl rfl rfl ?_; conv => whnf) | (refine VSame.intro rfl ?_; conv => whnf) | (refine VDraw.go [] (by kernel_rfl) (by kernel_rfl) ?_; conv => whnf) | (refine VIte.dec (fun _ => ?_) (fun _ => ?_) <;> conv => whnf) | (refine VIte.ndec (fun _ => ?_) (fun _ => ?_) <;> conv => whnf) | (refine VIte.beq (fun _ => ?_) (fun _ => ?_) <;> conv => whnf) | (refine VIte.bne (fun _ => ?_) (fun _ => ?_) <;> conv => whnf) | (refine VIte.intro (fun _ => ?_) (fun _ => ?_) <;> conv => whnf))
  all_goals (refine VOut.same ?_; simp [V.ren]; try omega)
theorem vc_beside (n a b : Int) (h : Hp) : VC Try.prog 61 [I n, I a, I b] h (B (decide (n < a ∨ b < n))) h := by
  refine VC.body Try.func61 rfl Try.ntmps61 Try.call61 (h.grows_refl) rfl ?_; conv => whnf
  repeat' (first | (refine VLd.intro rfl ?_; conv => whnf) | (refine VArith.i64 (by omega) ?_; conv => whnf) | (refine VNeed.intro (by first | rfl | (simp; omega)) ?_; conv => whnf) | (refine VMem.store rfl rfl rfl rfl ?_; conv => whnf) | (refine VSame.intro rfl ?_; conv => whnf) | (refine VDraw.go [] (by kernel_rfl) (by kernel_rfl) ?_; conv => whnf) | (refine VIte.dec (fun _ => ?_) (fun _ => ?_) <;> conv => whnf) | (refine VIte.ndec (fun _ => ?_) (fun _ => ?_) <;> conv => whnf) | (refine VIte.beq (fun _ => ?_) (fun _ => ?_) <;> conv => whnf) | (refine VIte.bne (fun _ => ?_) (fun _ => ?_) <;> conv => whnf) | (refine VIte.intro (fun _ => ?_) (fun _ => ?_) <;> conv => whnf))
  all_goals (refine VOut.same ?_; simp [V.ren]; try omega)
def badPap (p : Pap) : Prop := ¬ (p.side = 0 ∨ p.side = 1) ∨ ¬ (0 ≤ p.lo ∧ p.lo ≤ 3000) ∨ ¬ (p.lo ≤ p.hi ∧ p.hi ≤ min 3000 (p.lo + 3))
instance (p : Pap) : Decidable (badPap p) := by unfold badPap; infer_instance
def chkGo : List Pap → Int → Int
  | [], _ => 0
  | p :: r, last => if badPap p then 4 else if p.lo ≤ last then 5 else chkGo r p.hi
def chk (f : Fil) : Int :=
  if ¬ (1 ≤ f.Y ∧ f.Y ≤ 500) ∨ ¬ (1 ≤ f.G ∧ f.G ≤ 200) then 4 else if 16 < f.ps.length then 3 else chkGo f.ps (-1)
theorem chkGo_at {ps : List Pap} {k : Nat} {p : Pap} {last : Int} (h : ps[k]? = some p) : chkGo (ps.drop k) last = if badPap p then 4 else if p.lo ≤ last then 5 else chkGo (ps.drop (k + 1)) p.hi := by
  obtain ⟨hlt, rfl⟩ := List.getElem?_eq_some_iff.1 h
  rw [List.drop_eq_getElem_cons hlt, chkGo]
set_option maxHeartbeats 1000000 in
theorem vc_check (f : Fil) (h : Hp) (hn : f.ps.length ≤ 4000000) : VC Try.prog 34 [vF f] h (I (chk f)) h := by
  refine VC.body Try.func34 rfl Try.ntmps34 Try.call34 (h.grows_refl) rfl ?_; conv => whnf
  repeat' (first | (refine VLd.intro rfl ?_; conv => whnf) | (refine VArith.i64 (by omega) ?_; conv => whnf) | (refine VNeed.intro (by first | rfl | (simp; omega)) ?_; conv => whnf) | (refine VMem.store rfl rfl rfl rfl ?_; conv => whnf) | (refine VSame.intro rfl ?_; conv => whnf) | (refine VDraw.go [] (by kernel_rfl) (by kernel_rfl) ?_; conv => whnf) | (refine VIte.dec (fun _ => ?_) (fun _ => ?_) <;> conv => whnf) | (refine VIte.ndec (fun _ => ?_) (fun _ => ?_) <;> conv => whnf) | (refine VIte.beq (fun _ => ?_) (fun _ => ?_) <;> conv => whnf) | (refine VIte.bne (fun _ => ?_) (fun _ => ?_) <;> conv => whnf) | (refine VIte.intro (fun _ => ?_) (fun _ => ?_) <;> conv => whnf) | (refine VCall.intro (vc_from _ _ _ _) ?_; conv => whnf))
  · refine VOut.same ?_; simp [V.ren, chk]; omega
  · refine VOut.same ?_; simp [V.ren, chk]; omega
  · refine VOut.same ?_; simp [V.ren, chk]; omega
  · rename_i h1 h2 h3
    have hc : chk f = chkGo f.ps (-1) := by simp [chk]; omega
    refine VCode.lp (fun x : Nat × Int => [(1, .ptr (.loc 0) 0), (2, I 0), (3, I x.2), (23, paps f.ps), (24, I f.ps.length), (25, I x.1)]) (fun _ => [.flat true (encF f)]) (fun x => x.1 ≤ f.ps.length ∧ chkGo f.ps (-1) = chkGo (f.ps.drop x.1) x.2) (fun x => f.ps.length - x.1) (0, -1) (by simp) ?_ ?_
    · conv => whnf
      refine Retell.turn ⟨[0], 1, [], []⟩ (TurnOk.mk' _ _ [] [] (OutOk.lift _) rfl (by decide) (by repeat' (first | exact BTos.nil | refine BTos.flat rfl rfl (by first | rfl | simp) ?_ | refine BTos.new rfl ?_ | refine BTos.dead rfl rfl ?_ | refine BTos.esE rfl rfl ?_ | refine BTos.row rfl rfl rfl (RowTo.snoc (RowTo.one rfl (by simp))) ?_ | refine BTos.cells rfl rfl rfl (by repeat' (first | exact VTo.undef | exact FrTo.leaf | refine FrTo.node ?_ ?_ ?_ | refine FrTo.none ?_ ?_ | exact VTo.sc (by first | rfl | (congr 1; omega) | (congr 1; simp; omega)) | exact VTos_dv _ _ | refine VTos.cons ?_ ?_ | exact VTos.nil | refine VTo.agg ?_ | refine VTo.tuple ?_ | refine VTo.func ?_ ?_ | exact VTo.fs | exact VTo.fp | exact VTo.nilptr | exact VTo.nilslice | exact VTo.nilfunc | exact VTo.ptr rfl | exact VTo.gl rfl | exact VTo.map rfl | exact VTo.yld rfl | exact VTo.fmMap rfl | exact VTo.fm | exact VTo.glNil' (by decide) rfl rfl | exact VTo.fsNil (by decide) | exact VTo.fsSl rfl rfl (by simp [flat_len encE_len]) | exact VTo.fpPtr rfl | exact VTo.fsGl rfl (by first | rfl | exact flat_len encI_len _ | exact flat_len encS_len _ | exact flat_len encP_len _ | exact flat_len encL_len _ | exact flat_len encE_len _ | (simp [flat_len encP_len]; done) | simp [flat_len encI_len, flat_len encS_len]))) ?_)) trivial trivial rfl) (by repeat' (first | exact VTo.undef | exact FrTo.leaf | refine FrTo.node ?_ ?_ ?_ | refine FrTo.none ?_ ?_ | exact VTo.sc (by first | rfl | (congr 1; omega) | (congr 1; simp; omega)) | exact VTos_dv _ _ | refine VTos.cons ?_ ?_ | exact VTos.nil | refine VTo.agg ?_ | refine VTo.tuple ?_ | refine VTo.func ?_ ?_ | exact VTo.fs | exact VTo.fp | exact VTo.nilptr | exact VTo.nilslice | exact VTo.nilfunc | exact VTo.ptr rfl | exact VTo.gl rfl | exact VTo.map rfl | exact VTo.yld rfl | exact VTo.fmMap rfl | exact VTo.fm | exact VTo.glNil' (by decide) rfl rfl | exact VTo.fsNil (by decide) | exact VTo.fsSl rfl rfl (by simp [flat_len encE_len]) | exact VTo.fpPtr rfl | exact VTo.fsGl rfl (by first | rfl | exact flat_len encI_len _ | exact flat_len encS_len _ | exact flat_len encP_len _ | exact flat_len encL_len _ | exact flat_len encE_len _ | (simp [flat_len encP_len]; done) | simp [flat_len encI_len, flat_len encS_len]))) (by first | rfl | (repeat' (first | exact MkTo.nil | refine MkTo.keep rfl ?_ | refine MkTo.drop (by decide) rfl ?_)))
    · rintro ⟨k, last⟩ ⟨h4, h5⟩
      simp only at h4 h5
      conv => whnf
      refine VIte.dec (fun h6 => ?_) (fun h6 => ?_)
      · have hk : f.ps[k]? = some f.ps[k] := List.getElem?_eq_getElem (by omega)
        generalize f.ps[k] = p at hk
        rw [chkGo_at hk] at h5
        conv => whnf
        refine VAny.ix encP_len k rfl rfl hk ?_
        conv => whnf
        repeat' (first | (refine VLd.intro rfl ?_; conv => whnf) | (refine VArith.i64 (by omega) ?_; conv => whnf) | (refine VNeed.intro (by first | rfl | (simp; omega)) ?_; conv => whnf) | (refine VMem.store rfl rfl rfl rfl ?_; conv => whnf) | (refine VSame.intro rfl ?_; conv => whnf) | (refine VDraw.go [] (by kernel_rfl) (by kernel_rfl) ?_; conv => whnf) | (refine VIte.dec (fun _ => ?_) (fun _ => ?_) <;> conv => whnf) | (refine VIte.ndec (fun _ => ?_) (fun _ => ?_) <;> conv => whnf) | (refine VIte.beq (fun _ => ?_) (fun _ => ?_) <;> conv => whnf) | (refine VIte.bne (fun _ => ?_) (fun _ => ?_) <;> conv => whnf) | (refine VIte.intro (fun _ => ?_) (fun _ => ?_) <;> conv => whnf) | (refine VCall.intro (vc_from _ _ _ _) ?_; conv => whnf))
        all_goals first
          | (rw [if_pos (by unfold badPap; omega)] at h5; refine VOut.same ?_; simp [V.ren, hc, h5]; done)
          | (rw [if_neg (by unfold badPap; omega), if_pos (by omega)] at h5; refine VOut.same ?_; simp [V.ren, hc, h5]; done)
          | (rw [if_neg (by unfold badPap; omega), if_neg (by omega)] at h5
             refine LEnd.intro (k + 1, p.hi) ⟨by simp only; omega, h5⟩ (by simp only; omega) ?_
             conv => whnf
             refine Retell.turn ⟨[0], 2, [], []⟩ (TurnOk.mk' _ _ [] [] (OutOk.lift _) rfl (by decide) (by repeat' (first | exact BTos.nil | refine BTos.flat rfl rfl (by first | rfl | simp) ?_ | refine BTos.new rfl ?_ | refine BTos.dead rfl rfl ?_ | refine BTos.esE rfl rfl ?_ | refine BTos.row rfl rfl rfl (RowTo.snoc (RowTo.one rfl (by simp))) ?_ | refine BTos.cells rfl rfl rfl (by repeat' (first | exact VTo.undef | exact FrTo.leaf | refine FrTo.node ?_ ?_ ?_ | refine FrTo.none ?_ ?_ | exact VTo.sc (by first | rfl | (congr 1; omega) | (congr 1; simp; omega)) | exact VTos_dv _ _ | refine VTos.cons ?_ ?_ | exact VTos.nil | refine VTo.agg ?_ | refine VTo.tuple ?_ | refine VTo.func ?_ ?_ | exact VTo.fs | exact VTo.fp | exact VTo.nilptr | exact VTo.nilslice | exact VTo.nilfunc | exact VTo.ptr rfl | exact VTo.gl rfl | exact VTo.map rfl | exact VTo.yld rfl | exact VTo.fmMap rfl | exact VTo.fm | exact VTo.glNil' (by decide) rfl rfl | exact VTo.fsNil (by decide) | exact VTo.fsSl rfl rfl (by simp [flat_len encE_len]) | exact VTo.fpPtr rfl | exact VTo.fsGl rfl (by first | rfl | exact flat_len encI_len _ | exact flat_len encS_len _ | exact flat_len encP_len _ | exact flat_len encL_len _ | exact flat_len encE_len _ | (simp [flat_len encP_len]; done) | simp [flat_len encI_len, flat_len encS_len]))) ?_)) trivial trivial rfl) (by repeat' (first | exact VTo.undef | exact FrTo.leaf | refine FrTo.node ?_ ?_ ?_ | refine FrTo.none ?_ ?_ | exact VTo.sc (by first | rfl | (congr 1; omega) | (congr 1; simp; omega)) | exact VTos_dv _ _ | refine VTos.cons ?_ ?_ | exact VTos.nil | refine VTo.agg ?_ | refine VTo.tuple ?_ | refine VTo.func ?_ ?_ | exact VTo.fs | exact VTo.fp | exact VTo.nilptr | exact VTo.nilslice | exact VTo.nilfunc | exact VTo.ptr rfl | exact VTo.gl rfl | exact VTo.map rfl | exact VTo.yld rfl | exact VTo.fmMap rfl | exact VTo.fm | exact VTo.glNil' (by decide) rfl rfl | exact VTo.fsNil (by decide) | exact VTo.fsSl rfl rfl (by simp [flat_len encE_len]) | exact VTo.fpPtr rfl | exact VTo.fsGl rfl (by first | rfl | exact flat_len encI_len _ | exact flat_len encS_len _ | exact flat_len encP_len _ | exact flat_len encL_len _ | exact flat_len encE_len _ | (simp [flat_len encP_len]; done) | simp [flat_len encI_len, flat_len encS_len]))) (by first | rfl | (repeat' (first | exact MkTo.nil | refine MkTo.keep rfl ?_ | refine MkTo.drop (by decide) rfl ?_))))
      · conv => whnf
        refine VOut.same ?_
        have : f.ps.length ≤ k := by omega
        rw [List.drop_of_length_le (by omega), chkGo] at h5
        simp [V.ren, hc, h5]
set_option maxHeartbeats 1000000 in
theorem vc_rcheck (f : Fil) (h : Hp) (hn : f.ps.length ≤ 4000000) : VC Try.prog 35 [vF f] h (I (chk f)) h := by
  refine VC.body Try.func35 rfl Try.ntmps35 Try.call35 (h.grows_refl) rfl ?_; conv => whnf
  repeat' (first | (refine VLd.intro rfl ?_; conv => whnf) | (refine VArith.i64 (by omega) ?_; conv => whnf) | (refine VNeed.intro (by first | rfl | (simp; omega)) ?_; conv => whnf) | (refine VMem.store rfl rfl rfl rfl ?_; conv => whnf) | (refine VSame.intro rfl ?_; conv => whnf) | (refine VDraw.go [] (by kernel_rfl) (by kernel_rfl) ?_; conv => whnf) | (refine VIte.dec (fun _ => ?_) (fun _ => ?_) <;> conv => whnf) | (refine VIte.ndec (fun _ => ?_) (fun _ => ?_) <;> conv => whnf) | (refine VIte.beq (fun _ => ?_) (fun _ => ?_) <;> conv => whnf) | (refine VIte.bne (fun _ => ?_) (fun _ => ?_) <;> conv => whnf) | (refine VIte.intro (fun _ => ?_) (fun _ => ?_) <;> conv => whnf) | (refine VCall.intro (vc_beside _ _ _ _) ?_; conv => whnf))
  · refine VOut.same ?_; simp [V.ren, chk]; omega
  · refine VOut.same ?_; simp [V.ren, chk]; omega
  · refine VOut.same ?_; simp [V.ren, chk]; omega
  · rename_i h1 h2 h3
    have hc : chk f = chkGo f.ps (-1) := by simp [chk]; omega
    refine VCode.lp (fun x : Nat × Int => [(1, .ptr (.loc 0) 0), (2, I 0), (3, I x.1)]) (fun _ => [.flat true (encF f)])
      (fun x => x.1 ≤ f.ps.length ∧ chkGo f.ps (-1) = chkGo (f.ps.drop x.1) x.2 ∧ (x.1 = 0 ∧ x.2 = -1 ∨ ∃ q, 0 < x.1 ∧ f.ps[x.1 - 1]? = some q ∧ q.hi = x.2)) (fun x => f.ps.length - x.1) (0, -1) (by simp) ?_ ?_
    · conv => whnf
      refine Retell.turn ⟨[0], 1, [], []⟩ (TurnOk.mk' _ _ [] [] (OutOk.lift _) rfl (by decide) (by repeat' (first | exact BTos.nil | refine BTos.flat rfl rfl (by first | rfl | simp) ?_ | refine BTos.new rfl ?_ | refine BTos.dead rfl rfl ?_ | refine BTos.esE rfl rfl ?_ | refine BTos.row rfl rfl rfl (RowTo.snoc (RowTo.one rfl (by simp))) ?_ | refine BTos.cells rfl rfl rfl (by repeat' (first | exact VTo.undef | exact FrTo.leaf | refine FrTo.node ?_ ?_ ?_ | refine FrTo.none ?_ ?_ | exact VTo.sc (by first | rfl | (congr 1; omega) | (congr 1; simp; omega)) | exact VTos_dv _ _ | refine VTos.cons ?_ ?_ | exact VTos.nil | refine VTo.agg ?_ | refine VTo.tuple ?_ | refine VTo.func ?_ ?_ | exact VTo.fs | exact VTo.fp | exact VTo.nilptr | exact VTo.nilslice | exact VTo.nilfunc | exact VTo.ptr rfl | exact VTo.gl rfl | exact VTo.map rfl | exact VTo.yld rfl | exact VTo.fmMap rfl | exact VTo.fm | exact VTo.glNil' (by decide) rfl rfl | exact VTo.fsNil (by decide) | exact VTo.fsSl rfl rfl (by simp [flat_len encE_len]) | exact VTo.fpPtr rfl | exact VTo.fsGl rfl (by first | rfl | exact flat_len encI_len _ | exact flat_len encS_len _ | exact flat_len encP_len _ | exact flat_len encL_len _ | exact flat_len encE_len _ | (simp [flat_len encP_len]; done) | simp [flat_len encI_len, flat_len encS_len]))) ?_)) trivial trivial rfl) (by repeat' (first | exact VTo.undef | exact FrTo.leaf | refine FrTo.node ?_ ?_ ?_ | refine FrTo.none ?_ ?_ | exact VTo.sc (by first | rfl | (congr 1; omega) | (congr 1; simp; omega)) | exact VTos_dv _ _ | refine VTos.cons ?_ ?_ | exact VTos.nil | refine VTo.agg ?_ | refine VTo.tuple ?_ | refine VTo.func ?_ ?_ | exact VTo.fs | exact VTo.fp | exact VTo.nilptr | exact VTo.nilslice | exact VTo.nilfunc | exact VTo.ptr rfl | exact VTo.gl rfl | exact VTo.map rfl | exact VTo.yld rfl | exact VTo.fmMap rfl | exact VTo.fm | exact VTo.glNil' (by decide) rfl rfl | exact VTo.fsNil (by decide) | exact VTo.fsSl rfl rfl (by simp [flat_len encE_len]) | exact VTo.fpPtr rfl | exact VTo.fsGl rfl (by first | rfl | exact flat_len encI_len _ | exact flat_len encS_len _ | exact flat_len encP_len _ | exact flat_len encL_len _ | exact flat_len encE_len _ | (simp [flat_len encP_len]; done) | simp [flat_len encI_len, flat_len encS_len]))) (by first | rfl | (repeat' (first | exact MkTo.nil | refine MkTo.keep rfl ?_ | refine MkTo.drop (by decide) rfl ?_)))
    · rintro ⟨k, last⟩ ⟨h4, h5, h7⟩
      simp only at h4 h5 h7
      conv => whnf
      repeat (first | (refine VLd.intro rfl ?_; conv => whnf) | (refine VArith.i64 (by omega) ?_; conv => whnf) | (refine VNeed.intro (by first | rfl | (simp; omega)) ?_; conv => whnf) | (refine VMem.store rfl rfl rfl rfl ?_; conv => whnf) | (refine VSame.intro rfl ?_; conv => whnf) | (refine VDraw.go [] (by kernel_rfl) (by kernel_rfl) ?_; conv => whnf))
      refine VIte.dec (fun h6 => ?_) (fun h6 => ?_)
      · have hk : f.ps[k]? = some f.ps[k] := List.getElem?_eq_getElem (by omega)
        generalize f.ps[k] = p at hk
        rw [chkGo_at hk] at h5
        rcases h7 with ⟨rfl, rfl⟩ | ⟨q, h7, hq, rfl⟩
        all_goals conv => whnf
        all_goals repeat' (first | (refine VLd.intro rfl ?_; conv => whnf) | (refine VArith.i64 (by omega) ?_; conv => whnf) | (refine VNeed.intro (by first | rfl | (simp; omega)) ?_; conv => whnf) | (refine VMem.store rfl rfl rfl rfl ?_; conv => whnf) | (refine VSame.intro rfl ?_; conv => whnf) | (refine VDraw.go [] (by kernel_rfl) (by kernel_rfl) ?_; conv => whnf) | (refine VIte.dec (fun _ => ?_) (fun _ => ?_) <;> conv => whnf) | (refine VIte.ndec (fun _ => ?_) (fun _ => ?_) <;> conv => whnf) | (refine VIte.beq (fun _ => ?_) (fun _ => ?_) <;> conv => whnf) | (refine VIte.bne (fun _ => ?_) (fun _ => ?_) <;> conv => whnf) | (refine VIte.intro (fun _ => ?_) (fun _ => ?_) <;> conv => whnf) | (refine VCall.intro (vc_beside _ _ _ _) ?_; conv => whnf) | (refine VAny.ix encP_len _ rfl rfl hk ?_; conv => whnf) | (refine VAny.ix encP_len (k - 1) (by simp only; omega) rfl hq ?_; conv => whnf))
        all_goals first
          | (rw [if_pos (by unfold badPap; omega)] at h5; refine VOut.same ?_; simp [V.ren, hc, h5]; done)
          | (rw [if_neg (by unfold badPap; omega), if_pos (by omega)] at h5; refine VOut.same ?_; simp [V.ren, hc, h5]; done)
          | (rw [if_neg (by unfold badPap; omega), if_neg (by omega)] at h5
             refine LEnd.intro (_, p.hi) ⟨by simp only; omega, h5, .inr ⟨p, by simp only; omega, by simpa using hk, rfl⟩⟩ (by simp only; omega) ?_
             conv => whnf
             refine Retell.turn ⟨[0], 2, [], []⟩ (TurnOk.mk' _ _ [] [] (OutOk.lift _) rfl (by decide) (by repeat' (first | exact BTos.nil | refine BTos.flat rfl rfl (by first | rfl | simp) ?_ | refine BTos.new rfl ?_ | refine BTos.dead rfl rfl ?_ | refine BTos.esE rfl rfl ?_ | refine BTos.row rfl rfl rfl (RowTo.snoc (RowTo.one rfl (by simp))) ?_ | refine BTos.cells rfl rfl rfl (by repeat' (first | exact VTo.undef | exact FrTo.leaf | refine FrTo.node ?_ ?_ ?_ | refine FrTo.none ?_ ?_ | exact VTo.sc (by first | rfl | (congr 1; omega) | (congr 1; simp; omega)) | exact VTos_dv _ _ | refine VTos.cons ?_ ?_ | exact VTos.nil | refine VTo.agg ?_ | refine VTo.tuple ?_ | refine VTo.func ?_ ?_ | exact VTo.fs | exact VTo.fp | exact VTo.nilptr | exact VTo.nilslice | exact VTo.nilfunc | exact VTo.ptr rfl | exact VTo.gl rfl | exact VTo.map rfl | exact VTo.yld rfl | exact VTo.fmMap rfl | exact VTo.fm | exact VTo.glNil' (by decide) rfl rfl | exact VTo.fsNil (by decide) | exact VTo.fsSl rfl rfl (by simp [flat_len encE_len]) | exact VTo.fpPtr rfl | exact VTo.fsGl rfl (by first | rfl | exact flat_len encI_len _ | exact flat_len encS_len _ | exact flat_len encP_len _ | exact flat_len encL_len _ | exact flat_len encE_len _ | (simp [flat_len encP_len]; done) | simp [flat_len encI_len, flat_len encS_len]))) ?_)) trivial trivial rfl) (by repeat' (first | exact VTo.undef | exact FrTo.leaf | refine FrTo.node ?_ ?_ ?_ | refine FrTo.none ?_ ?_ | exact VTo.sc (by first | rfl | (congr 1; omega) | (congr 1; simp; omega)) | exact VTos_dv _ _ | refine VTos.cons ?_ ?_ | exact VTos.nil | refine VTo.agg ?_ | refine VTo.tuple ?_ | refine VTo.func ?_ ?_ | exact VTo.fs | exact VTo.fp | exact VTo.nilptr | exact VTo.nilslice | exact VTo.nilfunc | exact VTo.ptr rfl | exact VTo.gl rfl | exact VTo.map rfl | exact VTo.yld rfl | exact VTo.fmMap rfl | exact VTo.fm | exact VTo.glNil' (by decide) rfl rfl | exact VTo.fsNil (by decide) | exact VTo.fsSl rfl rfl (by simp [flat_len encE_len]) | exact VTo.fpPtr rfl | exact VTo.fsGl rfl (by first | rfl | exact flat_len encI_len _ | exact flat_len encS_len _ | exact flat_len encP_len _ | exact flat_len encL_len _ | exact flat_len encE_len _ | (simp [flat_len encP_len]; done) | simp [flat_len encI_len, flat_len encS_len]))) (by first | rfl | (repeat' (first | exact MkTo.nil | refine MkTo.keep rfl ?_ | refine MkTo.drop (by decide) rfl ?_))))
      · conv => whnf
        refine VOut.same ?_
        have : f.ps.length ≤ k := by omega
        rw [List.drop_of_length_le (by omega), chkGo] at h5
        simp [V.ren, hc, h5]
end Go.Proofs.Ytolnajnlcdacmaa

open Go.Vm
namespace Go.Proofs.Ytolnajnlcdacmaa
set_option maxRecDepth 20000
set_option maxHeartbeats 1000000

/-- Years are of the papers' spans, place by place. -/
def holdsS : List Pap → List Int → Bool
  | p :: ps, y :: t => decide (p.lo ≤ y ∧ y ≤ p.hi) && holdsS ps t
  | _, _ => true
theorem vc_holds1 (f : Fil) (p : Pap) (i : Nat) (y : Int) (h : Hp) (hp : f.ps[i]? = some p) : VC Try.prog 90 [I i, I y, .fp (encF f)] h (B (decide (p.lo ≤ y ∧ y ≤ p.hi))) h := by
  refine VC.body Try.func90 rfl Try.ntmps90 Try.call90 (h.grows_refl) rfl ?_; conv => whnf
  repeat' (first | (refine VLd.intro rfl ?_; conv => whnf) | (refine VArith.i64 (by omega) ?_; conv => whnf) | (refine VNeed.intro (by first | rfl | (simp; omega)) ?_; conv => whnf) | (refine VMem.store rfl rfl rfl rfl ?_; conv => whnf) | (refine VSame.intro rfl ?_; conv => whnf) | (refine VDraw.go [] (by kernel_rfl) (by kernel_rfl) ?_; conv => whnf) | (refine VIte.dec (fun _ => ?_) (fun _ => ?_) <;> conv => whnf) | (refine VIte.ndec (fun _ => ?_) (fun _ => ?_) <;> conv => whnf) | (refine VIte.beq (fun _ => ?_) (fun _ => ?_) <;> conv => whnf) | (refine VIte.bne (fun _ => ?_) (fun _ => ?_) <;> conv => whnf) | (refine VIte.intro (fun _ => ?_) (fun _ => ?_) <;> conv => whnf) | (refine VAny.ix encP_len i rfl rfl hp ?_; conv => whnf) | (refine VCall.intro (vc_from _ _ _ _) ?_; conv => whnf))
  all_goals (refine VOut.same ?_; simp [V.ren]; try omega)
/-- Whether something is so for all of a list, from a place on. -/
def eachS (p : Nat → Int → Bool) : Nat → List Int → Bool
  | _, [] => true
  | i, x :: l => p i x && eachS p (i + 1) l
theorem vc_each (l : List Int) (p : Nat → Int → Bool) (g : FuncId) (caps : List D) (hl : l.length ≤ 4000000) (hso : ∀ (i : Nat) (x : Int) (h : Hp), l[i]? = some x → VC Try.prog g ([I i, I x] ++ D.vs caps) h (B (p i x)) h) (h : Hp) :
    VC Try.prog 79 [ints l, .func (.func g) [] (D.vs caps)] h (B (eachS p 0 l)) h := by
  refine VC.body Try.func79 rfl Try.ntmps79 Try.call79 (h.grows_refl) rfl ?_; conv => whnf
  rw [rens_dvs]
  refine VCode.lp (fun k : Nat => [(1, .func (.func g) [] (D.vs caps)), (4, B false), (7, ints l), (8, I l.length), (9, I k)]) (fun _ => []) (fun k => k ≤ l.length ∧ eachS p 0 l = eachS p k (l.drop k)) (fun k => l.length - k) 0 (by simp) ?_ ?_
  · conv => whnf
    refine Retell.turn ⟨[], 0, [], []⟩ (TurnOk.mk' _ _ [] [] (OutOk.lift _) rfl (by decide) (by repeat' (first | exact BTos.nil | refine BTos.flat rfl rfl (by first | rfl | simp) ?_ | refine BTos.new rfl ?_ | refine BTos.dead rfl rfl ?_ | refine BTos.row rfl rfl rfl (RowTo.snoc (RowTo.one rfl (by simp))) ?_ | refine BTos.cells rfl rfl rfl (by repeat' (first | exact VTo.undef | exact FrTo.leaf | refine FrTo.node ?_ ?_ ?_ | refine FrTo.none ?_ ?_ | exact VTo.sc (by first | rfl | (congr 1; omega) | (congr 1; simp; omega)) | exact VTos_dv _ _ | refine VTos.cons ?_ ?_ | exact VTos.nil | refine VTo.agg ?_ | refine VTo.tuple ?_ | refine VTo.func ?_ ?_ | exact VTo.fs | exact VTo.fp | exact VTo.nilptr | exact VTo.nilslice | exact VTo.nilfunc | exact VTo.ptr rfl | exact VTo.gl rfl | exact VTo.map rfl | exact VTo.glNil' (by decide) rfl rfl | exact VTo.fsNil (by decide) | exact VTo.fpPtr rfl | exact VTo.fsGl rfl (by first | rfl | exact flat_len encI_len _ | exact flat_len encS_len _ | exact flat_len encP_len _ | exact flat_len encL_len _ | exact flat_len encE_len _ | (simp [flat_len encP_len]; done) | simp [flat_len encI_len, flat_len encS_len]))) ?_)) trivial trivial rfl) (by repeat' (first | exact VTo.undef | exact FrTo.leaf | refine FrTo.node ?_ ?_ ?_ | refine FrTo.none ?_ ?_ | exact VTo.sc (by first | rfl | (congr 1; omega) | (congr 1; simp; omega)) | exact VTos_dv _ _ | refine VTos.cons ?_ ?_ | exact VTos.nil | refine VTo.agg ?_ | refine VTo.tuple ?_ | refine VTo.func ?_ ?_ | exact VTo.fs | exact VTo.fp | exact VTo.nilptr | exact VTo.nilslice | exact VTo.nilfunc | exact VTo.ptr rfl | exact VTo.gl rfl | exact VTo.map rfl | exact VTo.glNil' (by decide) rfl rfl | exact VTo.fsNil (by decide) | exact VTo.fpPtr rfl | exact VTo.fsGl rfl (by first | rfl | exact flat_len encI_len _ | exact flat_len encS_len _ | exact flat_len encP_len _ | exact flat_len encL_len _ | exact flat_len encE_len _ | (simp [flat_len encP_len]; done) | simp [flat_len encI_len, flat_len encS_len]))) (by first | rfl | (repeat' (first | exact MkTo.nil | refine MkTo.keep rfl ?_ | refine MkTo.drop (by decide) rfl ?_)))
  · rintro k ⟨h1, h2⟩
    conv => whnf
    refine VIte.dec (fun h3 => ?_) (fun h3 => ?_)
    · have hk : l[k]? = some l[k] := List.getElem?_eq_getElem (by omega)
      rw [List.drop_eq_getElem_cons (by omega)] at h2
      generalize l[k] = x at hk h2
      simp only [eachS] at h2
      conv => whnf
      refine VAny.ix encI_len k rfl rfl hk ?_
      conv => whnf
      repeat (first | (refine VLd.intro rfl ?_; conv => whnf) | (refine VArith.i64 (by omega) ?_; conv => whnf) | (refine VNeed.intro (by first | rfl | (simp; omega)) ?_; conv => whnf) | (refine VMem.store rfl rfl rfl rfl ?_; conv => whnf) | (refine VSame.intro rfl ?_; conv => whnf) | (refine VDraw.go [] (by kernel_rfl) (by kernel_rfl) ?_; conv => whnf))
      refine VCall.intro (hso k x _ hk) ?_
      conv => whnf
      cases hp : p k x
      · conv => whnf
        refine VOut.same ?_
        simp [V.ren, h2, hp]
      · conv => whnf
        repeat (first | (refine VLd.intro rfl ?_; conv => whnf) | (refine VArith.i64 (by omega) ?_; conv => whnf) | (refine VNeed.intro (by first | rfl | (simp; omega)) ?_; conv => whnf) | (refine VMem.store rfl rfl rfl rfl ?_; conv => whnf) | (refine VSame.intro rfl ?_; conv => whnf) | (refine VDraw.go [] (by kernel_rfl) (by kernel_rfl) ?_; conv => whnf))
        refine LEnd.intro (k + 1) ⟨by omega, by simpa [hp] using h2⟩ (by omega) ?_
        conv => whnf
        refine Retell.turn ⟨[], 0, [], []⟩ (TurnOk.mk' _ _ [] [] (OutOk.lift _) rfl (by decide) (by repeat' (first | exact BTos.nil | refine BTos.flat rfl rfl (by first | rfl | simp) ?_ | refine BTos.new rfl ?_ | refine BTos.dead rfl rfl ?_ | refine BTos.row rfl rfl rfl (RowTo.snoc (RowTo.one rfl (by simp))) ?_ | refine BTos.cells rfl rfl rfl (by repeat' (first | exact VTo.undef | exact FrTo.leaf | refine FrTo.node ?_ ?_ ?_ | refine FrTo.none ?_ ?_ | exact VTo.sc (by first | rfl | (congr 1; omega) | (congr 1; simp; omega)) | exact VTos_dv _ _ | refine VTos.cons ?_ ?_ | exact VTos.nil | refine VTo.agg ?_ | refine VTo.tuple ?_ | refine VTo.func ?_ ?_ | exact VTo.fs | exact VTo.fp | exact VTo.nilptr | exact VTo.nilslice | exact VTo.nilfunc | exact VTo.ptr rfl | exact VTo.gl rfl | exact VTo.map rfl | exact VTo.glNil' (by decide) rfl rfl | exact VTo.fsNil (by decide) | exact VTo.fpPtr rfl | exact VTo.fsGl rfl (by first | rfl | exact flat_len encI_len _ | exact flat_len encS_len _ | exact flat_len encP_len _ | exact flat_len encL_len _ | exact flat_len encE_len _ | (simp [flat_len encP_len]; done) | simp [flat_len encI_len, flat_len encS_len]))) ?_)) trivial trivial rfl) (by repeat' (first | exact VTo.undef | exact FrTo.leaf | refine FrTo.node ?_ ?_ ?_ | refine FrTo.none ?_ ?_ | exact VTo.sc (by first | rfl | (congr 1; omega) | (congr 1; simp; omega)) | exact VTos_dv _ _ | refine VTos.cons ?_ ?_ | exact VTos.nil | refine VTo.agg ?_ | refine VTo.tuple ?_ | refine VTo.func ?_ ?_ | exact VTo.fs | exact VTo.fp | exact VTo.nilptr | exact VTo.nilslice | exact VTo.nilfunc | exact VTo.ptr rfl | exact VTo.gl rfl | exact VTo.map rfl | exact VTo.glNil' (by decide) rfl rfl | exact VTo.fsNil (by decide) | exact VTo.fpPtr rfl | exact VTo.fsGl rfl (by first | rfl | exact flat_len encI_len _ | exact flat_len encS_len _ | exact flat_len encP_len _ | exact flat_len encL_len _ | exact flat_len encE_len _ | (simp [flat_len encP_len]; done) | simp [flat_len encI_len, flat_len encS_len]))) (by first | rfl | (repeat' (first | exact MkTo.nil | refine MkTo.keep rfl ?_ | refine MkTo.drop (by decide) rfl ?_)))
    · conv => whnf
      refine VOut.same ?_
      rw [List.drop_of_length_le (by omega), eachS] at h2
      simp [V.ren, h2]
theorem eachS_holds (ps : List Pap) : ∀ (t : List Int) (k : Nat), k + t.length ≤ ps.length → eachS (fun i y => match ps[i]? with | some p => decide (p.lo ≤ y ∧ y ≤ p.hi) | none => false) k t = holdsS (ps.drop k) t
  | [], k, _ => by cases h : ps.drop k <;> simp [eachS, holdsS]
  | y :: t, k, hk => by
    have hlt : k < ps.length := by simp at hk; omega
    rw [List.drop_eq_getElem_cons hlt, eachS, holdsS, List.getElem?_eq_getElem hlt, eachS_holds ps t (k + 1) (by simp at hk; omega)]
theorem vc_holds (f : Fil) (t : List Int) (h : Hp) (hl : t.length ≤ 4000000) (ht : t.length ≤ f.ps.length) : VC Try.prog 73 [vF f, ints t] h (B (holdsS f.ps t)) h := by
  refine VC.body Try.func73 rfl Try.ntmps73 Try.call73 (h.grows_refl) rfl ?_; conv => whnf
  refine VCall.intro (VC.give (args' := [ints t, .func (.func 90) [] [.fp (encF f)]]) (loc' := [.dead]) [(0, encF f)] [] (OutOk.lift _) (by repeat' (first | exact BTos.nil | refine BTos.flat rfl rfl (by first | rfl | simp) ?_ | refine BTos.new rfl ?_ | refine BTos.dead rfl rfl ?_ | refine BTos.row rfl rfl rfl (RowTo.snoc (RowTo.one rfl (by simp))) ?_ | refine BTos.cells rfl rfl rfl (by repeat' (first | exact VTo.undef | exact FrTo.leaf | refine FrTo.node ?_ ?_ ?_ | refine FrTo.none ?_ ?_ | exact VTo.sc (by first | rfl | (congr 1; omega) | (congr 1; simp; omega)) | exact VTos_dv _ _ | refine VTos.cons ?_ ?_ | exact VTos.nil | refine VTo.agg ?_ | refine VTo.tuple ?_ | refine VTo.func ?_ ?_ | exact VTo.fs | exact VTo.fp | exact VTo.nilptr | exact VTo.nilslice | exact VTo.nilfunc | exact VTo.ptr rfl | exact VTo.gl rfl | exact VTo.map rfl | exact VTo.glNil' (by decide) rfl rfl | exact VTo.fsNil (by decide) | exact VTo.fpPtr rfl | exact VTo.fsGl rfl (by first | rfl | exact flat_len encI_len _ | exact flat_len encS_len _ | exact flat_len encP_len _ | exact flat_len encL_len _ | exact flat_len encE_len _ | (simp [flat_len encP_len]; done) | simp [flat_len encI_len, flat_len encS_len]))) ?_)) (by repeat' (first | exact FzAll.nil | refine FzAll.flat rfl ?_ | refine FzAll.row rfl rfl (RowTo.one rfl (by simp)) ?_)) (by exact FmAll.nil) rfl (by repeat' (first | exact VTo.undef | exact FrTo.leaf | refine FrTo.node ?_ ?_ ?_ | refine FrTo.none ?_ ?_ | exact VTo.sc (by first | rfl | (congr 1; omega) | (congr 1; simp; omega)) | exact VTos_dv _ _ | refine VTos.cons ?_ ?_ | exact VTos.nil | refine VTo.agg ?_ | refine VTo.tuple ?_ | refine VTo.func ?_ ?_ | exact VTo.fs | exact VTo.fp | exact VTo.nilptr | exact VTo.nilslice | exact VTo.nilfunc | exact VTo.ptr rfl | exact VTo.gl rfl | exact VTo.map rfl | exact VTo.glNil' (by decide) rfl rfl | exact VTo.fsNil (by decide) | exact VTo.fpPtr rfl | exact VTo.fsGl rfl (by first | rfl | exact flat_len encI_len _ | exact flat_len encS_len _ | exact flat_len encP_len _ | exact flat_len encL_len _ | exact flat_len encE_len _ | (simp [flat_len encP_len]; done) | simp [flat_len encI_len, flat_len encS_len]))) (vc_each t (fun i y => match f.ps[i]? with | some p => decide (p.lo ≤ y ∧ y ≤ p.hi) | none => false) 90 [.pt (encF f)] hl ?_ _)) ?_
  · intro i x h hx
    obtain ⟨hlt, _⟩ := List.getElem?_eq_some_iff.1 hx
    have hp : f.ps[i]? = some f.ps[i] := List.getElem?_eq_getElem (by omega)
    rw [hp]
    exact vc_holds1 f _ i x h hp
  conv => whnf
  refine VOut.same ?_
  rw [eachS_holds _ _ 0 (by omega)]
  simp [V.ren]
end Go.Proofs.Ytolnajnlcdacmaa

open Go.Vm
namespace Go.Proofs.Ytolnajnlcdacmaa
set_option maxRecDepth 20000
set_option maxHeartbeats 1000000

theorem holdsS_at {ps : List Pap} {t : List Int} {k : Nat} {p : Pap} {y : Int} (hp : ps[k]? = some p) (hy : t[k]? = some y) : holdsS (ps.drop k) (t.drop k) = (decide (p.lo ≤ y ∧ y ≤ p.hi) && holdsS (ps.drop (k + 1)) (t.drop (k + 1))) := by
  obtain ⟨h1, rfl⟩ := List.getElem?_eq_some_iff.1 hp
  obtain ⟨h2, rfl⟩ := List.getElem?_eq_some_iff.1 hy
  rw [List.drop_eq_getElem_cons h1, List.drop_eq_getElem_cons h2, holdsS]
theorem vc_rholds (f : Fil) (t : List Int) (h : Hp) (hl : t.length ≤ 4000000) (ht : t.length ≤ f.ps.length) : VC Try.prog 74 [vF f, ints t] h (B (holdsS f.ps t)) h := by
  refine VC.body Try.func74 rfl Try.ntmps74 Try.call74 (h.grows_refl) rfl ?_; conv => whnf
  refine VCode.lp (fun k : Nat => [(1, ints t), (2, .ptr (.loc 0) 0), (4, B false), (5, I k)]) (fun _ => [.flat true (encF f)]) (fun k => k ≤ t.length ∧ holdsS f.ps t = holdsS (f.ps.drop k) (t.drop k)) (fun k => t.length - k) 0 (by simp) ?_ ?_
  · conv => whnf
    refine Retell.turn ⟨[0], 1, [], []⟩ (TurnOk.mk' _ _ [] [] (OutOk.lift _) rfl (by decide) (by repeat' (first | exact BTos.nil | refine BTos.flat rfl rfl (by first | rfl | simp) ?_ | refine BTos.new rfl ?_ | refine BTos.dead rfl rfl ?_ | refine BTos.row rfl rfl rfl (RowTo.snoc (RowTo.one rfl (by simp))) ?_ | refine BTos.cells rfl rfl rfl (by repeat' (first | exact VTo.undef | exact FrTo.leaf | refine FrTo.node ?_ ?_ ?_ | refine FrTo.none ?_ ?_ | exact VTo.sc (by first | rfl | (congr 1; omega) | (congr 1; simp; omega)) | exact VTos_dv _ _ | refine VTos.cons ?_ ?_ | exact VTos.nil | refine VTo.agg ?_ | refine VTo.tuple ?_ | refine VTo.func ?_ ?_ | exact VTo.fs | exact VTo.fp | exact VTo.nilptr | exact VTo.nilslice | exact VTo.nilfunc | exact VTo.ptr rfl | exact VTo.gl rfl | exact VTo.map rfl | exact VTo.glNil' (by decide) rfl rfl | exact VTo.fsNil (by decide) | exact VTo.fpPtr rfl | exact VTo.fsGl rfl (by first | rfl | exact flat_len encI_len _ | exact flat_len encS_len _ | exact flat_len encP_len _ | exact flat_len encL_len _ | exact flat_len encE_len _ | (simp [flat_len encP_len]; done) | simp [flat_len encI_len, flat_len encS_len]))) ?_)) trivial trivial rfl) (by repeat' (first | exact VTo.undef | exact FrTo.leaf | refine FrTo.node ?_ ?_ ?_ | refine FrTo.none ?_ ?_ | exact VTo.sc (by first | rfl | (congr 1; omega) | (congr 1; simp; omega)) | exact VTos_dv _ _ | refine VTos.cons ?_ ?_ | exact VTos.nil | refine VTo.agg ?_ | refine VTo.tuple ?_ | refine VTo.func ?_ ?_ | exact VTo.fs | exact VTo.fp | exact VTo.nilptr | exact VTo.nilslice | exact VTo.nilfunc | exact VTo.ptr rfl | exact VTo.gl rfl | exact VTo.map rfl | exact VTo.glNil' (by decide) rfl rfl | exact VTo.fsNil (by decide) | exact VTo.fpPtr rfl | exact VTo.fsGl rfl (by first | rfl | exact flat_len encI_len _ | exact flat_len encS_len _ | exact flat_len encP_len _ | exact flat_len encL_len _ | exact flat_len encE_len _ | (simp [flat_len encP_len]; done) | simp [flat_len encI_len, flat_len encS_len]))) (by first | rfl | (repeat' (first | exact MkTo.nil | refine MkTo.keep rfl ?_ | refine MkTo.drop (by decide) rfl ?_)))
  · rintro k ⟨h1, h2⟩
    conv => whnf
    refine VIte.dec (fun h3 => ?_) (fun h3 => ?_)
    · have hk : t[k]? = some t[k] := List.getElem?_eq_getElem (by omega)
      have hp : f.ps[k]? = some f.ps[k] := List.getElem?_eq_getElem (by omega)
      generalize t[k] = y at hk
      generalize f.ps[k] = p at hp
      rw [holdsS_at hp hk] at h2
      conv => whnf
      repeat' (first | (refine VLd.intro rfl ?_; conv => whnf) | (refine VArith.i64 (by omega) ?_; conv => whnf) | (refine VNeed.intro (by first | rfl | (simp; omega)) ?_; conv => whnf) | (refine VMem.store rfl rfl rfl rfl ?_; conv => whnf) | (refine VSame.intro rfl ?_; conv => whnf) | (refine VDraw.go [] (by kernel_rfl) (by kernel_rfl) ?_; conv => whnf) | (refine VIte.dec (fun _ => ?_) (fun _ => ?_) <;> conv => whnf) | (refine VIte.ndec (fun _ => ?_) (fun _ => ?_) <;> conv => whnf) | (refine VIte.beq (fun _ => ?_) (fun _ => ?_) <;> conv => whnf) | (refine VIte.bne (fun _ => ?_) (fun _ => ?_) <;> conv => whnf) | (refine VIte.intro (fun _ => ?_) (fun _ => ?_) <;> conv => whnf) | (refine VAny.ix encI_len k rfl rfl hk ?_; conv => whnf) | (refine VAny.ix encP_len k rfl rfl hp ?_; conv => whnf) | (refine VCall.intro (vc_beside _ _ _ _) ?_; conv => whnf))
      · refine VOut.same ?_
        rw [h2, decide_eq_false (by omega)]; rfl
      · refine LEnd.intro (k + 1) ⟨by omega, by rw [h2, decide_eq_true (by omega)]; rfl⟩ (by omega) ?_
        conv => whnf
        refine Retell.turn ⟨[0], 1, [], []⟩ (TurnOk.mk' _ _ [] [] (OutOk.lift _) rfl (by decide) (by repeat' (first | exact BTos.nil | refine BTos.flat rfl rfl (by first | rfl | simp) ?_ | refine BTos.new rfl ?_ | refine BTos.dead rfl rfl ?_ | refine BTos.row rfl rfl rfl (RowTo.snoc (RowTo.one rfl (by simp))) ?_ | refine BTos.cells rfl rfl rfl (by repeat' (first | exact VTo.undef | exact FrTo.leaf | refine FrTo.node ?_ ?_ ?_ | refine FrTo.none ?_ ?_ | exact VTo.sc (by first | rfl | (congr 1; omega) | (congr 1; simp; omega)) | exact VTos_dv _ _ | refine VTos.cons ?_ ?_ | exact VTos.nil | refine VTo.agg ?_ | refine VTo.tuple ?_ | refine VTo.func ?_ ?_ | exact VTo.fs | exact VTo.fp | exact VTo.nilptr | exact VTo.nilslice | exact VTo.nilfunc | exact VTo.ptr rfl | exact VTo.gl rfl | exact VTo.map rfl | exact VTo.glNil' (by decide) rfl rfl | exact VTo.fsNil (by decide) | exact VTo.fpPtr rfl | exact VTo.fsGl rfl (by first | rfl | exact flat_len encI_len _ | exact flat_len encS_len _ | exact flat_len encP_len _ | exact flat_len encL_len _ | exact flat_len encE_len _ | (simp [flat_len encP_len]; done) | simp [flat_len encI_len, flat_len encS_len]))) ?_)) trivial trivial rfl) (by repeat' (first | exact VTo.undef | exact FrTo.leaf | refine FrTo.node ?_ ?_ ?_ | refine FrTo.none ?_ ?_ | exact VTo.sc (by first | rfl | (congr 1; omega) | (congr 1; simp; omega)) | exact VTos_dv _ _ | refine VTos.cons ?_ ?_ | exact VTos.nil | refine VTo.agg ?_ | refine VTo.tuple ?_ | refine VTo.func ?_ ?_ | exact VTo.fs | exact VTo.fp | exact VTo.nilptr | exact VTo.nilslice | exact VTo.nilfunc | exact VTo.ptr rfl | exact VTo.gl rfl | exact VTo.map rfl | exact VTo.glNil' (by decide) rfl rfl | exact VTo.fsNil (by decide) | exact VTo.fpPtr rfl | exact VTo.fsGl rfl (by first | rfl | exact flat_len encI_len _ | exact flat_len encS_len _ | exact flat_len encP_len _ | exact flat_len encL_len _ | exact flat_len encE_len _ | (simp [flat_len encP_len]; done) | simp [flat_len encI_len, flat_len encS_len]))) (by first | rfl | (repeat' (first | exact MkTo.nil | refine MkTo.keep rfl ?_ | refine MkTo.drop (by decide) rfl ?_)))
    · conv => whnf
      refine VOut.same ?_
      have : t.drop k = [] := List.drop_of_length_le (by omega)
      rw [h2, this]
      cases f.ps.drop k <;> rfl
/-- Whether years are a truth, and the error. -/
def hldB (f : Fil) (t : List Int) : Bool := if chk f = 0 ∧ t.length = f.ps.length then holdsS f.ps t else false
def hldE (f : Fil) (t : List Int) : Int := if chk f ≠ 0 then chk f else if t.length ≠ f.ps.length then 3 else 0
theorem vc_rHolds (f : Fil) (t : List Int) (h : Hp) (hn : f.ps.length ≤ 4000000) (hl : t.length ≤ 4000000) : VC Try.prog 37 [vF f, ints t] h (.tuple [B (hldB f t), I (hldE f t)]) h := by
  refine VC.body Try.func37 rfl Try.ntmps37 Try.call37 (h.grows_refl) rfl ?_; conv => whnf
  repeat' (first | (refine VLd.intro rfl ?_; conv => whnf) | (refine VArith.i64 (by omega) ?_; conv => whnf) | (refine VNeed.intro (by first | rfl | (simp; omega)) ?_; conv => whnf) | (refine VMem.store rfl rfl rfl rfl ?_; conv => whnf) | (refine VSame.intro rfl ?_; conv => whnf) | (refine VDraw.go [] (by kernel_rfl) (by kernel_rfl) ?_; conv => whnf) | (refine VIte.dec (fun _ => ?_) (fun _ => ?_) <;> conv => whnf) | (refine VIte.ndec (fun _ => ?_) (fun _ => ?_) <;> conv => whnf) | (refine VIte.beq (fun _ => ?_) (fun _ => ?_) <;> conv => whnf) | (refine VIte.bne (fun _ => ?_) (fun _ => ?_) <;> conv => whnf) | (refine VIte.intro (fun _ => ?_) (fun _ => ?_) <;> conv => whnf) | (refine VCall.intro (vc_rcheck _ _ hn) ?_; conv => whnf))
  · refine VOut.same ?_; simp [V.ren, V.rens, hldB, hldE, *]
  · refine VOut.same ?_
    have : ¬ t.length = f.ps.length := by omega
    simp_all [V.ren, V.rens, hldB, hldE]
  · refine VCall.intro (vc_rholds f t _ hl (by omega)) ?_
    conv => whnf
    refine VOut.same ?_
    have : t.length = f.ps.length := by omega
    simp_all [V.ren, V.rens, hldB, hldE]
/-- The error of a file and a truth. -/
def toldE (f : Fil) (t : List Int) : Int := if hldE f t = 0 ∧ hldB f t = false then 9 else hldE f t
theorem vc_Told (f : Fil) (t : List Int) (h : Hp) (hn : f.ps.length ≤ 4000000) (hl : t.length ≤ 4000000) : VC Try.prog 62 [vF f, ints t] h (I (toldE f t)) h := by
  refine VC.body Try.func62 rfl Try.ntmps62 Try.call62 (h.grows_refl) rfl ?_; conv => whnf
  repeat' (first | (refine VLd.intro rfl ?_; conv => whnf) | (refine VArith.i64 (by omega) ?_; conv => whnf) | (refine VNeed.intro (by first | rfl | (simp; omega)) ?_; conv => whnf) | (refine VMem.store rfl rfl rfl rfl ?_; conv => whnf) | (refine VSame.intro rfl ?_; conv => whnf) | (refine VDraw.go [] (by kernel_rfl) (by kernel_rfl) ?_; conv => whnf) | (refine VIte.dec (fun _ => ?_) (fun _ => ?_) <;> conv => whnf) | (refine VIte.ndec (fun _ => ?_) (fun _ => ?_) <;> conv => whnf) | (refine VIte.beq (fun _ => ?_) (fun _ => ?_) <;> conv => whnf) | (refine VIte.bne (fun _ => ?_) (fun _ => ?_) <;> conv => whnf) | (refine VIte.intro (fun _ => ?_) (fun _ => ?_) <;> conv => whnf) | (refine VCall.intro (vc_rHolds f t _ hn hl) ?_; conv => whnf))
  all_goals (refine VOut.same ?_; simp_all [V.ren, toldE])
def encDk (f : Fil) (t : List Int) : List D := [DI f.Y, DI f.G, .sl 3 f.ps.length (f.ps.flatMap encP), dints t]
theorem vc_begun (f : Fil) (t : List Int) (h : Hp) (hn : f.ps.length ≤ 4000000) (hl : t.length ≤ 4000000) : VC Try.prog 68 [vF f, ints t] h (.tuple [if toldE f t = 0 then .fp (encDk f t) else .nilptr, I (toldE f t)]) h := by
  refine VC.body Try.func68 rfl Try.ntmps68 Try.call68 (h.grows_refl) rfl ?_; conv => whnf
  repeat' (first | (refine VLd.intro rfl ?_; conv => whnf) | (refine VArith.i64 (by omega) ?_; conv => whnf) | (refine VNeed.intro (by first | rfl | (simp; omega)) ?_; conv => whnf) | (refine VMem.store rfl rfl rfl rfl ?_; conv => whnf) | (refine VSame.intro rfl ?_; conv => whnf) | (refine VDraw.go [] (by kernel_rfl) (by kernel_rfl) ?_; conv => whnf) | (refine VIte.dec (fun _ => ?_) (fun _ => ?_) <;> conv => whnf) | (refine VIte.ndec (fun _ => ?_) (fun _ => ?_) <;> conv => whnf) | (refine VIte.beq (fun _ => ?_) (fun _ => ?_) <;> conv => whnf) | (refine VIte.bne (fun _ => ?_) (fun _ => ?_) <;> conv => whnf) | (refine VIte.intro (fun _ => ?_) (fun _ => ?_) <;> conv => whnf) | (refine VCall.intro (vc_check _ _ hn) ?_; conv => whnf))
  · refine VOut.same ?_; simp_all [V.ren, V.rens, toldE, hldE]
  · refine VOut.same ?_
    have : ¬ t.length = f.ps.length := by omega
    simp_all [V.ren, V.rens, toldE, hldE]
  · refine VCall.intro (vc_holds f t _ hl (by omega)) ?_
    have : t.length = f.ps.length := by omega
    conv => whnf
    cases hb : holdsS f.ps t
    · conv => whnf
      refine VOut.same ?_
      simp_all [V.ren, V.rens, toldE, hldE, hldB]
    · conv => whnf
      have h0 : toldE f t = 0 := by simp_all [toldE, hldE, hldB]
      rw [h0, if_pos rfl]
      repeat (first | (refine VLd.intro rfl ?_; conv => whnf) | (refine VArith.i64 (by omega) ?_; conv => whnf) | (refine VNeed.intro (by first | rfl | (simp; omega)) ?_; conv => whnf) | (refine VMem.store rfl rfl rfl rfl ?_; conv => whnf) | (refine VSame.intro rfl ?_; conv => whnf) | (refine VDraw.go [] (by kernel_rfl) (by kernel_rfl) ?_; conv => whnf))
      refine VOut.data 2 [(1, encDk f t)] [] rfl (by repeat' (first | exact FzAll.nil | refine FzAll.flat rfl ?_ | refine FzAll.row rfl rfl (RowTo.one rfl (by simp)) ?_)) (by exact FmAll.nil) (by repeat' (first | exact VTo.undef | exact FrTo.leaf | refine FrTo.node ?_ ?_ ?_ | refine FrTo.none ?_ ?_ | exact VTo.sc (by first | rfl | (congr 1; omega) | (congr 1; simp; omega)) | exact VTos_dv _ _ | refine VTos.cons ?_ ?_ | exact VTos.nil | refine VTo.agg ?_ | refine VTo.tuple ?_ | refine VTo.func ?_ ?_ | exact VTo.fs | exact VTo.fp | exact VTo.nilptr | exact VTo.nilslice | exact VTo.nilfunc | exact VTo.ptr rfl | exact VTo.gl rfl | exact VTo.map rfl | exact VTo.glNil' (by decide) rfl rfl | exact VTo.fsNil (by decide) | exact VTo.fpPtr rfl | exact VTo.fsGl rfl (by first | rfl | exact flat_len encI_len _ | exact flat_len encS_len _ | exact flat_len encP_len _ | exact flat_len encL_len _ | exact flat_len encE_len _ | (simp [flat_len encP_len]; done) | simp [flat_len encI_len, flat_len encS_len])))
theorem chkGo_zero : ∀ {ps : List Pap} {last : Int}, chkGo ps last = 0 → ∀ p ∈ ps, ¬ badPap p
  | [], _, _, p, hp => by cases hp
  | q :: ps, last, h, p, hp => by
    rw [chkGo] at h
    split at h
    · cases h
    · rename_i hb
      split at h
      · cases h
      · rcases List.mem_cons.1 hp with rfl | hp
        · exact hb
        · exact chkGo_zero h p hp
theorem chk_zero {f : Fil} (h : chk f = 0) : (1 ≤ f.Y ∧ f.Y ≤ 500) ∧ (1 ≤ f.G ∧ f.G ≤ 200) ∧ f.ps.length ≤ 16 ∧ chkGo f.ps (-1) = 0 := by
  unfold chk at h
  split at h
  · cases h
  · split at h
    · cases h
    · exact ⟨by omega, by omega, by omega, h⟩
theorem holdsS_get : ∀ {ps : List Pap} {t : List Int} {k : Nat} {p : Pap} {y : Int}, holdsS ps t = true → ps[k]? = some p → t[k]? = some y → p.lo ≤ y ∧ y ≤ p.hi
  | [], _, _, _, _, _, h, _ => by simp at h
  | _ :: _, [], _, _, _, _, _, h => by simp at h
  | q :: ps, x :: t, k, p, y, h, hp, hy => by
    simp only [holdsS, Bool.and_eq_true, decide_eq_true_eq] at h
    cases k with
    | zero => simp at hp hy; subst hp hy; exact h.1
    | succ k => exact holdsS_get h.2 (by simpa using hp) (by simpa using hy)
/-- A right file, and a truth of it. -/
structure Okt (f : Fil) (t : List Int) : Prop where
  y : 1 ≤ f.Y ∧ f.Y ≤ 500
  g : 1 ≤ f.G ∧ f.G ≤ 200
  n : f.ps.length ≤ 16
  len : t.length = f.ps.length
  go : chkGo f.ps (-1) = 0
  hold : holdsS f.ps t = true
theorem told_ok {f : Fil} {t : List Int} (h : toldE f t = 0) : Okt f t := by
  have h1 : chk f = 0 := by
    by_cases hc : chk f = 0
    · exact hc
    · simp [toldE, hldE, hc] at h
  have h2 : t.length = f.ps.length := by
    by_cases hc : t.length = f.ps.length
    · exact hc
    · simp [toldE, hldE, h1, hc] at h
  obtain ⟨a, b, c, d⟩ := chk_zero h1
  refine ⟨a, b, c, h2, d, ?_⟩
  cases hb : holdsS f.ps t
  · simp [toldE, hldE, hldB, h1, h2, hb] at h
  · rfl
theorem Okt.yr {f : Fil} {t : List Int} (o : Okt f t) {k : Nat} {y : Int} (hy : t[k]? = some y) : 0 ≤ y ∧ y ≤ 3000 := by
  obtain ⟨hlt, _⟩ := List.getElem?_eq_some_iff.1 hy
  have hlt' : k < f.ps.length := by rw [← o.len]; exact hlt
  have hp : f.ps[k]? = some f.ps[k] := List.getElem?_eq_getElem hlt'
  have h1 := holdsS_get o.hold hp hy
  have h2 := chkGo_zero o.go _ (List.mem_of_getElem? hp)
  unfold badPap at h2
  omega
def sdAt (f : Fil) (i : Nat) : Int := match f.ps[i]? with
  | some p => p.side
  | none => 0
def tAt (t : List Int) (i : Nat) : Int := t.getD i 0
theorem tAt_eq {t : List Int} {i : Nat} {y : Int} (h : t[i]? = some y) : tAt t i = y := by simp [tAt, h]
theorem sdAt_eq {f : Fil} {i : Nat} {p : Pap} (h : f.ps[i]? = some p) : sdAt f i = p.side := by simp [sdAt, h]
theorem vc_goes (f : Fil) (i : Nat) (y a : Int) (h : Hp) (hi : i < f.ps.length) (hn : f.ps.length ≤ 4000000) (hy : -1000000 ≤ y ∧ y ≤ 1000000) (ha : -1000000 ≤ a ∧ a ≤ 1000000) :
    VC Try.prog 85 [vF f, I i, I y, I a] h (B (decide (0 < i ∧ sdAt f i = sdAt f (i - 1) ∧ y - a ≤ f.G))) h := by
  have hp : f.ps[i]? = some f.ps[i] := List.getElem?_eq_getElem hi
  have hq : f.ps[i - 1]? = some f.ps[i - 1] := List.getElem?_eq_getElem (by omega)
  rw [sdAt_eq hp, sdAt_eq hq]
  generalize f.ps[i] = p at hp
  generalize f.ps[i - 1] = q at hq
  refine VC.body Try.func85 rfl Try.ntmps85 Try.call85 (h.grows_refl) rfl ?_; conv => whnf
  repeat' (first | (refine VLd.intro rfl ?_; conv => whnf) | (refine VArith.i64 (by omega) ?_; conv => whnf) | (refine VNeed.intro (by first | rfl | (simp; omega)) ?_; conv => whnf) | (refine VMem.store rfl rfl rfl rfl ?_; conv => whnf) | (refine VSame.intro rfl ?_; conv => whnf) | (refine VDraw.go [] (by kernel_rfl) (by kernel_rfl) ?_; conv => whnf) | (refine VIte.dec (fun _ => ?_) (fun _ => ?_) <;> conv => whnf) | (refine VIte.ndec (fun _ => ?_) (fun _ => ?_) <;> conv => whnf) | (refine VIte.beq (fun _ => ?_) (fun _ => ?_) <;> conv => whnf) | (refine VIte.bne (fun _ => ?_) (fun _ => ?_) <;> conv => whnf) | (refine VIte.intro (fun _ => ?_) (fun _ => ?_) <;> conv => whnf) | (refine VAny.ix encP_len i rfl rfl hp ?_; conv => whnf) | (refine VAny.ix encP_len (i - 1) (by omega) rfl hq ?_; conv => whnf))
  all_goals (refine VOut.dec ?_; first | (simp only [decide_eq_true_eq]; omega) | (simp; omega) | (simp; done))
/-- Whether a paper is the first one of its chain. -/
def bgB (f : Fil) (t : List Int) (i : Nat) : Bool := decide (i = 0 ∨ sdAt f i ≠ sdAt f (i - 1) ∨ f.G < tAt t i - tAt t (i - 1))
theorem vc_begins (f : Fil) (t : List Int) (i : Nat) (h : Hp) (o : Okt f t) (hi : i < t.length) : VC Try.prog 75 [vF f, ints t, I i] h (B (bgB f t i)) h := by
  have hn := o.n
  have hlen := o.len
  have hp : f.ps[i]? = some f.ps[i] := List.getElem?_eq_getElem (by omega)
  have hq : f.ps[i - 1]? = some f.ps[i - 1] := List.getElem?_eq_getElem (by omega)
  have hy : t[i]? = some t[i] := List.getElem?_eq_getElem hi
  have hz : t[i - 1]? = some t[i - 1] := List.getElem?_eq_getElem (by omega)
  unfold bgB
  rw [sdAt_eq hp, sdAt_eq hq, tAt_eq hy, tAt_eq hz]
  have b1 := o.yr hy
  have b2 := o.yr hz
  generalize f.ps[i] = p at hp
  generalize f.ps[i - 1] = q at hq
  generalize t[i] = y at hy b1
  generalize t[i - 1] = z at hz b2
  refine VC.body Try.func75 rfl Try.ntmps75 Try.call75 (h.grows_refl) rfl ?_; conv => whnf
  repeat' (first | (refine VLd.intro rfl ?_; conv => whnf) | (refine VArith.i64 (by omega) ?_; conv => whnf) | (refine VNeed.intro (by first | rfl | (simp; omega)) ?_; conv => whnf) | (refine VMem.store rfl rfl rfl rfl ?_; conv => whnf) | (refine VSame.intro rfl ?_; conv => whnf) | (refine VDraw.go [] (by kernel_rfl) (by kernel_rfl) ?_; conv => whnf) | (refine VIte.dec (fun _ => ?_) (fun _ => ?_) <;> conv => whnf) | (refine VIte.ndec (fun _ => ?_) (fun _ => ?_) <;> conv => whnf) | (refine VIte.beq (fun _ => ?_) (fun _ => ?_) <;> conv => whnf) | (refine VIte.bne (fun _ => ?_) (fun _ => ?_) <;> conv => whnf) | (refine VIte.intro (fun _ => ?_) (fun _ => ?_) <;> conv => whnf) | (refine VAny.ix encP_len i rfl rfl hp ?_; conv => whnf) | (refine VAny.ix encP_len (i - 1) (by omega) rfl hq ?_; conv => whnf) | (refine VAny.ix encI_len i rfl rfl hy ?_; conv => whnf) | (refine VAny.ix encI_len (i - 1) (by omega) rfl hz ?_; conv => whnf))
  all_goals (refine VOut.dec ?_; first | (simp only [decide_eq_true_eq]; omega) | (simp; omega) | (simp; done))
/-- The first paper of the chain of a paper. -/
def fst (f : Fil) (t : List Int) : Nat → Nat
  | 0 => 0
  | i + 1 => if bgB f t (i + 1) then i + 1 else fst f t i
theorem fst_le (f : Fil) (t : List Int) : ∀ i, fst f t i ≤ i
  | 0 => Nat.le_refl _
  | i + 1 => by
    rw [fst]
    split
    · exact Nat.le_refl _
    · exact Nat.le_succ_of_le (fst_le f t i)
theorem vc_first (f : Fil) (t : List Int) (i : Nat) (h : Hp) (o : Okt f t) (hi : i < t.length) : VC Try.prog 78 [vF f, ints t, I i] h (I (fst f t i)) h := by
  have hn := o.n
  have hlen := o.len
  refine VC.body Try.func78 rfl Try.ntmps78 Try.call78 (h.grows_refl) rfl ?_; conv => whnf
  refine VCode.lp (fun k : Nat => [(1, ints t), (2, I k), (3, .ptr (.loc 0) 0), (6, I 0)]) (fun _ => [.flat true (encF f)]) (fun k => k ≤ i ∧ fst f t i = fst f t k) (fun k => k) i ⟨Nat.le_refl _, rfl⟩ ?_ ?_
  · conv => whnf
    refine Retell.turn ⟨[0], 1, [], []⟩ (TurnOk.mk' _ _ [] [] (OutOk.lift _) rfl (by decide) (by repeat' (first | exact BTos.nil | refine BTos.flat rfl rfl (by first | rfl | simp) ?_ | refine BTos.new rfl ?_ | refine BTos.dead rfl rfl ?_ | refine BTos.row rfl rfl rfl (RowTo.snoc (RowTo.one rfl (by simp))) ?_ | refine BTos.cells rfl rfl rfl (by repeat' (first | exact VTo.undef | exact FrTo.leaf | refine FrTo.node ?_ ?_ ?_ | refine FrTo.none ?_ ?_ | exact VTo.sc (by first | rfl | (congr 1; omega) | (congr 1; simp; omega)) | exact VTos_dv _ _ | refine VTos.cons ?_ ?_ | exact VTos.nil | refine VTo.agg ?_ | refine VTo.tuple ?_ | refine VTo.func ?_ ?_ | exact VTo.fs | exact VTo.fp | exact VTo.nilptr | exact VTo.nilslice | exact VTo.nilfunc | exact VTo.ptr rfl | exact VTo.gl rfl | exact VTo.map rfl | exact VTo.glNil' (by decide) rfl rfl | exact VTo.fsNil (by decide) | exact VTo.fpPtr rfl | exact VTo.fsGl rfl (by first | rfl | exact flat_len encI_len _ | exact flat_len encS_len _ | exact flat_len encP_len _ | exact flat_len encL_len _ | exact flat_len encE_len _ | (simp [flat_len encP_len]; done) | simp [flat_len encI_len, flat_len encS_len]))) ?_)) trivial trivial rfl) (by repeat' (first | exact VTo.undef | exact FrTo.leaf | refine FrTo.node ?_ ?_ ?_ | refine FrTo.none ?_ ?_ | exact VTo.sc (by first | rfl | (congr 1; omega) | (congr 1; simp; omega)) | exact VTos_dv _ _ | refine VTos.cons ?_ ?_ | exact VTos.nil | refine VTo.agg ?_ | refine VTo.tuple ?_ | refine VTo.func ?_ ?_ | exact VTo.fs | exact VTo.fp | exact VTo.nilptr | exact VTo.nilslice | exact VTo.nilfunc | exact VTo.ptr rfl | exact VTo.gl rfl | exact VTo.map rfl | exact VTo.glNil' (by decide) rfl rfl | exact VTo.fsNil (by decide) | exact VTo.fpPtr rfl | exact VTo.fsGl rfl (by first | rfl | exact flat_len encI_len _ | exact flat_len encS_len _ | exact flat_len encP_len _ | exact flat_len encL_len _ | exact flat_len encE_len _ | (simp [flat_len encP_len]; done) | simp [flat_len encI_len, flat_len encS_len]))) (by first | rfl | (repeat' (first | exact MkTo.nil | refine MkTo.keep rfl ?_ | refine MkTo.drop (by decide) rfl ?_)))
  · rintro k ⟨h1, h2⟩
    conv => whnf
    repeat (first | (refine VLd.intro rfl ?_; conv => whnf) | (refine VArith.i64 (by omega) ?_; conv => whnf) | (refine VNeed.intro (by first | rfl | (simp; omega)) ?_; conv => whnf) | (refine VMem.store rfl rfl rfl rfl ?_; conv => whnf) | (refine VSame.intro rfl ?_; conv => whnf) | (refine VDraw.go [] (by kernel_rfl) (by kernel_rfl) ?_; conv => whnf))
    refine VCall.intro (vc_begins f t k _ o (by omega)) ?_
    conv => whnf
    cases hb : bgB f t k
    · conv => whnf
      have hk : 0 < k := by
        rcases Nat.eq_zero_or_pos k with rfl | hk
        · simp [bgB] at hb
        · exact hk
      repeat (first | (refine VLd.intro rfl ?_; conv => whnf) | (refine VArith.i64 (by omega) ?_; conv => whnf) | (refine VNeed.intro (by first | rfl | (simp; omega)) ?_; conv => whnf) | (refine VMem.store rfl rfl rfl rfl ?_; conv => whnf) | (refine VSame.intro rfl ?_; conv => whnf) | (refine VDraw.go [] (by kernel_rfl) (by kernel_rfl) ?_; conv => whnf))
      refine LEnd.intro (k - 1) ⟨by omega, ?_⟩ (by omega) ?_
      · obtain ⟨j, rfl⟩ : ∃ j, k = j + 1 := ⟨k - 1, by omega⟩
        rw [h2, fst, hb]; rfl
      · conv => whnf
        refine Retell.turn ⟨[0], 1, [], []⟩ (TurnOk.mk' _ _ [] [] (OutOk.lift _) rfl (by decide) (by repeat' (first | exact BTos.nil | refine BTos.flat rfl rfl (by first | rfl | simp) ?_ | refine BTos.new rfl ?_ | refine BTos.dead rfl rfl ?_ | refine BTos.row rfl rfl rfl (RowTo.snoc (RowTo.one rfl (by simp))) ?_ | refine BTos.cells rfl rfl rfl (by repeat' (first | exact VTo.undef | exact FrTo.leaf | refine FrTo.node ?_ ?_ ?_ | refine FrTo.none ?_ ?_ | exact VTo.sc (by first | rfl | (congr 1; omega) | (congr 1; simp; omega)) | exact VTos_dv _ _ | refine VTos.cons ?_ ?_ | exact VTos.nil | refine VTo.agg ?_ | refine VTo.tuple ?_ | refine VTo.func ?_ ?_ | exact VTo.fs | exact VTo.fp | exact VTo.nilptr | exact VTo.nilslice | exact VTo.nilfunc | exact VTo.ptr rfl | exact VTo.gl rfl | exact VTo.map rfl | exact VTo.glNil' (by decide) rfl rfl | exact VTo.fsNil (by decide) | exact VTo.fpPtr rfl | exact VTo.fsGl rfl (by first | rfl | exact flat_len encI_len _ | exact flat_len encS_len _ | exact flat_len encP_len _ | exact flat_len encL_len _ | exact flat_len encE_len _ | (simp [flat_len encP_len]; done) | simp [flat_len encI_len, flat_len encS_len]))) ?_)) trivial trivial rfl) (by repeat' (first | exact VTo.undef | exact FrTo.leaf | refine FrTo.node ?_ ?_ ?_ | refine FrTo.none ?_ ?_ | exact VTo.sc (by first | rfl | (congr 1; omega) | (congr 1; simp; omega)) | exact VTos_dv _ _ | refine VTos.cons ?_ ?_ | exact VTos.nil | refine VTo.agg ?_ | refine VTo.tuple ?_ | refine VTo.func ?_ ?_ | exact VTo.fs | exact VTo.fp | exact VTo.nilptr | exact VTo.nilslice | exact VTo.nilfunc | exact VTo.ptr rfl | exact VTo.gl rfl | exact VTo.map rfl | exact VTo.glNil' (by decide) rfl rfl | exact VTo.fsNil (by decide) | exact VTo.fpPtr rfl | exact VTo.fsGl rfl (by first | rfl | exact flat_len encI_len _ | exact flat_len encS_len _ | exact flat_len encP_len _ | exact flat_len encL_len _ | exact flat_len encE_len _ | (simp [flat_len encP_len]; done) | simp [flat_len encI_len, flat_len encS_len]))) (by first | rfl | (repeat' (first | exact MkTo.nil | refine MkTo.keep rfl ?_ | refine MkTo.drop (by decide) rfl ?_)))
    · conv => whnf
      refine VOut.same ?_
      have : fst f t k = k := by
        cases k with
        | zero => rfl
        | succ k => rw [fst, hb]; rfl
      simp [V.ren, h2, this]
/-- Whether a right arises with a paper. -/
def arB (f : Fil) (t : List Int) (i : Nat) : Bool := decide (f.Y ≤ tAt t i - tAt t (fst f t i) ∧ tAt t (i - 1) - tAt t (fst f t i) < f.Y)
theorem vc_rarises (f : Fil) (t : List Int) (i : Nat) (h : Hp) (o : Okt f t) (hi : i < t.length) : VC Try.prog 76 [vF f, ints t, I i] h (B (arB f t i)) h := by
  have hn := o.n
  have hlen := o.len
  have hY := o.y
  have hle := fst_le f t i
  have hy : t[i]? = some t[i] := List.getElem?_eq_getElem hi
  have hz : t[i - 1]? = some t[i - 1] := List.getElem?_eq_getElem (by omega)
  have ha : t[fst f t i]? = some t[fst f t i] := List.getElem?_eq_getElem (by omega)
  unfold arB
  rw [tAt_eq hy, tAt_eq hz, tAt_eq ha]
  have b1 := o.yr hy
  have b2 := o.yr hz
  have b3 := o.yr ha
  have hi0 : i = 0 → t[i] = t[fst f t i] := by
    intro h0
    have : fst f t i = i := by omega
    simp only [this]
  generalize t[i] = y at hy b1 hi0
  generalize t[i - 1] = z at hz b2
  generalize t[fst f t i] = a at ha b3 hi0
  refine VC.body Try.func76 rfl Try.ntmps76 Try.call76 (h.grows_refl) rfl ?_; conv => whnf
  repeat' (first | (refine VLd.intro rfl ?_; conv => whnf) | (refine VArith.i64 (by omega) ?_; conv => whnf) | (refine VNeed.intro (by first | rfl | (simp; omega)) ?_; conv => whnf) | (refine VMem.store rfl rfl rfl rfl ?_; conv => whnf) | (refine VSame.intro rfl ?_; conv => whnf) | (refine VDraw.go [] (by kernel_rfl) (by kernel_rfl) ?_; conv => whnf) | (refine VIte.dec (fun _ => ?_) (fun _ => ?_) <;> conv => whnf) | (refine VIte.ndec (fun _ => ?_) (fun _ => ?_) <;> conv => whnf) | (refine VIte.beq (fun _ => ?_) (fun _ => ?_) <;> conv => whnf) | (refine VIte.bne (fun _ => ?_) (fun _ => ?_) <;> conv => whnf) | (refine VIte.intro (fun _ => ?_) (fun _ => ?_) <;> conv => whnf) | (refine VCall.intro (vc_first f t i _ o hi) ?_; conv => whnf) | (refine VAny.ix encI_len i rfl rfl hy ?_; conv => whnf) | (refine VAny.ix encI_len (fst f t i) rfl rfl ha ?_; conv => whnf) | (refine VAny.ix encI_len (i - 1) (by omega) rfl hz ?_; conv => whnf))
  all_goals (refine VOut.dec ?_; first | (simp only [decide_eq_true_eq]; omega) | (simp; omega) | (simp; done))
end Go.Proofs.Ytolnajnlcdacmaa

open Go.Vm
namespace Go.Proofs.Ytolnajnlcdacmaa
set_option maxRecDepth 20000
set_option maxHeartbeats 1000000

/-- The chains of the first papers. -/
def chS (f : Fil) (t : List Int) : Nat → List Spn
  | 0 => []
  | k + 1 => if bgB f t k then chS f t k ++ [⟨k, k⟩] else match (chS f t k)[(chS f t k).length - 1]? with
    | some s => (chS f t k).set ((chS f t k).length - 1) ⟨s.lo, k⟩
    | none => []
theorem bg0 (f : Fil) (t : List Int) : bgB f t 0 = true := by simp [bgB]
theorem chS_len (f : Fil) (t : List Int) : ∀ k, 0 < (chS f t (k + 1)).length ∧ (chS f t (k + 1)).length ≤ k + 1
  | 0 => by simp [chS, bg0]
  | k + 1 => by
    have ih := chS_len f t k
    rw [chS]
    split
    · simp; omega
    · split
      · simp; omega
      · rename_i h; rw [List.getElem?_eq_none_iff] at h; omega
theorem chS_le (f : Fil) (t : List Int) (k : Nat) : (chS f t k).length ≤ k ∧ (0 < k → 0 < (chS f t k).length) := by
  cases k with
  | zero => simp [chS]
  | succ k => have := chS_len f t k; exact ⟨this.2, fun _ => this.1⟩
/-- A new chain is begun. -/
theorem vc_begin (l : List Spn) (i : Nat) (ib il : Vm.Id) (h : Hp) (hne : ib ≠ il) (hb : h.get ib = some (.cells true [.gl il 2 l.length])) (hl : h.get il = some (.flat true (l.flatMap encS))) (hn : l.length ≤ 4000000) :
    VC Try.prog 88 [I i, .ptr ib 0] h (.tuple []) ((h.sets [(il, .dead), (ib, .cells true [.gl h.fresh 2 (l.length + 1)])]).pushes [.flat true ((l ++ [Spn.mk i i]).flatMap encS)]) := by
  have hd : ∀ p ∈ [(il, Blk.dead), (ib, Blk.cells true [V.gl h.fresh 2 (l.length + 1)])], h.get p.1 ≠ none := by
    intro p hp
    simp only [List.mem_cons, List.not_mem_nil, or_false] at hp
    rcases hp with rfl | rfl
    · simp only; rw [hl]; simp
    · simp only; rw [hb]; simp
  refine VC.body Try.func88 rfl Try.ntmps88 Try.call88 (Hp.grows_sets hd) rfl ?_; conv => whnf
  refine VLd.cell rfl rfl (get_out hb _) rfl ?_
  conv => whnf
  refine VMem.app1 (Spn.mk i i) encS_len rfl (get_out hl _) rfl rfl rfl (by omega) ?_
  conv => whnf
  refine VMem.st1 rfl rfl rfl (b := .cells true [.gl (.out il) 2 l.length]) (by show (if ib = il then some Blk.dead else h.lift ib) = _; rw [if_neg hne]; exact get_out hb []) rfl ?_
  conv => whnf
  refine VOut.upd [(il, .dead), (ib, .cells true [.gl h.fresh 2 (l.length + 1)])] [.flat true ((l ++ [Spn.mk i i]).flatMap encS)] [1] 2 ?_ hd ?_ ?_ ?_ ?_ ?_
  · rfl
  · decide
  · rfl
  · intro k b hk
    cases k with
    | zero => rw [List.getElem?_cons_zero, Option.some.injEq] at hk; subst hk; exact ⟨1, rfl, rfl⟩
    | succ k => simp at hk
  · intro σ x hx; exact hx
  · have : (Blk.cells true [V.gl h.fresh 2 (l.length + 1)]).ren (backR h.loc.length [1] 2) = .cells true [.gl (.loc 1) 2 (l.length + 1)] := by simp [Blk.ren, V.ren, backR, Hp.fresh]
    simp only [List.map_cons, List.map_nil, this]
    rfl
theorem vc_chains (f : Fil) (t : List Int) (h : Hp) (o : Okt f t) : VC Try.prog 71 [.fp (encDk f t)] h (spans (chS f t t.length)) h := by
  have hn := o.n
  have hlen := o.len
  refine VC.body Try.func71 rfl Try.ntmps71 Try.call71 (h.grows_refl) rfl ?_; conv => whnf
  repeat (first | (refine VLd.intro rfl ?_; conv => whnf) | (refine VArith.i64 (by omega) ?_; conv => whnf) | (refine VNeed.intro (by first | rfl | (simp; omega)) ?_; conv => whnf) | (refine VMem.store rfl rfl rfl rfl ?_; conv => whnf) | (refine VSame.intro rfl ?_; conv => whnf) | (refine VDraw.go [] (by kernel_rfl) (by kernel_rfl) ?_; conv => whnf))
  refine VCode.lp (fun k : Nat => [(0, .fp (encDk f t)), (3, .func (.func 85) [vF f] []), (4, .ptr (.loc 0) 0), (5, .func (.func 88) [] [.ptr (.loc 0) 0]), (17, ints t), (18, I t.length), (19, I k)])
    (fun k => [.cells true [.gl (.loc 1) 2 (chS f t k).length], .flat true ((chS f t k).flatMap encS)]) (fun k => k ≤ t.length) (fun k => t.length - k) 0 (Nat.zero_le _) ?_ ?_
  · conv => whnf
    refine Retell.turn ⟨[0,1], 1, [], []⟩ (TurnOk.mk' _ _ [] [] (OutOk.lift _) rfl (by decide) (by repeat' (first | exact BTos.nil | refine BTos.flat rfl rfl (by first | rfl | simp) ?_ | refine BTos.new rfl ?_ | refine BTos.dead rfl rfl ?_ | refine BTos.row rfl rfl rfl (RowTo.snoc (RowTo.one rfl (by simp))) ?_ | refine BTos.cells rfl rfl rfl (by repeat' (first | exact VTo.undef | exact FrTo.leaf | refine FrTo.node ?_ ?_ ?_ | refine FrTo.none ?_ ?_ | exact VTo.sc (by first | rfl | (congr 1; omega) | (congr 1; simp; omega)) | exact VTos_dv _ _ | refine VTos.cons ?_ ?_ | exact VTos.nil | refine VTo.agg ?_ | refine VTo.tuple ?_ | refine VTo.func ?_ ?_ | exact VTo.fs | exact VTo.fp | exact VTo.nilptr | exact VTo.nilslice | exact VTo.nilfunc | exact VTo.ptr rfl | exact VTo.gl rfl | exact VTo.map rfl | exact VTo.glNil' (by decide) rfl rfl | exact VTo.fsNil (by decide) | exact VTo.fpPtr rfl | exact VTo.fsGl rfl (by first | rfl | exact flat_len encI_len _ | exact flat_len encS_len _ | exact flat_len encP_len _ | exact flat_len encL_len _ | exact flat_len encE_len _ | (simp [flat_len encP_len]; done) | simp [flat_len encI_len, flat_len encS_len]))) ?_)) trivial trivial rfl) (by repeat' (first | exact VTo.undef | exact FrTo.leaf | refine FrTo.node ?_ ?_ ?_ | refine FrTo.none ?_ ?_ | exact VTo.sc (by first | rfl | (congr 1; omega) | (congr 1; simp; omega)) | exact VTos_dv _ _ | refine VTos.cons ?_ ?_ | exact VTos.nil | refine VTo.agg ?_ | refine VTo.tuple ?_ | refine VTo.func ?_ ?_ | exact VTo.fs | exact VTo.fp | exact VTo.nilptr | exact VTo.nilslice | exact VTo.nilfunc | exact VTo.ptr rfl | exact VTo.gl rfl | exact VTo.map rfl | exact VTo.glNil' (by decide) rfl rfl | exact VTo.fsNil (by decide) | exact VTo.fpPtr rfl | exact VTo.fsGl rfl (by first | rfl | exact flat_len encI_len _ | exact flat_len encS_len _ | exact flat_len encP_len _ | exact flat_len encL_len _ | exact flat_len encE_len _ | (simp [flat_len encP_len]; done) | simp [flat_len encI_len, flat_len encS_len]))) (by first | rfl | (repeat' (first | exact MkTo.nil | refine MkTo.keep rfl ?_ | refine MkTo.drop (by decide) rfl ?_)))
  · intro k hk
    conv => whnf
    refine VIte.dec (fun h3 => ?_) (fun h3 => ?_)
    · have hy : t[k]? = some t[k] := List.getElem?_eq_getElem (by omega)
      have hz : t[k - 1]? = some t[k - 1] := List.getElem?_eq_getElem (by omega)
      have b1 := o.yr hy
      have b2 := o.yr hz
      have e1 := tAt_eq hy
      have e2 := tAt_eq hz
      have hcl := chS_le f t k
      generalize t[k] = y at hy b1 e1
      generalize t[k - 1] = z at hz b2 e2
      have hbg : bgB f t k = decide (k = 0 ∨ sdAt f k ≠ sdAt f (k - 1) ∨ f.G < y - z) := by rw [bgB, e1, e2]
      conv => whnf
      repeat' (first | (refine VLd.intro rfl ?_; conv => whnf) | (refine VArith.i64 (by omega) ?_; conv => whnf) | (refine VNeed.intro (by first | rfl | (simp; omega)) ?_; conv => whnf) | (refine VMem.store rfl rfl rfl rfl ?_; conv => whnf) | (refine VSame.intro rfl ?_; conv => whnf) | (refine VDraw.go [] (by kernel_rfl) (by kernel_rfl) ?_; conv => whnf) | (refine VIte.dec (fun _ => ?_) (fun _ => ?_) <;> conv => whnf) | (refine VIte.ndec (fun _ => ?_) (fun _ => ?_) <;> conv => whnf) | (refine VIte.beq (fun _ => ?_) (fun _ => ?_) <;> conv => whnf) | (refine VIte.bne (fun _ => ?_) (fun _ => ?_) <;> conv => whnf) | (refine VIte.intro (fun _ => ?_) (fun _ => ?_) <;> conv => whnf) | (refine VAny.ix encI_len k rfl rfl hy ?_; conv => whnf) | (refine VAny.ix encI_len (k - 1) (by omega) rfl hz ?_; conv => whnf) | (refine VCall.intro (vc_goes f k y z _ (by omega) (by omega) (by omega) (by omega)) ?_; conv => whnf))
      · rw [decide_eq_false (by omega)] at hbg
        have hs : (chS f t k)[(chS f t k).length - 1]? = some (chS f t k)[(chS f t k).length - 1] := List.getElem?_eq_getElem (by omega)
        generalize (chS f t k)[(chS f t k).length - 1] = s at hs
        have h9 : ((↑(chS f t k).length : Int) - 1).toNat = (chS f t k).length - 1 := by omega
        refine VMem.setRec encS_len ((chS f t k).length - 1) 1 (Spn.mk s.lo k) rfl rfl rfl hs (by decide) rfl (by rw [h9]) ?_
        conv => whnf
        repeat (first | (refine VLd.intro rfl ?_; conv => whnf) | (refine VArith.i64 (by omega) ?_; conv => whnf) | (refine VNeed.intro (by first | rfl | (simp; omega)) ?_; conv => whnf) | (refine VMem.store rfl rfl rfl rfl ?_; conv => whnf) | (refine VSame.intro rfl ?_; conv => whnf) | (refine VDraw.go [] (by kernel_rfl) (by kernel_rfl) ?_; conv => whnf))
        have hc : chS f t (k + 1) = (chS f t k).set ((chS f t k).length - 1) ⟨s.lo, k⟩ := by rw [chS, hbg, hs]; rfl
        refine LEnd.intro (k + 1) (by omega) (by omega) ?_
        conv => whnf
        rw [hc, List.length_set]
        refine Retell.turn ⟨[0,1], 2, [], []⟩ (TurnOk.mk' _ _ [] [] (OutOk.lift _) rfl (by decide) (by repeat' (first | exact BTos.nil | refine BTos.flat rfl rfl (by first | rfl | simp) ?_ | refine BTos.new rfl ?_ | refine BTos.dead rfl rfl ?_ | refine BTos.row rfl rfl rfl (RowTo.snoc (RowTo.one rfl (by simp))) ?_ | refine BTos.cells rfl rfl rfl (by repeat' (first | exact VTo.undef | exact FrTo.leaf | refine FrTo.node ?_ ?_ ?_ | refine FrTo.none ?_ ?_ | exact VTo.sc (by first | rfl | (congr 1; omega) | (congr 1; simp; omega)) | exact VTos_dv _ _ | refine VTos.cons ?_ ?_ | exact VTos.nil | refine VTo.agg ?_ | refine VTo.tuple ?_ | refine VTo.func ?_ ?_ | exact VTo.fs | exact VTo.fp | exact VTo.nilptr | exact VTo.nilslice | exact VTo.nilfunc | exact VTo.ptr rfl | exact VTo.gl rfl | exact VTo.map rfl | exact VTo.glNil' (by decide) rfl rfl | exact VTo.fsNil (by decide) | exact VTo.fpPtr rfl | exact VTo.fsGl rfl (by first | rfl | exact flat_len encI_len _ | exact flat_len encS_len _ | exact flat_len encP_len _ | exact flat_len encL_len _ | exact flat_len encE_len _ | (simp [flat_len encP_len]; done) | simp [flat_len encI_len, flat_len encS_len]))) ?_)) trivial trivial rfl) (by repeat' (first | exact VTo.undef | exact FrTo.leaf | refine FrTo.node ?_ ?_ ?_ | refine FrTo.none ?_ ?_ | exact VTo.sc (by first | rfl | (congr 1; omega) | (congr 1; simp; omega)) | exact VTos_dv _ _ | refine VTos.cons ?_ ?_ | exact VTos.nil | refine VTo.agg ?_ | refine VTo.tuple ?_ | refine VTo.func ?_ ?_ | exact VTo.fs | exact VTo.fp | exact VTo.nilptr | exact VTo.nilslice | exact VTo.nilfunc | exact VTo.ptr rfl | exact VTo.gl rfl | exact VTo.map rfl | exact VTo.glNil' (by decide) rfl rfl | exact VTo.fsNil (by decide) | exact VTo.fpPtr rfl | exact VTo.fsGl rfl (by first | rfl | exact flat_len encI_len _ | exact flat_len encS_len _ | exact flat_len encP_len _ | exact flat_len encL_len _ | exact flat_len encE_len _ | (simp [flat_len encP_len]; done) | simp [flat_len encI_len, flat_len encS_len]))) (by first | rfl | (repeat' (first | exact MkTo.nil | refine MkTo.keep rfl ?_ | refine MkTo.drop (by decide) rfl ?_)))
      all_goals (
        rw [decide_eq_true (by omega)] at hbg
        refine VCall.intro (vc_begin (chS f t k) k (.loc 0) (.loc 1) _ (by decide) rfl rfl (by omega)) ?_
        conv => whnf
        repeat (first | (refine VLd.intro rfl ?_; conv => whnf) | (refine VArith.i64 (by omega) ?_; conv => whnf) | (refine VNeed.intro (by first | rfl | (simp; omega)) ?_; conv => whnf) | (refine VMem.store rfl rfl rfl rfl ?_; conv => whnf) | (refine VSame.intro rfl ?_; conv => whnf) | (refine VDraw.go [] (by kernel_rfl) (by kernel_rfl) ?_; conv => whnf))
        have hc : chS f t (k + 1) = chS f t k ++ [⟨k, k⟩] := by rw [chS, hbg]; rfl
        refine LEnd.intro (k + 1) (by omega) (by omega) ?_
        conv => whnf
        rw [hc, List.length_append]
        refine Retell.turn ⟨[0,2], 3, [], []⟩ (TurnOk.mk' _ _ [] [] (OutOk.lift _) rfl (by decide) (by repeat' (first | exact BTos.nil | refine BTos.flat rfl rfl (by first | rfl | simp) ?_ | refine BTos.new rfl ?_ | refine BTos.dead rfl rfl ?_ | refine BTos.row rfl rfl rfl (RowTo.snoc (RowTo.one rfl (by simp))) ?_ | refine BTos.cells rfl rfl rfl (by repeat' (first | exact VTo.undef | exact FrTo.leaf | refine FrTo.node ?_ ?_ ?_ | refine FrTo.none ?_ ?_ | exact VTo.sc (by first | rfl | (congr 1; omega) | (congr 1; simp; omega)) | exact VTos_dv _ _ | refine VTos.cons ?_ ?_ | exact VTos.nil | refine VTo.agg ?_ | refine VTo.tuple ?_ | refine VTo.func ?_ ?_ | exact VTo.fs | exact VTo.fp | exact VTo.nilptr | exact VTo.nilslice | exact VTo.nilfunc | exact VTo.ptr rfl | exact VTo.gl rfl | exact VTo.map rfl | exact VTo.glNil' (by decide) rfl rfl | exact VTo.fsNil (by decide) | exact VTo.fpPtr rfl | exact VTo.fsGl rfl (by first | rfl | exact flat_len encI_len _ | exact flat_len encS_len _ | exact flat_len encP_len _ | exact flat_len encL_len _ | exact flat_len encE_len _ | (simp [flat_len encP_len]; done) | simp [flat_len encI_len, flat_len encS_len]))) ?_)) trivial trivial rfl) (by repeat' (first | exact VTo.undef | exact FrTo.leaf | refine FrTo.node ?_ ?_ ?_ | refine FrTo.none ?_ ?_ | exact VTo.sc (by first | rfl | (congr 1; omega) | (congr 1; simp; omega)) | exact VTos_dv _ _ | refine VTos.cons ?_ ?_ | exact VTos.nil | refine VTo.agg ?_ | refine VTo.tuple ?_ | refine VTo.func ?_ ?_ | exact VTo.fs | exact VTo.fp | exact VTo.nilptr | exact VTo.nilslice | exact VTo.nilfunc | exact VTo.ptr rfl | exact VTo.gl rfl | exact VTo.map rfl | exact VTo.glNil' (by decide) rfl rfl | exact VTo.fsNil (by decide) | exact VTo.fpPtr rfl | exact VTo.fsGl rfl (by first | rfl | exact flat_len encI_len _ | exact flat_len encS_len _ | exact flat_len encP_len _ | exact flat_len encL_len _ | exact flat_len encE_len _ | (simp [flat_len encP_len]; done) | simp [flat_len encI_len, flat_len encS_len]))) (by first | rfl | (repeat' (first | exact MkTo.nil | refine MkTo.keep rfl ?_ | refine MkTo.drop (by decide) rfl ?_))))
    · conv => whnf
      have hk' : k = t.length := by omega
      subst hk'
      repeat (first | (refine VLd.intro rfl ?_; conv => whnf) | (refine VArith.i64 (by omega) ?_; conv => whnf) | (refine VNeed.intro (by first | rfl | (simp; omega)) ?_; conv => whnf) | (refine VMem.store rfl rfl rfl rfl ?_; conv => whnf) | (refine VSame.intro rfl ?_; conv => whnf) | (refine VDraw.go [] (by kernel_rfl) (by kernel_rfl) ?_; conv => whnf))
      refine VOut.data 2 [(1, (chS f t t.length).flatMap encS)] [] rfl (by repeat' (first | exact FzAll.nil | refine FzAll.flat rfl ?_ | refine FzAll.row rfl rfl (RowTo.one rfl (by simp)) ?_)) (by exact FmAll.nil) (by repeat' (first | exact VTo.undef | exact FrTo.leaf | refine FrTo.node ?_ ?_ ?_ | refine FrTo.none ?_ ?_ | exact VTo.sc (by first | rfl | (congr 1; omega) | (congr 1; simp; omega)) | exact VTos_dv _ _ | refine VTos.cons ?_ ?_ | exact VTos.nil | refine VTo.agg ?_ | refine VTo.tuple ?_ | refine VTo.func ?_ ?_ | exact VTo.fs | exact VTo.fp | exact VTo.nilptr | exact VTo.nilslice | exact VTo.nilfunc | exact VTo.ptr rfl | exact VTo.gl rfl | exact VTo.map rfl | exact VTo.glNil' (by decide) rfl rfl | exact VTo.fsNil (by decide) | exact VTo.fpPtr rfl | exact VTo.fsGl rfl (by first | rfl | exact flat_len encI_len _ | exact flat_len encS_len _ | exact flat_len encP_len _ | exact flat_len encL_len _ | exact flat_len encE_len _ | (simp [flat_len encP_len]; done) | simp [flat_len encI_len, flat_len encS_len])))
/-- The first paper of a chain with which a right arises, from a place on. -/
def chkChain (Y : Int) (t : List Int) (z hi : Int) (p : Nat) : Nat → Nat → Option Bool
  | 0, _ => none
  | n + 1, i => if (i : Int) ≤ hi then (if Y ≤ tAt t i - z then some (decide (i = p)) else chkChain Y t z hi p n (i + 1)) else none
def chainS (Y : Int) (t : List Int) (p : Nat) : List Spn → Option Spn
  | [] => none
  | s :: r => bif chkChain Y t (tAt t s.lo.toNat) s.hi p (t.length + 1) s.lo.toNat == some true then some s else chainS Y t p r
theorem vc_chain (f : Fil) (t : List Int) (p : Nat) (h : Hp) (o : Okt f t) (hc : ∀ s ∈ chS f t t.length, 0 ≤ s.lo ∧ s.lo ≤ s.hi ∧ s.hi < t.length) : VC Try.prog 87 [.fp (encDk f t), I p] h (match chainS f.Y t p (chS f t t.length) with | some s => .tuple [.agg [I s.lo, I s.hi], B true] | none => .tuple [.agg [I 0, I 0], B false]) h := by
  have hn := o.n
  have hlen := o.len
  have hY := o.y
  have hcl := chS_le f t t.length
  generalize hL : chS f t t.length = L at hc hcl
  refine VC.body Try.func87 rfl Try.ntmps87 Try.call87 (h.grows_refl) rfl ?_; conv => whnf
  refine VCall.intro (vc_chains f t _ o) ?_
  rw [hL]
  conv => whnf
  refine VCode.lp (fun k : Nat => [(0, .fp (encDk f t)), (1, I p), (4, .ptr (.loc 0) 0), (5, B false), (10, spans L), (11, I L.length), (12, I k)]) (fun _ => [.flat true [DI 0, DI 0]]) (fun k => k ≤ L.length ∧ chainS f.Y t p L = chainS f.Y t p (L.drop k)) (fun k => L.length - k) 0 ⟨Nat.zero_le _, rfl⟩ ?_ ?_
  · conv => whnf
    refine Retell.turn ⟨[0], 1, [], []⟩ (TurnOk.mk' _ _ [] [] (OutOk.lift _) rfl (by decide) (by repeat' (first | exact BTos.nil | refine BTos.flat rfl rfl (by first | rfl | simp) ?_ | refine BTos.new rfl ?_ | refine BTos.dead rfl rfl ?_ | refine BTos.row rfl rfl rfl (RowTo.snoc (RowTo.one rfl (by simp))) ?_ | refine BTos.cells rfl rfl rfl (by repeat' (first | exact VTo.undef | exact FrTo.leaf | refine FrTo.node ?_ ?_ ?_ | refine FrTo.none ?_ ?_ | exact VTo.sc (by first | rfl | (congr 1; omega) | (congr 1; simp; omega)) | exact VTos_dv _ _ | refine VTos.cons ?_ ?_ | exact VTos.nil | refine VTo.agg ?_ | refine VTo.tuple ?_ | refine VTo.func ?_ ?_ | exact VTo.fs | exact VTo.fp | exact VTo.nilptr | exact VTo.nilslice | exact VTo.nilfunc | exact VTo.ptr rfl | exact VTo.gl rfl | exact VTo.map rfl | exact VTo.glNil' (by decide) rfl rfl | exact VTo.fsNil (by decide) | exact VTo.fpPtr rfl | exact VTo.fsGl rfl (by first | rfl | exact flat_len encI_len _ | exact flat_len encS_len _ | exact flat_len encP_len _ | exact flat_len encL_len _ | exact flat_len encE_len _ | (simp [flat_len encP_len]; done) | simp [flat_len encI_len, flat_len encS_len]))) ?_)) trivial trivial rfl) (by repeat' (first | exact VTo.undef | exact FrTo.leaf | refine FrTo.node ?_ ?_ ?_ | refine FrTo.none ?_ ?_ | exact VTo.sc (by first | rfl | (congr 1; omega) | (congr 1; simp; omega)) | exact VTos_dv _ _ | refine VTos.cons ?_ ?_ | exact VTos.nil | refine VTo.agg ?_ | refine VTo.tuple ?_ | refine VTo.func ?_ ?_ | exact VTo.fs | exact VTo.fp | exact VTo.nilptr | exact VTo.nilslice | exact VTo.nilfunc | exact VTo.ptr rfl | exact VTo.gl rfl | exact VTo.map rfl | exact VTo.glNil' (by decide) rfl rfl | exact VTo.fsNil (by decide) | exact VTo.fpPtr rfl | exact VTo.fsGl rfl (by first | rfl | exact flat_len encI_len _ | exact flat_len encS_len _ | exact flat_len encP_len _ | exact flat_len encL_len _ | exact flat_len encE_len _ | (simp [flat_len encP_len]; done) | simp [flat_len encI_len, flat_len encS_len]))) (by first | rfl | (repeat' (first | exact MkTo.nil | refine MkTo.keep rfl ?_ | refine MkTo.drop (by decide) rfl ?_)))
  · rintro k ⟨h1, h2⟩
    conv => whnf
    refine VIte.dec (fun h3 => ?_) (fun h3 => ?_)
    · have hs : L[k]? = some L[k] := List.getElem?_eq_getElem (by omega)
      have hcs := hc L[k] (List.getElem_mem (by omega))
      rw [List.drop_eq_getElem_cons (by omega)] at h2
      generalize L[k] = s at hs hcs h2
      obtain ⟨lo, hi⟩ := s
      simp only at hcs
      obtain ⟨lo, rfl⟩ : ∃ m : Nat, lo = m := ⟨lo.toNat, by omega⟩
      obtain ⟨hi, rfl⟩ : ∃ m : Nat, hi = m := ⟨hi.toNat, by omega⟩
      conv => whnf
      repeat' (first | (refine VLd.intro rfl ?_; conv => whnf) | (refine VArith.i64 (by omega) ?_; conv => whnf) | (refine VNeed.intro (by first | rfl | (simp; omega)) ?_; conv => whnf) | (refine VMem.store rfl rfl rfl rfl ?_; conv => whnf) | (refine VSame.intro rfl ?_; conv => whnf) | (refine VDraw.go [] (by kernel_rfl) (by kernel_rfl) ?_; conv => whnf) | (refine VIte.dec (fun _ => ?_) (fun _ => ?_) <;> conv => whnf) | (refine VIte.ndec (fun _ => ?_) (fun _ => ?_) <;> conv => whnf) | (refine VIte.beq (fun _ => ?_) (fun _ => ?_) <;> conv => whnf) | (refine VIte.bne (fun _ => ?_) (fun _ => ?_) <;> conv => whnf) | (refine VIte.intro (fun _ => ?_) (fun _ => ?_) <;> conv => whnf) | (refine VAny.ix encS_len k rfl rfl hs ?_; conv => whnf))
      rw [chainS] at h2
      have hz : t[lo]? = some t[lo] := List.getElem?_eq_getElem (by omega)
      have b2 := o.yr hz
      have e2 := tAt_eq hz
      generalize t[lo] = z at hz b2 e2
      simp only [Int.toNat_natCast, e2] at h2
      obtain ⟨C, hC⟩ : ∃ C, C = chkChain f.Y t z hi p (t.length + 1) lo := ⟨_, rfl⟩
      rw [← hC] at h2
      refine VCode.lp (fun j : Nat => [(0, .fp (encDk f t)), (1, I p), (4, .ptr (.loc 0) 0), (5, B false), (7, .ptr (.loc 1) 0), (8, I j), (10, spans L), (11, I L.length), (12, I k)]) (fun _ => [.flat true [DI 0, DI 0], .flat true [DI lo, DI hi]])
        (fun j => lo ≤ j ∧ j ≤ hi + 1 ∧ C = chkChain f.Y t z hi p (t.length + 1 - (j - lo)) j) (fun j => hi + 1 - j) lo ⟨Nat.le_refl _, by omega, by rw [Nat.sub_self]; exact hC⟩ ?_ ?_
      · conv => whnf
        refine Retell.turn ⟨[0,1], 2, [], []⟩ (TurnOk.mk' _ _ [] [] (OutOk.lift _) rfl (by decide) (by repeat' (first | exact BTos.nil | refine BTos.flat rfl rfl (by first | rfl | simp) ?_ | refine BTos.new rfl ?_ | refine BTos.dead rfl rfl ?_ | refine BTos.row rfl rfl rfl (RowTo.snoc (RowTo.one rfl (by simp))) ?_ | refine BTos.cells rfl rfl rfl (by repeat' (first | exact VTo.undef | exact FrTo.leaf | refine FrTo.node ?_ ?_ ?_ | refine FrTo.none ?_ ?_ | exact VTo.sc (by first | rfl | (congr 1; omega) | (congr 1; simp; omega)) | exact VTos_dv _ _ | refine VTos.cons ?_ ?_ | exact VTos.nil | refine VTo.agg ?_ | refine VTo.tuple ?_ | refine VTo.func ?_ ?_ | exact VTo.fs | exact VTo.fp | exact VTo.nilptr | exact VTo.nilslice | exact VTo.nilfunc | exact VTo.ptr rfl | exact VTo.gl rfl | exact VTo.map rfl | exact VTo.glNil' (by decide) rfl rfl | exact VTo.fsNil (by decide) | exact VTo.fpPtr rfl | exact VTo.fsGl rfl (by first | rfl | exact flat_len encI_len _ | exact flat_len encS_len _ | exact flat_len encP_len _ | exact flat_len encL_len _ | exact flat_len encE_len _ | (simp [flat_len encP_len]; done) | simp [flat_len encI_len, flat_len encS_len]))) ?_)) trivial trivial rfl) (by repeat' (first | exact VTo.undef | exact FrTo.leaf | refine FrTo.node ?_ ?_ ?_ | refine FrTo.none ?_ ?_ | exact VTo.sc (by first | rfl | (congr 1; omega) | (congr 1; simp; omega)) | exact VTos_dv _ _ | refine VTos.cons ?_ ?_ | exact VTos.nil | refine VTo.agg ?_ | refine VTo.tuple ?_ | refine VTo.func ?_ ?_ | exact VTo.fs | exact VTo.fp | exact VTo.nilptr | exact VTo.nilslice | exact VTo.nilfunc | exact VTo.ptr rfl | exact VTo.gl rfl | exact VTo.map rfl | exact VTo.glNil' (by decide) rfl rfl | exact VTo.fsNil (by decide) | exact VTo.fpPtr rfl | exact VTo.fsGl rfl (by first | rfl | exact flat_len encI_len _ | exact flat_len encS_len _ | exact flat_len encP_len _ | exact flat_len encL_len _ | exact flat_len encE_len _ | (simp [flat_len encP_len]; done) | simp [flat_len encI_len, flat_len encS_len]))) (by first | rfl | (repeat' (first | exact MkTo.nil | refine MkTo.keep rfl ?_ | refine MkTo.drop (by decide) rfl ?_)))
      · rintro j ⟨g1, g2, g3⟩
        obtain ⟨m, hm⟩ : ∃ m, t.length + 1 - (j - lo) = m + 1 := ⟨t.length - (j - lo), by omega⟩
        rw [hm, chkChain] at g3
        conv => whnf
        repeat (first | (refine VLd.intro rfl ?_; conv => whnf) | (refine VArith.i64 (by omega) ?_; conv => whnf) | (refine VNeed.intro (by first | rfl | (simp; omega)) ?_; conv => whnf) | (refine VMem.store rfl rfl rfl rfl ?_; conv => whnf) | (refine VSame.intro rfl ?_; conv => whnf) | (refine VDraw.go [] (by kernel_rfl) (by kernel_rfl) ?_; conv => whnf))
        refine VIte.dec (fun h4 => ?_) (fun h4 => ?_)
        · have hy : t[j]? = some t[j] := List.getElem?_eq_getElem (by omega)
          have b1 := o.yr hy
          have e1 := tAt_eq hy
          rw [if_pos h4, e1] at g3
          generalize t[j] = y at hy b1 e1 g3
          conv => whnf
          repeat' (first | (refine VLd.intro rfl ?_; conv => whnf) | (refine VArith.i64 (by omega) ?_; conv => whnf) | (refine VNeed.intro (by first | rfl | (simp; omega)) ?_; conv => whnf) | (refine VMem.store rfl rfl rfl rfl ?_; conv => whnf) | (refine VSame.intro rfl ?_; conv => whnf) | (refine VDraw.go [] (by kernel_rfl) (by kernel_rfl) ?_; conv => whnf) | (refine VIte.dec (fun _ => ?_) (fun _ => ?_) <;> conv => whnf) | (refine VIte.ndec (fun _ => ?_) (fun _ => ?_) <;> conv => whnf) | (refine VIte.beq (fun _ => ?_) (fun _ => ?_) <;> conv => whnf) | (refine VIte.bne (fun _ => ?_) (fun _ => ?_) <;> conv => whnf) | (refine VIte.intro (fun _ => ?_) (fun _ => ?_) <;> conv => whnf) | (refine VAny.ix encI_len j rfl rfl hy ?_; conv => whnf) | (refine VAny.ix encI_len lo rfl rfl hz ?_; conv => whnf))
          · rw [if_pos (by omega), decide_eq_true (by omega)] at g3
            rw [g3, beq_self_eq_true, cond_true] at h2
            rw [h2]
            refine VOut.data 2 [] [] rfl (by repeat' (first | exact FzAll.nil | refine FzAll.flat rfl ?_ | refine FzAll.row rfl rfl (RowTo.one rfl (by simp)) ?_)) (by exact FmAll.nil) (by repeat' (first | exact VTo.undef | exact FrTo.leaf | refine FrTo.node ?_ ?_ ?_ | refine FrTo.none ?_ ?_ | exact VTo.sc (by first | rfl | (congr 1; omega) | (congr 1; simp; omega)) | exact VTos_dv _ _ | refine VTos.cons ?_ ?_ | exact VTos.nil | refine VTo.agg ?_ | refine VTo.tuple ?_ | refine VTo.func ?_ ?_ | exact VTo.fs | exact VTo.fp | exact VTo.nilptr | exact VTo.nilslice | exact VTo.nilfunc | exact VTo.ptr rfl | exact VTo.gl rfl | exact VTo.map rfl | exact VTo.glNil' (by decide) rfl rfl | exact VTo.fsNil (by decide) | exact VTo.fpPtr rfl | exact VTo.fsGl rfl (by first | rfl | exact flat_len encI_len _ | exact flat_len encS_len _ | exact flat_len encP_len _ | exact flat_len encL_len _ | exact flat_len encE_len _ | (simp [flat_len encP_len]; done) | simp [flat_len encI_len, flat_len encS_len])))
          · rw [if_pos (by omega), decide_eq_false (by omega)] at g3
            rw [g3] at h2
            change _ = chainS _ _ _ _ at h2
            refine LEnd.intro (k + 1) ⟨by omega, h2⟩ (by omega) ?_
            conv => whnf
            refine Retell.turn ⟨[0], 2, [], []⟩ (TurnOk.mk' _ _ [] [] (OutOk.lift _) rfl (by decide) (by repeat' (first | exact BTos.nil | refine BTos.flat rfl rfl (by first | rfl | simp) ?_ | refine BTos.new rfl ?_ | refine BTos.dead rfl rfl ?_ | refine BTos.row rfl rfl rfl (RowTo.snoc (RowTo.one rfl (by simp))) ?_ | refine BTos.cells rfl rfl rfl (by repeat' (first | exact VTo.undef | exact FrTo.leaf | refine FrTo.node ?_ ?_ ?_ | refine FrTo.none ?_ ?_ | exact VTo.sc (by first | rfl | (congr 1; omega) | (congr 1; simp; omega)) | exact VTos_dv _ _ | refine VTos.cons ?_ ?_ | exact VTos.nil | refine VTo.agg ?_ | refine VTo.tuple ?_ | refine VTo.func ?_ ?_ | exact VTo.fs | exact VTo.fp | exact VTo.nilptr | exact VTo.nilslice | exact VTo.nilfunc | exact VTo.ptr rfl | exact VTo.gl rfl | exact VTo.map rfl | exact VTo.glNil' (by decide) rfl rfl | exact VTo.fsNil (by decide) | exact VTo.fpPtr rfl | exact VTo.fsGl rfl (by first | rfl | exact flat_len encI_len _ | exact flat_len encS_len _ | exact flat_len encP_len _ | exact flat_len encL_len _ | exact flat_len encE_len _ | (simp [flat_len encP_len]; done) | simp [flat_len encI_len, flat_len encS_len]))) ?_)) trivial trivial rfl) (by repeat' (first | exact VTo.undef | exact FrTo.leaf | refine FrTo.node ?_ ?_ ?_ | refine FrTo.none ?_ ?_ | exact VTo.sc (by first | rfl | (congr 1; omega) | (congr 1; simp; omega)) | exact VTos_dv _ _ | refine VTos.cons ?_ ?_ | exact VTos.nil | refine VTo.agg ?_ | refine VTo.tuple ?_ | refine VTo.func ?_ ?_ | exact VTo.fs | exact VTo.fp | exact VTo.nilptr | exact VTo.nilslice | exact VTo.nilfunc | exact VTo.ptr rfl | exact VTo.gl rfl | exact VTo.map rfl | exact VTo.glNil' (by decide) rfl rfl | exact VTo.fsNil (by decide) | exact VTo.fpPtr rfl | exact VTo.fsGl rfl (by first | rfl | exact flat_len encI_len _ | exact flat_len encS_len _ | exact flat_len encP_len _ | exact flat_len encL_len _ | exact flat_len encE_len _ | (simp [flat_len encP_len]; done) | simp [flat_len encI_len, flat_len encS_len]))) (by first | rfl | (repeat' (first | exact MkTo.nil | refine MkTo.keep rfl ?_ | refine MkTo.drop (by decide) rfl ?_)))
          · rw [if_neg (by omega)] at g3
            refine LEnd.intro (j + 1) ⟨by omega, by omega, by rw [g3]; congr 1; omega⟩ (by omega) ?_
            conv => whnf
            refine Retell.turn ⟨[0,1], 2, [], []⟩ (TurnOk.mk' _ _ [] [] (OutOk.lift _) rfl (by decide) (by repeat' (first | exact BTos.nil | refine BTos.flat rfl rfl (by first | rfl | simp) ?_ | refine BTos.new rfl ?_ | refine BTos.dead rfl rfl ?_ | refine BTos.row rfl rfl rfl (RowTo.snoc (RowTo.one rfl (by simp))) ?_ | refine BTos.cells rfl rfl rfl (by repeat' (first | exact VTo.undef | exact FrTo.leaf | refine FrTo.node ?_ ?_ ?_ | refine FrTo.none ?_ ?_ | exact VTo.sc (by first | rfl | (congr 1; omega) | (congr 1; simp; omega)) | exact VTos_dv _ _ | refine VTos.cons ?_ ?_ | exact VTos.nil | refine VTo.agg ?_ | refine VTo.tuple ?_ | refine VTo.func ?_ ?_ | exact VTo.fs | exact VTo.fp | exact VTo.nilptr | exact VTo.nilslice | exact VTo.nilfunc | exact VTo.ptr rfl | exact VTo.gl rfl | exact VTo.map rfl | exact VTo.glNil' (by decide) rfl rfl | exact VTo.fsNil (by decide) | exact VTo.fpPtr rfl | exact VTo.fsGl rfl (by first | rfl | exact flat_len encI_len _ | exact flat_len encS_len _ | exact flat_len encP_len _ | exact flat_len encL_len _ | exact flat_len encE_len _ | (simp [flat_len encP_len]; done) | simp [flat_len encI_len, flat_len encS_len]))) ?_)) trivial trivial rfl) (by repeat' (first | exact VTo.undef | exact FrTo.leaf | refine FrTo.node ?_ ?_ ?_ | refine FrTo.none ?_ ?_ | exact VTo.sc (by first | rfl | (congr 1; omega) | (congr 1; simp; omega)) | exact VTos_dv _ _ | refine VTos.cons ?_ ?_ | exact VTos.nil | refine VTo.agg ?_ | refine VTo.tuple ?_ | refine VTo.func ?_ ?_ | exact VTo.fs | exact VTo.fp | exact VTo.nilptr | exact VTo.nilslice | exact VTo.nilfunc | exact VTo.ptr rfl | exact VTo.gl rfl | exact VTo.map rfl | exact VTo.glNil' (by decide) rfl rfl | exact VTo.fsNil (by decide) | exact VTo.fpPtr rfl | exact VTo.fsGl rfl (by first | rfl | exact flat_len encI_len _ | exact flat_len encS_len _ | exact flat_len encP_len _ | exact flat_len encL_len _ | exact flat_len encE_len _ | (simp [flat_len encP_len]; done) | simp [flat_len encI_len, flat_len encS_len]))) (by first | rfl | (repeat' (first | exact MkTo.nil | refine MkTo.keep rfl ?_ | refine MkTo.drop (by decide) rfl ?_)))
        · rw [if_neg h4] at g3
          rw [g3] at h2
          change _ = chainS _ _ _ _ at h2
          conv => whnf
          repeat (first | (refine VLd.intro rfl ?_; conv => whnf) | (refine VArith.i64 (by omega) ?_; conv => whnf) | (refine VNeed.intro (by first | rfl | (simp; omega)) ?_; conv => whnf) | (refine VMem.store rfl rfl rfl rfl ?_; conv => whnf) | (refine VSame.intro rfl ?_; conv => whnf) | (refine VDraw.go [] (by kernel_rfl) (by kernel_rfl) ?_; conv => whnf))
          refine LEnd.intro (k + 1) ⟨by omega, h2⟩ (by omega) ?_
          conv => whnf
          refine Retell.turn ⟨[0], 2, [], []⟩ (TurnOk.mk' _ _ [] [] (OutOk.lift _) rfl (by decide) (by repeat' (first | exact BTos.nil | refine BTos.flat rfl rfl (by first | rfl | simp) ?_ | refine BTos.new rfl ?_ | refine BTos.dead rfl rfl ?_ | refine BTos.row rfl rfl rfl (RowTo.snoc (RowTo.one rfl (by simp))) ?_ | refine BTos.cells rfl rfl rfl (by repeat' (first | exact VTo.undef | exact FrTo.leaf | refine FrTo.node ?_ ?_ ?_ | refine FrTo.none ?_ ?_ | exact VTo.sc (by first | rfl | (congr 1; omega) | (congr 1; simp; omega)) | exact VTos_dv _ _ | refine VTos.cons ?_ ?_ | exact VTos.nil | refine VTo.agg ?_ | refine VTo.tuple ?_ | refine VTo.func ?_ ?_ | exact VTo.fs | exact VTo.fp | exact VTo.nilptr | exact VTo.nilslice | exact VTo.nilfunc | exact VTo.ptr rfl | exact VTo.gl rfl | exact VTo.map rfl | exact VTo.glNil' (by decide) rfl rfl | exact VTo.fsNil (by decide) | exact VTo.fpPtr rfl | exact VTo.fsGl rfl (by first | rfl | exact flat_len encI_len _ | exact flat_len encS_len _ | exact flat_len encP_len _ | exact flat_len encL_len _ | exact flat_len encE_len _ | (simp [flat_len encP_len]; done) | simp [flat_len encI_len, flat_len encS_len]))) ?_)) trivial trivial rfl) (by repeat' (first | exact VTo.undef | exact FrTo.leaf | refine FrTo.node ?_ ?_ ?_ | refine FrTo.none ?_ ?_ | exact VTo.sc (by first | rfl | (congr 1; omega) | (congr 1; simp; omega)) | exact VTos_dv _ _ | refine VTos.cons ?_ ?_ | exact VTos.nil | refine VTo.agg ?_ | refine VTo.tuple ?_ | refine VTo.func ?_ ?_ | exact VTo.fs | exact VTo.fp | exact VTo.nilptr | exact VTo.nilslice | exact VTo.nilfunc | exact VTo.ptr rfl | exact VTo.gl rfl | exact VTo.map rfl | exact VTo.glNil' (by decide) rfl rfl | exact VTo.fsNil (by decide) | exact VTo.fpPtr rfl | exact VTo.fsGl rfl (by first | rfl | exact flat_len encI_len _ | exact flat_len encS_len _ | exact flat_len encP_len _ | exact flat_len encL_len _ | exact flat_len encE_len _ | (simp [flat_len encP_len]; done) | simp [flat_len encI_len, flat_len encS_len]))) (by first | rfl | (repeat' (first | exact MkTo.nil | refine MkTo.keep rfl ?_ | refine MkTo.drop (by decide) rfl ?_)))
    · conv => whnf
      rw [List.drop_of_length_le (by omega), chainS] at h2
      rw [h2]
      repeat (first | (refine VLd.intro rfl ?_; conv => whnf) | (refine VArith.i64 (by omega) ?_; conv => whnf) | (refine VNeed.intro (by first | rfl | (simp; omega)) ?_; conv => whnf) | (refine VMem.store rfl rfl rfl rfl ?_; conv => whnf) | (refine VSame.intro rfl ?_; conv => whnf) | (refine VDraw.go [] (by kernel_rfl) (by kernel_rfl) ?_; conv => whnf))
      refine VOut.data 1 [] [] rfl (by repeat' (first | exact FzAll.nil | refine FzAll.flat rfl ?_ | refine FzAll.row rfl rfl (RowTo.one rfl (by simp)) ?_)) (by exact FmAll.nil) (by repeat' (first | exact VTo.undef | exact FrTo.leaf | refine FrTo.node ?_ ?_ ?_ | refine FrTo.none ?_ ?_ | exact VTo.sc (by first | rfl | (congr 1; omega) | (congr 1; simp; omega)) | exact VTos_dv _ _ | refine VTos.cons ?_ ?_ | exact VTos.nil | refine VTo.agg ?_ | refine VTo.tuple ?_ | refine VTo.func ?_ ?_ | exact VTo.fs | exact VTo.fp | exact VTo.nilptr | exact VTo.nilslice | exact VTo.nilfunc | exact VTo.ptr rfl | exact VTo.gl rfl | exact VTo.map rfl | exact VTo.glNil' (by decide) rfl rfl | exact VTo.fsNil (by decide) | exact VTo.fpPtr rfl | exact VTo.fsGl rfl (by first | rfl | exact flat_len encI_len _ | exact flat_len encS_len _ | exact flat_len encP_len _ | exact flat_len encL_len _ | exact flat_len encE_len _ | (simp [flat_len encP_len]; done) | simp [flat_len encI_len, flat_len encS_len])))
end Go.Proofs.Ytolnajnlcdacmaa

open Go.Vm
namespace Go.Proofs.Ytolnajnlcdacmaa
set_option maxRecDepth 20000
set_option maxHeartbeats 1000000

/-- The chain of a paper with which a right arises. -/
def chn (f : Fil) (t : List Int) (p : Nat) : Option Spn := chainS f.Y t p (chS f t t.length)
/-- Chains follow one another, from a place to a place. -/
def Segs (f : Fil) (t : List Int) : List Spn → Nat → Nat → Prop
  | [], a, k => a = k
  | s :: r, a, k => ∃ hi : Nat, s = ⟨a, hi⟩ ∧ a ≤ hi ∧ hi < k ∧ bgB f t a = true ∧ (∀ j, a < j → j ≤ hi → bgB f t j = false) ∧ Segs f t r (hi + 1) k
theorem Segs.snoc {f : Fil} {t : List Int} : ∀ {L : List Spn} {a k : Nat}, Segs f t L a k → bgB f t k = true → Segs f t (L ++ [⟨k, k⟩]) a (k + 1)
  | [], a, k, h, hb => by
    simp only [Segs] at h; subst h
    exact ⟨a, rfl, Nat.le_refl _, Nat.lt_succ_self _, hb, fun j h1 h2 => by omega, rfl⟩
  | s :: r, a, k, h, hb => by
    obtain ⟨hi, h1, h2, h3, h4, h5, h6⟩ := h
    exact ⟨hi, h1, h2, by omega, h4, h5, Segs.snoc h6 hb⟩
theorem Segs.more {f : Fil} {t : List Int} : ∀ {L : List Spn} {a k : Nat} {s : Spn}, Segs f t L a k → bgB f t k = false → L[L.length - 1]? = some s → Segs f t (L.set (L.length - 1) ⟨s.lo, k⟩) a (k + 1)
  | [], a, k, s, h, hb, hs => by simp at hs
  | [x], a, k, s, h, hb, hs => by
    obtain ⟨hi, h1, h2, h3, h4, h5, h6⟩ := h
    simp only [Segs] at h6
    simp at hs; subst hs h1
    refine ⟨k, rfl, by omega, by omega, h4, fun j h7 h8 => ?_, rfl⟩
    rcases Nat.lt_or_ge hi j with h9 | h9
    · have : j = k := by omega
      subst this; exact hb
    · exact h5 j h7 h9
  | x :: y :: r, a, k, s, h, hb, hs => by
    obtain ⟨hi, h1, h2, h3, h4, h5, h6⟩ := h
    refine ⟨hi, h1, h2, by omega, h4, h5, ?_⟩
    have := Segs.more (s := s) h6 hb (by simpa using hs)
    simpa using this
theorem chS_segs (f : Fil) (t : List Int) : ∀ k, Segs f t (chS f t k) 0 k
  | 0 => rfl
  | k + 1 => by
    have ih := chS_segs f t k
    rw [chS]
    split
    · rename_i hb; exact ih.snoc hb
    · rename_i hb
      split
      · rename_i s hs; exact ih.more (by simpa using hb) hs
      · rename_i hs
        have := chS_le f t k
        rw [List.getElem?_eq_none_iff] at hs
        have h0 : k = 0 := by omega
        subst h0; simp [bg0] at hb
theorem Segs.bnd {f : Fil} {t : List Int} : ∀ {L : List Spn} {a k : Nat}, Segs f t L a k → ∀ s ∈ L, 0 ≤ s.lo ∧ s.lo ≤ s.hi ∧ s.hi < k
  | [], _, _, _, s, hs => by cases hs
  | x :: r, a, k, h, s, hs => by
    obtain ⟨hi, rfl, h2, h3, h4, h5, h6⟩ := h
    rcases List.mem_cons.1 hs with rfl | hs
    · simp only; omega
    · exact Segs.bnd h6 s hs
theorem Segs.begin {f : Fil} {t : List Int} : ∀ {L : List Spn} {a k : Nat}, Segs f t L a k → a < k → bgB f t a = true
  | [], a, k, h, hk => by simp only [Segs] at h; omega
  | s :: r, a, k, h, hk => by obtain ⟨hi, _, _, _, h4, _⟩ := h; exact h4
theorem chS_bnd (f : Fil) (t : List Int) : ∀ s ∈ chS f t t.length, 0 ≤ s.lo ∧ s.lo ≤ s.hi ∧ s.hi < t.length := (chS_segs f t t.length).bnd
theorem fst_seg {f : Fil} {t : List Int} {a hi : Nat} (hb : bgB f t a = true) (hn : ∀ j, a < j → j ≤ hi → bgB f t j = false) : ∀ j, a ≤ j → j ≤ hi → fst f t j = a
  | 0, h1, _ => by have : a = 0 := by omega
                   rw [fst]; exact this.symm
  | j + 1, h1, h2 => by
    rcases Nat.eq_or_lt_of_le h1 with h3 | h3
    · subst h3; rw [fst, hb]; rfl
    · rw [fst, hn (j + 1) h3 h2]
      exact fst_seg hb hn j (by omega) (by omega)
/-- The years of a truth grow. -/
theorem Okt.next {f : Fil} {t : List Int} (o : Okt f t) {k : Nat} (hk : k + 1 < t.length) : tAt t k < tAt t (k + 1) := by
  have key : ∀ (ps : List Pap) (last : Int) (k : Nat) (p q : Pap), chkGo ps last = 0 → ps[k]? = some p → ps[k + 1]? = some q → p.hi < q.lo := by
    intro ps
    induction ps with
    | nil => intro last k p q _ h; simp at h
    | cons x r ih =>
      intro last k p q hc hp hq
      rw [chkGo] at hc
      split at hc
      · cases hc
      · split at hc
        · cases hc
        · cases k with
          | zero =>
            simp at hp hq; subst hp
            cases r with
            | nil => simp at hq
            | cons y r =>
              simp at hq; subst hq
              rw [chkGo] at hc
              split at hc
              · cases hc
              · split at hc
                · cases hc
                · omega
          | succ k => exact ih x.hi k p q hc (by simpa using hp) (by simpa using hq)
  have hlen := o.len
  have hp : f.ps[k]? = some f.ps[k] := List.getElem?_eq_getElem (by omega)
  have hq : f.ps[k + 1]? = some f.ps[k + 1] := List.getElem?_eq_getElem (by omega)
  have hy : t[k]? = some t[k] := List.getElem?_eq_getElem (by omega)
  have hz : t[k + 1]? = some t[k + 1] := List.getElem?_eq_getElem hk
  have h1 := key _ _ _ _ _ o.go hp hq
  have h2 := holdsS_get o.hold hp hy
  have h3 := holdsS_get o.hold hq hz
  rw [tAt_eq hy, tAt_eq hz]
  omega
theorem Okt.mono {f : Fil} {t : List Int} (o : Okt f t) {a : Nat} : ∀ {b : Nat}, a < b → b < t.length → tAt t a < tAt t b
  | 0, h, _ => by omega
  | b + 1, h, hb => by
    rcases Nat.lt_or_ge a b with h1 | h1
    · have := o.mono h1 (by omega); have := o.next hb; omega
    · have : a = b := by omega
      subst this; exact o.next hb
theorem chkChain_eq {f : Fil} {t : List Int} {z : Int} {hi p : Nat} : ∀ (n i : Nat), hi + 1 - i < n →
    ((chkChain f.Y t z hi p n i == some true) = true ↔ (i ≤ p ∧ p ≤ hi ∧ f.Y ≤ tAt t p - z ∧ (∀ j, i ≤ j → j < p → tAt t j - z < f.Y)))
  | 0, i, hn => by omega
  | n + 1, i, hn => by
    rw [chkChain]
    split
    · rename_i h1
      split
      · rename_i h2
        by_cases h3 : i = p
        · subst h3
          rw [decide_eq_true rfl]
          exact ⟨fun _ => ⟨Nat.le_refl _, by omega, h2, fun j h4 h5 => by omega⟩, fun _ => rfl⟩
        · rw [decide_eq_false h3]
          constructor
          · intro h; cases h
          · rintro ⟨h4, h5, h6, h7⟩
            have := h7 i (Nat.le_refl _) (by omega)
            omega
      · rename_i h2
        rw [chkChain_eq n (i + 1) (by omega)]
        constructor
        · rintro ⟨h4, h5, h6, h7⟩
          refine ⟨by omega, h5, h6, fun j h8 h9 => ?_⟩
          rcases Nat.eq_or_lt_of_le h8 with h10 | h10
          · subst h10; omega
          · exact h7 j h10 h9
        · rintro ⟨h4, h5, h6, h7⟩
          refine ⟨?_, h5, h6, fun j h8 h9 => h7 j (by omega) h9⟩
          rcases Nat.eq_or_lt_of_le h4 with h10 | h10
          · subst h10; omega
          · exact h10
    · rename_i h1
      constructor
      · intro h; cases h
      · rintro ⟨h4, h5, _⟩
        omega
theorem chk_seg {f : Fil} {t : List Int} (o : Okt f t) {a hi p : Nat} (hah : a ≤ hi) (hlt : hi < t.length) (hb : bgB f t a = true) (hn : ∀ j, a < j → j ≤ hi → bgB f t j = false) :
    (chkChain f.Y t (tAt t a) hi p (t.length + 1) a == some true) = (decide (a ≤ p ∧ p ≤ hi) && arB f t p) := by
  have hY := o.y
  have mono : p ≤ hi → ∀ j, a ≤ j → j < p → tAt t j ≤ tAt t (p - 1) := by
    intro hp j h1 h2
    rcases Nat.lt_or_ge j (p - 1) with h3 | h3
    · exact Int.le_of_lt (o.mono h3 (by omega))
    · have : j = p - 1 := by omega
      subst this; exact Int.le_refl _
  rw [Bool.eq_iff_iff, chkChain_eq (t.length + 1) a (by omega), Bool.and_eq_true, decide_eq_true_eq]
  have har : a ≤ p → p ≤ hi → (arB f t p = true ↔ (f.Y ≤ tAt t p - tAt t a ∧ tAt t (p - 1) - tAt t a < f.Y)) := by
    intro h1 h2
    rw [arB, fst_seg hb hn p h1 h2, decide_eq_true_eq]
  constructor
  · rintro ⟨h1, h2, h3, h4⟩
    refine ⟨⟨h1, h2⟩, (har h1 h2).2 ⟨h3, ?_⟩⟩
    rcases Nat.eq_or_lt_of_le h1 with h5 | h5
    · subst h5; omega
    · exact h4 (p - 1) (by omega) (by omega)
  · rintro ⟨⟨h1, h2⟩, h3⟩
    obtain ⟨h3, h4⟩ := (har h1 h2).1 h3
    refine ⟨h1, h2, h3, fun j h5 h6 => ?_⟩
    have := mono h2 j h5 h6
    omega
theorem chainS_eq {f : Fil} {t : List Int} (o : Okt f t) {p : Nat} : ∀ {L : List Spn} {a : Nat}, Segs f t L a t.length →
    (chainS f.Y t p L = none ∧ (arB f t p = false ∨ p < a ∨ t.length ≤ p)) ∨ ∃ hi : Nat, chainS f.Y t p L = some ⟨fst f t p, hi⟩ ∧ arB f t p = true ∧ a ≤ fst f t p ∧ p ≤ hi ∧ hi < t.length ∧ bgB f t (fst f t p) = true ∧ (∀ j, fst f t p < j → j ≤ hi → bgB f t j = false) ∧ (hi + 1 < t.length → bgB f t (hi + 1) = true)
  | [], a, h => by
    simp only [Segs] at h
    left; exact ⟨rfl, by omega⟩
  | s :: r, a, h => by
    obtain ⟨hi, rfl, h2, h3, h4, h5, h6⟩ := h
    have hc := chk_seg (p := p) o h2 h3 h4 h5
    rw [chainS]
    simp only [Int.toNat_natCast]
    rw [hc]
    by_cases hp : a ≤ p ∧ p ≤ hi
    · rw [decide_eq_true hp, Bool.true_and]
      cases ha : arB f t p
      · rw [cond_false]
        rcases chainS_eq o h6 with h7 | ⟨hi', h7, h8, _⟩
        · left; exact ⟨h7.1, .inl rfl⟩
        · rw [ha] at h8; cases h8
      · rw [cond_true]
        right
        have hf := fst_seg h4 h5 p hp.1 hp.2
        rw [hf]
        exact ⟨hi, rfl, rfl, Nat.le_refl _, hp.2, h3, h4, h5, h6.begin⟩
    · rw [decide_eq_false hp, Bool.false_and, cond_false]
      rcases chainS_eq o h6 with ⟨h7, h8⟩ | ⟨hi', h7, h8, h9, h10⟩
      · left
        refine ⟨h7, ?_⟩
        rcases h8 with h8 | h8 | h8
        · exact .inl h8
        · right; left; omega
        · right; right; exact h8
      · right; exact ⟨hi', h7, h8, by omega, h10⟩
theorem chn_none {f : Fil} {t : List Int} (o : Okt f t) {p : Nat} (hp : p < t.length) (ha : arB f t p = false) : chn f t p = none := by
  rcases chainS_eq o (p := p) (chS_segs f t t.length) with ⟨h, _⟩ | ⟨_, _, h, _⟩
  · exact h
  · rw [ha] at h; cases h
theorem chn_some {f : Fil} {t : List Int} (o : Okt f t) {p : Nat} (hp : p < t.length) (ha : arB f t p = true) : ∃ hi : Nat, chn f t p = some ⟨fst f t p, hi⟩ ∧ p ≤ hi ∧ hi < t.length ∧ bgB f t (fst f t p) = true ∧ (∀ j, fst f t p < j → j ≤ hi → bgB f t j = false) ∧ (hi + 1 < t.length → bgB f t (hi + 1) = true) := by
  rcases chainS_eq o (p := p) (chS_segs f t t.length) with ⟨_, h⟩ | ⟨hi, h1, _, _, h⟩
  · rw [ha] at h
    rcases h with h | h | h
    · cases h
    · omega
    · omega
  · exact ⟨hi, h1, h⟩
def chnR : Option Spn → V
  | some s => .tuple [.agg [I s.lo, I s.hi], B true]
  | none => .tuple [.agg [I 0, I 0], B false]
theorem vc_chn (f : Fil) (t : List Int) (p : Nat) (h : Hp) (o : Okt f t) : VC Try.prog 87 [.fp (encDk f t), I p] h (chnR (chn f t p)) h := by
  have := vc_chain f t p h o (chS_bnd f t)
  unfold chnR chn
  exact this
/-- The numbers up to k for which something is so. -/
def selS (q : Nat → Bool) : Nat → List Int
  | 0 => []
  | k + 1 => if q k then selS q k ++ [(k : Int)] else selS q k
theorem selS_len (q : Nat → Bool) : ∀ k, (selS q k).length ≤ k
  | 0 => Nat.le_refl _
  | k + 1 => by
    have := selS_len q k
    rw [selS]; split <;> simp <;> omega
/-- The papers with which rights arise. -/
def arL (f : Fil) (t : List Int) : List Int := selS (arB f t) t.length
end Go.Proofs.Ytolnajnlcdacmaa

open Go.Vm
namespace Go.Proofs.Ytolnajnlcdacmaa
set_option maxRecDepth 20000
set_option maxHeartbeats 1000000

theorem vc_begun_no (f : Fil) (t : List Int) (h : Hp) (hn : f.ps.length ≤ 4000000) (hl : t.length ≤ 4000000) (h0 : toldE f t ≠ 0) : VC Try.prog 68 [vF f, ints t] h (.tuple [.nilptr, I (toldE f t)]) h := by
  have := vc_begun f t h hn hl
  rw [if_neg h0] at this; exact this
theorem vc_begun_ok (f : Fil) (t : List Int) (h : Hp) (hn : f.ps.length ≤ 4000000) (hl : t.length ≤ 4000000) (h0 : toldE f t = 0) : VC Try.prog 68 [vF f, ints t] h (.tuple [.fp (encDk f t), I 0]) h := by
  have := vc_begun f t h hn hl
  rw [if_pos h0, h0] at this; exact this
theorem vc_Chains (f : Fil) (t : List Int) (h : Hp) (hn : f.ps.length ≤ 4000000) (hl : t.length ≤ 4000000) : VC Try.prog 31 [vF f, ints t] h (.tuple [if toldE f t = 0 then spans (chS f t t.length) else .nilslice, I (toldE f t)]) h := by
  by_cases h0 : toldE f t = 0
  case neg =>
    rw [if_neg h0]
    refine VC.body Try.func31 rfl Try.ntmps31 Try.call31 (h.grows_refl) rfl ?_; conv => whnf
    repeat' (first | (refine VLd.intro rfl ?_; conv => whnf) | (refine VArith.i64 (by omega) ?_; conv => whnf) | (refine VNeed.intro (by first | rfl | (simp; omega)) ?_; conv => whnf) | (refine VMem.store rfl rfl rfl rfl ?_; conv => whnf) | (refine VSame.intro rfl ?_; conv => whnf) | (refine VDraw.go [] (by kernel_rfl) (by kernel_rfl) ?_; conv => whnf) | (refine VIte.dec (fun _ => ?_) (fun _ => ?_) <;> conv => whnf) | (refine VIte.ndec (fun _ => ?_) (fun _ => ?_) <;> conv => whnf) | (refine VIte.beq (fun _ => ?_) (fun _ => ?_) <;> conv => whnf) | (refine VIte.bne (fun _ => ?_) (fun _ => ?_) <;> conv => whnf) | (refine VIte.intro (fun _ => ?_) (fun _ => ?_) <;> conv => whnf) | (refine VCall.intro (vc_begun_no f t _ hn hl h0) ?_; conv => whnf))
    · exact VOut.same rfl
    · rename_i h1; exact absurd (by simpa using h1) h0
  case pos =>
    rw [h0, if_pos rfl]
    refine VC.body Try.func31 rfl Try.ntmps31 Try.call31 (h.grows_refl) rfl ?_; conv => whnf
    repeat' (first | (refine VLd.intro rfl ?_; conv => whnf) | (refine VArith.i64 (by omega) ?_; conv => whnf) | (refine VNeed.intro (by first | rfl | (simp; omega)) ?_; conv => whnf) | (refine VMem.store rfl rfl rfl rfl ?_; conv => whnf) | (refine VSame.intro rfl ?_; conv => whnf) | (refine VDraw.go [] (by kernel_rfl) (by kernel_rfl) ?_; conv => whnf) | (refine VIte.dec (fun _ => ?_) (fun _ => ?_) <;> conv => whnf) | (refine VIte.ndec (fun _ => ?_) (fun _ => ?_) <;> conv => whnf) | (refine VIte.beq (fun _ => ?_) (fun _ => ?_) <;> conv => whnf) | (refine VIte.bne (fun _ => ?_) (fun _ => ?_) <;> conv => whnf) | (refine VIte.intro (fun _ => ?_) (fun _ => ?_) <;> conv => whnf) | (refine VCall.intro (vc_begun_ok f t _ hn hl h0) ?_; conv => whnf))
    refine VCall.intro (vc_chains f t _ (told_ok h0)) ?_
    conv => whnf
    exact VOut.same rfl
/-- Who owns, and since when, by the first papers. -/
def ownS (f : Fil) (t : List Int) : Nat → Int × Int
  | 0 => (2, 0)
  | k + 1 => if arB f t k then (sdAt f k, tAt t k) else ownS f t k
def own (f : Fil) (t : List Int) : Int × Int := ownS f t t.length
end Go.Proofs.Ytolnajnlcdacmaa

open Go.Vm
namespace Go.Proofs.Ytolnajnlcdacmaa
set_option maxRecDepth 20000
set_option maxHeartbeats 1000000

/-- The error of a right that is to be shown. -/
def showE (f : Fil) (t : List Int) (p : Int) : Int := if toldE f t ≠ 0 then toldE f t else if p < 0 ∨ (t.length : Int) - 1 < p then 2 else bif arB f t p.toNat then 0 else 7
/-- A paper with which a right arises. -/
structure Shw (f : Fil) (t : List Int) (p : Nat) : Prop extends Okt f t where
  lt : p < t.length
  ar : arB f t p = true
theorem show_ok {f : Fil} {t : List Int} {p : Int} (h : showE f t p = 0) : ∃ q : Nat, p = q ∧ Shw f t q := by
  unfold showE at h
  split at h
  · contradiction
  · rename_i h0
    split at h
    · cases h
    · rename_i h1
      cases h2 : arB f t p.toNat
      · rw [h2] at h; cases h
      · have o := told_ok (f := f) (t := t) (by simpa using h0)
        exact ⟨p.toNat, by omega, { o with lt := by omega, ar := h2 }⟩
theorem vc_Shown (f : Fil) (t : List Int) (p : Int) (h : Hp) (hn : f.ps.length ≤ 4000000) (hl : t.length ≤ 4000000) : VC Try.prog 77 [vF f, ints t, I p] h (I (showE f t p)) h := by
  unfold showE
  refine VC.body Try.func77 rfl Try.ntmps77 Try.call77 (h.grows_refl) rfl ?_; conv => whnf
  repeat' (first | (refine VLd.intro rfl ?_; conv => whnf) | (refine VArith.i64 (by omega) ?_; conv => whnf) | (refine VNeed.intro (by first | rfl | (simp; omega)) ?_; conv => whnf) | (refine VMem.store rfl rfl rfl rfl ?_; conv => whnf) | (refine VSame.intro rfl ?_; conv => whnf) | (refine VDraw.go [] (by kernel_rfl) (by kernel_rfl) ?_; conv => whnf) | (refine VIte.dec (fun _ => ?_) (fun _ => ?_) <;> conv => whnf) | (refine VIte.ndec (fun _ => ?_) (fun _ => ?_) <;> conv => whnf) | (refine VIte.beq (fun _ => ?_) (fun _ => ?_) <;> conv => whnf) | (refine VIte.bne (fun _ => ?_) (fun _ => ?_) <;> conv => whnf) | (refine VIte.intro (fun _ => ?_) (fun _ => ?_) <;> conv => whnf) | (refine VCall.intro (vc_Told f t _ hn hl) ?_; conv => whnf))
  · rename_i h1
    rw [if_pos (by simpa using h1)]
    exact VOut.same rfl
  · rename_i h1
    have h0 : toldE f t = 0 := by simpa using h1
    have o := told_ok h0
    have hlen := o.len
    have hn' := o.n
    rw [if_neg (by simpa using h0)]
    repeat' (first | (refine VLd.intro rfl ?_; conv => whnf) | (refine VArith.i64 (by omega) ?_; conv => whnf) | (refine VNeed.intro (by first | rfl | (simp; omega)) ?_; conv => whnf) | (refine VMem.store rfl rfl rfl rfl ?_; conv => whnf) | (refine VSame.intro rfl ?_; conv => whnf) | (refine VDraw.go [] (by kernel_rfl) (by kernel_rfl) ?_; conv => whnf) | (refine VIte.dec (fun _ => ?_) (fun _ => ?_) <;> conv => whnf) | (refine VIte.ndec (fun _ => ?_) (fun _ => ?_) <;> conv => whnf) | (refine VIte.beq (fun _ => ?_) (fun _ => ?_) <;> conv => whnf) | (refine VIte.bne (fun _ => ?_) (fun _ => ?_) <;> conv => whnf) | (refine VIte.intro (fun _ => ?_) (fun _ => ?_) <;> conv => whnf) | (refine VCall.intro (vc_beside _ _ _ _) ?_; conv => whnf))
    · rw [if_pos (by omega)]
      exact VOut.same rfl
    · rw [if_neg (by omega)]
      obtain ⟨q, rfl⟩ : ∃ q : Nat, p = q := ⟨p.toNat, by omega⟩
      refine VCall.intro (vc_rarises f t q _ o (by omega)) ?_
      simp only [Int.toNat_natCast]
      conv => whnf
      cases ha : arB f t q
      · exact VOut.same rfl
      · exact VOut.same rfl
theorem vc_shown_no (f : Fil) (t : List Int) (p : Int) (h : Hp) (hn : f.ps.length ≤ 4000000) (hl : t.length ≤ 4000000) (h0 : showE f t p ≠ 0) : VC Try.prog 70 [vF f, ints t, I p] h (.tuple [.nilptr, .agg [I 0, I 0], I (showE f t p)]) h := by
  by_cases h1 : toldE f t = 0
  case neg =>
    have he : showE f t p = toldE f t := by unfold showE; rw [if_pos h1]
    rw [he]
    refine VC.body Try.func70 rfl Try.ntmps70 Try.call70 (h.grows_refl) rfl ?_; conv => whnf
    repeat' (first | (refine VLd.intro rfl ?_; conv => whnf) | (refine VArith.i64 (by omega) ?_; conv => whnf) | (refine VNeed.intro (by first | rfl | (simp; omega)) ?_; conv => whnf) | (refine VMem.store rfl rfl rfl rfl ?_; conv => whnf) | (refine VSame.intro rfl ?_; conv => whnf) | (refine VDraw.go [] (by kernel_rfl) (by kernel_rfl) ?_; conv => whnf) | (refine VIte.dec (fun _ => ?_) (fun _ => ?_) <;> conv => whnf) | (refine VIte.ndec (fun _ => ?_) (fun _ => ?_) <;> conv => whnf) | (refine VIte.beq (fun _ => ?_) (fun _ => ?_) <;> conv => whnf) | (refine VIte.bne (fun _ => ?_) (fun _ => ?_) <;> conv => whnf) | (refine VIte.intro (fun _ => ?_) (fun _ => ?_) <;> conv => whnf) | (refine VCall.intro (vc_begun_no f t _ hn hl h1) ?_; conv => whnf))
    · exact VOut.same rfl
    all_goals (rename_i h2; exact absurd (by simpa using h2) h1)
  case pos =>
    have o := told_ok h1
    have hlen := o.len
    have hn' := o.n
    have he : showE f t p = if p < 0 ∨ (t.length : Int) - 1 < p then 2 else bif arB f t p.toNat then 0 else 7 := by unfold showE; rw [if_neg (by simpa using h1)]
    rw [he] at h0 ⊢
    refine VC.body Try.func70 rfl Try.ntmps70 Try.call70 (h.grows_refl) rfl ?_; conv => whnf
    repeat' (first | (refine VLd.intro rfl ?_; conv => whnf) | (refine VArith.i64 (by omega) ?_; conv => whnf) | (refine VNeed.intro (by first | rfl | (simp; omega)) ?_; conv => whnf) | (refine VMem.store rfl rfl rfl rfl ?_; conv => whnf) | (refine VSame.intro rfl ?_; conv => whnf) | (refine VDraw.go [] (by kernel_rfl) (by kernel_rfl) ?_; conv => whnf) | (refine VIte.dec (fun _ => ?_) (fun _ => ?_) <;> conv => whnf) | (refine VIte.ndec (fun _ => ?_) (fun _ => ?_) <;> conv => whnf) | (refine VIte.beq (fun _ => ?_) (fun _ => ?_) <;> conv => whnf) | (refine VIte.bne (fun _ => ?_) (fun _ => ?_) <;> conv => whnf) | (refine VIte.intro (fun _ => ?_) (fun _ => ?_) <;> conv => whnf) | (refine VCall.intro (vc_begun_ok f t _ hn hl h1) ?_; conv => whnf) | (refine VCall.intro (vc_from _ _ _ _) ?_; conv => whnf))
    · rw [if_pos (by omega)]
      exact VOut.same rfl
    · rw [if_neg (by omega)] at h0 ⊢
      obtain ⟨q, rfl⟩ : ∃ q : Nat, p = q := ⟨p.toNat, by omega⟩
      simp only [Int.toNat_natCast] at h0 ⊢
      have ha : arB f t q = false := by
        cases ha : arB f t q
        · rfl
        · rw [ha] at h0; exact absurd rfl h0
      rw [ha]
      refine VCall.intro (vc_chn f t q _ o) ?_
      rw [chn_none o (by omega) ha]
      conv => whnf
      repeat (first | (refine VLd.intro rfl ?_; conv => whnf) | (refine VArith.i64 (by omega) ?_; conv => whnf) | (refine VNeed.intro (by first | rfl | (simp; omega)) ?_; conv => whnf) | (refine VMem.store rfl rfl rfl rfl ?_; conv => whnf) | (refine VSame.intro rfl ?_; conv => whnf) | (refine VDraw.go [] (by kernel_rfl) (by kernel_rfl) ?_; conv => whnf))
      exact VOut.same rfl
theorem vc_shown_ok (f : Fil) (t : List Int) (p hi : Nat) (h : Hp) (hl : t.length ≤ 4000000) (o : Shw f t p) (h0 : toldE f t = 0) (hc : chn f t p = some ⟨fst f t p, hi⟩) : VC Try.prog 70 [vF f, ints t, I p] h (.tuple [.fp (encDk f t), .agg [I (fst f t p), I hi], I 0]) h := by
  have hlen := o.len
  have hn' := o.n
  have hlt := o.lt
  refine VC.body Try.func70 rfl Try.ntmps70 Try.call70 (h.grows_refl) rfl ?_; conv => whnf
  repeat' (first | (refine VLd.intro rfl ?_; conv => whnf) | (refine VArith.i64 (by omega) ?_; conv => whnf) | (refine VNeed.intro (by first | rfl | (simp; omega)) ?_; conv => whnf) | (refine VMem.store rfl rfl rfl rfl ?_; conv => whnf) | (refine VSame.intro rfl ?_; conv => whnf) | (refine VDraw.go [] (by kernel_rfl) (by kernel_rfl) ?_; conv => whnf) | (refine VIte.dec (fun _ => ?_) (fun _ => ?_) <;> conv => whnf) | (refine VIte.ndec (fun _ => ?_) (fun _ => ?_) <;> conv => whnf) | (refine VIte.beq (fun _ => ?_) (fun _ => ?_) <;> conv => whnf) | (refine VIte.bne (fun _ => ?_) (fun _ => ?_) <;> conv => whnf) | (refine VIte.intro (fun _ => ?_) (fun _ => ?_) <;> conv => whnf) | (refine VCall.intro (vc_begun_ok f t _ (by omega) hl h0) ?_; conv => whnf) | (refine VCall.intro (vc_from _ _ _ _) ?_; conv => whnf))
  · omega
  · refine VCall.intro (vc_chn f t p _ o.toOkt) ?_
    rw [hc]
    conv => whnf
    repeat (first | (refine VLd.intro rfl ?_; conv => whnf) | (refine VArith.i64 (by omega) ?_; conv => whnf) | (refine VNeed.intro (by first | rfl | (simp; omega)) ?_; conv => whnf) | (refine VMem.store rfl rfl rfl rfl ?_; conv => whnf) | (refine VSame.intro rfl ?_; conv => whnf) | (refine VDraw.go [] (by kernel_rfl) (by kernel_rfl) ?_; conv => whnf))
    exact VOut.same rfl
end Go.Proofs.Ytolnajnlcdacmaa

open Go.Vm
namespace Go.Proofs.Ytolnajnlcdacmaa
set_option maxRecDepth 20000
set_option maxHeartbeats 1000000

/-- A list of which so many are turned round at both ends. -/
structure Rvd (l : List Int) (k : Nat) (m : List Int) : Prop where
  len : m.length = l.length
  le : 2 * k ≤ l.length + 1
  at' : ∀ j, j < l.length → m[j]? = if j < k ∨ l.length - k ≤ j then l[l.length - 1 - j]? else l[j]?
theorem Rvd.step {l m : List Int} {k : Nat} {a b : Int} (h : Rvd l k m) (hk : 2 * k + 1 < l.length) (ha : m[k]? = some a) (hb : m[l.length - 1 - k]? = some b) : Rvd l (k + 1) ((m.set k b).set (l.length - 1 - k) a) where
  len := by simp [h.len]
  le := by omega
  at' := fun j hj => by
    have hl := h.len
    have e1 := h.at' k (by omega)
    have e2 := h.at' (l.length - 1 - k) (by omega)
    rw [ha, if_neg (by omega)] at e1
    rw [hb, if_neg (by omega)] at e2
    rw [List.getElem?_set, List.length_set]
    by_cases h1 : l.length - 1 - k = j
    · rw [if_pos h1, if_pos (by omega), if_pos (by omega), e1]
      congr 1; omega
    · rw [if_neg h1, List.getElem?_set]
      by_cases h2 : k = j
      · rw [if_pos h2, if_pos (by omega), if_pos (by omega), e2]
        subst h2; rfl
      · rw [if_neg h2, h.at' j hj]
        have : (j < k ∨ l.length - k ≤ j) ↔ (j < k + 1 ∨ l.length - (k + 1) ≤ j) := by omega
        simp only [this]
theorem Rvd.done {l m : List Int} {k : Nat} (h : Rvd l k m) (hk : l.length ≤ 2 * k + 1) : m = l.reverse := by
  apply List.ext_getElem?
  intro j
  have hl := h.len
  rcases Nat.lt_or_ge j l.length with h1 | h1
  · rw [h.at' j h1, List.getElem?_reverse h1]
    split
    · rfl
    · congr 1; omega
  · rw [List.getElem?_eq_none (by omega), List.getElem?_eq_none (by simpa using h1)]
theorem vc_reverse (l : List Int) (i : Vm.Id) (h : Hp) (hb : h.get i = some (.flat true (l.flatMap encI))) (hn : l.length ≤ 4000000) :
    VC Try.prog 60 [.gl i 1 l.length] h (.tuple []) (h.set i (.flat true (l.reverse.flatMap encI))) := by
  have hd : ∀ p ∈ [(i, Blk.flat true (l.reverse.flatMap encI))], h.get p.1 ≠ none := by
    intro p hp
    simp only [List.mem_cons, List.not_mem_nil, or_false] at hp
    subst hp; simp only; rw [hb]; simp
  have hgr : h.grows (h.set i (.flat true (l.reverse.flatMap encI))) := h.grows_set _ _
  refine VC.body Try.func60 rfl Try.ntmps60 Try.call60 hgr rfl ?_; conv => whnf
  repeat (first | (refine VLd.intro rfl ?_; conv => whnf) | (refine VArith.i64 (by omega) ?_; conv => whnf) | (refine VNeed.intro (by first | rfl | (simp; omega)) ?_; conv => whnf) | (refine VMem.store rfl rfl rfl rfl ?_; conv => whnf) | (refine VSame.intro rfl ?_; conv => whnf) | (refine VDraw.go [] (by kernel_rfl) (by kernel_rfl) ?_; conv => whnf))
  have hlift : h.lift i = some (.flat true (l.flatMap encI)) := get_out hb []
  refine VCode.lpo (fun x : Nat × List Int => [(0, .gl (.out i) 1 l.length), (2, I x.1), (3, I ((l.length : Int) - 1 - x.1))]) (fun x => outW h.lift i (.flat true (x.2.flatMap encI))) (fun _ => []) (fun x => Rvd l x.1 x.2) (fun x => l.length - x.1) (0, l) ⟨rfl, by omega, fun j hj => ?_⟩ (outW_id hlift) ?_ ?_
  · rw [if_neg (by omega)]
  · conv => whnf
    refine Retell.turn ⟨[], 0, [], []⟩ (TurnOk.mk' _ _ [] [] (OutOk.outW (OutOk.lift _) rfl) rfl (by decide) (by repeat' (first | exact BTos.nil | refine BTos.flat rfl rfl (by first | rfl | simp) ?_ | refine BTos.new rfl ?_ | refine BTos.dead rfl rfl ?_ | refine BTos.row rfl rfl rfl (RowTo.snoc (RowTo.one rfl (by simp))) ?_ | refine BTos.cells rfl rfl rfl (by repeat' (first | exact VTo.undef | exact FrTo.leaf | refine FrTo.node ?_ ?_ ?_ | refine FrTo.none ?_ ?_ | exact VTo.sc (by first | rfl | (congr 1; omega) | (congr 1; simp; omega)) | exact VTos_dv _ _ | refine VTos.cons ?_ ?_ | exact VTos.nil | refine VTo.agg ?_ | refine VTo.tuple ?_ | refine VTo.func ?_ ?_ | exact VTo.fs | exact VTo.fp | exact VTo.nilptr | exact VTo.nilslice | exact VTo.nilfunc | exact VTo.ptr rfl | exact VTo.gl rfl | exact VTo.map rfl | exact VTo.glNil' (by decide) rfl rfl | exact VTo.fsNil (by decide) | exact VTo.fpPtr rfl | exact VTo.fsGl rfl (by first | rfl | exact flat_len encI_len _ | exact flat_len encS_len _ | exact flat_len encP_len _ | exact flat_len encL_len _ | exact flat_len encE_len _ | (simp [flat_len encP_len]; done) | simp [flat_len encI_len, flat_len encS_len]))) ?_)) trivial trivial rfl) (by repeat' (first | exact VTo.undef | exact FrTo.leaf | refine FrTo.node ?_ ?_ ?_ | refine FrTo.none ?_ ?_ | exact VTo.sc (by first | rfl | (congr 1; omega) | (congr 1; simp; omega)) | exact VTos_dv _ _ | refine VTos.cons ?_ ?_ | exact VTos.nil | refine VTo.agg ?_ | refine VTo.tuple ?_ | refine VTo.func ?_ ?_ | exact VTo.fs | exact VTo.fp | exact VTo.nilptr | exact VTo.nilslice | exact VTo.nilfunc | exact VTo.ptr rfl | exact VTo.gl rfl | exact VTo.map rfl | exact VTo.glNil' (by decide) rfl rfl | exact VTo.fsNil (by decide) | exact VTo.fpPtr rfl | exact VTo.fsGl rfl (by first | rfl | exact flat_len encI_len _ | exact flat_len encS_len _ | exact flat_len encP_len _ | exact flat_len encL_len _ | exact flat_len encE_len _ | (simp [flat_len encP_len]; done) | simp [flat_len encI_len, flat_len encS_len]))) (by first | rfl | (repeat' (first | exact MkTo.nil | refine MkTo.keep rfl ?_ | refine MkTo.drop (by decide) rfl ?_)))
  · rintro ⟨k, m⟩ hr
    simp only at hr ⊢
    have hl := hr.len
    conv => whnf
    refine VIte.dec (fun h3 => ?_) (fun h3 => ?_)
    · have ha : m[k]? = some m[k] := List.getElem?_eq_getElem (by omega)
      have hc : m[l.length - 1 - k]? = some m[l.length - 1 - k] := List.getElem?_eq_getElem (by omega)
      generalize m[k] = a at ha
      generalize m[l.length - 1 - k] = c at hc
      have hst := hr.step (by omega) ha hc
      have hc2 : (m.set k c)[l.length - 1 - k]? = some c := by rw [List.getElem?_set, if_neg (by omega)]; exact hc
      conv => whnf
      repeat' (first | (refine VLd.intro rfl ?_; conv => whnf) | (refine VArith.i64 (by omega) ?_; conv => whnf) | (refine VNeed.intro (by first | rfl | (simp; omega)) ?_; conv => whnf) | (refine VMem.store rfl rfl rfl rfl ?_; conv => whnf) | (refine VSame.intro rfl ?_; conv => whnf) | (refine VDraw.go [] (by kernel_rfl) (by kernel_rfl) ?_; conv => whnf) | (refine VIte.dec (fun _ => ?_) (fun _ => ?_) <;> conv => whnf) | (refine VIte.ndec (fun _ => ?_) (fun _ => ?_) <;> conv => whnf) | (refine VIte.beq (fun _ => ?_) (fun _ => ?_) <;> conv => whnf) | (refine VIte.bne (fun _ => ?_) (fun _ => ?_) <;> conv => whnf) | (refine VIte.intro (fun _ => ?_) (fun _ => ?_) <;> conv => whnf) | (refine VLd.recc encI_len (l.length - 1 - k) 0 rfl rfl (outW_get _ _ _ _) hc (by decide) rfl (by simp only [Nat.zero_add, Nat.mul_one]; omega) ?_; conv => whnf) | (refine VLd.recc encI_len k 0 rfl rfl (outW_get _ _ _ _) ha (by decide) rfl (by simp only [Nat.zero_add, Nat.mul_one]; omega) ?_; conv => whnf))
      refine VMem.setRec encI_len k 0 c rfl rfl (outW_get _ _ _ _) ha (by decide) rfl (by simp only [Nat.zero_add, Nat.mul_one]; omega) ?_
      conv => whnf
      repeat (first | (refine VLd.intro rfl ?_; conv => whnf) | (refine VArith.i64 (by omega) ?_; conv => whnf) | (refine VNeed.intro (by first | rfl | (simp; omega)) ?_; conv => whnf) | (refine VMem.store rfl rfl rfl rfl ?_; conv => whnf) | (refine VSame.intro rfl ?_; conv => whnf) | (refine VDraw.go [] (by kernel_rfl) (by kernel_rfl) ?_; conv => whnf))
      refine VMem.setRec encI_len (l.length - 1 - k) 0 a rfl rfl (outW_get _ _ _ _) hc2 (by decide) rfl (by simp only [Nat.zero_add, Nat.mul_one]; omega) ?_
      conv => whnf
      repeat (first | (refine VLd.intro rfl ?_; conv => whnf) | (refine VArith.i64 (by omega) ?_; conv => whnf) | (refine VNeed.intro (by first | rfl | (simp; omega)) ?_; conv => whnf) | (refine VMem.store rfl rfl rfl rfl ?_; conv => whnf) | (refine VSame.intro rfl ?_; conv => whnf) | (refine VDraw.go [] (by kernel_rfl) (by kernel_rfl) ?_; conv => whnf))
      refine LEndO.intro (k + 1, (m.set k c).set (l.length - 1 - k) a) hst (by simp only; omega) ((outW_same (outW _ _ _) _ _ _).trans (outW_same _ _ _ _)) ?_
      conv => whnf
      refine Retell.turn ⟨[], 0, [], []⟩ (TurnOk.mk' _ _ [] [] (OutOk.outW (OutOk.lift _) rfl) rfl (by decide) (by repeat' (first | exact BTos.nil | refine BTos.flat rfl rfl (by first | rfl | simp) ?_ | refine BTos.new rfl ?_ | refine BTos.dead rfl rfl ?_ | refine BTos.row rfl rfl rfl (RowTo.snoc (RowTo.one rfl (by simp))) ?_ | refine BTos.cells rfl rfl rfl (by repeat' (first | exact VTo.undef | exact FrTo.leaf | refine FrTo.node ?_ ?_ ?_ | refine FrTo.none ?_ ?_ | exact VTo.sc (by first | rfl | (congr 1; omega) | (congr 1; simp; omega)) | exact VTos_dv _ _ | refine VTos.cons ?_ ?_ | exact VTos.nil | refine VTo.agg ?_ | refine VTo.tuple ?_ | refine VTo.func ?_ ?_ | exact VTo.fs | exact VTo.fp | exact VTo.nilptr | exact VTo.nilslice | exact VTo.nilfunc | exact VTo.ptr rfl | exact VTo.gl rfl | exact VTo.map rfl | exact VTo.glNil' (by decide) rfl rfl | exact VTo.fsNil (by decide) | exact VTo.fpPtr rfl | exact VTo.fsGl rfl (by first | rfl | exact flat_len encI_len _ | exact flat_len encS_len _ | exact flat_len encP_len _ | exact flat_len encL_len _ | exact flat_len encE_len _ | (simp [flat_len encP_len]; done) | simp [flat_len encI_len, flat_len encS_len]))) ?_)) trivial trivial rfl) (by repeat' (first | exact VTo.undef | exact FrTo.leaf | refine FrTo.node ?_ ?_ ?_ | refine FrTo.none ?_ ?_ | exact VTo.sc (by first | rfl | (congr 1; omega) | (congr 1; simp; omega)) | exact VTos_dv _ _ | refine VTos.cons ?_ ?_ | exact VTos.nil | refine VTo.agg ?_ | refine VTo.tuple ?_ | refine VTo.func ?_ ?_ | exact VTo.fs | exact VTo.fp | exact VTo.nilptr | exact VTo.nilslice | exact VTo.nilfunc | exact VTo.ptr rfl | exact VTo.gl rfl | exact VTo.map rfl | exact VTo.glNil' (by decide) rfl rfl | exact VTo.fsNil (by decide) | exact VTo.fpPtr rfl | exact VTo.fsGl rfl (by first | rfl | exact flat_len encI_len _ | exact flat_len encS_len _ | exact flat_len encP_len _ | exact flat_len encL_len _ | exact flat_len encE_len _ | (simp [flat_len encP_len]; done) | simp [flat_len encI_len, flat_len encS_len]))) (by first | rfl | (repeat' (first | exact MkTo.nil | refine MkTo.keep rfl ?_ | refine MkTo.drop (by decide) rfl ?_)))
    · conv => whnf
      have hm := hr.done (by omega)
      subst hm
      have := VOut.upd (loc := []) (r1 := .tuple []) (r := .tuple []) [(i, .flat true (l.reverse.flatMap encI))] [] [] 0 rfl hd (by simp) rfl (by intro k b hk; simp at hk) (fun σ x hx => hx) (outer := outW h.lift i (.flat true (l.reverse.flatMap encI))) rfl
      have he : (h.sets [(i, Blk.flat true (l.reverse.flatMap encI))]).pushes [] = h.set i (.flat true (l.reverse.flatMap encI)) := by simp [Hp.sets, Hp.pushes]
      rw [he] at this
      exact this
end Go.Proofs.Ytolnajnlcdacmaa

open Go.Vm
namespace Go.Proofs.Ytolnajnlcdacmaa
set_option maxRecDepth 20000
set_option maxHeartbeats 1000000

/-- The lowest paper from which a paper still goes on, up to a place. -/
def jmp (f : Fil) (t : List Int) (lo a : Nat) : Nat → Nat
  | 0 => 0
  | n + 1 => if lo < n + 1 ∧ tAt t a - tAt t n ≤ f.G then jmp f t lo a n else n + 1
theorem jmp_le (f : Fil) (t : List Int) (lo a : Nat) : ∀ n, jmp f t lo a n ≤ n
  | 0 => Nat.le_refl _
  | n + 1 => by
    rw [jmp]; split
    · exact Nat.le_succ_of_le (jmp_le f t lo a n)
    · exact Nat.le_refl _
theorem jmp_ge (f : Fil) (t : List Int) (lo a : Nat) : ∀ n, lo ≤ n → lo ≤ jmp f t lo a n
  | 0, h => h
  | n + 1, h => by
    rw [jmp]; split
    · exact jmp_ge f t lo a n (by omega)
    · exact h
/-- The fewest papers, from a paper backwards. -/
def fewS (f : Fil) (t : List Int) (lo p : Nat) : Nat → Nat → List Int
  | 0, a => [(a : Int)]
  | n + 1, a => if tAt t p - tAt t a < f.Y then (a : Int) :: fewS f t lo p n (jmp f t lo a a) else [(a : Int)]
theorem fewS_ne (f : Fil) (t : List Int) (lo p n a : Nat) : fewS f t lo p n a ≠ [] := by
  cases n with
  | zero => simp [fewS]
  | succ n => rw [fewS]; split <;> simp
theorem fewS_len (f : Fil) (t : List Int) (lo p : Nat) : ∀ n a, (fewS f t lo p n a).length ≤ n + 1
  | 0, a => by simp [fewS]
  | n + 1, a => by
    rw [fewS]; split
    · have := fewS_len f t lo p n (jmp f t lo a a); simp; omega
    · simp
/-- The fewest papers that show a right. -/
def few (f : Fil) (t : List Int) (p : Nat) : List Int := (fewS f t (fst f t p) p p p).reverse
/-- A place in a chain. -/
structure InCh (f : Fil) (t : List Int) (p : Nat) (hi : Nat) : Prop where
  ph : p ≤ hi
  hl : hi < t.length
  hb : bgB f t (fst f t p) = true
  hn : ∀ j, fst f t p < j → j ≤ hi → bgB f t j = false
  hx : hi + 1 < t.length → bgB f t (hi + 1) = true
  hc : chn f t p = some ⟨fst f t p, hi⟩
theorem InCh.of {f : Fil} {t : List Int} {p : Nat} (o : Shw f t p) : ∃ hi, InCh f t p hi := by
  obtain ⟨hi, h1, h2, h3, h4, h5, h6⟩ := chn_some o.toOkt o.lt o.ar
  exact ⟨hi, h2, h3, h4, h5, h6, h1⟩
theorem InCh.gap {f : Fil} {t : List Int} {p hi : Nat} (c : InCh f t p hi) {a : Nat} (h1 : fst f t p < a) (h2 : a ≤ hi) : tAt t a - tAt t (a - 1) ≤ f.G := by
  have := c.hn a h1 h2
  rw [bgB, decide_eq_false_iff_not] at this
  omega
theorem InCh.jmp_lt {f : Fil} {t : List Int} {p hi : Nat} (c : InCh f t p hi) {a : Nat} (h1 : fst f t p < a) (h2 : a ≤ hi) : jmp f t (fst f t p) a a < a := by
  obtain ⟨b, rfl⟩ : ∃ b, a = b + 1 := ⟨a - 1, by omega⟩
  have := c.gap h1 h2
  simp only [Nat.add_sub_cancel] at this
  rw [jmp, if_pos ⟨h1, this⟩]
  exact Nat.lt_succ_of_le (jmp_le f t _ _ _)
/-- The right is far enough behind the chain's first paper. -/
theorem Shw.far {f : Fil} {t : List Int} {p : Nat} (o : Shw f t p) : f.Y ≤ tAt t p - tAt t (fst f t p) := by
  have := o.ar
  rw [arB, decide_eq_true_eq] at this
  exact this.1
theorem vc_Fewest_no (f : Fil) (t : List Int) (p : Int) (h : Hp) (hn : f.ps.length ≤ 4000000) (hl : t.length ≤ 4000000) (h0 : showE f t p ≠ 0) : VC Try.prog 30 [vF f, ints t, I p] h (.tuple [.nilslice, I (showE f t p)]) h := by
  refine VC.body Try.func30 rfl Try.ntmps30 Try.call30 (h.grows_refl) rfl ?_; conv => whnf
  repeat' (first | (refine VLd.intro rfl ?_; conv => whnf) | (refine VArith.i64 (by omega) ?_; conv => whnf) | (refine VNeed.intro (by first | rfl | (simp; omega)) ?_; conv => whnf) | (refine VMem.store rfl rfl rfl rfl ?_; conv => whnf) | (refine VSame.intro rfl ?_; conv => whnf) | (refine VDraw.go [] (by kernel_rfl) (by kernel_rfl) ?_; conv => whnf) | (refine VIte.dec (fun _ => ?_) (fun _ => ?_) <;> conv => whnf) | (refine VIte.ndec (fun _ => ?_) (fun _ => ?_) <;> conv => whnf) | (refine VIte.beq (fun _ => ?_) (fun _ => ?_) <;> conv => whnf) | (refine VIte.bne (fun _ => ?_) (fun _ => ?_) <;> conv => whnf) | (refine VIte.intro (fun _ => ?_) (fun _ => ?_) <;> conv => whnf) | (refine VCall.intro (vc_shown_no f t p _ hn hl h0) ?_; conv => whnf))
  · exact VOut.same rfl
  · rename_i h1; exact absurd (by simpa using h1) h0
theorem vc_Fewest_ok (f : Fil) (t : List Int) (p : Nat) (h : Hp) (hl : t.length ≤ 4000000) (h0 : toldE f t = 0) (o : Shw f t p) : VC Try.prog 30 [vF f, ints t, I p] h (.tuple [ints (few f t p), I 0]) h := by
  have hlen := o.len
  have hn' := o.n
  have hlt := o.lt
  have hY := o.y
  obtain ⟨hi, c⟩ := InCh.of o
  have hfar := o.far
  have hph := c.ph
  have hhl := c.hl
  have hfl := fst_le f t p
  have hfin : few f t p = (fewS f t (fst f t p) p p p).reverse := rfl
  have hff : tAt t (fst f t p) ≤ tAt t p := by omega
  rw [hfin]
  have hfl2 := fewS_len f t (fst f t p) p p p
  obtain ⟨F, hF⟩ : ∃ F, F = fewS f t (fst f t p) p p p := ⟨_, rfl⟩
  rw [← hF] at hfl2 ⊢
  obtain ⟨lo, hlo⟩ : ∃ lo, lo = fst f t p := ⟨_, rfl⟩
  refine VC.body Try.func30 rfl Try.ntmps30 Try.call30 (h.grows_refl) rfl ?_; conv => whnf
  repeat' (first | (refine VLd.intro rfl ?_; conv => whnf) | (refine VArith.i64 (by omega) ?_; conv => whnf) | (refine VNeed.intro (by first | rfl | (simp; omega)) ?_; conv => whnf) | (refine VMem.store rfl rfl rfl rfl ?_; conv => whnf) | (refine VSame.intro rfl ?_; conv => whnf) | (refine VDraw.go [] (by kernel_rfl) (by kernel_rfl) ?_; conv => whnf) | (refine VIte.dec (fun _ => ?_) (fun _ => ?_) <;> conv => whnf) | (refine VIte.ndec (fun _ => ?_) (fun _ => ?_) <;> conv => whnf) | (refine VIte.beq (fun _ => ?_) (fun _ => ?_) <;> conv => whnf) | (refine VIte.bne (fun _ => ?_) (fun _ => ?_) <;> conv => whnf) | (refine VIte.intro (fun _ => ?_) (fun _ => ?_) <;> conv => whnf) | (refine VCall.intro (vc_shown_ok f t p hi _ hl o h0 c.hc) ?_; conv => whnf))
  rw [← hlo] at hfl hfar hF hff ⊢
  refine VCode.lp (fun x : Nat × List Int => [(1, ints t), (2, I p), (8, .fp (encDk f t)), (9, .ptr (.loc 0) 0), (11, .gl (.loc 1) 1 (x.2 ++ [(x.1 : Int)]).length), (12, I x.1)])
    (fun x => [.flat true [DI lo, DI hi], .flat true ((x.2 ++ [(x.1 : Int)]).flatMap encI)]) (fun x => lo ≤ x.1 ∧ x.1 ≤ p ∧ ∃ n, x.1 ≤ n ∧ F = x.2 ++ fewS f t lo p n x.1) (fun x => x.1) (p, []) ⟨hfl, Nat.le_refl _, p, Nat.le_refl _, hF⟩ ?_ ?_
  · conv => whnf
    refine Retell.turn ⟨[1,2], 3, [], []⟩ (TurnOk.mk' _ _ [] [] (OutOk.lift _) rfl (by decide) (by repeat' (first | exact BTos.nil | refine BTos.flat rfl rfl (by first | rfl | simp) ?_ | refine BTos.new rfl ?_ | refine BTos.dead rfl rfl ?_ | refine BTos.row rfl rfl rfl (RowTo.snoc (RowTo.one rfl (by simp))) ?_ | refine BTos.cells rfl rfl rfl (by repeat' (first | exact VTo.undef | exact FrTo.leaf | refine FrTo.node ?_ ?_ ?_ | refine FrTo.none ?_ ?_ | exact VTo.sc (by first | rfl | (congr 1; omega) | (congr 1; simp; omega)) | exact VTos_dv _ _ | refine VTos.cons ?_ ?_ | exact VTos.nil | refine VTo.agg ?_ | refine VTo.tuple ?_ | refine VTo.func ?_ ?_ | exact VTo.fs | exact VTo.fp | exact VTo.nilptr | exact VTo.nilslice | exact VTo.nilfunc | exact VTo.ptr rfl | exact VTo.gl rfl | exact VTo.map rfl | exact VTo.glNil' (by decide) rfl rfl | exact VTo.fsNil (by decide) | exact VTo.fpPtr rfl | exact VTo.fsGl rfl (by first | rfl | exact flat_len encI_len _ | exact flat_len encS_len _ | exact flat_len encP_len _ | exact flat_len encL_len _ | exact flat_len encE_len _ | (simp [flat_len encP_len]; done) | simp [flat_len encI_len, flat_len encS_len]))) ?_)) trivial trivial rfl) (by repeat' (first | exact VTo.undef | exact FrTo.leaf | refine FrTo.node ?_ ?_ ?_ | refine FrTo.none ?_ ?_ | exact VTo.sc (by first | rfl | (congr 1; omega) | (congr 1; simp; omega)) | exact VTos_dv _ _ | refine VTos.cons ?_ ?_ | exact VTos.nil | refine VTo.agg ?_ | refine VTo.tuple ?_ | refine VTo.func ?_ ?_ | exact VTo.fs | exact VTo.fp | exact VTo.nilptr | exact VTo.nilslice | exact VTo.nilfunc | exact VTo.ptr rfl | exact VTo.gl rfl | exact VTo.map rfl | exact VTo.glNil' (by decide) rfl rfl | exact VTo.fsNil (by decide) | exact VTo.fpPtr rfl | exact VTo.fsGl rfl (by first | rfl | exact flat_len encI_len _ | exact flat_len encS_len _ | exact flat_len encP_len _ | exact flat_len encL_len _ | exact flat_len encE_len _ | (simp [flat_len encP_len]; done) | simp [flat_len encI_len, flat_len encS_len]))) (by first | rfl | (repeat' (first | exact MkTo.nil | refine MkTo.keep rfl ?_ | refine MkTo.drop (by decide) rfl ?_)))
  · rintro ⟨a, pre⟩ ⟨h1, h2, n, h3, h4⟩
    simp only at h1 h2 h3 h4
    have ha : t[a]? = some t[a] := List.getElem?_eq_getElem (by omega)
    have hp : t[p]? = some t[p] := List.getElem?_eq_getElem (by omega)
    have b1 := o.yr ha
    have b2 := o.yr hp
    have e1 := tAt_eq ha
    have e2 := tAt_eq hp
    have hla : lo < a → jmp f t lo a a < a := by intro h5; have := c.jmp_lt (a := a) (by omega) (by omega); rw [← hlo] at this; exact this
    have hJ := jmp_ge f t lo a a h1
    generalize t[a] = y at ha b1 e1
    generalize t[p] = z at hp b2 e2
    conv => whnf
    repeat' (first | (refine VLd.intro rfl ?_; conv => whnf) | (refine VArith.i64 (by omega) ?_; conv => whnf) | (refine VNeed.intro (by first | rfl | (simp; omega)) ?_; conv => whnf) | (refine VMem.store rfl rfl rfl rfl ?_; conv => whnf) | (refine VSame.intro rfl ?_; conv => whnf) | (refine VDraw.go [] (by kernel_rfl) (by kernel_rfl) ?_; conv => whnf) | (refine VIte.dec (fun _ => ?_) (fun _ => ?_) <;> conv => whnf) | (refine VIte.ndec (fun _ => ?_) (fun _ => ?_) <;> conv => whnf) | (refine VIte.beq (fun _ => ?_) (fun _ => ?_) <;> conv => whnf) | (refine VIte.bne (fun _ => ?_) (fun _ => ?_) <;> conv => whnf) | (refine VIte.intro (fun _ => ?_) (fun _ => ?_) <;> conv => whnf) | (refine VAny.ix encI_len a rfl rfl ha ?_; conv => whnf) | (refine VAny.ix encI_len p rfl rfl hp ?_; conv => whnf))
    · rename_i h5
      have hlo2 : lo < a := by
        rcases Nat.eq_or_lt_of_le h1 with h6 | h6
        · subst h6; omega
        · exact h6
      have hja := hla hlo2
      obtain ⟨n, rfl⟩ : ∃ m, n = m + 1 := ⟨n - 1, by omega⟩
      rw [fewS, if_pos (by omega)] at h4
      obtain ⟨J, hJe⟩ : ∃ J, J = jmp f t lo a a := ⟨_, rfl⟩
      rw [← hJe] at h4 hja hJ
      have hpl : pre.length ≤ 16 := by
        have := congrArg List.length h4
        simp at this; omega
      refine VCode.lp (fun x : Nat => [(1, ints t), (2, I p), (8, .fp (encDk f t)), (9, .ptr (.loc 0) 0), (11, .gl (.loc 1) 1 (pre ++ [(a : Int)]).length), (12, I a), (13, I x)])
        (fun _ => [.flat true [DI lo, DI hi], .flat true ((pre ++ [(a : Int)]).flatMap encI)]) (fun x => lo ≤ x ∧ x ≤ a ∧ J = jmp f t lo a x) (fun x => x) a ⟨h1, Nat.le_refl _, hJe⟩ ?_ ?_
      · conv => whnf
        refine Retell.turn ⟨[0,1], 2, [], []⟩ (TurnOk.mk' _ _ [] [] (OutOk.lift _) rfl (by decide) (by repeat' (first | exact BTos.nil | refine BTos.flat rfl rfl (by first | rfl | simp) ?_ | refine BTos.new rfl ?_ | refine BTos.dead rfl rfl ?_ | refine BTos.row rfl rfl rfl (RowTo.snoc (RowTo.one rfl (by simp))) ?_ | refine BTos.cells rfl rfl rfl (by repeat' (first | exact VTo.undef | exact FrTo.leaf | refine FrTo.node ?_ ?_ ?_ | refine FrTo.none ?_ ?_ | exact VTo.sc (by first | rfl | (congr 1; omega) | (congr 1; simp; omega)) | exact VTos_dv _ _ | refine VTos.cons ?_ ?_ | exact VTos.nil | refine VTo.agg ?_ | refine VTo.tuple ?_ | refine VTo.func ?_ ?_ | exact VTo.fs | exact VTo.fp | exact VTo.nilptr | exact VTo.nilslice | exact VTo.nilfunc | exact VTo.ptr rfl | exact VTo.gl rfl | exact VTo.map rfl | exact VTo.glNil' (by decide) rfl rfl | exact VTo.fsNil (by decide) | exact VTo.fpPtr rfl | exact VTo.fsGl rfl (by first | rfl | exact flat_len encI_len _ | exact flat_len encS_len _ | exact flat_len encP_len _ | exact flat_len encL_len _ | exact flat_len encE_len _ | (simp [flat_len encP_len]; done) | simp [flat_len encI_len, flat_len encS_len]))) ?_)) trivial trivial rfl) (by repeat' (first | exact VTo.undef | exact FrTo.leaf | refine FrTo.node ?_ ?_ ?_ | refine FrTo.none ?_ ?_ | exact VTo.sc (by first | rfl | (congr 1; omega) | (congr 1; simp; omega)) | exact VTos_dv _ _ | refine VTos.cons ?_ ?_ | exact VTos.nil | refine VTo.agg ?_ | refine VTo.tuple ?_ | refine VTo.func ?_ ?_ | exact VTo.fs | exact VTo.fp | exact VTo.nilptr | exact VTo.nilslice | exact VTo.nilfunc | exact VTo.ptr rfl | exact VTo.gl rfl | exact VTo.map rfl | exact VTo.glNil' (by decide) rfl rfl | exact VTo.fsNil (by decide) | exact VTo.fpPtr rfl | exact VTo.fsGl rfl (by first | rfl | exact flat_len encI_len _ | exact flat_len encS_len _ | exact flat_len encP_len _ | exact flat_len encL_len _ | exact flat_len encE_len _ | (simp [flat_len encP_len]; done) | simp [flat_len encI_len, flat_len encS_len]))) (by first | rfl | (repeat' (first | exact MkTo.nil | refine MkTo.keep rfl ?_ | refine MkTo.drop (by decide) rfl ?_)))
      · rintro x ⟨g1, g2, g3⟩
        have hx : t[x - 1]? = some t[x - 1] := List.getElem?_eq_getElem (by omega)
        have b3 := o.yr hx
        have e3 := tAt_eq hx
        generalize t[x - 1] = w at hx b3 e3
        have hne : ¬ (lo < x ∧ y - w ≤ f.G) → J = x := by
          intro hg
          rw [g3]
          cases x with
          | zero => rfl
          | succ x =>
            simp only [Nat.add_sub_cancel] at e3
            rw [jmp, if_neg (by omega)]
        have hfin2 : J = x → F = (pre ++ [(a : Int)]) ++ fewS f t lo p n x := by intro hg; rw [h4, hg, List.append_assoc]; rfl
        conv => whnf
        repeat' (first | (refine VLd.intro rfl ?_; conv => whnf) | (refine VArith.i64 (by omega) ?_; conv => whnf) | (refine VNeed.intro (by first | rfl | (simp; omega)) ?_; conv => whnf) | (refine VMem.store rfl rfl rfl rfl ?_; conv => whnf) | (refine VSame.intro rfl ?_; conv => whnf) | (refine VDraw.go [] (by kernel_rfl) (by kernel_rfl) ?_; conv => whnf) | (refine VIte.dec (fun _ => ?_) (fun _ => ?_) <;> conv => whnf) | (refine VIte.ndec (fun _ => ?_) (fun _ => ?_) <;> conv => whnf) | (refine VIte.beq (fun _ => ?_) (fun _ => ?_) <;> conv => whnf) | (refine VIte.bne (fun _ => ?_) (fun _ => ?_) <;> conv => whnf) | (refine VIte.intro (fun _ => ?_) (fun _ => ?_) <;> conv => whnf) | (refine VAny.ix encI_len a rfl rfl ha ?_; conv => whnf) | (refine VAny.ix encI_len (x - 1) (by omega) rfl hx ?_; conv => whnf))
        · obtain ⟨x, rfl⟩ : ∃ m, x = m + 1 := ⟨x - 1, by omega⟩
          simp only [Nat.add_sub_cancel] at e3
          rw [jmp, if_pos (by omega)] at g3
          refine LEnd.intro x ⟨by omega, by omega, g3⟩ (by omega) ?_
          conv => whnf
          refine Retell.turn ⟨[0,1], 2, [], []⟩ (TurnOk.mk' _ _ [] [] (OutOk.lift _) rfl (by decide) (by repeat' (first | exact BTos.nil | refine BTos.flat rfl rfl (by first | rfl | simp) ?_ | refine BTos.new rfl ?_ | refine BTos.dead rfl rfl ?_ | refine BTos.row rfl rfl rfl (RowTo.snoc (RowTo.one rfl (by simp))) ?_ | refine BTos.cells rfl rfl rfl (by repeat' (first | exact VTo.undef | exact FrTo.leaf | refine FrTo.node ?_ ?_ ?_ | refine FrTo.none ?_ ?_ | exact VTo.sc (by first | rfl | (congr 1; omega) | (congr 1; simp; omega)) | exact VTos_dv _ _ | refine VTos.cons ?_ ?_ | exact VTos.nil | refine VTo.agg ?_ | refine VTo.tuple ?_ | refine VTo.func ?_ ?_ | exact VTo.fs | exact VTo.fp | exact VTo.nilptr | exact VTo.nilslice | exact VTo.nilfunc | exact VTo.ptr rfl | exact VTo.gl rfl | exact VTo.map rfl | exact VTo.glNil' (by decide) rfl rfl | exact VTo.fsNil (by decide) | exact VTo.fpPtr rfl | exact VTo.fsGl rfl (by first | rfl | exact flat_len encI_len _ | exact flat_len encS_len _ | exact flat_len encP_len _ | exact flat_len encL_len _ | exact flat_len encE_len _ | (simp [flat_len encP_len]; done) | simp [flat_len encI_len, flat_len encS_len]))) ?_)) trivial trivial rfl) (by repeat' (first | exact VTo.undef | exact FrTo.leaf | refine FrTo.node ?_ ?_ ?_ | refine FrTo.none ?_ ?_ | exact VTo.sc (by first | rfl | (congr 1; omega) | (congr 1; simp; omega)) | exact VTos_dv _ _ | refine VTos.cons ?_ ?_ | exact VTos.nil | refine VTo.agg ?_ | refine VTo.tuple ?_ | refine VTo.func ?_ ?_ | exact VTo.fs | exact VTo.fp | exact VTo.nilptr | exact VTo.nilslice | exact VTo.nilfunc | exact VTo.ptr rfl | exact VTo.gl rfl | exact VTo.map rfl | exact VTo.glNil' (by decide) rfl rfl | exact VTo.fsNil (by decide) | exact VTo.fpPtr rfl | exact VTo.fsGl rfl (by first | rfl | exact flat_len encI_len _ | exact flat_len encS_len _ | exact flat_len encP_len _ | exact flat_len encL_len _ | exact flat_len encE_len _ | (simp [flat_len encP_len]; done) | simp [flat_len encI_len, flat_len encS_len]))) (by first | rfl | (repeat' (first | exact MkTo.nil | refine MkTo.keep rfl ?_ | refine MkTo.drop (by decide) rfl ?_)))
        · have hJx := hne (by omega)
          refine VMem.app1 (x : Int) encI_len rfl rfl rfl rfl rfl (by simp; omega) ?_
          conv => whnf
          repeat (first | (refine VLd.intro rfl ?_; conv => whnf) | (refine VArith.i64 (by omega) ?_; conv => whnf) | (refine VNeed.intro (by first | rfl | (simp; omega)) ?_; conv => whnf) | (refine VMem.store rfl rfl rfl rfl ?_; conv => whnf) | (refine VSame.intro rfl ?_; conv => whnf) | (refine VDraw.go [] (by kernel_rfl) (by kernel_rfl) ?_; conv => whnf))
          refine LEnd.intro (x, pre ++ [(a : Int)]) ⟨by omega, by omega, n, by omega, hfin2 hJx⟩ (by simp only; omega) ?_
          conv => whnf
          rw [List.length_append (bs := [(x : Int)])]
          refine Retell.turn ⟨[0,3], 4, [], []⟩ (TurnOk.mk' _ _ [] [] (OutOk.lift _) rfl (by decide) (by repeat' (first | exact BTos.nil | refine BTos.flat rfl rfl (by first | rfl | simp) ?_ | refine BTos.new rfl ?_ | refine BTos.dead rfl rfl ?_ | refine BTos.row rfl rfl rfl (RowTo.snoc (RowTo.one rfl (by simp))) ?_ | refine BTos.cells rfl rfl rfl (by repeat' (first | exact VTo.undef | exact FrTo.leaf | refine FrTo.node ?_ ?_ ?_ | refine FrTo.none ?_ ?_ | exact VTo.sc (by first | rfl | (congr 1; omega) | (congr 1; simp; omega)) | exact VTos_dv _ _ | refine VTos.cons ?_ ?_ | exact VTos.nil | refine VTo.agg ?_ | refine VTo.tuple ?_ | refine VTo.func ?_ ?_ | exact VTo.fs | exact VTo.fp | exact VTo.nilptr | exact VTo.nilslice | exact VTo.nilfunc | exact VTo.ptr rfl | exact VTo.gl rfl | exact VTo.map rfl | exact VTo.glNil' (by decide) rfl rfl | exact VTo.fsNil (by decide) | exact VTo.fpPtr rfl | exact VTo.fsGl rfl (by first | rfl | exact flat_len encI_len _ | exact flat_len encS_len _ | exact flat_len encP_len _ | exact flat_len encL_len _ | exact flat_len encE_len _ | (simp [flat_len encP_len]; done) | simp [flat_len encI_len, flat_len encS_len]))) ?_)) trivial trivial rfl) (by repeat' (first | exact VTo.undef | exact FrTo.leaf | refine FrTo.node ?_ ?_ ?_ | refine FrTo.none ?_ ?_ | exact VTo.sc (by first | rfl | (congr 1; omega) | (congr 1; simp; omega)) | exact VTos_dv _ _ | refine VTos.cons ?_ ?_ | exact VTos.nil | refine VTo.agg ?_ | refine VTo.tuple ?_ | refine VTo.func ?_ ?_ | exact VTo.fs | exact VTo.fp | exact VTo.nilptr | exact VTo.nilslice | exact VTo.nilfunc | exact VTo.ptr rfl | exact VTo.gl rfl | exact VTo.map rfl | exact VTo.glNil' (by decide) rfl rfl | exact VTo.fsNil (by decide) | exact VTo.fpPtr rfl | exact VTo.fsGl rfl (by first | rfl | exact flat_len encI_len _ | exact flat_len encS_len _ | exact flat_len encP_len _ | exact flat_len encL_len _ | exact flat_len encE_len _ | (simp [flat_len encP_len]; done) | simp [flat_len encI_len, flat_len encS_len]))) (by first | rfl | (repeat' (first | exact MkTo.nil | refine MkTo.keep rfl ?_ | refine MkTo.drop (by decide) rfl ?_)))
        · have hJx := hne (by omega)
          refine VMem.app1 (x : Int) encI_len rfl rfl rfl rfl rfl (by simp; omega) ?_
          conv => whnf
          repeat (first | (refine VLd.intro rfl ?_; conv => whnf) | (refine VArith.i64 (by omega) ?_; conv => whnf) | (refine VNeed.intro (by first | rfl | (simp; omega)) ?_; conv => whnf) | (refine VMem.store rfl rfl rfl rfl ?_; conv => whnf) | (refine VSame.intro rfl ?_; conv => whnf) | (refine VDraw.go [] (by kernel_rfl) (by kernel_rfl) ?_; conv => whnf))
          refine LEnd.intro (x, pre ++ [(a : Int)]) ⟨by omega, by omega, n, by omega, hfin2 hJx⟩ (by simp only; omega) ?_
          conv => whnf
          rw [List.length_append (bs := [(x : Int)])]
          refine Retell.turn ⟨[0,3], 4, [], []⟩ (TurnOk.mk' _ _ [] [] (OutOk.lift _) rfl (by decide) (by repeat' (first | exact BTos.nil | refine BTos.flat rfl rfl (by first | rfl | simp) ?_ | refine BTos.new rfl ?_ | refine BTos.dead rfl rfl ?_ | refine BTos.row rfl rfl rfl (RowTo.snoc (RowTo.one rfl (by simp))) ?_ | refine BTos.cells rfl rfl rfl (by repeat' (first | exact VTo.undef | exact FrTo.leaf | refine FrTo.node ?_ ?_ ?_ | refine FrTo.none ?_ ?_ | exact VTo.sc (by first | rfl | (congr 1; omega) | (congr 1; simp; omega)) | exact VTos_dv _ _ | refine VTos.cons ?_ ?_ | exact VTos.nil | refine VTo.agg ?_ | refine VTo.tuple ?_ | refine VTo.func ?_ ?_ | exact VTo.fs | exact VTo.fp | exact VTo.nilptr | exact VTo.nilslice | exact VTo.nilfunc | exact VTo.ptr rfl | exact VTo.gl rfl | exact VTo.map rfl | exact VTo.glNil' (by decide) rfl rfl | exact VTo.fsNil (by decide) | exact VTo.fpPtr rfl | exact VTo.fsGl rfl (by first | rfl | exact flat_len encI_len _ | exact flat_len encS_len _ | exact flat_len encP_len _ | exact flat_len encL_len _ | exact flat_len encE_len _ | (simp [flat_len encP_len]; done) | simp [flat_len encI_len, flat_len encS_len]))) ?_)) trivial trivial rfl) (by repeat' (first | exact VTo.undef | exact FrTo.leaf | refine FrTo.node ?_ ?_ ?_ | refine FrTo.none ?_ ?_ | exact VTo.sc (by first | rfl | (congr 1; omega) | (congr 1; simp; omega)) | exact VTos_dv _ _ | refine VTos.cons ?_ ?_ | exact VTos.nil | refine VTo.agg ?_ | refine VTo.tuple ?_ | refine VTo.func ?_ ?_ | exact VTo.fs | exact VTo.fp | exact VTo.nilptr | exact VTo.nilslice | exact VTo.nilfunc | exact VTo.ptr rfl | exact VTo.gl rfl | exact VTo.map rfl | exact VTo.glNil' (by decide) rfl rfl | exact VTo.fsNil (by decide) | exact VTo.fpPtr rfl | exact VTo.fsGl rfl (by first | rfl | exact flat_len encI_len _ | exact flat_len encS_len _ | exact flat_len encP_len _ | exact flat_len encL_len _ | exact flat_len encE_len _ | (simp [flat_len encP_len]; done) | simp [flat_len encI_len, flat_len encS_len]))) (by first | rfl | (repeat' (first | exact MkTo.nil | refine MkTo.keep rfl ?_ | refine MkTo.drop (by decide) rfl ?_)))
    · have hF2 : F = pre ++ [(a : Int)] := by
        rw [h4]
        cases n with
        | zero => rfl
        | succ n => rw [fewS, if_neg (by omega)]
      rw [← hF2]
      refine VMem.make (n := F.length) (0 : Int) encI_len rfl rfl rfl rfl rfl rfl (by omega) ?_
      conv => whnf
      repeat (first | (refine VLd.intro rfl ?_; conv => whnf) | (refine VArith.i64 (by omega) ?_; conv => whnf) | (refine VNeed.intro (by first | rfl | (simp; omega)) ?_; conv => whnf) | (refine VMem.store rfl rfl rfl rfl ?_; conv => whnf) | (refine VSame.intro rfl ?_; conv => whnf) | (refine VDraw.go [] (by kernel_rfl) (by kernel_rfl) ?_; conv => whnf))
      refine VMem.copyGl (l2 := F) encI_len rfl rfl rfl (by simp) rfl rfl ?_
      conv => whnf
      repeat (first | (refine VLd.intro rfl ?_; conv => whnf) | (refine VArith.i64 (by omega) ?_; conv => whnf) | (refine VNeed.intro (by first | rfl | (simp; omega)) ?_; conv => whnf) | (refine VMem.store rfl rfl rfl rfl ?_; conv => whnf) | (refine VSame.intro rfl ?_; conv => whnf) | (refine VDraw.go [] (by kernel_rfl) (by kernel_rfl) ?_; conv => whnf))
      refine VCall.intro (vc_reverse F (.loc 2) _ rfl (by omega)) ?_
      conv => whnf
      repeat (first | (refine VLd.intro rfl ?_; conv => whnf) | (refine VArith.i64 (by omega) ?_; conv => whnf) | (refine VNeed.intro (by first | rfl | (simp; omega)) ?_; conv => whnf) | (refine VMem.store rfl rfl rfl rfl ?_; conv => whnf) | (refine VSame.intro rfl ?_; conv => whnf) | (refine VDraw.go [] (by kernel_rfl) (by kernel_rfl) ?_; conv => whnf))
      rw [show ints F.reverse = .fs 1 F.length (F.reverse.flatMap encI) from by unfold ints; rw [List.length_reverse]]
      refine VOut.data 3 [(2, F.reverse.flatMap encI)] [] rfl (by repeat' (first | exact FzAll.nil | refine FzAll.flat rfl ?_ | refine FzAll.row rfl rfl (RowTo.one rfl (by simp)) ?_)) (by exact FmAll.nil) (by repeat' (first | exact VTo.undef | exact FrTo.leaf | refine FrTo.node ?_ ?_ ?_ | refine FrTo.none ?_ ?_ | exact VTo.sc (by first | rfl | (congr 1; omega) | (congr 1; simp; omega)) | exact VTos_dv _ _ | refine VTos.cons ?_ ?_ | exact VTos.nil | refine VTo.agg ?_ | refine VTo.tuple ?_ | refine VTo.func ?_ ?_ | exact VTo.fs | exact VTo.fp | exact VTo.nilptr | exact VTo.nilslice | exact VTo.nilfunc | exact VTo.ptr rfl | exact VTo.gl rfl | exact VTo.map rfl | exact VTo.glNil' (by decide) rfl rfl | exact VTo.fsNil (by decide) | exact VTo.fpPtr rfl | exact VTo.fsGl rfl (by first | rfl | exact flat_len encI_len _ | exact flat_len encS_len _ | exact flat_len encP_len _ | exact flat_len encL_len _ | exact flat_len encE_len _ | (simp [flat_len encP_len]; done) | simp [flat_len encI_len, flat_len encS_len])))
end Go.Proofs.Ytolnajnlcdacmaa

open Go.Vm
namespace Go.Proofs.Ytolnajnlcdacmaa
set_option maxRecDepth 20000
set_option maxHeartbeats 1000000

theorem fewS_mem {f : Fil} {t : List Int} {lo p : Nat} (hj : ∀ b, lo < b → b ≤ p → jmp f t lo b b < b) (hY : 1 ≤ f.Y) (hf : f.Y ≤ tAt t p - tAt t lo) : ∀ n a, lo ≤ a → a ≤ p → (∀ x ∈ fewS f t lo p n a, (lo : Int) ≤ x ∧ x ≤ a) ∧ (fewS f t lo p n a).Pairwise (· > ·)
  | 0, a, h1, h2 => by simp [fewS]; omega
  | n + 1, a, h1, h2 => by
    rw [fewS]
    split
    · rename_i h3
      have hne : lo < a := by
        rcases Nat.eq_or_lt_of_le h1 with h6 | h6
        · subst h6; omega
        · exact h6
      have h4 := hj a hne h2
      obtain ⟨i1, i2⟩ := fewS_mem hj hY hf n (jmp f t lo a a) (jmp_ge f t lo a a h1) (by omega)
      refine ⟨fun x hx => ?_, List.pairwise_cons.2 ⟨fun x hx => ?_, i2⟩⟩
      · rcases List.mem_cons.1 hx with rfl | hx
        · omega
        · have := i1 x hx; omega
      · have := i1 x hx; omega
    · simp; omega
theorem InCh.jmps {f : Fil} {t : List Int} {p hi : Nat} (c : InCh f t p hi) : ∀ b, fst f t p < b → b ≤ p → jmp f t (fst f t p) b b < b := fun b h1 h2 => by
  have := c.ph
  exact c.jmp_lt h1 (by omega)
theorem few_mem {f : Fil} {t : List Int} {p : Nat} (o : Shw f t p) : ∀ x ∈ few f t p, (fst f t p : Int) ≤ x ∧ x ≤ p := by
  obtain ⟨hi, c⟩ := InCh.of o
  intro x hx
  exact (fewS_mem c.jmps o.y.1 o.far p p (fst_le f t p) (Nat.le_refl _)).1 x (by simpa [few] using hx)
theorem few_asc {f : Fil} {t : List Int} {p : Nat} (o : Shw f t p) : (few f t p).Pairwise (· < ·) := by
  obtain ⟨hi, c⟩ := InCh.of o
  have := (fewS_mem c.jmps o.y.1 o.far p p (fst_le f t p) (Nat.le_refl _)).2
  rw [few, List.pairwise_reverse]
  exact this
theorem few_len {f : Fil} {t : List Int} {p : Nat} (o : Shw f t p) : 2 ≤ (few f t p).length ∧ (few f t p).length ≤ p + 1 := by
  have h1 := fewS_len f t (fst f t p) p p p
  refine ⟨?_, by simpa [few] using h1⟩
  rw [few, List.length_reverse]
  have h2 := o.far
  have h3 := o.y.1
  have hp : 0 < p := by
    rcases Nat.eq_zero_or_pos p with rfl | hp
    · have := fst_le f t 0
      rw [show fst f t 0 = 0 from by omega] at h2; omega
    · exact hp
  obtain ⟨q, rfl⟩ : ∃ q, p = q + 1 := ⟨p - 1, by omega⟩
  rw [fewS, if_pos (by omega)]
  have := fewS_ne f t (fst f t (q + 1)) (q + 1) q (jmp f t (fst f t (q + 1)) (q + 1) (q + 1))
  have := List.length_pos_iff.2 this
  simp only [List.length_cons]; omega
/-- The windows that prove the fewest. -/
def win (f : Fil) (t : List Int) (p : Nat) : List Int := (((few f t p).drop 1).take ((few f t p).length - 2)).map fun x => tAt t (x.toNat - 1)
theorem vc_Windows_no (f : Fil) (t : List Int) (p : Int) (h : Hp) (hn : f.ps.length ≤ 4000000) (hl : t.length ≤ 4000000) (h0 : showE f t p ≠ 0) : VC Try.prog 46 [vF f, ints t, I p] h (.tuple [.nilslice, I (showE f t p)]) h := by
  refine VC.body Try.func46 rfl Try.ntmps46 Try.call46 (h.grows_refl) rfl ?_; conv => whnf
  repeat' (first | (refine VLd.intro rfl ?_; conv => whnf) | (refine VArith.i64 (by omega) ?_; conv => whnf) | (refine VNeed.intro (by first | rfl | (simp; omega)) ?_; conv => whnf) | (refine VMem.store rfl rfl rfl rfl ?_; conv => whnf) | (refine VSame.intro rfl ?_; conv => whnf) | (refine VDraw.go [] (by kernel_rfl) (by kernel_rfl) ?_; conv => whnf) | (refine VIte.dec (fun _ => ?_) (fun _ => ?_) <;> conv => whnf) | (refine VIte.ndec (fun _ => ?_) (fun _ => ?_) <;> conv => whnf) | (refine VIte.beq (fun _ => ?_) (fun _ => ?_) <;> conv => whnf) | (refine VIte.bne (fun _ => ?_) (fun _ => ?_) <;> conv => whnf) | (refine VIte.intro (fun _ => ?_) (fun _ => ?_) <;> conv => whnf) | (refine VCall.intro (vc_Fewest_no f t p _ hn hl h0) ?_; conv => whnf))
  · exact VOut.same rfl
  · rename_i h1; exact absurd (by simpa using h1) h0
theorem vc_Windows_ok (f : Fil) (t : List Int) (p : Nat) (h : Hp) (hl : t.length ≤ 4000000) (h0 : toldE f t = 0) (o : Shw f t p) : VC Try.prog 46 [vF f, ints t, I p] h (.tuple [ints (win f t p), I 0]) h := by
  have hlen := o.len
  have hn' := o.n
  have hlt := o.lt
  have hfl := few_len o
  have hfm := few_mem o
  have hfa := few_asc o
  unfold win
  obtain ⟨F, hF⟩ : ∃ F, F = few f t p := ⟨_, rfl⟩
  rw [← hF] at hfl hfm hfa ⊢
  refine VC.body Try.func46 rfl Try.ntmps46 Try.call46 (h.grows_refl) rfl ?_; conv => whnf
  repeat' (first | (refine VLd.intro rfl ?_; conv => whnf) | (refine VArith.i64 (by omega) ?_; conv => whnf) | (refine VNeed.intro (by first | rfl | (simp; omega)) ?_; conv => whnf) | (refine VMem.store rfl rfl rfl rfl ?_; conv => whnf) | (refine VSame.intro rfl ?_; conv => whnf) | (refine VDraw.go [] (by kernel_rfl) (by kernel_rfl) ?_; conv => whnf) | (refine VIte.dec (fun _ => ?_) (fun _ => ?_) <;> conv => whnf) | (refine VIte.ndec (fun _ => ?_) (fun _ => ?_) <;> conv => whnf) | (refine VIte.beq (fun _ => ?_) (fun _ => ?_) <;> conv => whnf) | (refine VIte.bne (fun _ => ?_) (fun _ => ?_) <;> conv => whnf) | (refine VIte.intro (fun _ => ?_) (fun _ => ?_) <;> conv => whnf) | (refine VCall.intro (vc_Fewest_ok f t p _ hl h0 o) ?_; conv => whnf))
  rw [← hF]
  conv => whnf
  repeat (first | (refine VLd.intro rfl ?_; conv => whnf) | (refine VArith.i64 (by omega) ?_; conv => whnf) | (refine VNeed.intro (by first | rfl | (simp; omega)) ?_; conv => whnf) | (refine VMem.store rfl rfl rfl rfl ?_; conv => whnf) | (refine VSame.intro rfl ?_; conv => whnf) | (refine VDraw.go [] (by kernel_rfl) (by kernel_rfl) ?_; conv => whnf))
  refine VAny.sub encI_len rfl (by omega) ?_
  obtain ⟨M, hM⟩ : ∃ M, M = (F.drop 1).take (F.length - 2) := ⟨_, rfl⟩
  have hM2 : (F.drop (1 : Int).toNat).take ((F.length : Int) - 1 - 1).toNat = M := by rw [hM]; congr 1; omega
  have hml : M.length = F.length - 2 := by rw [hM]; simp; omega
  rw [hM2, ← hM]
  have hmm : ∀ x ∈ M, 1 ≤ x ∧ x ≤ p := by
    intro x hx
    have hx2 : x ∈ F := by rw [hM] at hx; exact List.mem_of_mem_drop (List.mem_of_mem_take hx)
    obtain ⟨a, r, rfl⟩ : ∃ a r, F = a :: r := by
      cases F with
      | nil => simp at hfl
      | cons a r => exact ⟨a, r, rfl⟩
    rw [hM] at hx
    have hx3 : x ∈ r := by simpa using List.mem_of_mem_take hx
    have h1 := (List.pairwise_cons.1 hfa).1 x hx3
    have h2 := hfm a (by simp)
    have h3 := hfm x hx2
    omega
  conv => whnf
  refine VCode.lp (fun k : Nat => [(1, ints t), (10, .gl (.loc 0) 1 k), (27, ints M), (28, I M.length), (29, I k)]) (fun k => [.flat true (((M.take k).map fun x => tAt t (x.toNat - 1)).flatMap encI)]) (fun k => k ≤ M.length) (fun k => M.length - k) 0 (Nat.zero_le _) ?_ ?_
  · conv => whnf
    refine Retell.turn ⟨[1], 1, [], []⟩ (TurnOk.mk' _ _ [] [] (OutOk.lift _) rfl (by decide) (by repeat' (first | exact BTos.nil | refine BTos.flat rfl rfl (by first | rfl | simp) ?_ | refine BTos.new rfl ?_ | refine BTos.dead rfl rfl ?_ | refine BTos.row rfl rfl rfl (RowTo.snoc (RowTo.one rfl (by simp))) ?_ | refine BTos.cells rfl rfl rfl (by repeat' (first | exact VTo.undef | exact FrTo.leaf | refine FrTo.node ?_ ?_ ?_ | refine FrTo.none ?_ ?_ | exact VTo.sc (by first | rfl | (congr 1; omega) | (congr 1; simp; omega)) | exact VTos_dv _ _ | refine VTos.cons ?_ ?_ | exact VTos.nil | refine VTo.agg ?_ | refine VTo.tuple ?_ | refine VTo.func ?_ ?_ | exact VTo.fs | exact VTo.fp | exact VTo.nilptr | exact VTo.nilslice | exact VTo.nilfunc | exact VTo.ptr rfl | exact VTo.gl rfl | exact VTo.map rfl | exact VTo.glNil' (by decide) rfl rfl | exact VTo.fsNil (by decide) | exact VTo.fpPtr rfl | exact VTo.fsGl rfl (by first | rfl | exact flat_len encI_len _ | exact flat_len encS_len _ | exact flat_len encP_len _ | exact flat_len encL_len _ | exact flat_len encE_len _ | (simp [flat_len encP_len]; done) | simp [flat_len encI_len, flat_len encS_len]))) ?_)) trivial trivial rfl) (by repeat' (first | exact VTo.undef | exact FrTo.leaf | refine FrTo.node ?_ ?_ ?_ | refine FrTo.none ?_ ?_ | exact VTo.sc (by first | rfl | (congr 1; omega) | (congr 1; simp; omega)) | exact VTos_dv _ _ | refine VTos.cons ?_ ?_ | exact VTos.nil | refine VTo.agg ?_ | refine VTo.tuple ?_ | refine VTo.func ?_ ?_ | exact VTo.fs | exact VTo.fp | exact VTo.nilptr | exact VTo.nilslice | exact VTo.nilfunc | exact VTo.ptr rfl | exact VTo.gl rfl | exact VTo.map rfl | exact VTo.glNil' (by decide) rfl rfl | exact VTo.fsNil (by decide) | exact VTo.fpPtr rfl | exact VTo.fsGl rfl (by first | rfl | exact flat_len encI_len _ | exact flat_len encS_len _ | exact flat_len encP_len _ | exact flat_len encL_len _ | exact flat_len encE_len _ | (simp [flat_len encP_len]; done) | simp [flat_len encI_len, flat_len encS_len]))) (by first | rfl | (repeat' (first | exact MkTo.nil | refine MkTo.keep rfl ?_ | refine MkTo.drop (by decide) rfl ?_)))
  · intro k hk
    conv => whnf
    refine VIte.dec (fun h3 => ?_) (fun h3 => ?_)
    · have hx : M[k]? = some M[k] := List.getElem?_eq_getElem (by omega)
      have hxm := hmm M[k] (List.getElem_mem (by omega))
      have hts : M.take (k + 1) = M.take k ++ [M[k]] := by rw [List.take_add_one, hx]; rfl
      generalize M[k] = x at hx hxm hts
      have hy : t[x.toNat - 1]? = some t[x.toNat - 1] := List.getElem?_eq_getElem (by omega)
      have e1 := tAt_eq hy
      generalize t[x.toNat - 1] = y at hy e1
      have hlk : ((M.take k).map fun x => tAt t (x.toNat - 1)).length = k := by simp; omega
      conv => whnf
      repeat' (first | (refine VLd.intro rfl ?_; conv => whnf) | (refine VArith.i64 (by omega) ?_; conv => whnf) | (refine VNeed.intro (by first | rfl | (simp; omega)) ?_; conv => whnf) | (refine VMem.store rfl rfl rfl rfl ?_; conv => whnf) | (refine VSame.intro rfl ?_; conv => whnf) | (refine VDraw.go [] (by kernel_rfl) (by kernel_rfl) ?_; conv => whnf) | (refine VIte.dec (fun _ => ?_) (fun _ => ?_) <;> conv => whnf) | (refine VIte.ndec (fun _ => ?_) (fun _ => ?_) <;> conv => whnf) | (refine VIte.beq (fun _ => ?_) (fun _ => ?_) <;> conv => whnf) | (refine VIte.bne (fun _ => ?_) (fun _ => ?_) <;> conv => whnf) | (refine VIte.intro (fun _ => ?_) (fun _ => ?_) <;> conv => whnf) | (refine VAny.ix encI_len k rfl rfl hx ?_; conv => whnf) | (refine VAny.ix encI_len (x.toNat - 1) (by omega) rfl hy ?_; conv => whnf))
      refine VMem.app1 (l := (M.take k).map fun x => tAt t (x.toNat - 1)) y encI_len rfl rfl rfl hlk.symm rfl (by omega) ?_
      conv => whnf
      repeat (first | (refine VLd.intro rfl ?_; conv => whnf) | (refine VArith.i64 (by omega) ?_; conv => whnf) | (refine VNeed.intro (by first | rfl | (simp; omega)) ?_; conv => whnf) | (refine VMem.store rfl rfl rfl rfl ?_; conv => whnf) | (refine VSame.intro rfl ?_; conv => whnf) | (refine VDraw.go [] (by kernel_rfl) (by kernel_rfl) ?_; conv => whnf))
      refine LEnd.intro (k + 1) (by omega) (by omega) ?_
      conv => whnf
      rw [hts, List.map_append, List.map_cons, e1, List.map_nil]
      refine Retell.turn ⟨[2], 3, [], []⟩ (TurnOk.mk' _ _ [] [] (OutOk.lift _) rfl (by decide) (by repeat' (first | exact BTos.nil | refine BTos.flat rfl rfl (by first | rfl | simp) ?_ | refine BTos.new rfl ?_ | refine BTos.dead rfl rfl ?_ | refine BTos.row rfl rfl rfl (RowTo.snoc (RowTo.one rfl (by simp))) ?_ | refine BTos.cells rfl rfl rfl (by repeat' (first | exact VTo.undef | exact FrTo.leaf | refine FrTo.node ?_ ?_ ?_ | refine FrTo.none ?_ ?_ | exact VTo.sc (by first | rfl | (congr 1; omega) | (congr 1; simp; omega)) | exact VTos_dv _ _ | refine VTos.cons ?_ ?_ | exact VTos.nil | refine VTo.agg ?_ | refine VTo.tuple ?_ | refine VTo.func ?_ ?_ | exact VTo.fs | exact VTo.fp | exact VTo.nilptr | exact VTo.nilslice | exact VTo.nilfunc | exact VTo.ptr rfl | exact VTo.gl rfl | exact VTo.map rfl | exact VTo.glNil' (by decide) rfl rfl | exact VTo.fsNil (by decide) | exact VTo.fpPtr rfl | exact VTo.fsGl rfl (by first | rfl | exact flat_len encI_len _ | exact flat_len encS_len _ | exact flat_len encP_len _ | exact flat_len encL_len _ | exact flat_len encE_len _ | (simp [flat_len encP_len]; done) | simp [flat_len encI_len, flat_len encS_len]))) ?_)) trivial trivial rfl) (by repeat' (first | exact VTo.undef | exact FrTo.leaf | refine FrTo.node ?_ ?_ ?_ | refine FrTo.none ?_ ?_ | exact VTo.sc (by first | rfl | (congr 1; omega) | (congr 1; simp; omega)) | exact VTos_dv _ _ | refine VTos.cons ?_ ?_ | exact VTos.nil | refine VTo.agg ?_ | refine VTo.tuple ?_ | refine VTo.func ?_ ?_ | exact VTo.fs | exact VTo.fp | exact VTo.nilptr | exact VTo.nilslice | exact VTo.nilfunc | exact VTo.ptr rfl | exact VTo.gl rfl | exact VTo.map rfl | exact VTo.glNil' (by decide) rfl rfl | exact VTo.fsNil (by decide) | exact VTo.fpPtr rfl | exact VTo.fsGl rfl (by first | rfl | exact flat_len encI_len _ | exact flat_len encS_len _ | exact flat_len encP_len _ | exact flat_len encL_len _ | exact flat_len encE_len _ | (simp [flat_len encP_len]; done) | simp [flat_len encI_len, flat_len encS_len]))) (by first | rfl | (repeat' (first | exact MkTo.nil | refine MkTo.keep rfl ?_ | refine MkTo.drop (by decide) rfl ?_)))
    · conv => whnf
      have hk' : k = M.length := by omega
      subst hk'
      rw [List.take_of_length_le (Nat.le_refl _), show ints (M.map fun x => tAt t (x.toNat - 1)) = .fs 1 M.length ((M.map fun x => tAt t (x.toNat - 1)).flatMap encI) from by unfold ints; rw [List.length_map]]
      repeat (first | (refine VLd.intro rfl ?_; conv => whnf) | (refine VArith.i64 (by omega) ?_; conv => whnf) | (refine VNeed.intro (by first | rfl | (simp; omega)) ?_; conv => whnf) | (refine VMem.store rfl rfl rfl rfl ?_; conv => whnf) | (refine VSame.intro rfl ?_; conv => whnf) | (refine VDraw.go [] (by kernel_rfl) (by kernel_rfl) ?_; conv => whnf))
      refine VOut.data 1 [(0, (M.map fun x => tAt t (x.toNat - 1)).flatMap encI)] [] rfl (by repeat' (first | exact FzAll.nil | refine FzAll.flat rfl ?_ | refine FzAll.row rfl rfl (RowTo.one rfl (by simp)) ?_)) (by exact FmAll.nil) (by repeat' (first | exact VTo.undef | exact FrTo.leaf | refine FrTo.node ?_ ?_ ?_ | refine FrTo.none ?_ ?_ | exact VTo.sc (by first | rfl | (congr 1; omega) | (congr 1; simp; omega)) | exact VTos_dv _ _ | refine VTos.cons ?_ ?_ | exact VTos.nil | refine VTo.agg ?_ | refine VTo.tuple ?_ | refine VTo.func ?_ ?_ | exact VTo.fs | exact VTo.fp | exact VTo.nilptr | exact VTo.nilslice | exact VTo.nilfunc | exact VTo.ptr rfl | exact VTo.gl rfl | exact VTo.map rfl | exact VTo.glNil' (by decide) rfl rfl | exact VTo.fsNil (by decide) | exact VTo.fpPtr rfl | exact VTo.fsGl rfl (by first | rfl | exact flat_len encI_len _ | exact flat_len encS_len _ | exact flat_len encP_len _ | exact flat_len encL_len _ | exact flat_len encE_len _ | (simp [flat_len encP_len]; done) | simp [flat_len encI_len, flat_len encS_len])))
end Go.Proofs.Ytolnajnlcdacmaa

open Go.Vm
namespace Go.Proofs.Ytolnajnlcdacmaa
set_option maxRecDepth 20000
set_option maxHeartbeats 1000000

/-- All are numbers of papers. -/
def inR (n : Nat) (l : List Int) : Bool := l.all fun x => decide (0 ≤ x ∧ x ≤ (n : Int) - 1)
theorem eachS_all (q : Int → Bool) : ∀ (l : List Int) (k : Nat), eachS (fun _ x => q x) k l = l.all q
  | [], _ => rfl
  | x :: l, k => by rw [eachS, eachS_all q l, List.all_cons]
theorem inR_mem {n : Nat} {l : List Int} (h : inR n l = true) {x : Int} (hx : x ∈ l) : 0 ≤ x ∧ x < n := by
  have := List.all_eq_true.1 h x hx
  rw [decide_eq_true_eq] at this; omega
theorem inR_get {n : Nat} {l : List Int} (h : inR n l = true) {i : Nat} {x : Int} (hx : l[i]? = some x) : 0 ≤ x ∧ x < n := inR_mem h (List.mem_of_getElem? hx)
/-- A paper goes on from the one ahead of it in a list. -/
def nx (f : Fil) (t l : List Int) (i : Nat) (x : Int) : Bool := decide (i = 0 ∨ (l.getD (i - 1) 0 < x ∧ tAt t x.toNat - tAt t (l.getD (i - 1) 0).toNat ≤ f.G))
/-- Papers show a right. -/
def shB (f : Fil) (t : List Int) (p : Nat) (l : List Int) : Bool :=
  decide (l.length ≠ 0 ∧ l.getD (l.length - 1) 0 = p ∧ (fst f t p : Int) ≤ l.getD 0 0 ∧ f.Y ≤ tAt t p - tAt t (l.getD 0 0).toNat) && eachS (nx f t l) 0 l
theorem vc_sh1 (t : List Int) (i : Nat) (x : Int) (h : Hp) (hl : t.length ≤ 4000000) : VC Try.prog 80 [I i, I x, .fp [dints t]] h (B (decide (0 ≤ x ∧ x ≤ (t.length : Int) - 1))) h := by
  refine VC.body Try.func80 rfl Try.ntmps80 Try.call80 (h.grows_refl) rfl ?_; conv => whnf
  repeat' (first | (refine VLd.intro rfl ?_; conv => whnf) | (refine VArith.i64 (by omega) ?_; conv => whnf) | (refine VNeed.intro (by first | rfl | (simp; omega)) ?_; conv => whnf) | (refine VMem.store rfl rfl rfl rfl ?_; conv => whnf) | (refine VSame.intro rfl ?_; conv => whnf) | (refine VDraw.go [] (by kernel_rfl) (by kernel_rfl) ?_; conv => whnf) | (refine VIte.dec (fun _ => ?_) (fun _ => ?_) <;> conv => whnf) | (refine VIte.ndec (fun _ => ?_) (fun _ => ?_) <;> conv => whnf) | (refine VIte.beq (fun _ => ?_) (fun _ => ?_) <;> conv => whnf) | (refine VIte.bne (fun _ => ?_) (fun _ => ?_) <;> conv => whnf) | (refine VIte.intro (fun _ => ?_) (fun _ => ?_) <;> conv => whnf) | (refine VCall.intro (vc_from _ _ _ _) ?_; conv => whnf))
  all_goals (refine VOut.dec ?_; first | (simp only [decide_eq_true_eq]; omega) | (simp; omega) | (simp; done))
theorem vc_sh2 (f : Fil) (t l : List Int) (i : Nat) (x : Int) (h : Hp) (o : Okt f t) (hl : l.length ≤ 4000000) (hr : inR t.length l = true) (hx : l[i]? = some x) : VC Try.prog 81 [I i, I x, .fp [dints l], .fp [dints t], .fp [.pt (encDk f t)]] h (B (nx f t l i x)) h := by
  have hil : i < l.length := by obtain ⟨h1, _⟩ := List.getElem?_eq_some_iff.1 hx; exact h1
  have hz : l[i - 1]? = some l[i - 1] := List.getElem?_eq_getElem (by omega)
  have b1 := inR_get hr hx
  have b2 := inR_get hr hz
  have e2 : l.getD (i - 1) 0 = l[i - 1] := by simp [hz]
  unfold nx
  rw [e2]
  generalize l[i - 1] = z at hz b2
  have hy : t[x.toNat]? = some t[x.toNat] := List.getElem?_eq_getElem (by omega)
  have hw : t[z.toNat]? = some t[z.toNat] := List.getElem?_eq_getElem (by omega)
  have b3 := o.yr hy
  have b4 := o.yr hw
  rw [tAt_eq hy, tAt_eq hw]
  generalize t[x.toNat] = y at hy b3
  generalize t[z.toNat] = w at hw b4
  refine VC.body Try.func81 rfl Try.ntmps81 Try.call81 (h.grows_refl) rfl ?_; conv => whnf
  repeat' (first | (refine VLd.intro rfl ?_; conv => whnf) | (refine VArith.i64 (by omega) ?_; conv => whnf) | (refine VNeed.intro (by first | rfl | (simp; omega)) ?_; conv => whnf) | (refine VMem.store rfl rfl rfl rfl ?_; conv => whnf) | (refine VSame.intro rfl ?_; conv => whnf) | (refine VDraw.go [] (by kernel_rfl) (by kernel_rfl) ?_; conv => whnf) | (refine VIte.dec (fun _ => ?_) (fun _ => ?_) <;> conv => whnf) | (refine VIte.ndec (fun _ => ?_) (fun _ => ?_) <;> conv => whnf) | (refine VIte.beq (fun _ => ?_) (fun _ => ?_) <;> conv => whnf) | (refine VIte.bne (fun _ => ?_) (fun _ => ?_) <;> conv => whnf) | (refine VIte.intro (fun _ => ?_) (fun _ => ?_) <;> conv => whnf) | (refine VAny.ix encI_len (i - 1) (by omega) rfl hz ?_; conv => whnf) | (refine VAny.ix encI_len x.toNat (by omega) rfl hy ?_; conv => whnf) | (refine VAny.ix encI_len z.toNat (by omega) rfl hw ?_; conv => whnf))
  all_goals (refine VOut.dec ?_; first | (simp only [decide_eq_true_eq]; omega) | (simp; omega) | (simp; done))
theorem vc_Shows_no (f : Fil) (t : List Int) (p : Int) (l : List Int) (h : Hp) (hn : f.ps.length ≤ 4000000) (hl : t.length ≤ 4000000) (h0 : showE f t p ≠ 0) : VC Try.prog 49 [vF f, ints t, I p, ints l] h (.tuple [B false, I (showE f t p)]) h := by
  refine VC.body Try.func49 rfl Try.ntmps49 Try.call49 (h.grows_refl) rfl ?_; conv => whnf
  repeat' (first | (refine VLd.intro rfl ?_; conv => whnf) | (refine VArith.i64 (by omega) ?_; conv => whnf) | (refine VNeed.intro (by first | rfl | (simp; omega)) ?_; conv => whnf) | (refine VMem.store rfl rfl rfl rfl ?_; conv => whnf) | (refine VSame.intro rfl ?_; conv => whnf) | (refine VDraw.go [] (by kernel_rfl) (by kernel_rfl) ?_; conv => whnf) | (refine VIte.dec (fun _ => ?_) (fun _ => ?_) <;> conv => whnf) | (refine VIte.ndec (fun _ => ?_) (fun _ => ?_) <;> conv => whnf) | (refine VIte.beq (fun _ => ?_) (fun _ => ?_) <;> conv => whnf) | (refine VIte.bne (fun _ => ?_) (fun _ => ?_) <;> conv => whnf) | (refine VIte.intro (fun _ => ?_) (fun _ => ?_) <;> conv => whnf) | (refine VCall.intro (vc_shown_no f t p _ hn hl h0) ?_; conv => whnf))
  · exact VOut.same rfl
  all_goals (rename_i h1; exact absurd (by simpa using h1) h0)
theorem vc_Shows_ok (f : Fil) (t : List Int) (p : Nat) (l : List Int) (h : Hp) (hl : t.length ≤ 4000000) (hl2 : l.length ≤ 4000000) (h0 : toldE f t = 0) (o : Shw f t p) :
    VC Try.prog 49 [vF f, ints t, I p, ints l] h (.tuple [B (inR t.length l && shB f t p l), I (bif inR t.length l then 0 else 2)]) h := by
  have hlen := o.len
  have hn' := o.n
  have hlt := o.lt
  obtain ⟨hi, c⟩ := InCh.of o
  refine VC.bodyC 2 Try.func49 rfl Try.ntmps49 Try.call49 (h.grows_refl) rfl ?_; conv => whnf
  repeat' (first | (refine VLd.intro rfl ?_; conv => whnf) | (refine VArith.i64 (by omega) ?_; conv => whnf) | (refine VNeed.intro (by first | rfl | (simp; omega)) ?_; conv => whnf) | (refine VMem.store rfl rfl rfl rfl ?_; conv => whnf) | (refine VSame.intro rfl ?_; conv => whnf) | (refine VDraw.go [] (by kernel_rfl) (by kernel_rfl) ?_; conv => whnf) | (refine VIte.dec (fun _ => ?_) (fun _ => ?_) <;> conv => whnf) | (refine VIte.ndec (fun _ => ?_) (fun _ => ?_) <;> conv => whnf) | (refine VIte.beq (fun _ => ?_) (fun _ => ?_) <;> conv => whnf) | (refine VIte.bne (fun _ => ?_) (fun _ => ?_) <;> conv => whnf) | (refine VIte.intro (fun _ => ?_) (fun _ => ?_) <;> conv => whnf) | (refine VCall.intro (vc_shown_ok f t p hi _ hl o h0 c.hc) ?_; conv => whnf))
  refine VCut.at [(1, ints t), (2, I p), (4, .fp (encF f)), (5, .fp [dints t]), (7, .fp [dints l]), (8, B false), (9, I 0), (10, .fp [.pt (encDk f t)]), (11, .fp [DI (fst f t p), DI hi]), (12, I 0)] [] ?_ ?_
  · conv => whnf
    refine Retell.turn ⟨[], 5, [(0, encF f), (1, [dints t]), (2, [dints l]), (3, [.pt (encDk f t)]), (4, [DI (fst f t p), DI hi])], []⟩ (TurnOk.mk' _ _ [(0, encF f), (1, [dints t]), (2, [dints l]), (3, [.pt (encDk f t)]), (4, [DI (fst f t p), DI hi])] [] (OutOk.lift _) rfl (by decide) (by repeat' (first | exact BTos.nil | refine BTos.flat rfl rfl (by first | rfl | simp) ?_ | refine BTos.new rfl ?_ | refine BTos.dead rfl rfl ?_ | refine BTos.row rfl rfl rfl (RowTo.snoc (RowTo.one rfl (by simp))) ?_ | refine BTos.cells rfl rfl rfl (by repeat' (first | exact VTo.undef | exact FrTo.leaf | refine FrTo.node ?_ ?_ ?_ | refine FrTo.none ?_ ?_ | exact VTo.sc (by first | rfl | (congr 1; omega) | (congr 1; simp; omega)) | exact VTos_dv _ _ | refine VTos.cons ?_ ?_ | exact VTos.nil | refine VTo.agg ?_ | refine VTo.tuple ?_ | refine VTo.func ?_ ?_ | exact VTo.fs | exact VTo.fp | exact VTo.nilptr | exact VTo.nilslice | exact VTo.nilfunc | exact VTo.ptr rfl | exact VTo.gl rfl | exact VTo.map rfl | exact VTo.glNil' (by decide) rfl rfl | exact VTo.fsNil (by decide) | exact VTo.fpPtr rfl | exact VTo.fsGl rfl (by first | rfl | exact flat_len encI_len _ | exact flat_len encS_len _ | exact flat_len encP_len _ | exact flat_len encL_len _ | exact flat_len encE_len _ | (simp [flat_len encP_len]; done) | simp [flat_len encI_len, flat_len encS_len]))) ?_)) (by repeat' (first | exact FzAll.nil | refine FzAll.flat rfl ?_ | refine FzAll.row rfl rfl (RowTo.one rfl (by simp)) ?_)) trivial rfl) (by repeat' (first | exact VTo.undef | exact FrTo.leaf | refine FrTo.node ?_ ?_ ?_ | refine FrTo.none ?_ ?_ | exact VTo.sc (by first | rfl | (congr 1; omega) | (congr 1; simp; omega)) | exact VTos_dv _ _ | refine VTos.cons ?_ ?_ | exact VTos.nil | refine VTo.agg ?_ | refine VTo.tuple ?_ | refine VTo.func ?_ ?_ | exact VTo.fs | exact VTo.fp | exact VTo.nilptr | exact VTo.nilslice | exact VTo.nilfunc | exact VTo.ptr rfl | exact VTo.gl rfl | exact VTo.map rfl | exact VTo.glNil' (by decide) rfl rfl | exact VTo.fsNil (by decide) | exact VTo.fpPtr rfl | exact VTo.fsGl rfl (by first | rfl | exact flat_len encI_len _ | exact flat_len encS_len _ | exact flat_len encP_len _ | exact flat_len encL_len _ | exact flat_len encE_len _ | (simp [flat_len encP_len]; done) | simp [flat_len encI_len, flat_len encS_len]))) (by first | rfl | (repeat' (first | exact MkTo.nil | refine MkTo.keep rfl ?_ | refine MkTo.drop (by decide) rfl ?_)))
  · conv => whnf
    repeat (first | (refine VLd.intro rfl ?_; conv => whnf) | (refine VArith.i64 (by omega) ?_; conv => whnf) | (refine VNeed.intro (by first | rfl | (simp; omega)) ?_; conv => whnf) | (refine VMem.store rfl rfl rfl rfl ?_; conv => whnf) | (refine VSame.intro rfl ?_; conv => whnf) | (refine VDraw.go [] (by kernel_rfl) (by kernel_rfl) ?_; conv => whnf))
    refine VCall.intro (vc_each l (fun _ x => decide (0 ≤ x ∧ x ≤ (t.length : Int) - 1)) 80 [.pt [dints t]] hl2 (fun i x h hx => vc_sh1 t i x h hl) _) ?_
    rw [eachS_all]
    rw [show (l.all fun x => decide (0 ≤ x ∧ x ≤ (t.length : Int) - 1)) = inR t.length l from rfl]
    cases hR : inR t.length l
    · conv => whnf
      repeat (first | (refine VLd.intro rfl ?_; conv => whnf) | (refine VArith.i64 (by omega) ?_; conv => whnf) | (refine VNeed.intro (by first | rfl | (simp; omega)) ?_; conv => whnf) | (refine VMem.store rfl rfl rfl rfl ?_; conv => whnf) | (refine VSame.intro rfl ?_; conv => whnf) | (refine VDraw.go [] (by kernel_rfl) (by kernel_rfl) ?_; conv => whnf))
      exact VOut.same rfl
    · rw [Bool.true_and, shB]
      conv => whnf
      rcases Nat.eq_zero_or_pos l.length with hz | hz
      · rw [decide_eq_false (by omega), Bool.false_and]
        repeat' (first | (refine VLd.intro rfl ?_; conv => whnf) | (refine VArith.i64 (by omega) ?_; conv => whnf) | (refine VNeed.intro (by first | rfl | (simp; omega)) ?_; conv => whnf) | (refine VMem.store rfl rfl rfl rfl ?_; conv => whnf) | (refine VSame.intro rfl ?_; conv => whnf) | (refine VDraw.go [] (by kernel_rfl) (by kernel_rfl) ?_; conv => whnf) | (refine VIte.dec (fun _ => ?_) (fun _ => ?_) <;> conv => whnf) | (refine VIte.ndec (fun _ => ?_) (fun _ => ?_) <;> conv => whnf) | (refine VIte.beq (fun _ => ?_) (fun _ => ?_) <;> conv => whnf) | (refine VIte.bne (fun _ => ?_) (fun _ => ?_) <;> conv => whnf) | (refine VIte.intro (fun _ => ?_) (fun _ => ?_) <;> conv => whnf))
        · exact VOut.same rfl
        all_goals omega
      · have ha : l[0]? = some l[0] := List.getElem?_eq_getElem (by omega)
        have hb : l[l.length - 1]? = some l[l.length - 1] := List.getElem?_eq_getElem (by omega)
        have ra := inR_get hR ha
        have rb := inR_get hR hb
        have e1 : l.getD 0 0 = l[0] := by simp [ha]
        have e2 : l.getD (l.length - 1) 0 = l[l.length - 1] := by simp [hb]
        rw [e1, e2]
        generalize l[0] = a at ha ra
        generalize l[l.length - 1] = z at hb rb
        have hy : t[p]? = some t[p] := List.getElem?_eq_getElem (by omega)
        have hw : t[a.toNat]? = some t[a.toNat] := List.getElem?_eq_getElem (by omega)
        have b3 := o.yr hy
        have b4 := o.yr hw
        rw [tAt_eq hy, tAt_eq hw]
        generalize t[p] = y at hy b3
        generalize t[a.toNat] = w at hw b4
        have key : VC Try.prog 79 [ints l, .func (.func 81) [] (D.vs [.pt [dints l], .pt [dints t], .pt [.pt (encDk f t)]])] ⟨h.lift, []⟩ (B (eachS (nx f t l) 0 l)) ⟨h.lift, []⟩ :=
          vc_each l (nx f t l) 81 [.pt [dints l], .pt [dints t], .pt [.pt (encDk f t)]] hl2 (fun i x h hx => vc_sh2 f t l i x h o.toOkt hl2 hR hx) _
        repeat' (first | (refine VLd.intro rfl ?_; conv => whnf) | (refine VArith.i64 (by omega) ?_; conv => whnf) | (refine VNeed.intro (by first | rfl | (simp; omega)) ?_; conv => whnf) | (refine VMem.store rfl rfl rfl rfl ?_; conv => whnf) | (refine VSame.intro rfl ?_; conv => whnf) | (refine VDraw.go [] (by kernel_rfl) (by kernel_rfl) ?_; conv => whnf) | (refine VIte.dec (fun _ => ?_) (fun _ => ?_) <;> conv => whnf) | (refine VIte.ndec (fun _ => ?_) (fun _ => ?_) <;> conv => whnf) | (refine VIte.beq (fun _ => ?_) (fun _ => ?_) <;> conv => whnf) | (refine VIte.bne (fun _ => ?_) (fun _ => ?_) <;> conv => whnf) | (refine VIte.intro (fun _ => ?_) (fun _ => ?_) <;> conv => whnf) | (refine VAny.ix encI_len (l.length - 1) (by omega) rfl hb ?_; conv => whnf) | (refine VAny.ix encI_len 0 (by omega) rfl ha ?_; conv => whnf) | (refine VAny.ix encI_len p (by omega) rfl hy ?_; conv => whnf) | (refine VAny.ix encI_len a.toNat (by omega) rfl hw ?_; conv => whnf) | (refine VCall.intro key ?_; conv => whnf))
        all_goals (try omega)
        all_goals (first | (rw [decide_eq_true (by omega), Bool.true_and]; exact VOut.same rfl) | (rw [decide_eq_false (by omega), Bool.false_and]; exact VOut.same rfl))
end Go.Proofs.Ytolnajnlcdacmaa

open Go.Vm
namespace Go.Proofs.Ytolnajnlcdacmaa
set_option maxRecDepth 20000
set_option maxHeartbeats 1000000

theorem eachS_iff {q : Nat → Int → Bool} : ∀ {l : List Int} {k : Nat}, eachS q k l = true ↔ ∀ i x, l[i]? = some x → q (k + i) x = true
  | [], k => by simp [eachS]
  | a :: l, k => by
    rw [eachS, Bool.and_eq_true, eachS_iff]
    constructor
    · rintro ⟨h1, h2⟩ i x hx
      cases i with
      | zero => simp at hx; subst hx; exact h1
      | succ i => have := h2 i x (by simpa using hx); rwa [Nat.add_assoc, Nat.add_comm 1 i] at this
    · intro h
      refine ⟨h 0 a rfl, fun i x hx => ?_⟩
      have := h (i + 1) x (by simpa using hx)
      rwa [Nat.add_assoc, Nat.add_comm 1 i]
theorem eachS_drop {q : Nat → Int → Bool} {l : List Int} {k : Nat} {x : Int} (hx : l[k]? = some x) : eachS q k (l.drop k) = (q k x && eachS q (k + 1) (l.drop (k + 1))) := by
  obtain ⟨h1, rfl⟩ := List.getElem?_eq_some_iff.1 hx
  rw [List.drop_eq_getElem_cons h1, eachS]
/-- Papers go on and on: they ascend. -/
theorem nx_asc {f : Fil} {t l : List Int} (h : eachS (nx f t l) 0 l = true) {i : Nat} : ∀ {j : Nat} {x y : Int}, i < j → l[i]? = some x → l[j]? = some y → x < y
  | 0, _, _, h1, _, _ => by omega
  | j + 1, x, y, h1, hx, hy => by
    have hlt : j + 1 < l.length := by obtain ⟨h2, _⟩ := List.getElem?_eq_some_iff.1 hy; exact h2
    have hz : l[j]? = some l[j] := List.getElem?_eq_getElem (by omega)
    have h2 := eachS_iff.1 h (j + 1) y hy
    rw [Nat.zero_add, nx, decide_eq_true_eq] at h2
    have e1 : l.getD (j + 1 - 1) 0 = l[j] := by simp [hz]
    rw [e1] at h2
    have h3 : l[j] < y := by omega
    rcases Nat.eq_or_lt_of_le (Nat.le_of_lt_succ h1) with h4 | h4
    · subst h4; rw [hz] at hx; cases hx; exact h3
    · exact Int.lt_trans (nx_asc h h4 hx hz) h3
/-- What the reference asks of each paper of a list. -/
def rs (f : Fil) (t l : List Int) (p : Nat) (i : Nat) (x : Int) : Bool := decide (x ≤ p ∧ fst f t x.toNat = fst f t p ∧ (i = 0 ∨ (l.getD (i - 1) 0 < x ∧ tAt t x.toNat - tAt t (l.getD (i - 1) 0).toNat ≤ f.G)))
theorem rs_eq {f : Fil} {t l : List Int} {p : Nat} (o : Shw f t p) (hR : inR t.length l = true) {a : Int} (ha : l[0]? = some a) (hb : l[l.length - 1]? = some (p : Int)) :
    (decide ((fst f t p : Int) ≤ a) && eachS (nx f t l) 0 l) = eachS (rs f t l p) 0 l := by
  obtain ⟨hi, c⟩ := InCh.of o
  rw [Bool.eq_iff_iff, Bool.and_eq_true, decide_eq_true_eq]
  constructor
  · rintro ⟨h1, h2⟩
    refine eachS_iff.2 fun i x hx => ?_
    have h3 := eachS_iff.1 h2 i x hx
    have rx := inR_get hR hx
    rw [Nat.zero_add] at h3 ⊢
    unfold nx at h3
    unfold rs
    rw [decide_eq_true_eq] at h3 ⊢
    have hle : x ≤ p := by
      obtain ⟨h4, _⟩ := List.getElem?_eq_some_iff.1 hx
      rcases Nat.eq_or_lt_of_le (Nat.le_sub_one_of_lt h4) with h5 | h5
      · subst h5; rw [hb] at hx; cases hx; exact Int.le_refl _
      · exact Int.le_of_lt (nx_asc h2 h5 hx hb)
    have hge : a ≤ x := by
      rcases Nat.eq_zero_or_pos i with h5 | h5
      · subst h5; rw [ha] at hx; cases hx; exact Int.le_refl _
      · exact Int.le_of_lt (nx_asc h2 h5 ha hx)
    refine ⟨hle, ?_, h3⟩
    have := c.ph
    exact fst_seg c.hb c.hn x.toNat (by omega) (by omega)
  · intro h
    constructor
    · have h1 := eachS_iff.1 h 0 a ha
      have ra := inR_get hR ha
      unfold rs at h1
      rw [decide_eq_true_eq] at h1
      have h2 := fst_le f t a.toNat
      omega
    · refine eachS_iff.2 fun i x hx => ?_
      have h1 := eachS_iff.1 h i x hx
      unfold rs at h1
      unfold nx
      rw [decide_eq_true_eq] at h1 ⊢
      exact h1.2.2
theorem shB_eq {f : Fil} {t l : List Int} {p : Nat} (o : Shw f t p) (hR : inR t.length l = true) :
    shB f t p l = (decide (l.length ≠ 0 ∧ l.getD (l.length - 1) 0 = p ∧ f.Y ≤ tAt t p - tAt t (l.getD 0 0).toNat) && eachS (rs f t l p) 0 l) := by
  unfold shB
  by_cases h0 : l.length = 0
  · rw [decide_eq_false (by omega), decide_eq_false (by omega)]; rfl
  · have ha : l[0]? = some (l.getD 0 0) := by rw [List.getElem?_eq_getElem (by omega)]; simp [List.getElem?_eq_getElem (show 0 < l.length by omega)]
    have hb : l[l.length - 1]? = some (l.getD (l.length - 1) 0) := by rw [List.getElem?_eq_getElem (by omega)]; simp [List.getElem?_eq_getElem (show l.length - 1 < l.length by omega)]
    by_cases h1 : l.getD (l.length - 1) 0 = p
    · rw [h1] at hb
      rw [← rs_eq o hR ha hb, ← Bool.and_assoc]
      congr 1
      rw [Bool.eq_iff_iff, Bool.and_eq_true, decide_eq_true_eq, decide_eq_true_eq, decide_eq_true_eq]
      constructor
      · rintro ⟨h2, h3, h4, h5⟩; exact ⟨⟨h2, h3, h5⟩, h4⟩
      · rintro ⟨⟨h2, h3, h5⟩, h4⟩; exact ⟨h2, h3, h4, h5⟩
    · rw [decide_eq_false (by intro h; exact h1 h.2.1), decide_eq_false (by intro h; exact h1 h.2.1)]; rfl
theorem vc_rShows_no (f : Fil) (t : List Int) (p : Int) (l : List Int) (h : Hp) (hn : f.ps.length ≤ 4000000) (hl : t.length ≤ 4000000) (h0 : showE f t p ≠ 0) : VC Try.prog 47 [vF f, ints t, I p, ints l] h (.tuple [B false, I (showE f t p)]) h := by
  refine VC.body Try.func47 rfl Try.ntmps47 Try.call47 (h.grows_refl) rfl ?_; conv => whnf
  repeat' (first | (refine VLd.intro rfl ?_; conv => whnf) | (refine VArith.i64 (by omega) ?_; conv => whnf) | (refine VNeed.intro (by first | rfl | (simp; omega)) ?_; conv => whnf) | (refine VMem.store rfl rfl rfl rfl ?_; conv => whnf) | (refine VSame.intro rfl ?_; conv => whnf) | (refine VDraw.go [] (by kernel_rfl) (by kernel_rfl) ?_; conv => whnf) | (refine VIte.dec (fun _ => ?_) (fun _ => ?_) <;> conv => whnf) | (refine VIte.ndec (fun _ => ?_) (fun _ => ?_) <;> conv => whnf) | (refine VIte.beq (fun _ => ?_) (fun _ => ?_) <;> conv => whnf) | (refine VIte.bne (fun _ => ?_) (fun _ => ?_) <;> conv => whnf) | (refine VIte.intro (fun _ => ?_) (fun _ => ?_) <;> conv => whnf) | (refine VCall.intro (vc_Shown f t p _ hn hl) ?_; conv => whnf))
  · exact VOut.same rfl
  all_goals (rename_i h1; exact absurd (by simpa using h1) h0)
theorem inR_drop {n : Nat} {l : List Int} {k : Nat} {x : Int} (hx : l[k]? = some x) : inR n (l.drop k) = (decide (0 ≤ x ∧ x ≤ (n : Int) - 1) && inR n (l.drop (k + 1))) := by
  obtain ⟨h1, rfl⟩ := List.getElem?_eq_some_iff.1 hx
  unfold inR
  rw [List.drop_eq_getElem_cons h1, List.all_cons]
theorem vc_rShows_ok (f : Fil) (t : List Int) (p : Nat) (l : List Int) (h : Hp) (hl : t.length ≤ 4000000) (hl2 : l.length ≤ 4000000) (h0 : showE f t p = 0) (o : Shw f t p) :
    VC Try.prog 47 [vF f, ints t, I p, ints l] h (.tuple [B (inR t.length l && shB f t p l), I (bif inR t.length l then 0 else 2)]) h := by
  have hlen := o.len
  have hn' := o.n
  have hlt := o.lt
  have hS : ∀ h, VC Try.prog 77 [vF f, ints t, I p] h (I 0) h := fun h => h0 ▸ vc_Shown f t p h (by omega) hl
  refine VC.body Try.func47 rfl Try.ntmps47 Try.call47 (h.grows_refl) rfl ?_; conv => whnf
  repeat' (first | (refine VLd.intro rfl ?_; conv => whnf) | (refine VArith.i64 (by omega) ?_; conv => whnf) | (refine VNeed.intro (by first | rfl | (simp; omega)) ?_; conv => whnf) | (refine VMem.store rfl rfl rfl rfl ?_; conv => whnf) | (refine VSame.intro rfl ?_; conv => whnf) | (refine VDraw.go [] (by kernel_rfl) (by kernel_rfl) ?_; conv => whnf) | (refine VIte.dec (fun _ => ?_) (fun _ => ?_) <;> conv => whnf) | (refine VIte.ndec (fun _ => ?_) (fun _ => ?_) <;> conv => whnf) | (refine VIte.beq (fun _ => ?_) (fun _ => ?_) <;> conv => whnf) | (refine VIte.bne (fun _ => ?_) (fun _ => ?_) <;> conv => whnf) | (refine VIte.intro (fun _ => ?_) (fun _ => ?_) <;> conv => whnf) | (refine VCall.intro (hS _) ?_; conv => whnf))
  refine VCode.lp (fun k : Nat => [(1, ints t), (2, I p), (3, ints l), (4, .ptr (.loc 0) 0), (8, B false), (9, I 0), (11, I k)]) (fun _ => [.flat true (encF f)]) (fun k => k ≤ l.length ∧ inR t.length l = inR t.length (l.drop k)) (fun k => l.length - k) 0 ⟨Nat.zero_le _, rfl⟩ ?_ ?_
  · conv => whnf
    refine Retell.turn ⟨[0], 1, [], []⟩ (TurnOk.mk' _ _ [] [] (OutOk.lift _) rfl (by decide) (by repeat' (first | exact BTos.nil | refine BTos.flat rfl rfl (by first | rfl | simp) ?_ | refine BTos.new rfl ?_ | refine BTos.dead rfl rfl ?_ | refine BTos.row rfl rfl rfl (RowTo.snoc (RowTo.one rfl (by simp))) ?_ | refine BTos.cells rfl rfl rfl (by repeat' (first | exact VTo.undef | exact FrTo.leaf | refine FrTo.node ?_ ?_ ?_ | refine FrTo.none ?_ ?_ | exact VTo.sc (by first | rfl | (congr 1; omega) | (congr 1; simp; omega)) | exact VTos_dv _ _ | refine VTos.cons ?_ ?_ | exact VTos.nil | refine VTo.agg ?_ | refine VTo.tuple ?_ | refine VTo.func ?_ ?_ | exact VTo.fs | exact VTo.fp | exact VTo.nilptr | exact VTo.nilslice | exact VTo.nilfunc | exact VTo.ptr rfl | exact VTo.gl rfl | exact VTo.map rfl | exact VTo.glNil' (by decide) rfl rfl | exact VTo.fsNil (by decide) | exact VTo.fpPtr rfl | exact VTo.fsGl rfl (by first | rfl | exact flat_len encI_len _ | exact flat_len encS_len _ | exact flat_len encP_len _ | exact flat_len encL_len _ | exact flat_len encE_len _ | (simp [flat_len encP_len]; done) | simp [flat_len encI_len, flat_len encS_len]))) ?_)) trivial trivial rfl) (by repeat' (first | exact VTo.undef | exact FrTo.leaf | refine FrTo.node ?_ ?_ ?_ | refine FrTo.none ?_ ?_ | exact VTo.sc (by first | rfl | (congr 1; omega) | (congr 1; simp; omega)) | exact VTos_dv _ _ | refine VTos.cons ?_ ?_ | exact VTos.nil | refine VTo.agg ?_ | refine VTo.tuple ?_ | refine VTo.func ?_ ?_ | exact VTo.fs | exact VTo.fp | exact VTo.nilptr | exact VTo.nilslice | exact VTo.nilfunc | exact VTo.ptr rfl | exact VTo.gl rfl | exact VTo.map rfl | exact VTo.glNil' (by decide) rfl rfl | exact VTo.fsNil (by decide) | exact VTo.fpPtr rfl | exact VTo.fsGl rfl (by first | rfl | exact flat_len encI_len _ | exact flat_len encS_len _ | exact flat_len encP_len _ | exact flat_len encL_len _ | exact flat_len encE_len _ | (simp [flat_len encP_len]; done) | simp [flat_len encI_len, flat_len encS_len]))) (by first | rfl | (repeat' (first | exact MkTo.nil | refine MkTo.keep rfl ?_ | refine MkTo.drop (by decide) rfl ?_)))
  · rintro k ⟨hk, hin⟩
    conv => whnf
    refine VIte.dec (fun h3 => ?_) (fun h3 => ?_)
    · have hx : l[k]? = some l[k] := List.getElem?_eq_getElem (by omega)
      generalize l[k] = x at hx
      rw [inR_drop hx] at hin
      conv => whnf
      repeat' (first | (refine VLd.intro rfl ?_; conv => whnf) | (refine VArith.i64 (by omega) ?_; conv => whnf) | (refine VNeed.intro (by first | rfl | (simp; omega)) ?_; conv => whnf) | (refine VMem.store rfl rfl rfl rfl ?_; conv => whnf) | (refine VSame.intro rfl ?_; conv => whnf) | (refine VDraw.go [] (by kernel_rfl) (by kernel_rfl) ?_; conv => whnf) | (refine VIte.dec (fun _ => ?_) (fun _ => ?_) <;> conv => whnf) | (refine VIte.ndec (fun _ => ?_) (fun _ => ?_) <;> conv => whnf) | (refine VIte.beq (fun _ => ?_) (fun _ => ?_) <;> conv => whnf) | (refine VIte.bne (fun _ => ?_) (fun _ => ?_) <;> conv => whnf) | (refine VIte.intro (fun _ => ?_) (fun _ => ?_) <;> conv => whnf) | (refine VAny.ix encI_len k rfl rfl hx ?_; conv => whnf) | (refine VCall.intro (vc_beside _ _ _ _) ?_; conv => whnf))
      · rw [decide_eq_false (by omega), Bool.false_and] at hin
        rw [hin]
        exact VOut.same rfl
      · rw [decide_eq_true (by omega), Bool.true_and] at hin
        refine LEnd.intro (k + 1) ⟨by omega, hin⟩ (by omega) ?_
        conv => whnf
        refine Retell.turn ⟨[0], 1, [], []⟩ (TurnOk.mk' _ _ [] [] (OutOk.lift _) rfl (by decide) (by repeat' (first | exact BTos.nil | refine BTos.flat rfl rfl (by first | rfl | simp) ?_ | refine BTos.new rfl ?_ | refine BTos.dead rfl rfl ?_ | refine BTos.row rfl rfl rfl (RowTo.snoc (RowTo.one rfl (by simp))) ?_ | refine BTos.cells rfl rfl rfl (by repeat' (first | exact VTo.undef | exact FrTo.leaf | refine FrTo.node ?_ ?_ ?_ | refine FrTo.none ?_ ?_ | exact VTo.sc (by first | rfl | (congr 1; omega) | (congr 1; simp; omega)) | exact VTos_dv _ _ | refine VTos.cons ?_ ?_ | exact VTos.nil | refine VTo.agg ?_ | refine VTo.tuple ?_ | refine VTo.func ?_ ?_ | exact VTo.fs | exact VTo.fp | exact VTo.nilptr | exact VTo.nilslice | exact VTo.nilfunc | exact VTo.ptr rfl | exact VTo.gl rfl | exact VTo.map rfl | exact VTo.glNil' (by decide) rfl rfl | exact VTo.fsNil (by decide) | exact VTo.fpPtr rfl | exact VTo.fsGl rfl (by first | rfl | exact flat_len encI_len _ | exact flat_len encS_len _ | exact flat_len encP_len _ | exact flat_len encL_len _ | exact flat_len encE_len _ | (simp [flat_len encP_len]; done) | simp [flat_len encI_len, flat_len encS_len]))) ?_)) trivial trivial rfl) (by repeat' (first | exact VTo.undef | exact FrTo.leaf | refine FrTo.node ?_ ?_ ?_ | refine FrTo.none ?_ ?_ | exact VTo.sc (by first | rfl | (congr 1; omega) | (congr 1; simp; omega)) | exact VTos_dv _ _ | refine VTos.cons ?_ ?_ | exact VTos.nil | refine VTo.agg ?_ | refine VTo.tuple ?_ | refine VTo.func ?_ ?_ | exact VTo.fs | exact VTo.fp | exact VTo.nilptr | exact VTo.nilslice | exact VTo.nilfunc | exact VTo.ptr rfl | exact VTo.gl rfl | exact VTo.map rfl | exact VTo.glNil' (by decide) rfl rfl | exact VTo.fsNil (by decide) | exact VTo.fpPtr rfl | exact VTo.fsGl rfl (by first | rfl | exact flat_len encI_len _ | exact flat_len encS_len _ | exact flat_len encP_len _ | exact flat_len encL_len _ | exact flat_len encE_len _ | (simp [flat_len encP_len]; done) | simp [flat_len encI_len, flat_len encS_len]))) (by first | rfl | (repeat' (first | exact MkTo.nil | refine MkTo.keep rfl ?_ | refine MkTo.drop (by decide) rfl ?_)))
    · have hR : inR t.length l = true := by rw [hin, List.drop_of_length_le (by omega)]; rfl
      rw [hR, Bool.true_and]
      have hRR := shB_eq o hR
      obtain ⟨R, hR0⟩ : ∃ R, R = shB f t p l := ⟨_, rfl⟩
      rw [← hR0] at hRR ⊢
      conv => whnf
      rcases Nat.eq_zero_or_pos l.length with hz | hz
      · rw [decide_eq_false (by omega), Bool.false_and] at hRR
        rw [hRR]
        repeat' (first | (refine VLd.intro rfl ?_; conv => whnf) | (refine VArith.i64 (by omega) ?_; conv => whnf) | (refine VNeed.intro (by first | rfl | (simp; omega)) ?_; conv => whnf) | (refine VMem.store rfl rfl rfl rfl ?_; conv => whnf) | (refine VSame.intro rfl ?_; conv => whnf) | (refine VDraw.go [] (by kernel_rfl) (by kernel_rfl) ?_; conv => whnf) | (refine VIte.dec (fun _ => ?_) (fun _ => ?_) <;> conv => whnf) | (refine VIte.ndec (fun _ => ?_) (fun _ => ?_) <;> conv => whnf) | (refine VIte.beq (fun _ => ?_) (fun _ => ?_) <;> conv => whnf) | (refine VIte.bne (fun _ => ?_) (fun _ => ?_) <;> conv => whnf) | (refine VIte.intro (fun _ => ?_) (fun _ => ?_) <;> conv => whnf))
        · exact VOut.same rfl
        all_goals omega
      · have ha : l[0]? = some l[0] := List.getElem?_eq_getElem (by omega)
        have hb : l[l.length - 1]? = some l[l.length - 1] := List.getElem?_eq_getElem (by omega)
        have ra := inR_get hR ha
        have rb := inR_get hR hb
        have e1 : l.getD 0 0 = l[0] := by simp [ha]
        have e2 : l.getD (l.length - 1) 0 = l[l.length - 1] := by simp [hb]
        rw [e1, e2] at hRR
        generalize l[0] = a at ha ra hRR
        generalize l[l.length - 1] = z at hb rb hRR
        have hy : t[p]? = some t[p] := List.getElem?_eq_getElem (by omega)
        have hw : t[a.toNat]? = some t[a.toNat] := List.getElem?_eq_getElem (by omega)
        have b3 := o.yr hy
        have b4 := o.yr hw
        rw [tAt_eq hy, tAt_eq hw] at hRR
        generalize t[p] = y at hy b3 hRR
        generalize t[a.toNat] = w at hw b4 hRR
        repeat' (first | (refine VLd.intro rfl ?_; conv => whnf) | (refine VArith.i64 (by omega) ?_; conv => whnf) | (refine VNeed.intro (by first | rfl | (simp; omega)) ?_; conv => whnf) | (refine VMem.store rfl rfl rfl rfl ?_; conv => whnf) | (refine VSame.intro rfl ?_; conv => whnf) | (refine VDraw.go [] (by kernel_rfl) (by kernel_rfl) ?_; conv => whnf) | (refine VIte.dec (fun _ => ?_) (fun _ => ?_) <;> conv => whnf) | (refine VIte.ndec (fun _ => ?_) (fun _ => ?_) <;> conv => whnf) | (refine VIte.beq (fun _ => ?_) (fun _ => ?_) <;> conv => whnf) | (refine VIte.bne (fun _ => ?_) (fun _ => ?_) <;> conv => whnf) | (refine VIte.intro (fun _ => ?_) (fun _ => ?_) <;> conv => whnf) | (refine VAny.ix encI_len (l.length - 1) (by omega) rfl hb ?_; conv => whnf) | (refine VAny.ix encI_len 0 (by omega) rfl ha ?_; conv => whnf) | (refine VAny.ix encI_len p (by omega) rfl hy ?_; conv => whnf) | (refine VAny.ix encI_len a.toNat (by omega) rfl hw ?_; conv => whnf))
        all_goals (try omega)
        all_goals (try (rw [decide_eq_false (by omega), Bool.false_and] at hRR; rw [hRR]; exact VOut.same rfl))
        rw [decide_eq_true (by omega), Bool.true_and] at hRR
        refine VCode.lp (fun k : Nat => [(1, ints t), (2, I p), (3, ints l), (4, .ptr (.loc 0) 0), (8, B false), (9, I 0), (12, I k)]) (fun _ => [.flat true (encF f)]) (fun k => k ≤ l.length ∧ eachS (rs f t l p) 0 l = eachS (rs f t l p) k (l.drop k)) (fun k => l.length - k) 0 ⟨Nat.zero_le _, rfl⟩ ?_ ?_
        · conv => whnf
          refine Retell.turn ⟨[0], 1, [], []⟩ (TurnOk.mk' _ _ [] [] (OutOk.lift _) rfl (by decide) (by repeat' (first | exact BTos.nil | refine BTos.flat rfl rfl (by first | rfl | simp) ?_ | refine BTos.new rfl ?_ | refine BTos.dead rfl rfl ?_ | refine BTos.row rfl rfl rfl (RowTo.snoc (RowTo.one rfl (by simp))) ?_ | refine BTos.cells rfl rfl rfl (by repeat' (first | exact VTo.undef | exact FrTo.leaf | refine FrTo.node ?_ ?_ ?_ | refine FrTo.none ?_ ?_ | exact VTo.sc (by first | rfl | (congr 1; omega) | (congr 1; simp; omega)) | exact VTos_dv _ _ | refine VTos.cons ?_ ?_ | exact VTos.nil | refine VTo.agg ?_ | refine VTo.tuple ?_ | refine VTo.func ?_ ?_ | exact VTo.fs | exact VTo.fp | exact VTo.nilptr | exact VTo.nilslice | exact VTo.nilfunc | exact VTo.ptr rfl | exact VTo.gl rfl | exact VTo.map rfl | exact VTo.glNil' (by decide) rfl rfl | exact VTo.fsNil (by decide) | exact VTo.fpPtr rfl | exact VTo.fsGl rfl (by first | rfl | exact flat_len encI_len _ | exact flat_len encS_len _ | exact flat_len encP_len _ | exact flat_len encL_len _ | exact flat_len encE_len _ | (simp [flat_len encP_len]; done) | simp [flat_len encI_len, flat_len encS_len]))) ?_)) trivial trivial rfl) (by repeat' (first | exact VTo.undef | exact FrTo.leaf | refine FrTo.node ?_ ?_ ?_ | refine FrTo.none ?_ ?_ | exact VTo.sc (by first | rfl | (congr 1; omega) | (congr 1; simp; omega)) | exact VTos_dv _ _ | refine VTos.cons ?_ ?_ | exact VTos.nil | refine VTo.agg ?_ | refine VTo.tuple ?_ | refine VTo.func ?_ ?_ | exact VTo.fs | exact VTo.fp | exact VTo.nilptr | exact VTo.nilslice | exact VTo.nilfunc | exact VTo.ptr rfl | exact VTo.gl rfl | exact VTo.map rfl | exact VTo.glNil' (by decide) rfl rfl | exact VTo.fsNil (by decide) | exact VTo.fpPtr rfl | exact VTo.fsGl rfl (by first | rfl | exact flat_len encI_len _ | exact flat_len encS_len _ | exact flat_len encP_len _ | exact flat_len encL_len _ | exact flat_len encE_len _ | (simp [flat_len encP_len]; done) | simp [flat_len encI_len, flat_len encS_len]))) (by first | rfl | (repeat' (first | exact MkTo.nil | refine MkTo.keep rfl ?_ | refine MkTo.drop (by decide) rfl ?_)))
        · rintro k ⟨hk, he⟩
          conv => whnf
          refine VIte.dec (fun h3 => ?_) (fun h3 => ?_)
          · have hx : l[k]? = some l[k] := List.getElem?_eq_getElem (by omega)
            have hv : l[k - 1]? = some l[k - 1] := List.getElem?_eq_getElem (by omega)
            have rx := inR_get hR hx
            have rv := inR_get hR hv
            have e3 : l.getD (k - 1) 0 = l[k - 1] := by simp [hv]
            rw [eachS_drop hx] at he
            have hrs : rs f t l p k l[k] = true ↔ (l[k] ≤ p ∧ fst f t l[k].toNat = fst f t p ∧ (k = 0 ∨ (l[k - 1] < l[k] ∧ tAt t l[k].toNat - tAt t l[k - 1].toNat ≤ f.G))) := by rw [rs, e3, decide_eq_true_eq]
            generalize l[k] = x at hx rx he hrs
            generalize l[k - 1] = v at hv rv hrs
            obtain ⟨x, rfl⟩ : ∃ m : Nat, x = m := ⟨x.toNat, by omega⟩
            obtain ⟨v, rfl⟩ : ∃ m : Nat, v = m := ⟨v.toNat, by omega⟩
            have hxy : t[x]? = some t[x] := List.getElem?_eq_getElem (by omega)
            have hvy : t[v]? = some t[v] := List.getElem?_eq_getElem (by omega)
            have b5 := o.yr hxy
            have b6 := o.yr hvy
            rw [Int.toNat_natCast, Int.toNat_natCast, tAt_eq hxy, tAt_eq hvy] at hrs
            generalize t[x] = xy at hxy b5 hrs
            generalize t[v] = vy at hvy b6 hrs
            conv => whnf
            repeat' (first | (refine VLd.intro rfl ?_; conv => whnf) | (refine VArith.i64 (by omega) ?_; conv => whnf) | (refine VNeed.intro (by first | rfl | (simp; omega)) ?_; conv => whnf) | (refine VMem.store rfl rfl rfl rfl ?_; conv => whnf) | (refine VSame.intro rfl ?_; conv => whnf) | (refine VDraw.go [(13, 14)] (by kernel_rfl) (by kernel_rfl) ?_; conv => whnf) | (refine VIte.dec (fun _ => ?_) (fun _ => ?_) <;> conv => whnf) | (refine VIte.ndec (fun _ => ?_) (fun _ => ?_) <;> conv => whnf) | (refine VIte.beq (fun _ => ?_) (fun _ => ?_) <;> conv => whnf) | (refine VIte.bne (fun _ => ?_) (fun _ => ?_) <;> conv => whnf) | (refine VIte.intro (fun _ => ?_) (fun _ => ?_) <;> conv => whnf) | (refine VAny.ix encI_len k (by omega) rfl hx ?_; conv => whnf) | (refine VAny.ix encI_len (k - 1) (by omega) rfl hv ?_; conv => whnf) | (refine VAny.ix encI_len x (by omega) rfl hxy ?_; conv => whnf) | (refine VAny.ix encI_len v (by omega) rfl hvy ?_; conv => whnf) | (refine VCall.intro (vc_first f t x _ o.toOkt (by omega)) ?_; conv => whnf) | (refine VCall.intro (vc_first f t p _ o.toOkt (by omega)) ?_; conv => whnf))
            all_goals first
              | (rw [Bool.eq_false_iff.2 (fun hq => absurd (hrs.1 hq) (by omega)), Bool.false_and] at he; rw [hRR, he]; exact VOut.same rfl)
              | (rw [hrs.2 (by omega), Bool.true_and] at he; refine LEnd.intro (k + 1) ⟨by omega, he⟩ (by omega) ?_; conv => whnf
                 refine Retell.turn ⟨[0], 1, [], []⟩ (TurnOk.mk' _ _ [] [] (OutOk.lift _) rfl (by decide) (by repeat' (first | exact BTos.nil | refine BTos.flat rfl rfl (by first | rfl | simp) ?_ | refine BTos.new rfl ?_ | refine BTos.dead rfl rfl ?_ | refine BTos.row rfl rfl rfl (RowTo.snoc (RowTo.one rfl (by simp))) ?_ | refine BTos.cells rfl rfl rfl (by repeat' (first | exact VTo.undef | exact FrTo.leaf | refine FrTo.node ?_ ?_ ?_ | refine FrTo.none ?_ ?_ | exact VTo.sc (by first | rfl | (congr 1; omega) | (congr 1; simp; omega)) | exact VTos_dv _ _ | refine VTos.cons ?_ ?_ | exact VTos.nil | refine VTo.agg ?_ | refine VTo.tuple ?_ | refine VTo.func ?_ ?_ | exact VTo.fs | exact VTo.fp | exact VTo.nilptr | exact VTo.nilslice | exact VTo.nilfunc | exact VTo.ptr rfl | exact VTo.gl rfl | exact VTo.map rfl | exact VTo.glNil' (by decide) rfl rfl | exact VTo.fsNil (by decide) | exact VTo.fpPtr rfl | exact VTo.fsGl rfl (by first | rfl | exact flat_len encI_len _ | exact flat_len encS_len _ | exact flat_len encP_len _ | exact flat_len encL_len _ | exact flat_len encE_len _ | (simp [flat_len encP_len]; done) | simp [flat_len encI_len, flat_len encS_len]))) ?_)) trivial trivial rfl) (by repeat' (first | exact VTo.undef | exact FrTo.leaf | refine FrTo.node ?_ ?_ ?_ | refine FrTo.none ?_ ?_ | exact VTo.sc (by first | rfl | (congr 1; omega) | (congr 1; simp; omega)) | exact VTos_dv _ _ | refine VTos.cons ?_ ?_ | exact VTos.nil | refine VTo.agg ?_ | refine VTo.tuple ?_ | refine VTo.func ?_ ?_ | exact VTo.fs | exact VTo.fp | exact VTo.nilptr | exact VTo.nilslice | exact VTo.nilfunc | exact VTo.ptr rfl | exact VTo.gl rfl | exact VTo.map rfl | exact VTo.glNil' (by decide) rfl rfl | exact VTo.fsNil (by decide) | exact VTo.fpPtr rfl | exact VTo.fsGl rfl (by first | rfl | exact flat_len encI_len _ | exact flat_len encS_len _ | exact flat_len encP_len _ | exact flat_len encL_len _ | exact flat_len encE_len _ | (simp [flat_len encP_len]; done) | simp [flat_len encI_len, flat_len encS_len]))) (by first | rfl | (repeat' (first | exact MkTo.nil | refine MkTo.keep rfl ?_ | refine MkTo.drop (by decide) rfl ?_))))
          · rw [List.drop_of_length_le (by omega)] at he
            rw [hRR, he]
            conv => whnf
            repeat (first | (refine VLd.intro rfl ?_; conv => whnf) | (refine VArith.i64 (by omega) ?_; conv => whnf) | (refine VNeed.intro (by first | rfl | (simp; omega)) ?_; conv => whnf) | (refine VMem.store rfl rfl rfl rfl ?_; conv => whnf) | (refine VSame.intro rfl ?_; conv => whnf) | (refine VDraw.go [] (by kernel_rfl) (by kernel_rfl) ?_; conv => whnf))
            exact VOut.same rfl
end Go.Proofs.Ytolnajnlcdacmaa

open Go.Vm
namespace Go.Proofs.Ytolnajnlcdacmaa
set_option maxRecDepth 20000
set_option maxHeartbeats 1000000

/-- The fewest papers up to a paper, by those up to the papers ahead of it. -/
def innS (f : Fil) (t : List Int) (i : Nat) (l : List Int) : Nat → Nat → Int → Int
  | 0, _, v => v
  | k + 1, j, v => innS f t i l k (j + 1) (if tAt t i - tAt t j ≤ f.G ∧ l.getD j 0 + 1 < v then l.getD j 0 + 1 else v)
def mn1 (f : Fil) (t : List Int) (p lo i : Nat) (l : List Int) : Int := innS f t i l (i - lo) lo (if f.Y ≤ tAt t p - tAt t i then 1 else 100)
def mnS (f : Fil) (t : List Int) (p lo : Nat) : Nat → Nat → List Int → List Int
  | 0, _, l => l
  | k + 1, i, l => mnS f t p lo k (i + 1) (l.set i (mn1 f t p lo i l))
/-- How many papers show a right, at least. -/
def many (f : Fil) (t : List Int) (p : Nat) : Int := (mnS f t p (fst f t p) (p + 1 - fst f t p) (fst f t p) (List.replicate t.length 0)).getD p 0
def small (l : List Int) : Prop := ∀ x ∈ l, 0 ≤ x ∧ x ≤ 100
theorem small_set {l : List Int} {i : Nat} {v : Int} (h : small l) (hv : 0 ≤ v ∧ v ≤ 100) : small (l.set i v) := by
  intro x hx
  rcases List.mem_or_eq_of_mem_set hx with h1 | h1
  · exact h x h1
  · subst h1; exact hv
theorem vc_Many_no (f : Fil) (t : List Int) (p : Int) (h : Hp) (hn : f.ps.length ≤ 4000000) (hl : t.length ≤ 4000000) (h0 : showE f t p ≠ 0) : VC Try.prog 45 [vF f, ints t, I p] h (.tuple [I 0, I (showE f t p)]) h := by
  refine VC.body Try.func45 rfl Try.ntmps45 Try.call45 (h.grows_refl) rfl ?_; conv => whnf
  repeat' (first | (refine VLd.intro rfl ?_; conv => whnf) | (refine VArith.i64 (by omega) ?_; conv => whnf) | (refine VNeed.intro (by first | rfl | (simp; omega)) ?_; conv => whnf) | (refine VMem.store rfl rfl rfl rfl ?_; conv => whnf) | (refine VSame.intro rfl ?_; conv => whnf) | (refine VDraw.go [] (by kernel_rfl) (by kernel_rfl) ?_; conv => whnf) | (refine VIte.dec (fun _ => ?_) (fun _ => ?_) <;> conv => whnf) | (refine VIte.ndec (fun _ => ?_) (fun _ => ?_) <;> conv => whnf) | (refine VIte.beq (fun _ => ?_) (fun _ => ?_) <;> conv => whnf) | (refine VIte.bne (fun _ => ?_) (fun _ => ?_) <;> conv => whnf) | (refine VIte.intro (fun _ => ?_) (fun _ => ?_) <;> conv => whnf) | (refine VCall.intro (vc_Shown f t p _ hn hl) ?_; conv => whnf))
  · exact VOut.same rfl
  all_goals (rename_i h1; exact absurd (by simpa using h1) h0)
theorem vc_Many_ok (f : Fil) (t : List Int) (p : Nat) (h : Hp) (hl : t.length ≤ 4000000) (h0 : showE f t p = 0) (o : Shw f t p) : VC Try.prog 45 [vF f, ints t, I p] h (.tuple [I (many f t p), I 0]) h := by
  have hlen := o.len
  have hn' := o.n
  have hlt := o.lt
  have hY := o.y
  have hfl := fst_le f t p
  have hS : ∀ h, VC Try.prog 77 [vF f, ints t, I p] h (I 0) h := fun h => h0 ▸ vc_Shown f t p h (by omega) hl
  unfold many
  obtain ⟨F, hF⟩ : ∃ F, F = mnS f t p (fst f t p) (p + 1 - fst f t p) (fst f t p) (List.replicate t.length 0) := ⟨_, rfl⟩
  rw [← hF]
  refine VC.body Try.func45 rfl Try.ntmps45 Try.call45 (h.grows_refl) rfl ?_; conv => whnf
  repeat' (first | (refine VLd.intro rfl ?_; conv => whnf) | (refine VArith.i64 (by omega) ?_; conv => whnf) | (refine VNeed.intro (by first | rfl | (simp; omega)) ?_; conv => whnf) | (refine VMem.store rfl rfl rfl rfl ?_; conv => whnf) | (refine VSame.intro rfl ?_; conv => whnf) | (refine VDraw.go [] (by kernel_rfl) (by kernel_rfl) ?_; conv => whnf) | (refine VIte.dec (fun _ => ?_) (fun _ => ?_) <;> conv => whnf) | (refine VIte.ndec (fun _ => ?_) (fun _ => ?_) <;> conv => whnf) | (refine VIte.beq (fun _ => ?_) (fun _ => ?_) <;> conv => whnf) | (refine VIte.bne (fun _ => ?_) (fun _ => ?_) <;> conv => whnf) | (refine VIte.intro (fun _ => ?_) (fun _ => ?_) <;> conv => whnf) | (refine VCall.intro (hS _) ?_; conv => whnf) | (refine VCall.intro (vc_first f t p _ o.toOkt (by omega)) ?_; conv => whnf))
  obtain ⟨lo, hlo⟩ : ∃ lo, lo = fst f t p := ⟨_, rfl⟩
  rw [← hlo] at hfl hF ⊢
  refine VMem.make (n := t.length) (0 : Int) encI_len rfl rfl rfl rfl rfl rfl (by omega) ?_
  conv => whnf
  repeat (first | (refine VLd.intro rfl ?_; conv => whnf) | (refine VArith.i64 (by omega) ?_; conv => whnf) | (refine VNeed.intro (by first | rfl | (simp; omega)) ?_; conv => whnf) | (refine VMem.store rfl rfl rfl rfl ?_; conv => whnf) | (refine VSame.intro rfl ?_; conv => whnf) | (refine VDraw.go [] (by kernel_rfl) (by kernel_rfl) ?_; conv => whnf))
  refine VCode.lp (fun x : Nat × List Int => [(1, ints t), (2, I p), (3, .ptr (.loc 0) 0), (9, I lo), (10, .gl (.loc 1) 1 t.length), (11, I x.1)])
    (fun x => [.flat true (encF f), .flat true (x.2.flatMap encI)]) (fun x => lo ≤ x.1 ∧ x.1 ≤ p + 1 ∧ x.2.length = t.length ∧ small x.2 ∧ F = mnS f t p lo (p + 1 - x.1) x.1 x.2) (fun x => p + 1 - x.1) (lo, List.replicate t.length 0)
    ⟨Nat.le_refl _, by simp only; omega, by simp, by intro x hx; have := List.eq_of_mem_replicate hx; omega, hF⟩ ?_ ?_
  · conv => whnf
    refine Retell.turn ⟨[0,1], 2, [], []⟩ (TurnOk.mk' _ _ [] [] (OutOk.lift _) rfl (by decide) (by repeat' (first | exact BTos.nil | refine BTos.flat rfl rfl (by first | rfl | simp) ?_ | refine BTos.new rfl ?_ | refine BTos.dead rfl rfl ?_ | refine BTos.row rfl rfl rfl (RowTo.snoc (RowTo.one rfl (by simp))) ?_ | refine BTos.cells rfl rfl rfl (by repeat' (first | exact VTo.undef | exact FrTo.leaf | refine FrTo.node ?_ ?_ ?_ | refine FrTo.none ?_ ?_ | exact VTo.sc (by first | rfl | (congr 1; omega) | (congr 1; simp; omega)) | exact VTos_dv _ _ | refine VTos.cons ?_ ?_ | exact VTos.nil | refine VTo.agg ?_ | refine VTo.tuple ?_ | refine VTo.func ?_ ?_ | exact VTo.fs | exact VTo.fp | exact VTo.nilptr | exact VTo.nilslice | exact VTo.nilfunc | exact VTo.ptr rfl | exact VTo.gl rfl | exact VTo.map rfl | exact VTo.glNil' (by decide) rfl rfl | exact VTo.fsNil (by decide) | exact VTo.fpPtr rfl | exact VTo.fsGl rfl (by first | rfl | exact flat_len encI_len _ | exact flat_len encS_len _ | exact flat_len encP_len _ | exact flat_len encL_len _ | exact flat_len encE_len _ | (simp [flat_len encP_len]; done) | simp [flat_len encI_len, flat_len encS_len]))) ?_)) trivial trivial rfl) (by repeat' (first | exact VTo.undef | exact FrTo.leaf | refine FrTo.node ?_ ?_ ?_ | refine FrTo.none ?_ ?_ | exact VTo.sc (by first | rfl | (congr 1; omega) | (congr 1; simp; omega)) | exact VTos_dv _ _ | refine VTos.cons ?_ ?_ | exact VTos.nil | refine VTo.agg ?_ | refine VTo.tuple ?_ | refine VTo.func ?_ ?_ | exact VTo.fs | exact VTo.fp | exact VTo.nilptr | exact VTo.nilslice | exact VTo.nilfunc | exact VTo.ptr rfl | exact VTo.gl rfl | exact VTo.map rfl | exact VTo.glNil' (by decide) rfl rfl | exact VTo.fsNil (by decide) | exact VTo.fpPtr rfl | exact VTo.fsGl rfl (by first | rfl | exact flat_len encI_len _ | exact flat_len encS_len _ | exact flat_len encP_len _ | exact flat_len encL_len _ | exact flat_len encE_len _ | (simp [flat_len encP_len]; done) | simp [flat_len encI_len, flat_len encS_len]))) (by first | rfl | (repeat' (first | exact MkTo.nil | refine MkTo.keep rfl ?_ | refine MkTo.drop (by decide) rfl ?_)))
  · rintro ⟨i, l⟩ ⟨h1, h2, h3, h4, h5⟩
    simp only at h1 h2 h3 h4 h5
    conv => whnf
    refine VIte.dec (fun h6 => ?_) (fun h6 => ?_)
    · have hy : t[p]? = some t[p] := List.getElem?_eq_getElem (by omega)
      have hw : t[i]? = some t[i] := List.getElem?_eq_getElem (by omega)
      have b3 := o.yr hy
      have b4 := o.yr hw
      have e1 := tAt_eq hy
      have e2 := tAt_eq hw
      obtain ⟨M, hM⟩ : ∃ M, M = mn1 f t p lo i l := ⟨_, rfl⟩
      have h5b : F = mnS f t p lo (p + 1 - (i + 1)) (i + 1) (l.set i M) := by
        obtain ⟨k, hk⟩ : ∃ k, p + 1 - i = k + 1 := ⟨p - i, by omega⟩
        rw [hk, mnS] at h5
        rw [hM, show p + 1 - (i + 1) = k by omega]
        exact h5
      generalize t[p] = y at hy b3 e1
      generalize t[i] = w at hw b4 e2
      have hli : l[i]? = some l[i] := List.getElem?_eq_getElem (by omega)
      have hM2 : M = innS f t i l (i - lo) lo (if f.Y ≤ tAt t p - tAt t i then 1 else 100) := hM
      conv => whnf
      repeat (first | (refine VLd.intro rfl ?_; conv => whnf) | (refine VArith.i64 (by omega) ?_; conv => whnf) | (refine VNeed.intro (by first | rfl | (simp; omega)) ?_; conv => whnf) | (refine VMem.store rfl rfl rfl rfl ?_; conv => whnf) | (refine VSame.intro rfl ?_; conv => whnf) | (refine VDraw.go [] (by kernel_rfl) (by kernel_rfl) ?_; conv => whnf))
      refine VMem.setRec encI_len i 0 100 rfl rfl rfl hli (by decide) rfl (by simp only [Nat.zero_add, Nat.mul_one]; omega) ?_
      conv => whnf
      have hli2 : (l.set i 100)[i]? = some 100 := by rw [List.getElem?_set]; simp; omega
      repeat' (first | (refine VLd.intro rfl ?_; conv => whnf) | (refine VArith.i64 (by omega) ?_; conv => whnf) | (refine VNeed.intro (by first | rfl | (simp; omega)) ?_; conv => whnf) | (refine VMem.store rfl rfl rfl rfl ?_; conv => whnf) | (refine VSame.intro rfl ?_; conv => whnf) | (refine VDraw.go [] (by kernel_rfl) (by kernel_rfl) ?_; conv => whnf) | (refine VIte.dec (fun _ => ?_) (fun _ => ?_) <;> conv => whnf) | (refine VIte.ndec (fun _ => ?_) (fun _ => ?_) <;> conv => whnf) | (refine VIte.beq (fun _ => ?_) (fun _ => ?_) <;> conv => whnf) | (refine VIte.bne (fun _ => ?_) (fun _ => ?_) <;> conv => whnf) | (refine VIte.intro (fun _ => ?_) (fun _ => ?_) <;> conv => whnf) | (refine VAny.ix encI_len p (by omega) rfl hy ?_; conv => whnf) | (refine VAny.ix encI_len i (by omega) rfl hw ?_; conv => whnf))
      · refine VMem.setRec encI_len i 0 1 rfl rfl rfl hli2 (by decide) rfl (by simp only [Nat.zero_add, Nat.mul_one]; omega) ?_
        rw [List.set_set]
        rw [if_pos (by omega)] at hM2
        --
        conv => whnf
        repeat (first | (refine VLd.intro rfl ?_; conv => whnf) | (refine VArith.i64 (by omega) ?_; conv => whnf) | (refine VNeed.intro (by first | rfl | (simp; omega)) ?_; conv => whnf) | (refine VMem.store rfl rfl rfl rfl ?_; conv => whnf) | (refine VSame.intro rfl ?_; conv => whnf) | (refine VDraw.go [] (by kernel_rfl) (by kernel_rfl) ?_; conv => whnf))
        refine VCode.lp (fun x : Nat × Int => [(1, ints t), (2, I p), (3, .ptr (.loc 0) 0), (9, I lo), (10, .gl (.loc 1) 1 t.length), (11, I i), (12, I x.1)])
          (fun x => [.flat true (encF f), .flat true ((l.set i x.2).flatMap encI)]) (fun x => lo ≤ x.1 ∧ x.1 ≤ i ∧ (0 ≤ x.2 ∧ x.2 ≤ 100) ∧ M = innS f t i l (i - x.1) x.1 x.2) (fun x => i - x.1) (lo, 1)
          ⟨Nat.le_refl _, h1, by simp only; omega, hM2⟩ ?_ ?_
        · conv => whnf
          refine Retell.turn ⟨[0,1], 2, [], []⟩ (TurnOk.mk' _ _ [] [] (OutOk.lift _) rfl (by decide) (by repeat' (first | exact BTos.nil | refine BTos.flat rfl rfl (by first | rfl | simp) ?_ | refine BTos.new rfl ?_ | refine BTos.dead rfl rfl ?_ | refine BTos.row rfl rfl rfl (RowTo.snoc (RowTo.one rfl (by simp))) ?_ | refine BTos.cells rfl rfl rfl (by repeat' (first | exact VTo.undef | exact FrTo.leaf | refine FrTo.node ?_ ?_ ?_ | refine FrTo.none ?_ ?_ | exact VTo.sc (by first | rfl | (congr 1; omega) | (congr 1; simp; omega)) | exact VTos_dv _ _ | refine VTos.cons ?_ ?_ | exact VTos.nil | refine VTo.agg ?_ | refine VTo.tuple ?_ | refine VTo.func ?_ ?_ | exact VTo.fs | exact VTo.fp | exact VTo.nilptr | exact VTo.nilslice | exact VTo.nilfunc | exact VTo.ptr rfl | exact VTo.gl rfl | exact VTo.map rfl | exact VTo.glNil' (by decide) rfl rfl | exact VTo.fsNil (by decide) | exact VTo.fpPtr rfl | exact VTo.fsGl rfl (by first | rfl | exact flat_len encI_len _ | exact flat_len encS_len _ | exact flat_len encP_len _ | exact flat_len encL_len _ | exact flat_len encE_len _ | (simp [flat_len encP_len]; done) | simp [flat_len encI_len, flat_len encS_len]))) ?_)) trivial trivial rfl) (by repeat' (first | exact VTo.undef | exact FrTo.leaf | refine FrTo.node ?_ ?_ ?_ | refine FrTo.none ?_ ?_ | exact VTo.sc (by first | rfl | (congr 1; omega) | (congr 1; simp; omega)) | exact VTos_dv _ _ | refine VTos.cons ?_ ?_ | exact VTos.nil | refine VTo.agg ?_ | refine VTo.tuple ?_ | refine VTo.func ?_ ?_ | exact VTo.fs | exact VTo.fp | exact VTo.nilptr | exact VTo.nilslice | exact VTo.nilfunc | exact VTo.ptr rfl | exact VTo.gl rfl | exact VTo.map rfl | exact VTo.glNil' (by decide) rfl rfl | exact VTo.fsNil (by decide) | exact VTo.fpPtr rfl | exact VTo.fsGl rfl (by first | rfl | exact flat_len encI_len _ | exact flat_len encS_len _ | exact flat_len encP_len _ | exact flat_len encL_len _ | exact flat_len encE_len _ | (simp [flat_len encP_len]; done) | simp [flat_len encI_len, flat_len encS_len]))) (by first | rfl | (repeat' (first | exact MkTo.nil | refine MkTo.keep rfl ?_ | refine MkTo.drop (by decide) rfl ?_)))
        · rintro ⟨j, v⟩ ⟨g1, g2, g3, g4⟩
          simp only at g1 g2 g3 g4
          conv => whnf
          refine VIte.dec (fun g5 => ?_) (fun g5 => ?_)
          · have hx : t[j]? = some t[j] := List.getElem?_eq_getElem (by omega)
            have b5 := o.yr hx
            have e5 := tAt_eq hx
            have hlj : l[j]? = some l[j] := List.getElem?_eq_getElem (by omega)
            have e6 : l.getD j 0 = l[j] := by simp [hlj]
            have b6 := h4 l[j] (List.getElem_mem (by omega))
            have g4b : (tAt t i - tAt t j ≤ f.G ∧ l.getD j 0 + 1 < v → M = innS f t i l (i - (j + 1)) (j + 1) (l.getD j 0 + 1)) ∧ (¬ (tAt t i - tAt t j ≤ f.G ∧ l.getD j 0 + 1 < v) → M = innS f t i l (i - (j + 1)) (j + 1) v) := by
              obtain ⟨k, hk⟩ : ∃ k, i - j = k + 1 := ⟨i - j - 1, by omega⟩
              rw [hk, innS] at g4
              rw [show i - (j + 1) = k by omega]
              exact ⟨fun hc => by rw [if_pos hc] at g4; exact g4, fun hc => by rw [if_neg hc] at g4; exact g4⟩
            rw [e2, e5, e6] at g4b
            have hsj : ∀ v : Int, (l.set i v)[j]? = some l[j] := fun v => by rw [List.getElem?_set, if_neg (by omega)]; exact hlj
            have hsi : ∀ v : Int, (l.set i v)[i]? = some v := fun v => by rw [List.getElem?_set]; simp; omega
            generalize t[j] = x at hx b5 e5 g4b
            generalize l[j] = q at hlj e6 b6 g4b hsj
            conv => whnf
            repeat' (first | (refine VLd.intro rfl ?_; conv => whnf) | (refine VArith.i64 (by omega) ?_; conv => whnf) | (refine VNeed.intro (by first | rfl | (simp; omega)) ?_; conv => whnf) | (refine VMem.store rfl rfl rfl rfl ?_; conv => whnf) | (refine VSame.intro rfl ?_; conv => whnf) | (refine VDraw.go [] (by kernel_rfl) (by kernel_rfl) ?_; conv => whnf) | (refine VIte.dec (fun _ => ?_) (fun _ => ?_) <;> conv => whnf) | (refine VIte.ndec (fun _ => ?_) (fun _ => ?_) <;> conv => whnf) | (refine VIte.beq (fun _ => ?_) (fun _ => ?_) <;> conv => whnf) | (refine VIte.bne (fun _ => ?_) (fun _ => ?_) <;> conv => whnf) | (refine VIte.intro (fun _ => ?_) (fun _ => ?_) <;> conv => whnf) | (refine VAny.ix encI_len j (by omega) rfl hx ?_; conv => whnf) | (refine VAny.ix encI_len i (by omega) rfl hw ?_; conv => whnf) | (refine VLd.recc encI_len j 0 rfl rfl rfl (hsj v) (by decide) rfl (by simp only [Nat.zero_add, Nat.mul_one]; omega) ?_; conv => whnf) | (refine VLd.recc encI_len i 0 rfl rfl rfl (hsi v) (by decide) rfl (by simp only [Nat.zero_add, Nat.mul_one]; omega) ?_; conv => whnf))
            · refine VMem.setRec encI_len i 0 (q + 1) rfl rfl rfl (hsi v) (by decide) rfl (by simp only [Nat.zero_add, Nat.mul_one]; omega) ?_
              rw [List.set_set]
              conv => whnf
              repeat (first | (refine VLd.intro rfl ?_; conv => whnf) | (refine VArith.i64 (by omega) ?_; conv => whnf) | (refine VNeed.intro (by first | rfl | (simp; omega)) ?_; conv => whnf) | (refine VMem.store rfl rfl rfl rfl ?_; conv => whnf) | (refine VSame.intro rfl ?_; conv => whnf) | (refine VDraw.go [] (by kernel_rfl) (by kernel_rfl) ?_; conv => whnf))
              refine LEnd.intro (j + 1, q + 1) ⟨by simp only; omega, by simp only; omega, by simp only; omega, g4b.1 (by omega)⟩ (by simp only; omega) ?_
              conv => whnf
              refine Retell.turn ⟨[0,1], 2, [], []⟩ (TurnOk.mk' _ _ [] [] (OutOk.lift _) rfl (by decide) (by repeat' (first | exact BTos.nil | refine BTos.flat rfl rfl (by first | rfl | simp) ?_ | refine BTos.new rfl ?_ | refine BTos.dead rfl rfl ?_ | refine BTos.row rfl rfl rfl (RowTo.snoc (RowTo.one rfl (by simp))) ?_ | refine BTos.cells rfl rfl rfl (by repeat' (first | exact VTo.undef | exact FrTo.leaf | refine FrTo.node ?_ ?_ ?_ | refine FrTo.none ?_ ?_ | exact VTo.sc (by first | rfl | (congr 1; omega) | (congr 1; simp; omega)) | exact VTos_dv _ _ | refine VTos.cons ?_ ?_ | exact VTos.nil | refine VTo.agg ?_ | refine VTo.tuple ?_ | refine VTo.func ?_ ?_ | exact VTo.fs | exact VTo.fp | exact VTo.nilptr | exact VTo.nilslice | exact VTo.nilfunc | exact VTo.ptr rfl | exact VTo.gl rfl | exact VTo.map rfl | exact VTo.glNil' (by decide) rfl rfl | exact VTo.fsNil (by decide) | exact VTo.fpPtr rfl | exact VTo.fsGl rfl (by first | rfl | exact flat_len encI_len _ | exact flat_len encS_len _ | exact flat_len encP_len _ | exact flat_len encL_len _ | exact flat_len encE_len _ | (simp [flat_len encP_len]; done) | simp [flat_len encI_len, flat_len encS_len]))) ?_)) trivial trivial rfl) (by repeat' (first | exact VTo.undef | exact FrTo.leaf | refine FrTo.node ?_ ?_ ?_ | refine FrTo.none ?_ ?_ | exact VTo.sc (by first | rfl | (congr 1; omega) | (congr 1; simp; omega)) | exact VTos_dv _ _ | refine VTos.cons ?_ ?_ | exact VTos.nil | refine VTo.agg ?_ | refine VTo.tuple ?_ | refine VTo.func ?_ ?_ | exact VTo.fs | exact VTo.fp | exact VTo.nilptr | exact VTo.nilslice | exact VTo.nilfunc | exact VTo.ptr rfl | exact VTo.gl rfl | exact VTo.map rfl | exact VTo.glNil' (by decide) rfl rfl | exact VTo.fsNil (by decide) | exact VTo.fpPtr rfl | exact VTo.fsGl rfl (by first | rfl | exact flat_len encI_len _ | exact flat_len encS_len _ | exact flat_len encP_len _ | exact flat_len encL_len _ | exact flat_len encE_len _ | (simp [flat_len encP_len]; done) | simp [flat_len encI_len, flat_len encS_len]))) (by first | rfl | (repeat' (first | exact MkTo.nil | refine MkTo.keep rfl ?_ | refine MkTo.drop (by decide) rfl ?_)))
            all_goals (
              refine LEnd.intro (j + 1, v) ⟨by simp only; omega, by simp only; omega, g3, g4b.2 (by omega)⟩ (by simp only; omega) ?_
              conv => whnf
              refine Retell.turn ⟨[0,1], 2, [], []⟩ (TurnOk.mk' _ _ [] [] (OutOk.lift _) rfl (by decide) (by repeat' (first | exact BTos.nil | refine BTos.flat rfl rfl (by first | rfl | simp) ?_ | refine BTos.new rfl ?_ | refine BTos.dead rfl rfl ?_ | refine BTos.row rfl rfl rfl (RowTo.snoc (RowTo.one rfl (by simp))) ?_ | refine BTos.cells rfl rfl rfl (by repeat' (first | exact VTo.undef | exact FrTo.leaf | refine FrTo.node ?_ ?_ ?_ | refine FrTo.none ?_ ?_ | exact VTo.sc (by first | rfl | (congr 1; omega) | (congr 1; simp; omega)) | exact VTos_dv _ _ | refine VTos.cons ?_ ?_ | exact VTos.nil | refine VTo.agg ?_ | refine VTo.tuple ?_ | refine VTo.func ?_ ?_ | exact VTo.fs | exact VTo.fp | exact VTo.nilptr | exact VTo.nilslice | exact VTo.nilfunc | exact VTo.ptr rfl | exact VTo.gl rfl | exact VTo.map rfl | exact VTo.glNil' (by decide) rfl rfl | exact VTo.fsNil (by decide) | exact VTo.fpPtr rfl | exact VTo.fsGl rfl (by first | rfl | exact flat_len encI_len _ | exact flat_len encS_len _ | exact flat_len encP_len _ | exact flat_len encL_len _ | exact flat_len encE_len _ | (simp [flat_len encP_len]; done) | simp [flat_len encI_len, flat_len encS_len]))) ?_)) trivial trivial rfl) (by repeat' (first | exact VTo.undef | exact FrTo.leaf | refine FrTo.node ?_ ?_ ?_ | refine FrTo.none ?_ ?_ | exact VTo.sc (by first | rfl | (congr 1; omega) | (congr 1; simp; omega)) | exact VTos_dv _ _ | refine VTos.cons ?_ ?_ | exact VTos.nil | refine VTo.agg ?_ | refine VTo.tuple ?_ | refine VTo.func ?_ ?_ | exact VTo.fs | exact VTo.fp | exact VTo.nilptr | exact VTo.nilslice | exact VTo.nilfunc | exact VTo.ptr rfl | exact VTo.gl rfl | exact VTo.map rfl | exact VTo.glNil' (by decide) rfl rfl | exact VTo.fsNil (by decide) | exact VTo.fpPtr rfl | exact VTo.fsGl rfl (by first | rfl | exact flat_len encI_len _ | exact flat_len encS_len _ | exact flat_len encP_len _ | exact flat_len encL_len _ | exact flat_len encE_len _ | (simp [flat_len encP_len]; done) | simp [flat_len encI_len, flat_len encS_len]))) (by first | rfl | (repeat' (first | exact MkTo.nil | refine MkTo.keep rfl ?_ | refine MkTo.drop (by decide) rfl ?_))))
          · conv => whnf
            have hji : j = i := by omega
            subst hji
            rw [Nat.sub_self, innS] at g4
            subst g4
            repeat (first | (refine VLd.intro rfl ?_; conv => whnf) | (refine VArith.i64 (by omega) ?_; conv => whnf) | (refine VNeed.intro (by first | rfl | (simp; omega)) ?_; conv => whnf) | (refine VMem.store rfl rfl rfl rfl ?_; conv => whnf) | (refine VSame.intro rfl ?_; conv => whnf) | (refine VDraw.go [] (by kernel_rfl) (by kernel_rfl) ?_; conv => whnf))
            refine LEnd.intro (j + 1, l.set j M) ⟨by simp only; omega, by simp only; omega, by simp [h3], small_set h4 g3, h5b⟩ (by simp only; omega) ?_
            conv => whnf
            refine Retell.turn ⟨[0,1], 2, [], []⟩ (TurnOk.mk' _ _ [] [] (OutOk.lift _) rfl (by decide) (by repeat' (first | exact BTos.nil | refine BTos.flat rfl rfl (by first | rfl | simp) ?_ | refine BTos.new rfl ?_ | refine BTos.dead rfl rfl ?_ | refine BTos.row rfl rfl rfl (RowTo.snoc (RowTo.one rfl (by simp))) ?_ | refine BTos.cells rfl rfl rfl (by repeat' (first | exact VTo.undef | exact FrTo.leaf | refine FrTo.node ?_ ?_ ?_ | refine FrTo.none ?_ ?_ | exact VTo.sc (by first | rfl | (congr 1; omega) | (congr 1; simp; omega)) | exact VTos_dv _ _ | refine VTos.cons ?_ ?_ | exact VTos.nil | refine VTo.agg ?_ | refine VTo.tuple ?_ | refine VTo.func ?_ ?_ | exact VTo.fs | exact VTo.fp | exact VTo.nilptr | exact VTo.nilslice | exact VTo.nilfunc | exact VTo.ptr rfl | exact VTo.gl rfl | exact VTo.map rfl | exact VTo.glNil' (by decide) rfl rfl | exact VTo.fsNil (by decide) | exact VTo.fpPtr rfl | exact VTo.fsGl rfl (by first | rfl | exact flat_len encI_len _ | exact flat_len encS_len _ | exact flat_len encP_len _ | exact flat_len encL_len _ | exact flat_len encE_len _ | (simp [flat_len encP_len]; done) | simp [flat_len encI_len, flat_len encS_len]))) ?_)) trivial trivial rfl) (by repeat' (first | exact VTo.undef | exact FrTo.leaf | refine FrTo.node ?_ ?_ ?_ | refine FrTo.none ?_ ?_ | exact VTo.sc (by first | rfl | (congr 1; omega) | (congr 1; simp; omega)) | exact VTos_dv _ _ | refine VTos.cons ?_ ?_ | exact VTos.nil | refine VTo.agg ?_ | refine VTo.tuple ?_ | refine VTo.func ?_ ?_ | exact VTo.fs | exact VTo.fp | exact VTo.nilptr | exact VTo.nilslice | exact VTo.nilfunc | exact VTo.ptr rfl | exact VTo.gl rfl | exact VTo.map rfl | exact VTo.glNil' (by decide) rfl rfl | exact VTo.fsNil (by decide) | exact VTo.fpPtr rfl | exact VTo.fsGl rfl (by first | rfl | exact flat_len encI_len _ | exact flat_len encS_len _ | exact flat_len encP_len _ | exact flat_len encL_len _ | exact flat_len encE_len _ | (simp [flat_len encP_len]; done) | simp [flat_len encI_len, flat_len encS_len]))) (by first | rfl | (repeat' (first | exact MkTo.nil | refine MkTo.keep rfl ?_ | refine MkTo.drop (by decide) rfl ?_)))
      · rw [if_neg (by omega)] at hM2
        --
        refine VCode.lp (fun x : Nat × Int => [(1, ints t), (2, I p), (3, .ptr (.loc 0) 0), (9, I lo), (10, .gl (.loc 1) 1 t.length), (11, I i), (12, I x.1)])
          (fun x => [.flat true (encF f), .flat true ((l.set i x.2).flatMap encI)]) (fun x => lo ≤ x.1 ∧ x.1 ≤ i ∧ (0 ≤ x.2 ∧ x.2 ≤ 100) ∧ M = innS f t i l (i - x.1) x.1 x.2) (fun x => i - x.1) (lo, 100)
          ⟨Nat.le_refl _, h1, by simp only; omega, hM2⟩ ?_ ?_
        · conv => whnf
          refine Retell.turn ⟨[0,1], 2, [], []⟩ (TurnOk.mk' _ _ [] [] (OutOk.lift _) rfl (by decide) (by repeat' (first | exact BTos.nil | refine BTos.flat rfl rfl (by first | rfl | simp) ?_ | refine BTos.new rfl ?_ | refine BTos.dead rfl rfl ?_ | refine BTos.row rfl rfl rfl (RowTo.snoc (RowTo.one rfl (by simp))) ?_ | refine BTos.cells rfl rfl rfl (by repeat' (first | exact VTo.undef | exact FrTo.leaf | refine FrTo.node ?_ ?_ ?_ | refine FrTo.none ?_ ?_ | exact VTo.sc (by first | rfl | (congr 1; omega) | (congr 1; simp; omega)) | exact VTos_dv _ _ | refine VTos.cons ?_ ?_ | exact VTos.nil | refine VTo.agg ?_ | refine VTo.tuple ?_ | refine VTo.func ?_ ?_ | exact VTo.fs | exact VTo.fp | exact VTo.nilptr | exact VTo.nilslice | exact VTo.nilfunc | exact VTo.ptr rfl | exact VTo.gl rfl | exact VTo.map rfl | exact VTo.glNil' (by decide) rfl rfl | exact VTo.fsNil (by decide) | exact VTo.fpPtr rfl | exact VTo.fsGl rfl (by first | rfl | exact flat_len encI_len _ | exact flat_len encS_len _ | exact flat_len encP_len _ | exact flat_len encL_len _ | exact flat_len encE_len _ | (simp [flat_len encP_len]; done) | simp [flat_len encI_len, flat_len encS_len]))) ?_)) trivial trivial rfl) (by repeat' (first | exact VTo.undef | exact FrTo.leaf | refine FrTo.node ?_ ?_ ?_ | refine FrTo.none ?_ ?_ | exact VTo.sc (by first | rfl | (congr 1; omega) | (congr 1; simp; omega)) | exact VTos_dv _ _ | refine VTos.cons ?_ ?_ | exact VTos.nil | refine VTo.agg ?_ | refine VTo.tuple ?_ | refine VTo.func ?_ ?_ | exact VTo.fs | exact VTo.fp | exact VTo.nilptr | exact VTo.nilslice | exact VTo.nilfunc | exact VTo.ptr rfl | exact VTo.gl rfl | exact VTo.map rfl | exact VTo.glNil' (by decide) rfl rfl | exact VTo.fsNil (by decide) | exact VTo.fpPtr rfl | exact VTo.fsGl rfl (by first | rfl | exact flat_len encI_len _ | exact flat_len encS_len _ | exact flat_len encP_len _ | exact flat_len encL_len _ | exact flat_len encE_len _ | (simp [flat_len encP_len]; done) | simp [flat_len encI_len, flat_len encS_len]))) (by first | rfl | (repeat' (first | exact MkTo.nil | refine MkTo.keep rfl ?_ | refine MkTo.drop (by decide) rfl ?_)))
        · rintro ⟨j, v⟩ ⟨g1, g2, g3, g4⟩
          simp only at g1 g2 g3 g4
          conv => whnf
          refine VIte.dec (fun g5 => ?_) (fun g5 => ?_)
          · have hx : t[j]? = some t[j] := List.getElem?_eq_getElem (by omega)
            have b5 := o.yr hx
            have e5 := tAt_eq hx
            have hlj : l[j]? = some l[j] := List.getElem?_eq_getElem (by omega)
            have e6 : l.getD j 0 = l[j] := by simp [hlj]
            have b6 := h4 l[j] (List.getElem_mem (by omega))
            have g4b : (tAt t i - tAt t j ≤ f.G ∧ l.getD j 0 + 1 < v → M = innS f t i l (i - (j + 1)) (j + 1) (l.getD j 0 + 1)) ∧ (¬ (tAt t i - tAt t j ≤ f.G ∧ l.getD j 0 + 1 < v) → M = innS f t i l (i - (j + 1)) (j + 1) v) := by
              obtain ⟨k, hk⟩ : ∃ k, i - j = k + 1 := ⟨i - j - 1, by omega⟩
              rw [hk, innS] at g4
              rw [show i - (j + 1) = k by omega]
              exact ⟨fun hc => by rw [if_pos hc] at g4; exact g4, fun hc => by rw [if_neg hc] at g4; exact g4⟩
            rw [e2, e5, e6] at g4b
            have hsj : ∀ v : Int, (l.set i v)[j]? = some l[j] := fun v => by rw [List.getElem?_set, if_neg (by omega)]; exact hlj
            have hsi : ∀ v : Int, (l.set i v)[i]? = some v := fun v => by rw [List.getElem?_set]; simp; omega
            generalize t[j] = x at hx b5 e5 g4b
            generalize l[j] = q at hlj e6 b6 g4b hsj
            conv => whnf
            repeat' (first | (refine VLd.intro rfl ?_; conv => whnf) | (refine VArith.i64 (by omega) ?_; conv => whnf) | (refine VNeed.intro (by first | rfl | (simp; omega)) ?_; conv => whnf) | (refine VMem.store rfl rfl rfl rfl ?_; conv => whnf) | (refine VSame.intro rfl ?_; conv => whnf) | (refine VDraw.go [] (by kernel_rfl) (by kernel_rfl) ?_; conv => whnf) | (refine VIte.dec (fun _ => ?_) (fun _ => ?_) <;> conv => whnf) | (refine VIte.ndec (fun _ => ?_) (fun _ => ?_) <;> conv => whnf) | (refine VIte.beq (fun _ => ?_) (fun _ => ?_) <;> conv => whnf) | (refine VIte.bne (fun _ => ?_) (fun _ => ?_) <;> conv => whnf) | (refine VIte.intro (fun _ => ?_) (fun _ => ?_) <;> conv => whnf) | (refine VAny.ix encI_len j (by omega) rfl hx ?_; conv => whnf) | (refine VAny.ix encI_len i (by omega) rfl hw ?_; conv => whnf) | (refine VLd.recc encI_len j 0 rfl rfl rfl (hsj v) (by decide) rfl (by simp only [Nat.zero_add, Nat.mul_one]; omega) ?_; conv => whnf) | (refine VLd.recc encI_len i 0 rfl rfl rfl (hsi v) (by decide) rfl (by simp only [Nat.zero_add, Nat.mul_one]; omega) ?_; conv => whnf))
            · refine VMem.setRec encI_len i 0 (q + 1) rfl rfl rfl (hsi v) (by decide) rfl (by simp only [Nat.zero_add, Nat.mul_one]; omega) ?_
              rw [List.set_set]
              conv => whnf
              repeat (first | (refine VLd.intro rfl ?_; conv => whnf) | (refine VArith.i64 (by omega) ?_; conv => whnf) | (refine VNeed.intro (by first | rfl | (simp; omega)) ?_; conv => whnf) | (refine VMem.store rfl rfl rfl rfl ?_; conv => whnf) | (refine VSame.intro rfl ?_; conv => whnf) | (refine VDraw.go [] (by kernel_rfl) (by kernel_rfl) ?_; conv => whnf))
              refine LEnd.intro (j + 1, q + 1) ⟨by simp only; omega, by simp only; omega, by simp only; omega, g4b.1 (by omega)⟩ (by simp only; omega) ?_
              conv => whnf
              refine Retell.turn ⟨[0,1], 2, [], []⟩ (TurnOk.mk' _ _ [] [] (OutOk.lift _) rfl (by decide) (by repeat' (first | exact BTos.nil | refine BTos.flat rfl rfl (by first | rfl | simp) ?_ | refine BTos.new rfl ?_ | refine BTos.dead rfl rfl ?_ | refine BTos.row rfl rfl rfl (RowTo.snoc (RowTo.one rfl (by simp))) ?_ | refine BTos.cells rfl rfl rfl (by repeat' (first | exact VTo.undef | exact FrTo.leaf | refine FrTo.node ?_ ?_ ?_ | refine FrTo.none ?_ ?_ | exact VTo.sc (by first | rfl | (congr 1; omega) | (congr 1; simp; omega)) | exact VTos_dv _ _ | refine VTos.cons ?_ ?_ | exact VTos.nil | refine VTo.agg ?_ | refine VTo.tuple ?_ | refine VTo.func ?_ ?_ | exact VTo.fs | exact VTo.fp | exact VTo.nilptr | exact VTo.nilslice | exact VTo.nilfunc | exact VTo.ptr rfl | exact VTo.gl rfl | exact VTo.map rfl | exact VTo.glNil' (by decide) rfl rfl | exact VTo.fsNil (by decide) | exact VTo.fpPtr rfl | exact VTo.fsGl rfl (by first | rfl | exact flat_len encI_len _ | exact flat_len encS_len _ | exact flat_len encP_len _ | exact flat_len encL_len _ | exact flat_len encE_len _ | (simp [flat_len encP_len]; done) | simp [flat_len encI_len, flat_len encS_len]))) ?_)) trivial trivial rfl) (by repeat' (first | exact VTo.undef | exact FrTo.leaf | refine FrTo.node ?_ ?_ ?_ | refine FrTo.none ?_ ?_ | exact VTo.sc (by first | rfl | (congr 1; omega) | (congr 1; simp; omega)) | exact VTos_dv _ _ | refine VTos.cons ?_ ?_ | exact VTos.nil | refine VTo.agg ?_ | refine VTo.tuple ?_ | refine VTo.func ?_ ?_ | exact VTo.fs | exact VTo.fp | exact VTo.nilptr | exact VTo.nilslice | exact VTo.nilfunc | exact VTo.ptr rfl | exact VTo.gl rfl | exact VTo.map rfl | exact VTo.glNil' (by decide) rfl rfl | exact VTo.fsNil (by decide) | exact VTo.fpPtr rfl | exact VTo.fsGl rfl (by first | rfl | exact flat_len encI_len _ | exact flat_len encS_len _ | exact flat_len encP_len _ | exact flat_len encL_len _ | exact flat_len encE_len _ | (simp [flat_len encP_len]; done) | simp [flat_len encI_len, flat_len encS_len]))) (by first | rfl | (repeat' (first | exact MkTo.nil | refine MkTo.keep rfl ?_ | refine MkTo.drop (by decide) rfl ?_)))
            all_goals (
              refine LEnd.intro (j + 1, v) ⟨by simp only; omega, by simp only; omega, g3, g4b.2 (by omega)⟩ (by simp only; omega) ?_
              conv => whnf
              refine Retell.turn ⟨[0,1], 2, [], []⟩ (TurnOk.mk' _ _ [] [] (OutOk.lift _) rfl (by decide) (by repeat' (first | exact BTos.nil | refine BTos.flat rfl rfl (by first | rfl | simp) ?_ | refine BTos.new rfl ?_ | refine BTos.dead rfl rfl ?_ | refine BTos.row rfl rfl rfl (RowTo.snoc (RowTo.one rfl (by simp))) ?_ | refine BTos.cells rfl rfl rfl (by repeat' (first | exact VTo.undef | exact FrTo.leaf | refine FrTo.node ?_ ?_ ?_ | refine FrTo.none ?_ ?_ | exact VTo.sc (by first | rfl | (congr 1; omega) | (congr 1; simp; omega)) | exact VTos_dv _ _ | refine VTos.cons ?_ ?_ | exact VTos.nil | refine VTo.agg ?_ | refine VTo.tuple ?_ | refine VTo.func ?_ ?_ | exact VTo.fs | exact VTo.fp | exact VTo.nilptr | exact VTo.nilslice | exact VTo.nilfunc | exact VTo.ptr rfl | exact VTo.gl rfl | exact VTo.map rfl | exact VTo.glNil' (by decide) rfl rfl | exact VTo.fsNil (by decide) | exact VTo.fpPtr rfl | exact VTo.fsGl rfl (by first | rfl | exact flat_len encI_len _ | exact flat_len encS_len _ | exact flat_len encP_len _ | exact flat_len encL_len _ | exact flat_len encE_len _ | (simp [flat_len encP_len]; done) | simp [flat_len encI_len, flat_len encS_len]))) ?_)) trivial trivial rfl) (by repeat' (first | exact VTo.undef | exact FrTo.leaf | refine FrTo.node ?_ ?_ ?_ | refine FrTo.none ?_ ?_ | exact VTo.sc (by first | rfl | (congr 1; omega) | (congr 1; simp; omega)) | exact VTos_dv _ _ | refine VTos.cons ?_ ?_ | exact VTos.nil | refine VTo.agg ?_ | refine VTo.tuple ?_ | refine VTo.func ?_ ?_ | exact VTo.fs | exact VTo.fp | exact VTo.nilptr | exact VTo.nilslice | exact VTo.nilfunc | exact VTo.ptr rfl | exact VTo.gl rfl | exact VTo.map rfl | exact VTo.glNil' (by decide) rfl rfl | exact VTo.fsNil (by decide) | exact VTo.fpPtr rfl | exact VTo.fsGl rfl (by first | rfl | exact flat_len encI_len _ | exact flat_len encS_len _ | exact flat_len encP_len _ | exact flat_len encL_len _ | exact flat_len encE_len _ | (simp [flat_len encP_len]; done) | simp [flat_len encI_len, flat_len encS_len]))) (by first | rfl | (repeat' (first | exact MkTo.nil | refine MkTo.keep rfl ?_ | refine MkTo.drop (by decide) rfl ?_))))
          · conv => whnf
            have hji : j = i := by omega
            subst hji
            rw [Nat.sub_self, innS] at g4
            subst g4
            repeat (first | (refine VLd.intro rfl ?_; conv => whnf) | (refine VArith.i64 (by omega) ?_; conv => whnf) | (refine VNeed.intro (by first | rfl | (simp; omega)) ?_; conv => whnf) | (refine VMem.store rfl rfl rfl rfl ?_; conv => whnf) | (refine VSame.intro rfl ?_; conv => whnf) | (refine VDraw.go [] (by kernel_rfl) (by kernel_rfl) ?_; conv => whnf))
            refine LEnd.intro (j + 1, l.set j M) ⟨by simp only; omega, by simp only; omega, by simp [h3], small_set h4 g3, h5b⟩ (by simp only; omega) ?_
            conv => whnf
            refine Retell.turn ⟨[0,1], 2, [], []⟩ (TurnOk.mk' _ _ [] [] (OutOk.lift _) rfl (by decide) (by repeat' (first | exact BTos.nil | refine BTos.flat rfl rfl (by first | rfl | simp) ?_ | refine BTos.new rfl ?_ | refine BTos.dead rfl rfl ?_ | refine BTos.row rfl rfl rfl (RowTo.snoc (RowTo.one rfl (by simp))) ?_ | refine BTos.cells rfl rfl rfl (by repeat' (first | exact VTo.undef | exact FrTo.leaf | refine FrTo.node ?_ ?_ ?_ | refine FrTo.none ?_ ?_ | exact VTo.sc (by first | rfl | (congr 1; omega) | (congr 1; simp; omega)) | exact VTos_dv _ _ | refine VTos.cons ?_ ?_ | exact VTos.nil | refine VTo.agg ?_ | refine VTo.tuple ?_ | refine VTo.func ?_ ?_ | exact VTo.fs | exact VTo.fp | exact VTo.nilptr | exact VTo.nilslice | exact VTo.nilfunc | exact VTo.ptr rfl | exact VTo.gl rfl | exact VTo.map rfl | exact VTo.glNil' (by decide) rfl rfl | exact VTo.fsNil (by decide) | exact VTo.fpPtr rfl | exact VTo.fsGl rfl (by first | rfl | exact flat_len encI_len _ | exact flat_len encS_len _ | exact flat_len encP_len _ | exact flat_len encL_len _ | exact flat_len encE_len _ | (simp [flat_len encP_len]; done) | simp [flat_len encI_len, flat_len encS_len]))) ?_)) trivial trivial rfl) (by repeat' (first | exact VTo.undef | exact FrTo.leaf | refine FrTo.node ?_ ?_ ?_ | refine FrTo.none ?_ ?_ | exact VTo.sc (by first | rfl | (congr 1; omega) | (congr 1; simp; omega)) | exact VTos_dv _ _ | refine VTos.cons ?_ ?_ | exact VTos.nil | refine VTo.agg ?_ | refine VTo.tuple ?_ | refine VTo.func ?_ ?_ | exact VTo.fs | exact VTo.fp | exact VTo.nilptr | exact VTo.nilslice | exact VTo.nilfunc | exact VTo.ptr rfl | exact VTo.gl rfl | exact VTo.map rfl | exact VTo.glNil' (by decide) rfl rfl | exact VTo.fsNil (by decide) | exact VTo.fpPtr rfl | exact VTo.fsGl rfl (by first | rfl | exact flat_len encI_len _ | exact flat_len encS_len _ | exact flat_len encP_len _ | exact flat_len encL_len _ | exact flat_len encE_len _ | (simp [flat_len encP_len]; done) | simp [flat_len encI_len, flat_len encS_len]))) (by first | rfl | (repeat' (first | exact MkTo.nil | refine MkTo.keep rfl ?_ | refine MkTo.drop (by decide) rfl ?_)))
    · have hi : i = p + 1 := by omega
      subst hi
      rw [Nat.sub_self, mnS] at h5
      have hlp : l[p]? = some l[p] := List.getElem?_eq_getElem (by omega)
      have e9 : F.getD p 0 = l[p] := by rw [h5]; simp [hlp]
      rw [e9]
      generalize l[p] = q at hlp
      conv => whnf
      repeat' (first | (refine VLd.intro rfl ?_; conv => whnf) | (refine VArith.i64 (by omega) ?_; conv => whnf) | (refine VNeed.intro (by first | rfl | (simp; omega)) ?_; conv => whnf) | (refine VMem.store rfl rfl rfl rfl ?_; conv => whnf) | (refine VSame.intro rfl ?_; conv => whnf) | (refine VDraw.go [] (by kernel_rfl) (by kernel_rfl) ?_; conv => whnf) | (refine VIte.dec (fun _ => ?_) (fun _ => ?_) <;> conv => whnf) | (refine VIte.ndec (fun _ => ?_) (fun _ => ?_) <;> conv => whnf) | (refine VIte.beq (fun _ => ?_) (fun _ => ?_) <;> conv => whnf) | (refine VIte.bne (fun _ => ?_) (fun _ => ?_) <;> conv => whnf) | (refine VIte.intro (fun _ => ?_) (fun _ => ?_) <;> conv => whnf) | (refine VLd.recc encI_len p 0 rfl rfl rfl hlp (by decide) rfl (by simp only [Nat.zero_add, Nat.mul_one]; omega) ?_; conv => whnf))
      exact VOut.same rfl
end Go.Proofs.Ytolnajnlcdacmaa

