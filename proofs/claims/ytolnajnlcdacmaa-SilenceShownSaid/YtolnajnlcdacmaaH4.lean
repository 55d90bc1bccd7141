/- Part 4 of the proof that SilenceShown returns true for every file, truth, paper, list and windows. No condition. -/
import Derived.Test.YtolnajnlcdacmaaH3
set_option linter.unusedVariables false
set_option linter.unusedSimpArgs false
open Go.Vm
namespace Go.Proofs.Ytolnajnlcdacmaa
set_option maxRecDepth 20000
set_option maxHeartbeats 1000000

/-- The last paper from which a right is far enough. -/
def farS (f : Fil) (t : List Int) (p : Nat) : Nat → Nat → Nat
  | 0, i => i
  | n + 1, i => if f.Y ≤ tAt t p - tAt t (i + 1) then farS f t p n (i + 1) else i
def far (f : Fil) (t : List Int) (p : Nat) : Nat := farS f t p p (fst f t p)
theorem farS_ok {f : Fil} {t : List Int} {p : Nat} (hY : 1 ≤ f.Y) : ∀ n i, p ≤ i + n → i < p → f.Y ≤ tAt t p - tAt t i → i ≤ farS f t p n i ∧ farS f t p n i < p ∧ f.Y ≤ tAt t p - tAt t (farS f t p n i) ∧ tAt t p - tAt t (farS f t p n i + 1) < f.Y
  | 0, i, h1, h2, _ => by omega
  | n + 1, i, h1, h2, h3 => by
    rw [farS]
    split
    · rename_i h4
      have h5 : i + 1 < p := by
        rcases Nat.eq_or_lt_of_le (Nat.succ_le_of_lt h2) with h6 | h6
        · have h6 : i + 1 = p := h6
          rw [h6] at h4; omega
        · exact h6
      have := farS_ok hY n (i + 1) (by omega) h5 h4
      omega
    · exact ⟨Nat.le_refl _, h2, h3, by omega⟩
theorem far_ok {f : Fil} {t : List Int} {p : Nat} (o : Shw f t p) : fst f t p ≤ far f t p ∧ far f t p < p ∧ f.Y ≤ tAt t p - tAt t (far f t p) ∧ tAt t p - tAt t (far f t p + 1) < f.Y := by
  have h1 := o.far
  have h2 := o.y.1
  have h3 := fst_le f t p
  have h4 : fst f t p < p := by
    rcases Nat.eq_or_lt_of_le h3 with h5 | h5
    · rw [h5] at h1; omega
    · exact h5
  exact farS_ok h2 p _ (by omega) h4 h1
def asc (l : List Int) (i : Nat) (x : Int) : Bool := decide (i = 0 ∨ l.getD (i - 1) 0 < x)
/-- How many of the first windows a year is of. -/
def cntS (f : Fil) (y : Int) (l : List Int) : Nat → Nat
  | 0 => 0
  | k + 1 => cntS f y l k + (if l.getD k 0 + 1 ≤ y ∧ y ≤ l.getD k 0 + f.G then 1 else 0)
theorem cntS_le (f : Fil) (y : Int) (l : List Int) (k : Nat) : ∀ j, cntS f y l k ≤ cntS f y l (k + j)
  | 0 => Nat.le_refl _
  | j + 1 => Nat.le_trans (cntS_le f y l k j) (by rw [← Nat.add_assoc, cntS]; omega)
theorem cntS_bd (f : Fil) (y : Int) (l : List Int) : ∀ k, cntS f y l k ≤ k
  | 0 => Nat.le_refl _
  | k + 1 => by have := cntS_bd f y l k; rw [cntS]; split <;> omega
/-- A year is of two windows, or it is the right's, and of one. -/
def badW (f : Fil) (t l : List Int) (p i : Nat) : Bool := decide (1 < cntS f (tAt t i) l l.length ∨ (0 < cntS f (tAt t i) l l.length ∧ i = p))
def okW (f : Fil) (t l : List Int) (p : Nat) : Nat → Nat → Bool
  | 0, _ => true
  | k + 1, i => bif badW f t l p i then false else okW f t l p k (i + 1)
def hiOf (f : Fil) (t : List Int) (p : Nat) : Nat := match chn f t p with
  | some s => s.hi.toNat
  | none => 0
/-- The error of what windows prove. -/
def pvE (f : Fil) (t : List Int) (p : Nat) (l : List Int) : Int :=
  bif eachS (asc l) 0 l then
    bif l.all (fun x => decide (tAt t (far f t p) ≤ x ∧ x ≤ tAt t p - 1)) then
      bif okW f t l p (hiOf f t p + 1 - fst f t p) (fst f t p) then 0 else 9
    else 4
  else 5
/-- What windows prove, and the error. -/
def pvR (l : List Int) (e : Int) : V := .tuple [I (if e = 0 then l.length + 2 else 0), I e]
theorem vc_pr1 (l : List Int) (i : Nat) (x : Int) (h : Hp) (hl : l.length ≤ 4000000) (hx : l[i]? = some x) : VC Try.prog 82 [I i, I x, .fp [dints l]] h (B (asc l i x)) h := by
  have hil : i < l.length := by obtain ⟨h1, _⟩ := List.getElem?_eq_some_iff.1 hx; exact h1
  have hz : l[i - 1]? = some l[i - 1] := List.getElem?_eq_getElem (by omega)
  have e2 : l.getD (i - 1) 0 = l[i - 1] := by simp [hz]
  unfold asc
  rw [e2]
  generalize l[i - 1] = z at hz
  refine VC.body Try.func82 rfl Try.ntmps82 Try.call82 (h.grows_refl) rfl ?_; conv => whnf
  repeat' (first | (refine VLd.intro rfl ?_; conv => whnf) | (refine VArith.i64 (by omega) ?_; conv => whnf) | (refine VNeed.intro (by first | rfl | (simp; omega)) ?_; conv => whnf) | (refine VMem.store rfl rfl rfl rfl ?_; conv => whnf) | (refine VSame.intro rfl ?_; conv => whnf) | (refine VDraw.go [] (by kernel_rfl) (by kernel_rfl) ?_; conv => whnf) | (refine VIte.dec (fun _ => ?_) (fun _ => ?_) <;> conv => whnf) | (refine VIte.ndec (fun _ => ?_) (fun _ => ?_) <;> conv => whnf) | (refine VIte.beq (fun _ => ?_) (fun _ => ?_) <;> conv => whnf) | (refine VIte.bne (fun _ => ?_) (fun _ => ?_) <;> conv => whnf) | (refine VIte.intro (fun _ => ?_) (fun _ => ?_) <;> conv => whnf) | (refine VAny.ix encI_len (i - 1) (by omega) rfl hz ?_; conv => whnf))
  all_goals (refine VOut.dec ?_; first | (simp only [decide_eq_true_eq]; omega) | (simp; omega) | (simp; done))
theorem vc_pr2 (f : Fil) (t : List Int) (a p i : Nat) (x : Int) (h : Hp) (o : Okt f t) (ha : a < t.length) (hp : p < t.length) : VC Try.prog 83 [I i, I x, .fp [dints t], .fp [DI a], .fp [DI p]] h (B (decide (tAt t a ≤ x ∧ x ≤ tAt t p - 1))) h := by
  have hy : t[a]? = some t[a] := List.getElem?_eq_getElem (by omega)
  have hw : t[p]? = some t[p] := List.getElem?_eq_getElem (by omega)
  have b3 := o.yr hy
  have b4 := o.yr hw
  rw [tAt_eq hy, tAt_eq hw]
  generalize t[a] = y at hy b3
  generalize t[p] = w at hw b4
  refine VC.body Try.func83 rfl Try.ntmps83 Try.call83 (h.grows_refl) rfl ?_; conv => whnf
  repeat' (first | (refine VLd.intro rfl ?_; conv => whnf) | (refine VArith.i64 (by omega) ?_; conv => whnf) | (refine VNeed.intro (by first | rfl | (simp; omega)) ?_; conv => whnf) | (refine VMem.store rfl rfl rfl rfl ?_; conv => whnf) | (refine VSame.intro rfl ?_; conv => whnf) | (refine VDraw.go [] (by kernel_rfl) (by kernel_rfl) ?_; conv => whnf) | (refine VIte.dec (fun _ => ?_) (fun _ => ?_) <;> conv => whnf) | (refine VIte.ndec (fun _ => ?_) (fun _ => ?_) <;> conv => whnf) | (refine VIte.beq (fun _ => ?_) (fun _ => ?_) <;> conv => whnf) | (refine VIte.bne (fun _ => ?_) (fun _ => ?_) <;> conv => whnf) | (refine VIte.intro (fun _ => ?_) (fun _ => ?_) <;> conv => whnf) | (refine VAny.ix encI_len a (by omega) rfl hy ?_; conv => whnf) | (refine VAny.ix encI_len p (by omega) rfl hw ?_; conv => whnf) | (refine VCall.intro (vc_from _ _ _ _) ?_; conv => whnf))
  all_goals (refine VOut.dec ?_; first | (simp only [decide_eq_true_eq]; omega) | (simp; omega) | (simp; done))
theorem vc_Proves_no (f : Fil) (t : List Int) (p : Int) (l : List Int) (h : Hp) (hn : f.ps.length ≤ 4000000) (hl : t.length ≤ 4000000) (h0 : showE f t p ≠ 0) : VC Try.prog 50 [vF f, ints t, I p, ints l] h (.tuple [I 0, I (showE f t p)]) h := by
  refine VC.body Try.func50 rfl Try.ntmps50 Try.call50 (h.grows_refl) rfl ?_; conv => whnf
  repeat' (first | (refine VLd.intro rfl ?_; conv => whnf) | (refine VArith.i64 (by omega) ?_; conv => whnf) | (refine VNeed.intro (by first | rfl | (simp; omega)) ?_; conv => whnf) | (refine VMem.store rfl rfl rfl rfl ?_; conv => whnf) | (refine VSame.intro rfl ?_; conv => whnf) | (refine VDraw.go [] (by kernel_rfl) (by kernel_rfl) ?_; conv => whnf) | (refine VIte.dec (fun _ => ?_) (fun _ => ?_) <;> conv => whnf) | (refine VIte.ndec (fun _ => ?_) (fun _ => ?_) <;> conv => whnf) | (refine VIte.beq (fun _ => ?_) (fun _ => ?_) <;> conv => whnf) | (refine VIte.bne (fun _ => ?_) (fun _ => ?_) <;> conv => whnf) | (refine VIte.intro (fun _ => ?_) (fun _ => ?_) <;> conv => whnf) | (refine VCall.intro (vc_shown_no f t p _ hn hl h0) ?_; conv => whnf))
  · exact VOut.same rfl
  all_goals (rename_i h1; exact absurd (by simpa using h1) h0)
theorem vc_Proves_ok (f : Fil) (t : List Int) (p : Nat) (l : List Int) (h : Hp) (hl : t.length ≤ 4000000) (hl2 : l.length ≤ 4000000) (h0 : toldE f t = 0) (o : Shw f t p) :
    VC Try.prog 50 [vF f, ints t, I p, ints l] h (pvR l (pvE f t p l)) h := by
  have hlen := o.len
  have hn' := o.n
  have hlt := o.lt
  obtain ⟨hi, c⟩ := InCh.of o
  have hfr := far_ok o
  refine VC.bodyC 1 Try.func50 rfl Try.ntmps50 Try.call50 (h.grows_refl) rfl ?_; conv => whnf
  refine VCut.into 4 ?_
  repeat' (first | (refine VLd.intro rfl ?_; conv => whnf) | (refine VArith.i64 (by omega) ?_; conv => whnf) | (refine VNeed.intro (by first | rfl | (simp; omega)) ?_; conv => whnf) | (refine VMem.store rfl rfl rfl rfl ?_; conv => whnf) | (refine VSame.intro rfl ?_; conv => whnf) | (refine VDraw.go [] (by kernel_rfl) (by kernel_rfl) ?_; conv => whnf) | (refine VIte.dec (fun _ => ?_) (fun _ => ?_) <;> conv => whnf) | (refine VIte.ndec (fun _ => ?_) (fun _ => ?_) <;> conv => whnf) | (refine VIte.beq (fun _ => ?_) (fun _ => ?_) <;> conv => whnf) | (refine VIte.bne (fun _ => ?_) (fun _ => ?_) <;> conv => whnf) | (refine VIte.intro (fun _ => ?_) (fun _ => ?_) <;> conv => whnf) | (refine VCall.intro (vc_shown_ok f t p hi _ hl o h0 c.hc) ?_; conv => whnf))
  obtain ⟨F, hF⟩ : ∃ F, F = far f t p := ⟨_, rfl⟩
  have hF2 : F = farS f t p p (fst f t p) := hF
  rw [← hF] at hfr
  obtain ⟨lo, hlo⟩ : ∃ lo, lo = fst f t p := ⟨_, rfl⟩
  rw [← hlo] at hfr hF2 ⊢
  have hhi : hiOf f t p = hi := by rw [hiOf, c.hc]; rfl
  obtain ⟨E, hE⟩ : ∃ E, E = pvE f t p l := ⟨_, rfl⟩
  have hE2 : E = bif eachS (asc l) 0 l then bif l.all (fun x => decide (tAt t F ≤ x ∧ x ≤ tAt t p - 1)) then bif okW f t l p (hi + 1 - lo) lo then 0 else 9 else 4 else 5 := by rw [hE, hF, hlo, ← hhi]; rfl
  rw [← hE]
  have hy : t[p]? = some t[p] := List.getElem?_eq_getElem (by omega)
  have b3 := o.yr hy
  have e3 := tAt_eq hy
  have hhp := c.ph
  have hhl := c.hl
  refine VCode.lp (fun k : Nat => [(1, ints t), (2, I p), (3, ints l), (4, .ptr (.loc 0) 0), (5, .ptr (.loc 1) 0), (6, .ptr (.loc 2) 0), (7, .ptr (.loc 3) 0), (8, I 0), (9, I 0), (10, .fp (encDk f t)), (11, .ptr (.loc 4) 0), (12, I 0), (13, .ptr (.loc 5) 0)])
    (fun k => [.flat true (encF f), .flat true [dints t], .flat true [DI p], .flat true [dints l], .flat true [DI lo, DI hi], .flat true [DI k]]) (fun k => lo ≤ k ∧ k ≤ F ∧ ∃ n, F = farS f t p n k ∧ p ≤ k + n) (fun k => p - k) lo ⟨Nat.le_refl _, hfr.1, p, hF2, by omega⟩ ?_ ?_
  · conv => whnf
    refine Retell.turn ⟨[0,1,2,3,4,5], 6, [], []⟩ (TurnOk.mk' _ _ [] [] (OutOk.lift _) rfl (by decide) (by repeat' (first | exact BTos.nil | refine BTos.flat rfl rfl (by first | rfl | simp) ?_ | refine BTos.new rfl ?_ | refine BTos.dead rfl rfl ?_ | refine BTos.row rfl rfl rfl (RowTo.snoc (RowTo.one rfl (by simp))) ?_ | refine BTos.cells rfl rfl rfl (by repeat' (first | exact VTo.undef | exact FrTo.leaf | refine FrTo.node ?_ ?_ ?_ | refine FrTo.none ?_ ?_ | exact VTo.sc (by first | rfl | (congr 1; omega) | (congr 1; simp; omega)) | exact VTos_dv _ _ | refine VTos.cons ?_ ?_ | exact VTos.nil | refine VTo.agg ?_ | refine VTo.tuple ?_ | refine VTo.func ?_ ?_ | exact VTo.fs | exact VTo.fp | exact VTo.nilptr | exact VTo.nilslice | exact VTo.nilfunc | exact VTo.ptr rfl | exact VTo.gl rfl | exact VTo.map rfl | exact VTo.glNil' (by decide) rfl rfl | exact VTo.fsNil (by decide) | exact VTo.fpPtr rfl | exact VTo.fsGl rfl (by first | rfl | exact flat_len encI_len _ | exact flat_len encS_len _ | exact flat_len encP_len _ | exact flat_len encL_len _ | exact flat_len encE_len _ | (simp [flat_len encP_len]; done) | simp [flat_len encI_len, flat_len encS_len]))) ?_)) trivial trivial rfl) (by repeat' (first | exact VTo.undef | exact FrTo.leaf | refine FrTo.node ?_ ?_ ?_ | refine FrTo.none ?_ ?_ | exact VTo.sc (by first | rfl | (congr 1; omega) | (congr 1; simp; omega)) | exact VTos_dv _ _ | refine VTos.cons ?_ ?_ | exact VTos.nil | refine VTo.agg ?_ | refine VTo.tuple ?_ | refine VTo.func ?_ ?_ | exact VTo.fs | exact VTo.fp | exact VTo.nilptr | exact VTo.nilslice | exact VTo.nilfunc | exact VTo.ptr rfl | exact VTo.gl rfl | exact VTo.map rfl | exact VTo.glNil' (by decide) rfl rfl | exact VTo.fsNil (by decide) | exact VTo.fpPtr rfl | exact VTo.fsGl rfl (by first | rfl | exact flat_len encI_len _ | exact flat_len encS_len _ | exact flat_len encP_len _ | exact flat_len encL_len _ | exact flat_len encE_len _ | (simp [flat_len encP_len]; done) | simp [flat_len encI_len, flat_len encS_len]))) (by first | rfl | (repeat' (first | exact MkTo.nil | refine MkTo.keep rfl ?_ | refine MkTo.drop (by decide) rfl ?_)))
  · rintro k ⟨h1, h2, n, h3, h4⟩
    obtain ⟨n, rfl⟩ : ∃ m, n = m + 1 := ⟨n - 1, by omega⟩
    rw [farS] at h3
    have hw : t[k + 1]? = some t[k + 1] := List.getElem?_eq_getElem (by omega)
    have b4 := o.yr hw
    have e4 := tAt_eq hw
    generalize t[p] = y at hy b3 e3
    generalize t[k + 1] = w at hw b4 e4
    conv => whnf
    repeat' (first | (refine VLd.intro rfl ?_; conv => whnf) | (refine VArith.i64 (by omega) ?_; conv => whnf) | (refine VNeed.intro (by first | rfl | (simp; omega)) ?_; conv => whnf) | (refine VMem.store rfl rfl rfl rfl ?_; conv => whnf) | (refine VSame.intro rfl ?_; conv => whnf) | (refine VDraw.go [] (by kernel_rfl) (by kernel_rfl) ?_; conv => whnf) | (refine VIte.dec (fun _ => ?_) (fun _ => ?_) <;> conv => whnf) | (refine VIte.ndec (fun _ => ?_) (fun _ => ?_) <;> conv => whnf) | (refine VIte.beq (fun _ => ?_) (fun _ => ?_) <;> conv => whnf) | (refine VIte.bne (fun _ => ?_) (fun _ => ?_) <;> conv => whnf) | (refine VIte.intro (fun _ => ?_) (fun _ => ?_) <;> conv => whnf) | (refine VAny.ix encI_len p (by omega) rfl hy ?_; conv => whnf) | (refine VAny.ix encI_len (k + 1) (by omega) rfl hw ?_; conv => whnf))
    · rw [if_pos (by omega)] at h3
      have hk1 : k + 1 ≤ F := by
        rcases Nat.eq_or_lt_of_le h2 with h6 | h6
        · subst h6; omega
        · exact h6
      refine LEnd.intro (k + 1) ⟨by omega, hk1, n, h3, by omega⟩ (by omega) ?_
      conv => whnf
      refine Retell.turn ⟨[0,1,2,3,4,5], 6, [], []⟩ (TurnOk.mk' _ _ [] [] (OutOk.lift _) rfl (by decide) (by repeat' (first | exact BTos.nil | refine BTos.flat rfl rfl (by first | rfl | simp) ?_ | refine BTos.new rfl ?_ | refine BTos.dead rfl rfl ?_ | refine BTos.row rfl rfl rfl (RowTo.snoc (RowTo.one rfl (by simp))) ?_ | refine BTos.cells rfl rfl rfl (by repeat' (first | exact VTo.undef | exact FrTo.leaf | refine FrTo.node ?_ ?_ ?_ | refine FrTo.none ?_ ?_ | exact VTo.sc (by first | rfl | (congr 1; omega) | (congr 1; simp; omega)) | exact VTos_dv _ _ | refine VTos.cons ?_ ?_ | exact VTos.nil | refine VTo.agg ?_ | refine VTo.tuple ?_ | refine VTo.func ?_ ?_ | exact VTo.fs | exact VTo.fp | exact VTo.nilptr | exact VTo.nilslice | exact VTo.nilfunc | exact VTo.ptr rfl | exact VTo.gl rfl | exact VTo.map rfl | exact VTo.glNil' (by decide) rfl rfl | exact VTo.fsNil (by decide) | exact VTo.fpPtr rfl | exact VTo.fsGl rfl (by first | rfl | exact flat_len encI_len _ | exact flat_len encS_len _ | exact flat_len encP_len _ | exact flat_len encL_len _ | exact flat_len encE_len _ | (simp [flat_len encP_len]; done) | simp [flat_len encI_len, flat_len encS_len]))) ?_)) trivial trivial rfl) (by repeat' (first | exact VTo.undef | exact FrTo.leaf | refine FrTo.node ?_ ?_ ?_ | refine FrTo.none ?_ ?_ | exact VTo.sc (by first | rfl | (congr 1; omega) | (congr 1; simp; omega)) | exact VTos_dv _ _ | refine VTos.cons ?_ ?_ | exact VTos.nil | refine VTo.agg ?_ | refine VTo.tuple ?_ | refine VTo.func ?_ ?_ | exact VTo.fs | exact VTo.fp | exact VTo.nilptr | exact VTo.nilslice | exact VTo.nilfunc | exact VTo.ptr rfl | exact VTo.gl rfl | exact VTo.map rfl | exact VTo.glNil' (by decide) rfl rfl | exact VTo.fsNil (by decide) | exact VTo.fpPtr rfl | exact VTo.fsGl rfl (by first | rfl | exact flat_len encI_len _ | exact flat_len encS_len _ | exact flat_len encP_len _ | exact flat_len encL_len _ | exact flat_len encE_len _ | (simp [flat_len encP_len]; done) | simp [flat_len encI_len, flat_len encS_len]))) (by first | rfl | (repeat' (first | exact MkTo.nil | refine MkTo.keep rfl ?_ | refine MkTo.drop (by decide) rfl ?_)))
    · rw [if_neg (by omega)] at h3
      subst h3
      refine VCut.at [(1, ints t), (2, I p), (3, ints l), (4, .fp (encF f)), (5, .fp [dints t]), (6, .fp [DI p]), (7, .fp [dints l]), (8, I 0), (9, I 0), (10, .fp (encDk f t)), (11, .fp [DI lo, DI hi]), (12, I 0), (13, .fp [DI F])] [] ?_ ?_
      · conv => whnf
        refine Retell.turn ⟨[], 6, [(0, encF f), (1, [dints t]), (2, [DI p]), (3, [dints l]), (4, [DI lo, DI hi]), (5, [DI F])], []⟩ (TurnOk.mk' _ _ [(0, encF f), (1, [dints t]), (2, [DI p]), (3, [dints l]), (4, [DI lo, DI hi]), (5, [DI F])] [] (OutOk.lift _) rfl (by decide) (by repeat' (first | exact BTos.nil | refine BTos.flat rfl rfl (by first | rfl | simp) ?_ | refine BTos.new rfl ?_ | refine BTos.dead rfl rfl ?_ | refine BTos.row rfl rfl rfl (RowTo.snoc (RowTo.one rfl (by simp))) ?_ | refine BTos.cells rfl rfl rfl (by repeat' (first | exact VTo.undef | exact FrTo.leaf | refine FrTo.node ?_ ?_ ?_ | refine FrTo.none ?_ ?_ | exact VTo.sc (by first | rfl | (congr 1; omega) | (congr 1; simp; omega)) | exact VTos_dv _ _ | refine VTos.cons ?_ ?_ | exact VTos.nil | refine VTo.agg ?_ | refine VTo.tuple ?_ | refine VTo.func ?_ ?_ | exact VTo.fs | exact VTo.fp | exact VTo.nilptr | exact VTo.nilslice | exact VTo.nilfunc | exact VTo.ptr rfl | exact VTo.gl rfl | exact VTo.map rfl | exact VTo.glNil' (by decide) rfl rfl | exact VTo.fsNil (by decide) | exact VTo.fpPtr rfl | exact VTo.fsGl rfl (by first | rfl | exact flat_len encI_len _ | exact flat_len encS_len _ | exact flat_len encP_len _ | exact flat_len encL_len _ | exact flat_len encE_len _ | (simp [flat_len encP_len]; done) | simp [flat_len encI_len, flat_len encS_len]))) ?_)) (by repeat' (first | exact FzAll.nil | refine FzAll.flat rfl ?_ | refine FzAll.row rfl rfl (RowTo.one rfl (by simp)) ?_)) trivial rfl) (by repeat' (first | exact VTo.undef | exact FrTo.leaf | refine FrTo.node ?_ ?_ ?_ | refine FrTo.none ?_ ?_ | exact VTo.sc (by first | rfl | (congr 1; omega) | (congr 1; simp; omega)) | exact VTos_dv _ _ | refine VTos.cons ?_ ?_ | exact VTos.nil | refine VTo.agg ?_ | refine VTo.tuple ?_ | refine VTo.func ?_ ?_ | exact VTo.fs | exact VTo.fp | exact VTo.nilptr | exact VTo.nilslice | exact VTo.nilfunc | exact VTo.ptr rfl | exact VTo.gl rfl | exact VTo.map rfl | exact VTo.glNil' (by decide) rfl rfl | exact VTo.fsNil (by decide) | exact VTo.fpPtr rfl | exact VTo.fsGl rfl (by first | rfl | exact flat_len encI_len _ | exact flat_len encS_len _ | exact flat_len encP_len _ | exact flat_len encL_len _ | exact flat_len encE_len _ | (simp [flat_len encP_len]; done) | simp [flat_len encI_len, flat_len encS_len]))) (by first | rfl | (repeat' (first | exact MkTo.nil | refine MkTo.keep rfl ?_ | refine MkTo.drop (by decide) rfl ?_)))
      have key1 : VC Try.prog 79 [ints l, .func (.func 82) [] (D.vs [.pt [dints l]])] ⟨h.lift, []⟩ (B (eachS (asc l) 0 l)) ⟨h.lift, []⟩ :=
        vc_each l (asc l) 82 [.pt [dints l]] hl2 (fun i x h hx => vc_pr1 l i x h hl2 hx) _
      have key2 : VC Try.prog 79 [ints l, .func (.func 83) [] (D.vs [.pt [dints t], .pt [DI F], .pt [DI p]])] ⟨h.lift, []⟩ (B (l.all fun x => decide (tAt t F ≤ x ∧ x ≤ tAt t p - 1))) ⟨h.lift, []⟩ := by
        rw [← eachS_all _ l 0]
        exact vc_each l (fun _ x => decide (tAt t F ≤ x ∧ x ≤ tAt t p - 1)) 83 [.pt [dints t], .pt [DI F], .pt [DI p]] hl2 (fun i x h hx => vc_pr2 f t F p i x h o.toOkt (by omega) (by omega)) _
      have hRR : ∀ e : Int, E = e → pvR l E = .tuple [I (if e = 0 then l.length + 2 else 0), I e] := fun e he => by rw [he]; rfl
      cases hA : eachS (asc l) 0 l
      · rw [hA] at hE2 key1
        rw [hRR 5 hE2]
        conv => whnf
        repeat' (first | (refine VLd.intro rfl ?_; conv => whnf) | (refine VArith.i64 (by omega) ?_; conv => whnf) | (refine VNeed.intro (by first | rfl | (simp; omega)) ?_; conv => whnf) | (refine VMem.store rfl rfl rfl rfl ?_; conv => whnf) | (refine VSame.intro rfl ?_; conv => whnf) | (refine VDraw.go [] (by kernel_rfl) (by kernel_rfl) ?_; conv => whnf) | (refine VIte.dec (fun _ => ?_) (fun _ => ?_) <;> conv => whnf) | (refine VIte.ndec (fun _ => ?_) (fun _ => ?_) <;> conv => whnf) | (refine VIte.beq (fun _ => ?_) (fun _ => ?_) <;> conv => whnf) | (refine VIte.bne (fun _ => ?_) (fun _ => ?_) <;> conv => whnf) | (refine VIte.intro (fun _ => ?_) (fun _ => ?_) <;> conv => whnf) | (refine VCall.intro key1 ?_; conv => whnf))
        exact VOut.same rfl
      · rw [hA] at hE2 key1
        simp only [cond_true] at hE2
        cases hB : l.all fun x => decide (tAt t F ≤ x ∧ x ≤ tAt t p - 1)
        · rw [hB] at hE2 key2
          rw [hRR 4 hE2]
          conv => whnf
          repeat' (first | (refine VLd.intro rfl ?_; conv => whnf) | (refine VArith.i64 (by omega) ?_; conv => whnf) | (refine VNeed.intro (by first | rfl | (simp; omega)) ?_; conv => whnf) | (refine VMem.store rfl rfl rfl rfl ?_; conv => whnf) | (refine VSame.intro rfl ?_; conv => whnf) | (refine VDraw.go [] (by kernel_rfl) (by kernel_rfl) ?_; conv => whnf) | (refine VIte.dec (fun _ => ?_) (fun _ => ?_) <;> conv => whnf) | (refine VIte.ndec (fun _ => ?_) (fun _ => ?_) <;> conv => whnf) | (refine VIte.beq (fun _ => ?_) (fun _ => ?_) <;> conv => whnf) | (refine VIte.bne (fun _ => ?_) (fun _ => ?_) <;> conv => whnf) | (refine VIte.intro (fun _ => ?_) (fun _ => ?_) <;> conv => whnf) | (refine VCall.intro key1 ?_; conv => whnf) | (refine VCall.intro key2 ?_; conv => whnf))
          exact VOut.same rfl
        · rw [hB] at hE2 key2
          simp only [cond_true] at hE2
          have hin : ∀ {i : Nat} {x : Int}, l[i]? = some x → 0 ≤ x ∧ x ≤ 3000 := fun {i x} hx => by
            have h9 := List.all_eq_true.1 hB x (List.mem_of_getElem? hx)
            rw [decide_eq_true_eq] at h9
            have hfy : t[F]? = some t[F] := List.getElem?_eq_getElem (by omega)
            have b9 := o.yr hfy
            rw [tAt_eq hfy] at h9
            omega
          have hG := o.g
          conv => whnf
          repeat' (first | (refine VLd.intro rfl ?_; conv => whnf) | (refine VArith.i64 (by omega) ?_; conv => whnf) | (refine VNeed.intro (by first | rfl | (simp; omega)) ?_; conv => whnf) | (refine VMem.store rfl rfl rfl rfl ?_; conv => whnf) | (refine VSame.intro rfl ?_; conv => whnf) | (refine VDraw.go [] (by kernel_rfl) (by kernel_rfl) ?_; conv => whnf) | (refine VIte.dec (fun _ => ?_) (fun _ => ?_) <;> conv => whnf) | (refine VIte.ndec (fun _ => ?_) (fun _ => ?_) <;> conv => whnf) | (refine VIte.beq (fun _ => ?_) (fun _ => ?_) <;> conv => whnf) | (refine VIte.bne (fun _ => ?_) (fun _ => ?_) <;> conv => whnf) | (refine VIte.intro (fun _ => ?_) (fun _ => ?_) <;> conv => whnf) | (refine VCall.intro key1 ?_; conv => whnf) | (refine VCall.intro key2 ?_; conv => whnf))
          refine VCode.lp (fun k : Nat => [(4, .fp (encF f)), (5, .fp [dints t]), (6, .fp [DI p]), (7, .fp [dints l]), (8, I 0), (9, I 0), (10, .fp (encDk f t)), (11, .fp [DI lo, DI hi]), (12, I 0), (13, .fp [DI F]), (14, B true), (15, I k)]) (fun _ => []) (fun k => lo ≤ k ∧ k ≤ hi + 1 ∧ okW f t l p (hi + 1 - lo) lo = okW f t l p (hi + 1 - k) k) (fun k => hi + 1 - k) lo ⟨Nat.le_refl _, by omega, rfl⟩ ?_ ?_
          · conv => whnf
            refine Retell.turn ⟨[], 0, [], []⟩ (TurnOk.mk' _ _ [] [] (OutOk.lift _) rfl (by decide) (by repeat' (first | exact BTos.nil | refine BTos.flat rfl rfl (by first | rfl | simp) ?_ | refine BTos.new rfl ?_ | refine BTos.dead rfl rfl ?_ | refine BTos.row rfl rfl rfl (RowTo.snoc (RowTo.one rfl (by simp))) ?_ | refine BTos.cells rfl rfl rfl (by repeat' (first | exact VTo.undef | exact FrTo.leaf | refine FrTo.node ?_ ?_ ?_ | refine FrTo.none ?_ ?_ | exact VTo.sc (by first | rfl | (congr 1; omega) | (congr 1; simp; omega)) | exact VTos_dv _ _ | refine VTos.cons ?_ ?_ | exact VTos.nil | refine VTo.agg ?_ | refine VTo.tuple ?_ | refine VTo.func ?_ ?_ | exact VTo.fs | exact VTo.fp | exact VTo.nilptr | exact VTo.nilslice | exact VTo.nilfunc | exact VTo.ptr rfl | exact VTo.gl rfl | exact VTo.map rfl | exact VTo.glNil' (by decide) rfl rfl | exact VTo.fsNil (by decide) | exact VTo.fpPtr rfl | exact VTo.fsGl rfl (by first | rfl | exact flat_len encI_len _ | exact flat_len encS_len _ | exact flat_len encP_len _ | exact flat_len encL_len _ | exact flat_len encE_len _ | (simp [flat_len encP_len]; done) | simp [flat_len encI_len, flat_len encS_len]))) ?_)) trivial trivial rfl) (by repeat' (first | exact VTo.undef | exact FrTo.leaf | refine FrTo.node ?_ ?_ ?_ | refine FrTo.none ?_ ?_ | exact VTo.sc (by first | rfl | (congr 1; omega) | (congr 1; simp; omega)) | exact VTos_dv _ _ | refine VTos.cons ?_ ?_ | exact VTos.nil | refine VTo.agg ?_ | refine VTo.tuple ?_ | refine VTo.func ?_ ?_ | exact VTo.fs | exact VTo.fp | exact VTo.nilptr | exact VTo.nilslice | exact VTo.nilfunc | exact VTo.ptr rfl | exact VTo.gl rfl | exact VTo.map rfl | exact VTo.glNil' (by decide) rfl rfl | exact VTo.fsNil (by decide) | exact VTo.fpPtr rfl | exact VTo.fsGl rfl (by first | rfl | exact flat_len encI_len _ | exact flat_len encS_len _ | exact flat_len encP_len _ | exact flat_len encL_len _ | exact flat_len encE_len _ | (simp [flat_len encP_len]; done) | simp [flat_len encI_len, flat_len encS_len]))) (by first | rfl | (repeat' (first | exact MkTo.nil | refine MkTo.keep rfl ?_ | refine MkTo.drop (by decide) rfl ?_)))
          · rintro i ⟨g1, g2, g3⟩
            conv => whnf
            repeat (first | (refine VLd.intro rfl ?_; conv => whnf) | (refine VArith.i64 (by omega) ?_; conv => whnf) | (refine VNeed.intro (by first | rfl | (simp; omega)) ?_; conv => whnf) | (refine VMem.store rfl rfl rfl rfl ?_; conv => whnf) | (refine VSame.intro rfl ?_; conv => whnf) | (refine VDraw.go [] (by kernel_rfl) (by kernel_rfl) ?_; conv => whnf))
            refine VIte.dec (fun g4 => ?_) (fun g4 => ?_)
            · have hx : t[i]? = some t[i] := List.getElem?_eq_getElem (by omega)
              have b5 := o.yr hx
              have e5 := tAt_eq hx
              have hbad : badW f t l p i = true ↔ (1 < cntS f t[i] l l.length ∨ (0 < cntS f t[i] l l.length ∧ i = p)) := by rw [badW, e5, decide_eq_true_eq]
              have g3b : (badW f t l p i = true → okW f t l p (hi + 1 - lo) lo = false) ∧ (badW f t l p i = false → okW f t l p (hi + 1 - lo) lo = okW f t l p (hi + 1 - (i + 1)) (i + 1)) := by
                obtain ⟨m, hm⟩ : ∃ m, hi + 1 - i = m + 1 := ⟨hi - i, by omega⟩
                rw [hm, okW] at g3
                rw [show hi + 1 - (i + 1) = m by omega, g3]
                exact ⟨fun hb => by rw [hb]; rfl, fun hb => by rw [hb]; rfl⟩
              generalize t[i] = x at hx b5 e5 hbad
              conv => whnf
              repeat (first | (refine VLd.intro rfl ?_; conv => whnf) | (refine VArith.i64 (by omega) ?_; conv => whnf) | (refine VNeed.intro (by first | rfl | (simp; omega)) ?_; conv => whnf) | (refine VMem.store rfl rfl rfl rfl ?_; conv => whnf) | (refine VSame.intro rfl ?_; conv => whnf) | (refine VDraw.go [] (by kernel_rfl) (by kernel_rfl) ?_; conv => whnf))
              refine VCode.lp (fun k : Nat => [(4, .fp (encF f)), (5, .fp [dints t]), (6, .fp [DI p]), (7, .fp [dints l]), (8, I 0), (9, I 0), (10, .fp (encDk f t)), (11, .fp [DI lo, DI hi]), (12, I 0), (13, .fp [DI F]), (14, B true), (15, I i), (16, I (cntS f x l k)), (68, ints l), (69, I l.length), (70, I k)]) (fun _ => []) (fun k => k ≤ l.length ∧ ¬ (1 < cntS f x l k ∨ (0 < cntS f x l k ∧ i = p))) (fun k => l.length - k) 0 ⟨Nat.zero_le _, by simp [cntS]⟩ ?_ ?_
              · conv => whnf
                refine Retell.turn ⟨[], 0, [], []⟩ (TurnOk.mk' _ _ [] [] (OutOk.lift _) rfl (by decide) (by repeat' (first | exact BTos.nil | refine BTos.flat rfl rfl (by first | rfl | simp) ?_ | refine BTos.new rfl ?_ | refine BTos.dead rfl rfl ?_ | refine BTos.row rfl rfl rfl (RowTo.snoc (RowTo.one rfl (by simp))) ?_ | refine BTos.cells rfl rfl rfl (by repeat' (first | exact VTo.undef | exact FrTo.leaf | refine FrTo.node ?_ ?_ ?_ | refine FrTo.none ?_ ?_ | exact VTo.sc (by first | rfl | (congr 1; omega) | (congr 1; simp; omega)) | exact VTos_dv _ _ | refine VTos.cons ?_ ?_ | exact VTos.nil | refine VTo.agg ?_ | refine VTo.tuple ?_ | refine VTo.func ?_ ?_ | exact VTo.fs | exact VTo.fp | exact VTo.nilptr | exact VTo.nilslice | exact VTo.nilfunc | exact VTo.ptr rfl | exact VTo.gl rfl | exact VTo.map rfl | exact VTo.glNil' (by decide) rfl rfl | exact VTo.fsNil (by decide) | exact VTo.fpPtr rfl | exact VTo.fsGl rfl (by first | rfl | exact flat_len encI_len _ | exact flat_len encS_len _ | exact flat_len encP_len _ | exact flat_len encL_len _ | exact flat_len encE_len _ | (simp [flat_len encP_len]; done) | simp [flat_len encI_len, flat_len encS_len]))) ?_)) trivial trivial rfl) (by repeat' (first | exact VTo.undef | exact FrTo.leaf | refine FrTo.node ?_ ?_ ?_ | refine FrTo.none ?_ ?_ | exact VTo.sc (by first | rfl | (congr 1; omega) | (congr 1; simp; omega)) | exact VTos_dv _ _ | refine VTos.cons ?_ ?_ | exact VTos.nil | refine VTo.agg ?_ | refine VTo.tuple ?_ | refine VTo.func ?_ ?_ | exact VTo.fs | exact VTo.fp | exact VTo.nilptr | exact VTo.nilslice | exact VTo.nilfunc | exact VTo.ptr rfl | exact VTo.gl rfl | exact VTo.map rfl | exact VTo.glNil' (by decide) rfl rfl | exact VTo.fsNil (by decide) | exact VTo.fpPtr rfl | exact VTo.fsGl rfl (by first | rfl | exact flat_len encI_len _ | exact flat_len encS_len _ | exact flat_len encP_len _ | exact flat_len encL_len _ | exact flat_len encE_len _ | (simp [flat_len encP_len]; done) | simp [flat_len encI_len, flat_len encS_len]))) (by first | rfl | (repeat' (first | exact MkTo.nil | refine MkTo.keep rfl ?_ | refine MkTo.drop (by decide) rfl ?_)))
              · rintro k ⟨k1, k2⟩
                have hcb := cntS_bd f x l k
                conv => whnf
                refine VIte.dec (fun k3 => ?_) (fun k3 => ?_)
                · have hv : l[k]? = some l[k] := List.getElem?_eq_getElem (by omega)
                  have bv := hin hv
                  have ev : l.getD k 0 = l[k] := by simp [hv]
                  have hc1 : (l[k] + 1 ≤ x ∧ x ≤ l[k] + f.G → cntS f x l (k + 1) = cntS f x l k + 1) ∧ (¬ (l[k] + 1 ≤ x ∧ x ≤ l[k] + f.G) → cntS f x l (k + 1) = cntS f x l k) := by
                    rw [cntS, ev]
                    exact ⟨fun hc => by rw [if_pos hc], fun hc => by rw [if_neg hc]; rfl⟩
                  have hmono := cntS_le f x l (k + 1) (l.length - (k + 1))
                  rw [show k + 1 + (l.length - (k + 1)) = l.length by omega] at hmono
                  generalize l[k] = v at hv bv ev hc1
                  obtain ⟨C, hC⟩ : ∃ C, C = cntS f x l k := ⟨_, rfl⟩
                  obtain ⟨C', hC'⟩ : ∃ C', C' = cntS f x l (k + 1) := ⟨_, rfl⟩
                  rw [← hC] at hc1 hcb k2 ⊢
                  rw [← hC'] at hc1 hmono
                  conv => whnf
                  repeat' (first | (refine VLd.intro rfl ?_; conv => whnf) | (refine VArith.i64 (by omega) ?_; conv => whnf) | (refine VNeed.intro (by first | rfl | (simp; omega)) ?_; conv => whnf) | (refine VMem.store rfl rfl rfl rfl ?_; conv => whnf) | (refine VSame.intro rfl ?_; conv => whnf) | (refine VDraw.go [] (by kernel_rfl) (by kernel_rfl) ?_; conv => whnf) | (refine VIte.dec (fun _ => ?_) (fun _ => ?_) <;> conv => whnf) | (refine VIte.ndec (fun _ => ?_) (fun _ => ?_) <;> conv => whnf) | (refine VIte.beq (fun _ => ?_) (fun _ => ?_) <;> conv => whnf) | (refine VIte.bne (fun _ => ?_) (fun _ => ?_) <;> conv => whnf) | (refine VIte.intro (fun _ => ?_) (fun _ => ?_) <;> conv => whnf) | (refine VAny.ix encI_len k (by omega) rfl hv ?_; conv => whnf) | (refine VAny.ix encI_len i (by omega) rfl hx ?_; conv => whnf) | (refine VCall.intro (vc_from _ _ _ _) ?_; conv => whnf))
                  all_goals first
                    | (have hb := hbad.2 (by omega)
                       rw [g3b.1 hb] at hE2
                       rw [hRR 9 hE2]
                       exact VOut.same rfl)
                    | (refine LEnd.intro (k + 1) ⟨by omega, by rw [← hC']; omega⟩ (by omega) ?_
                       conv => whnf
                       rw [← hC']
                       refine Retell.turn ⟨[], 0, [], []⟩ (TurnOk.mk' _ _ [] [] (OutOk.lift _) rfl (by decide) (by repeat' (first | exact BTos.nil | refine BTos.flat rfl rfl (by first | rfl | simp) ?_ | refine BTos.new rfl ?_ | refine BTos.dead rfl rfl ?_ | refine BTos.row rfl rfl rfl (RowTo.snoc (RowTo.one rfl (by simp))) ?_ | refine BTos.cells rfl rfl rfl (by repeat' (first | exact VTo.undef | exact FrTo.leaf | refine FrTo.node ?_ ?_ ?_ | refine FrTo.none ?_ ?_ | exact VTo.sc (by first | rfl | (congr 1; omega) | (congr 1; simp; omega)) | exact VTos_dv _ _ | refine VTos.cons ?_ ?_ | exact VTos.nil | refine VTo.agg ?_ | refine VTo.tuple ?_ | refine VTo.func ?_ ?_ | exact VTo.fs | exact VTo.fp | exact VTo.nilptr | exact VTo.nilslice | exact VTo.nilfunc | exact VTo.ptr rfl | exact VTo.gl rfl | exact VTo.map rfl | exact VTo.glNil' (by decide) rfl rfl | exact VTo.fsNil (by decide) | exact VTo.fpPtr rfl | exact VTo.fsGl rfl (by first | rfl | exact flat_len encI_len _ | exact flat_len encS_len _ | exact flat_len encP_len _ | exact flat_len encL_len _ | exact flat_len encE_len _ | (simp [flat_len encP_len]; done) | simp [flat_len encI_len, flat_len encS_len]))) ?_)) trivial trivial rfl) (by repeat' (first | exact VTo.undef | exact FrTo.leaf | refine FrTo.node ?_ ?_ ?_ | refine FrTo.none ?_ ?_ | exact VTo.sc (by first | rfl | (congr 1; omega) | (congr 1; simp; omega)) | exact VTos_dv _ _ | refine VTos.cons ?_ ?_ | exact VTos.nil | refine VTo.agg ?_ | refine VTo.tuple ?_ | refine VTo.func ?_ ?_ | exact VTo.fs | exact VTo.fp | exact VTo.nilptr | exact VTo.nilslice | exact VTo.nilfunc | exact VTo.ptr rfl | exact VTo.gl rfl | exact VTo.map rfl | exact VTo.glNil' (by decide) rfl rfl | exact VTo.fsNil (by decide) | exact VTo.fpPtr rfl | exact VTo.fsGl rfl (by first | rfl | exact flat_len encI_len _ | exact flat_len encS_len _ | exact flat_len encP_len _ | exact flat_len encL_len _ | exact flat_len encE_len _ | (simp [flat_len encP_len]; done) | simp [flat_len encI_len, flat_len encS_len]))) (by first | rfl | (repeat' (first | exact MkTo.nil | refine MkTo.keep rfl ?_ | refine MkTo.drop (by decide) rfl ?_))))
                · have hk : k = l.length := by omega
                  subst hk
                  have hb : badW f t l p i = false := Bool.eq_false_iff.2 fun hb => k2 (hbad.1 hb)
                  conv => whnf
                  repeat (first | (refine VLd.intro rfl ?_; conv => whnf) | (refine VArith.i64 (by omega) ?_; conv => whnf) | (refine VNeed.intro (by first | rfl | (simp; omega)) ?_; conv => whnf) | (refine VMem.store rfl rfl rfl rfl ?_; conv => whnf) | (refine VSame.intro rfl ?_; conv => whnf) | (refine VDraw.go [] (by kernel_rfl) (by kernel_rfl) ?_; conv => whnf))
                  refine LEnd.intro (i + 1) ⟨by omega, by omega, g3b.2 hb⟩ (by omega) ?_
                  conv => whnf
                  refine Retell.turn ⟨[], 0, [], []⟩ (TurnOk.mk' _ _ [] [] (OutOk.lift _) rfl (by decide) (by repeat' (first | exact BTos.nil | refine BTos.flat rfl rfl (by first | rfl | simp) ?_ | refine BTos.new rfl ?_ | refine BTos.dead rfl rfl ?_ | refine BTos.row rfl rfl rfl (RowTo.snoc (RowTo.one rfl (by simp))) ?_ | refine BTos.cells rfl rfl rfl (by repeat' (first | exact VTo.undef | exact FrTo.leaf | refine FrTo.node ?_ ?_ ?_ | refine FrTo.none ?_ ?_ | exact VTo.sc (by first | rfl | (congr 1; omega) | (congr 1; simp; omega)) | exact VTos_dv _ _ | refine VTos.cons ?_ ?_ | exact VTos.nil | refine VTo.agg ?_ | refine VTo.tuple ?_ | refine VTo.func ?_ ?_ | exact VTo.fs | exact VTo.fp | exact VTo.nilptr | exact VTo.nilslice | exact VTo.nilfunc | exact VTo.ptr rfl | exact VTo.gl rfl | exact VTo.map rfl | exact VTo.glNil' (by decide) rfl rfl | exact VTo.fsNil (by decide) | exact VTo.fpPtr rfl | exact VTo.fsGl rfl (by first | rfl | exact flat_len encI_len _ | exact flat_len encS_len _ | exact flat_len encP_len _ | exact flat_len encL_len _ | exact flat_len encE_len _ | (simp [flat_len encP_len]; done) | simp [flat_len encI_len, flat_len encS_len]))) ?_)) trivial trivial rfl) (by repeat' (first | exact VTo.undef | exact FrTo.leaf | refine FrTo.node ?_ ?_ ?_ | refine FrTo.none ?_ ?_ | exact VTo.sc (by first | rfl | (congr 1; omega) | (congr 1; simp; omega)) | exact VTos_dv _ _ | refine VTos.cons ?_ ?_ | exact VTos.nil | refine VTo.agg ?_ | refine VTo.tuple ?_ | refine VTo.func ?_ ?_ | exact VTo.fs | exact VTo.fp | exact VTo.nilptr | exact VTo.nilslice | exact VTo.nilfunc | exact VTo.ptr rfl | exact VTo.gl rfl | exact VTo.map rfl | exact VTo.glNil' (by decide) rfl rfl | exact VTo.fsNil (by decide) | exact VTo.fpPtr rfl | exact VTo.fsGl rfl (by first | rfl | exact flat_len encI_len _ | exact flat_len encS_len _ | exact flat_len encP_len _ | exact flat_len encL_len _ | exact flat_len encE_len _ | (simp [flat_len encP_len]; done) | simp [flat_len encI_len, flat_len encS_len]))) (by first | rfl | (repeat' (first | exact MkTo.nil | refine MkTo.keep rfl ?_ | refine MkTo.drop (by decide) rfl ?_)))
            · have hi2 : i = hi + 1 := by omega
              subst hi2
              rw [g3, Nat.sub_self, okW] at hE2
              rw [hRR 0 hE2]
              conv => whnf
              repeat (first | (refine VLd.intro rfl ?_; conv => whnf) | (refine VArith.i64 (by omega) ?_; conv => whnf) | (refine VNeed.intro (by first | rfl | (simp; omega)) ?_; conv => whnf) | (refine VMem.store rfl rfl rfl rfl ?_; conv => whnf) | (refine VSame.intro rfl ?_; conv => whnf) | (refine VDraw.go [] (by kernel_rfl) (by kernel_rfl) ?_; conv => whnf))
              exact VOut.same rfl
end Go.Proofs.Ytolnajnlcdacmaa

open Go.Vm
namespace Go.Proofs.Ytolnajnlcdacmaa
set_option maxRecDepth 20000
set_option maxHeartbeats 1000000

theorem all_drop {q : Int → Bool} {l : List Int} {k : Nat} {x : Int} (hx : l[k]? = some x) : (l.drop k).all q = (q x && (l.drop (k + 1)).all q) := by
  obtain ⟨h1, rfl⟩ := List.getElem?_eq_some_iff.1 hx
  rw [List.drop_eq_getElem_cons h1, List.all_cons]
theorem far_mono {f : Fil} {t : List Int} {p i F : Nat} (o : Okt f t) (hp : p < t.length) (h1 : F < p) (h2 : f.Y ≤ tAt t p - tAt t F) (h3 : tAt t p - tAt t (F + 1) < f.Y) (hi : i ≤ p) : f.Y ≤ tAt t p - tAt t i ↔ i ≤ F := by
  constructor
  · intro h
    rcases Nat.lt_or_ge F i with h4 | h4
    · rcases Nat.eq_or_lt_of_le (Nat.succ_le_of_lt h4) with h5 | h5
      · rw [show i = F + 1 from h5.symm] at h; omega
      · have := o.mono (a := F + 1) (b := i) h5 (by omega); omega
    · exact h4
  · intro h
    rcases Nat.eq_or_lt_of_le h with h5 | h5
    · rw [h5]; exact h2
    · have := o.mono h5 (by omega); omega
theorem vc_rProves_no (f : Fil) (t : List Int) (p : Int) (l : List Int) (h : Hp) (hn : f.ps.length ≤ 4000000) (hl : t.length ≤ 4000000) (h0 : showE f t p ≠ 0) : VC Try.prog 48 [vF f, ints t, I p, ints l] h (.tuple [I 0, I (showE f t p)]) h := by
  refine VC.body Try.func48 rfl Try.ntmps48 Try.call48 (h.grows_refl) rfl ?_; conv => whnf
  repeat' (first | (refine VLd.intro rfl ?_; conv => whnf) | (refine VArith.i64 (by omega) ?_; conv => whnf) | (refine VNeed.intro (by first | rfl | (simp; omega)) ?_; conv => whnf) | (refine VMem.store rfl rfl rfl rfl ?_; conv => whnf) | (refine VSame.intro rfl ?_; conv => whnf) | (refine VDraw.go [] (by kernel_rfl) (by kernel_rfl) ?_; conv => whnf) | (refine VIte.dec (fun _ => ?_) (fun _ => ?_) <;> conv => whnf) | (refine VIte.ndec (fun _ => ?_) (fun _ => ?_) <;> conv => whnf) | (refine VIte.beq (fun _ => ?_) (fun _ => ?_) <;> conv => whnf) | (refine VIte.bne (fun _ => ?_) (fun _ => ?_) <;> conv => whnf) | (refine VIte.intro (fun _ => ?_) (fun _ => ?_) <;> conv => whnf) | (refine VCall.intro (vc_Shown f t p _ hn hl) ?_; conv => whnf))
  · exact VOut.same rfl
  all_goals (rename_i h1; exact absurd (by simpa using h1) h0)
theorem vc_rProves_ok (f : Fil) (t : List Int) (p : Nat) (l : List Int) (h : Hp) (hl : t.length ≤ 4000000) (hl2 : l.length ≤ 4000000) (h0 : showE f t p = 0) (o : Shw f t p) :
    VC Try.prog 48 [vF f, ints t, I p, ints l] h (pvR l (pvE f t p l)) h := by
  have hlen := o.len
  have hn' := o.n
  have hlt := o.lt
  have hG := o.g
  obtain ⟨hi, c⟩ := InCh.of o
  have hfr := far_ok o
  have hfm := fun i => far_mono (i := i) o.toOkt o.lt hfr.2.1 hfr.2.2.1 hfr.2.2.2
  have hS : ∀ h, VC Try.prog 77 [vF f, ints t, I p] h (I 0) h := fun h => h0 ▸ vc_Shown f t p h (by omega) hl
  have hfst : ∀ i, fst f t p ≤ i → i ≤ hi → fst f t i = fst f t p := fst_seg c.hb c.hn
  have hout : hi + 1 < t.length → fst f t (hi + 1) = hi + 1 := fun hh => by rw [fst, c.hx hh]; rfl
  have hhi : hiOf f t p = hi := by rw [hiOf, c.hc]; rfl
  have hfle := fst_le f t p
  have hhp := c.ph
  have hhl := c.hl
  obtain ⟨E, hE⟩ : ∃ E, E = pvE f t p l := ⟨_, rfl⟩
  have hE2 : E = bif eachS (asc l) 0 l then bif l.all (fun x => decide (tAt t (far f t p) ≤ x ∧ x ≤ tAt t p - 1)) then bif okW f t l p (hi + 1 - fst f t p) (fst f t p) then 0 else 9 else 4 else 5 := by rw [hE, ← hhi]; rfl
  rw [← hE]
  have hRR : ∀ e : Int, E = e → pvR l E = .tuple [I (if e = 0 then l.length + 2 else 0), I e] := fun e he => by rw [he]; rfl
  obtain ⟨F, hF⟩ : ∃ F, F = far f t p := ⟨_, rfl⟩
  rw [← hF] at hfr hE2 hfm
  have hy : t[p]? = some t[p] := List.getElem?_eq_getElem (by omega)
  have b3 := o.yr hy
  have e3 := tAt_eq hy
  have hFy : t[F]? = some t[F] := List.getElem?_eq_getElem (by omega)
  have b8 := o.yr hFy
  have e8 := tAt_eq hFy
  have hasc : eachS (asc l) 0 l = eachS (asc l) 1 (l.drop 1) := by
    cases l with
    | nil => rfl
    | cons a r => rw [eachS]; simp [asc]
  refine VC.body Try.func48 rfl Try.ntmps48 Try.call48 (h.grows_refl) rfl ?_; conv => whnf
  repeat' (first | (refine VLd.intro rfl ?_; conv => whnf) | (refine VArith.i64 (by omega) ?_; conv => whnf) | (refine VNeed.intro (by first | rfl | (simp; omega)) ?_; conv => whnf) | (refine VMem.store rfl rfl rfl rfl ?_; conv => whnf) | (refine VSame.intro rfl ?_; conv => whnf) | (refine VDraw.go [] (by kernel_rfl) (by kernel_rfl) ?_; conv => whnf) | (refine VIte.dec (fun _ => ?_) (fun _ => ?_) <;> conv => whnf) | (refine VIte.ndec (fun _ => ?_) (fun _ => ?_) <;> conv => whnf) | (refine VIte.beq (fun _ => ?_) (fun _ => ?_) <;> conv => whnf) | (refine VIte.bne (fun _ => ?_) (fun _ => ?_) <;> conv => whnf) | (refine VIte.intro (fun _ => ?_) (fun _ => ?_) <;> conv => whnf) | (refine VCall.intro (hS _) ?_; conv => whnf))
  refine VCode.lp (fun k : Nat => [(1, ints t), (2, I p), (3, ints l), (4, .ptr (.loc 0) 0), (8, I 0), (9, I 0), (11, I k)]) (fun _ => [.flat true (encF f)]) (fun k => 1 ≤ k ∧ eachS (asc l) 0 l = eachS (asc l) k (l.drop k)) (fun k => l.length - k) 1 ⟨Nat.le_refl _, hasc⟩ ?_ ?_
  · conv => whnf
    refine Retell.turn ⟨[0], 1, [], []⟩ (TurnOk.mk' _ _ [] [] (OutOk.lift _) rfl (by decide) (by repeat' (first | exact BTos.nil | refine BTos.flat rfl rfl (by first | rfl | simp) ?_ | refine BTos.new rfl ?_ | refine BTos.dead rfl rfl ?_ | refine BTos.row rfl rfl rfl (RowTo.snoc (RowTo.one rfl (by simp))) ?_ | refine BTos.cells rfl rfl rfl (by repeat' (first | exact VTo.undef | exact FrTo.leaf | refine FrTo.node ?_ ?_ ?_ | refine FrTo.none ?_ ?_ | exact VTo.sc (by first | rfl | (congr 1; omega) | (congr 1; simp; omega)) | exact VTos_dv _ _ | refine VTos.cons ?_ ?_ | exact VTos.nil | refine VTo.agg ?_ | refine VTo.tuple ?_ | refine VTo.func ?_ ?_ | exact VTo.fs | exact VTo.fp | exact VTo.nilptr | exact VTo.nilslice | exact VTo.nilfunc | exact VTo.ptr rfl | exact VTo.gl rfl | exact VTo.map rfl | exact VTo.glNil' (by decide) rfl rfl | exact VTo.fsNil (by decide) | exact VTo.fpPtr rfl | exact VTo.fsGl rfl (by first | rfl | exact flat_len encI_len _ | exact flat_len encS_len _ | exact flat_len encP_len _ | exact flat_len encL_len _ | exact flat_len encE_len _ | (simp [flat_len encP_len]; done) | simp [flat_len encI_len, flat_len encS_len]))) ?_)) trivial trivial rfl) (by repeat' (first | exact VTo.undef | exact FrTo.leaf | refine FrTo.node ?_ ?_ ?_ | refine FrTo.none ?_ ?_ | exact VTo.sc (by first | rfl | (congr 1; omega) | (congr 1; simp; omega)) | exact VTos_dv _ _ | refine VTos.cons ?_ ?_ | exact VTos.nil | refine VTo.agg ?_ | refine VTo.tuple ?_ | refine VTo.func ?_ ?_ | exact VTo.fs | exact VTo.fp | exact VTo.nilptr | exact VTo.nilslice | exact VTo.nilfunc | exact VTo.ptr rfl | exact VTo.gl rfl | exact VTo.map rfl | exact VTo.glNil' (by decide) rfl rfl | exact VTo.fsNil (by decide) | exact VTo.fpPtr rfl | exact VTo.fsGl rfl (by first | rfl | exact flat_len encI_len _ | exact flat_len encS_len _ | exact flat_len encP_len _ | exact flat_len encL_len _ | exact flat_len encE_len _ | (simp [flat_len encP_len]; done) | simp [flat_len encI_len, flat_len encS_len]))) (by first | rfl | (repeat' (first | exact MkTo.nil | refine MkTo.keep rfl ?_ | refine MkTo.drop (by decide) rfl ?_)))
  · rintro k ⟨h1, h2⟩
    conv => whnf
    refine VIte.dec (fun h3 => ?_) (fun h3 => ?_)
    · have hx : l[k]? = some l[k] := List.getElem?_eq_getElem (by omega)
      have hv : l[k - 1]? = some l[k - 1] := List.getElem?_eq_getElem (by omega)
      have ev : l.getD (k - 1) 0 = l[k - 1] := by simp [hv]
      rw [eachS_drop hx] at h2
      have has : asc l k l[k] = true ↔ (k = 0 ∨ l[k - 1] < l[k]) := by rw [asc, ev, decide_eq_true_eq]
      generalize l[k] = x at hx h2 has
      generalize l[k - 1] = v at hv ev has
      conv => whnf
      repeat' (first | (refine VLd.intro rfl ?_; conv => whnf) | (refine VArith.i64 (by omega) ?_; conv => whnf) | (refine VNeed.intro (by first | rfl | (simp; omega)) ?_; conv => whnf) | (refine VMem.store rfl rfl rfl rfl ?_; conv => whnf) | (refine VSame.intro rfl ?_; conv => whnf) | (refine VDraw.go [] (by kernel_rfl) (by kernel_rfl) ?_; conv => whnf) | (refine VIte.dec (fun _ => ?_) (fun _ => ?_) <;> conv => whnf) | (refine VIte.ndec (fun _ => ?_) (fun _ => ?_) <;> conv => whnf) | (refine VIte.beq (fun _ => ?_) (fun _ => ?_) <;> conv => whnf) | (refine VIte.bne (fun _ => ?_) (fun _ => ?_) <;> conv => whnf) | (refine VIte.intro (fun _ => ?_) (fun _ => ?_) <;> conv => whnf) | (refine VAny.ix encI_len k (by omega) rfl hx ?_; conv => whnf) | (refine VAny.ix encI_len (k - 1) (by omega) rfl hv ?_; conv => whnf))
      · rw [Bool.eq_false_iff.2 (fun hq => absurd (has.1 hq) (by omega)), Bool.false_and] at h2
        rw [h2] at hE2
        rw [hRR 5 hE2]
        exact VOut.same rfl
      · rw [has.2 (by omega), Bool.true_and] at h2
        refine LEnd.intro (k + 1) ⟨by omega, h2⟩ (by omega) ?_
        conv => whnf
        refine Retell.turn ⟨[0], 1, [], []⟩ (TurnOk.mk' _ _ [] [] (OutOk.lift _) rfl (by decide) (by repeat' (first | exact BTos.nil | refine BTos.flat rfl rfl (by first | rfl | simp) ?_ | refine BTos.new rfl ?_ | refine BTos.dead rfl rfl ?_ | refine BTos.row rfl rfl rfl (RowTo.snoc (RowTo.one rfl (by simp))) ?_ | refine BTos.cells rfl rfl rfl (by repeat' (first | exact VTo.undef | exact FrTo.leaf | refine FrTo.node ?_ ?_ ?_ | refine FrTo.none ?_ ?_ | exact VTo.sc (by first | rfl | (congr 1; omega) | (congr 1; simp; omega)) | exact VTos_dv _ _ | refine VTos.cons ?_ ?_ | exact VTos.nil | refine VTo.agg ?_ | refine VTo.tuple ?_ | refine VTo.func ?_ ?_ | exact VTo.fs | exact VTo.fp | exact VTo.nilptr | exact VTo.nilslice | exact VTo.nilfunc | exact VTo.ptr rfl | exact VTo.gl rfl | exact VTo.map rfl | exact VTo.glNil' (by decide) rfl rfl | exact VTo.fsNil (by decide) | exact VTo.fpPtr rfl | exact VTo.fsGl rfl (by first | rfl | exact flat_len encI_len _ | exact flat_len encS_len _ | exact flat_len encP_len _ | exact flat_len encL_len _ | exact flat_len encE_len _ | (simp [flat_len encP_len]; done) | simp [flat_len encI_len, flat_len encS_len]))) ?_)) trivial trivial rfl) (by repeat' (first | exact VTo.undef | exact FrTo.leaf | refine FrTo.node ?_ ?_ ?_ | refine FrTo.none ?_ ?_ | exact VTo.sc (by first | rfl | (congr 1; omega) | (congr 1; simp; omega)) | exact VTos_dv _ _ | refine VTos.cons ?_ ?_ | exact VTos.nil | refine VTo.agg ?_ | refine VTo.tuple ?_ | refine VTo.func ?_ ?_ | exact VTo.fs | exact VTo.fp | exact VTo.nilptr | exact VTo.nilslice | exact VTo.nilfunc | exact VTo.ptr rfl | exact VTo.gl rfl | exact VTo.map rfl | exact VTo.glNil' (by decide) rfl rfl | exact VTo.fsNil (by decide) | exact VTo.fpPtr rfl | exact VTo.fsGl rfl (by first | rfl | exact flat_len encI_len _ | exact flat_len encS_len _ | exact flat_len encP_len _ | exact flat_len encL_len _ | exact flat_len encE_len _ | (simp [flat_len encP_len]; done) | simp [flat_len encI_len, flat_len encS_len]))) (by first | rfl | (repeat' (first | exact MkTo.nil | refine MkTo.keep rfl ?_ | refine MkTo.drop (by decide) rfl ?_)))
    · rw [h2, List.drop_of_length_le (by omega), eachS, cond_true] at hE2
      conv => whnf
      repeat' (first | (refine VLd.intro rfl ?_; conv => whnf) | (refine VArith.i64 (by omega) ?_; conv => whnf) | (refine VNeed.intro (by first | rfl | (simp; omega)) ?_; conv => whnf) | (refine VMem.store rfl rfl rfl rfl ?_; conv => whnf) | (refine VSame.intro rfl ?_; conv => whnf) | (refine VDraw.go [] (by kernel_rfl) (by kernel_rfl) ?_; conv => whnf) | (refine VIte.dec (fun _ => ?_) (fun _ => ?_) <;> conv => whnf) | (refine VIte.ndec (fun _ => ?_) (fun _ => ?_) <;> conv => whnf) | (refine VIte.beq (fun _ => ?_) (fun _ => ?_) <;> conv => whnf) | (refine VIte.bne (fun _ => ?_) (fun _ => ?_) <;> conv => whnf) | (refine VIte.intro (fun _ => ?_) (fun _ => ?_) <;> conv => whnf) | (refine VCall.intro (vc_first f t p _ o.toOkt (by omega)) ?_; conv => whnf))
      obtain ⟨lo, hlo⟩ : ∃ lo, lo = fst f t p := ⟨_, rfl⟩
      rw [← hlo] at hfr hE2 hfst hfle ⊢
      refine VCode.lp (fun k : Nat => [(1, ints t), (2, I p), (3, ints l), (4, .ptr (.loc 0) 0), (8, I 0), (9, I 0), (12, I lo), (13, I (max lo (min F (k - 1)) : Nat)), (14, I k)]) (fun _ => [.flat true (encF f)]) (fun k => lo ≤ k ∧ k ≤ p + 1) (fun k => p + 1 - k) lo ⟨Nat.le_refl _, by omega⟩ ?_ ?_
      · conv => whnf
        rw [show max lo (min F (lo - 1)) = lo by omega]
        refine Retell.turn ⟨[0], 1, [], []⟩ (TurnOk.mk' _ _ [] [] (OutOk.lift _) rfl (by decide) (by repeat' (first | exact BTos.nil | refine BTos.flat rfl rfl (by first | rfl | simp) ?_ | refine BTos.new rfl ?_ | refine BTos.dead rfl rfl ?_ | refine BTos.row rfl rfl rfl (RowTo.snoc (RowTo.one rfl (by simp))) ?_ | refine BTos.cells rfl rfl rfl (by repeat' (first | exact VTo.undef | exact FrTo.leaf | refine FrTo.node ?_ ?_ ?_ | refine FrTo.none ?_ ?_ | exact VTo.sc (by first | rfl | (congr 1; omega) | (congr 1; simp; omega)) | exact VTos_dv _ _ | refine VTos.cons ?_ ?_ | exact VTos.nil | refine VTo.agg ?_ | refine VTo.tuple ?_ | refine VTo.func ?_ ?_ | exact VTo.fs | exact VTo.fp | exact VTo.nilptr | exact VTo.nilslice | exact VTo.nilfunc | exact VTo.ptr rfl | exact VTo.gl rfl | exact VTo.map rfl | exact VTo.glNil' (by decide) rfl rfl | exact VTo.fsNil (by decide) | exact VTo.fpPtr rfl | exact VTo.fsGl rfl (by first | rfl | exact flat_len encI_len _ | exact flat_len encS_len _ | exact flat_len encP_len _ | exact flat_len encL_len _ | exact flat_len encE_len _ | (simp [flat_len encP_len]; done) | simp [flat_len encI_len, flat_len encS_len]))) ?_)) trivial trivial rfl) (by repeat' (first | exact VTo.undef | exact FrTo.leaf | refine FrTo.node ?_ ?_ ?_ | refine FrTo.none ?_ ?_ | exact VTo.sc (by first | rfl | (congr 1; omega) | (congr 1; simp; omega)) | exact VTos_dv _ _ | refine VTos.cons ?_ ?_ | exact VTos.nil | refine VTo.agg ?_ | refine VTo.tuple ?_ | refine VTo.func ?_ ?_ | exact VTo.fs | exact VTo.fp | exact VTo.nilptr | exact VTo.nilslice | exact VTo.nilfunc | exact VTo.ptr rfl | exact VTo.gl rfl | exact VTo.map rfl | exact VTo.glNil' (by decide) rfl rfl | exact VTo.fsNil (by decide) | exact VTo.fpPtr rfl | exact VTo.fsGl rfl (by first | rfl | exact flat_len encI_len _ | exact flat_len encS_len _ | exact flat_len encP_len _ | exact flat_len encL_len _ | exact flat_len encE_len _ | (simp [flat_len encP_len]; done) | simp [flat_len encI_len, flat_len encS_len]))) (by first | rfl | (repeat' (first | exact MkTo.nil | refine MkTo.keep rfl ?_ | refine MkTo.drop (by decide) rfl ?_)))
      · rintro i ⟨g1, g2⟩
        conv => whnf
        refine VIte.dec (fun g3 => ?_) (fun g3 => ?_)
        · have hx : t[i]? = some t[i] := List.getElem?_eq_getElem (by omega)
          have b5 := o.yr hx
          have e5 := tAt_eq hx
          have hfi := hfm i (by omega)
          rw [e3, e5] at hfi
          generalize t[p] = y at hy b3 e3 hfi
          generalize t[i] = x at hx b5 e5 hfi
          conv => whnf
          repeat' (first | (refine VLd.intro rfl ?_; conv => whnf) | (refine VArith.i64 (by omega) ?_; conv => whnf) | (refine VNeed.intro (by first | rfl | (simp; omega)) ?_; conv => whnf) | (refine VMem.store rfl rfl rfl rfl ?_; conv => whnf) | (refine VSame.intro rfl ?_; conv => whnf) | (refine VDraw.go [] (by kernel_rfl) (by kernel_rfl) ?_; conv => whnf) | (refine VIte.dec (fun _ => ?_) (fun _ => ?_) <;> conv => whnf) | (refine VIte.ndec (fun _ => ?_) (fun _ => ?_) <;> conv => whnf) | (refine VIte.beq (fun _ => ?_) (fun _ => ?_) <;> conv => whnf) | (refine VIte.bne (fun _ => ?_) (fun _ => ?_) <;> conv => whnf) | (refine VIte.intro (fun _ => ?_) (fun _ => ?_) <;> conv => whnf) | (refine VAny.ix encI_len p (by omega) rfl hy ?_; conv => whnf) | (refine VAny.ix encI_len i (by omega) rfl hx ?_; conv => whnf))
          · refine LEnd.intro (i + 1) ⟨by omega, by omega⟩ (by omega) ?_
            conv => whnf
            rw [show max lo (min F (i + 1 - 1)) = i by omega]
            refine Retell.turn ⟨[0], 1, [], []⟩ (TurnOk.mk' _ _ [] [] (OutOk.lift _) rfl (by decide) (by repeat' (first | exact BTos.nil | refine BTos.flat rfl rfl (by first | rfl | simp) ?_ | refine BTos.new rfl ?_ | refine BTos.dead rfl rfl ?_ | refine BTos.row rfl rfl rfl (RowTo.snoc (RowTo.one rfl (by simp))) ?_ | refine BTos.cells rfl rfl rfl (by repeat' (first | exact VTo.undef | exact FrTo.leaf | refine FrTo.node ?_ ?_ ?_ | refine FrTo.none ?_ ?_ | exact VTo.sc (by first | rfl | (congr 1; omega) | (congr 1; simp; omega)) | exact VTos_dv _ _ | refine VTos.cons ?_ ?_ | exact VTos.nil | refine VTo.agg ?_ | refine VTo.tuple ?_ | refine VTo.func ?_ ?_ | exact VTo.fs | exact VTo.fp | exact VTo.nilptr | exact VTo.nilslice | exact VTo.nilfunc | exact VTo.ptr rfl | exact VTo.gl rfl | exact VTo.map rfl | exact VTo.glNil' (by decide) rfl rfl | exact VTo.fsNil (by decide) | exact VTo.fpPtr rfl | exact VTo.fsGl rfl (by first | rfl | exact flat_len encI_len _ | exact flat_len encS_len _ | exact flat_len encP_len _ | exact flat_len encL_len _ | exact flat_len encE_len _ | (simp [flat_len encP_len]; done) | simp [flat_len encI_len, flat_len encS_len]))) ?_)) trivial trivial rfl) (by repeat' (first | exact VTo.undef | exact FrTo.leaf | refine FrTo.node ?_ ?_ ?_ | refine FrTo.none ?_ ?_ | exact VTo.sc (by first | rfl | (congr 1; omega) | (congr 1; simp; omega)) | exact VTos_dv _ _ | refine VTos.cons ?_ ?_ | exact VTos.nil | refine VTo.agg ?_ | refine VTo.tuple ?_ | refine VTo.func ?_ ?_ | exact VTo.fs | exact VTo.fp | exact VTo.nilptr | exact VTo.nilslice | exact VTo.nilfunc | exact VTo.ptr rfl | exact VTo.gl rfl | exact VTo.map rfl | exact VTo.glNil' (by decide) rfl rfl | exact VTo.fsNil (by decide) | exact VTo.fpPtr rfl | exact VTo.fsGl rfl (by first | rfl | exact flat_len encI_len _ | exact flat_len encS_len _ | exact flat_len encP_len _ | exact flat_len encL_len _ | exact flat_len encE_len _ | (simp [flat_len encP_len]; done) | simp [flat_len encI_len, flat_len encS_len]))) (by first | rfl | (repeat' (first | exact MkTo.nil | refine MkTo.keep rfl ?_ | refine MkTo.drop (by decide) rfl ?_)))
          · refine LEnd.intro (i + 1) ⟨by omega, by omega⟩ (by omega) ?_
            conv => whnf
            rw [show max lo (min F (i + 1 - 1)) = max lo (min F (i - 1)) by omega]
            refine Retell.turn ⟨[0], 1, [], []⟩ (TurnOk.mk' _ _ [] [] (OutOk.lift _) rfl (by decide) (by repeat' (first | exact BTos.nil | refine BTos.flat rfl rfl (by first | rfl | simp) ?_ | refine BTos.new rfl ?_ | refine BTos.dead rfl rfl ?_ | refine BTos.row rfl rfl rfl (RowTo.snoc (RowTo.one rfl (by simp))) ?_ | refine BTos.cells rfl rfl rfl (by repeat' (first | exact VTo.undef | exact FrTo.leaf | refine FrTo.node ?_ ?_ ?_ | refine FrTo.none ?_ ?_ | exact VTo.sc (by first | rfl | (congr 1; omega) | (congr 1; simp; omega)) | exact VTos_dv _ _ | refine VTos.cons ?_ ?_ | exact VTos.nil | refine VTo.agg ?_ | refine VTo.tuple ?_ | refine VTo.func ?_ ?_ | exact VTo.fs | exact VTo.fp | exact VTo.nilptr | exact VTo.nilslice | exact VTo.nilfunc | exact VTo.ptr rfl | exact VTo.gl rfl | exact VTo.map rfl | exact VTo.glNil' (by decide) rfl rfl | exact VTo.fsNil (by decide) | exact VTo.fpPtr rfl | exact VTo.fsGl rfl (by first | rfl | exact flat_len encI_len _ | exact flat_len encS_len _ | exact flat_len encP_len _ | exact flat_len encL_len _ | exact flat_len encE_len _ | (simp [flat_len encP_len]; done) | simp [flat_len encI_len, flat_len encS_len]))) ?_)) trivial trivial rfl) (by repeat' (first | exact VTo.undef | exact FrTo.leaf | refine FrTo.node ?_ ?_ ?_ | refine FrTo.none ?_ ?_ | exact VTo.sc (by first | rfl | (congr 1; omega) | (congr 1; simp; omega)) | exact VTos_dv _ _ | refine VTos.cons ?_ ?_ | exact VTos.nil | refine VTo.agg ?_ | refine VTo.tuple ?_ | refine VTo.func ?_ ?_ | exact VTo.fs | exact VTo.fp | exact VTo.nilptr | exact VTo.nilslice | exact VTo.nilfunc | exact VTo.ptr rfl | exact VTo.gl rfl | exact VTo.map rfl | exact VTo.glNil' (by decide) rfl rfl | exact VTo.fsNil (by decide) | exact VTo.fpPtr rfl | exact VTo.fsGl rfl (by first | rfl | exact flat_len encI_len _ | exact flat_len encS_len _ | exact flat_len encP_len _ | exact flat_len encL_len _ | exact flat_len encE_len _ | (simp [flat_len encP_len]; done) | simp [flat_len encI_len, flat_len encS_len]))) (by first | rfl | (repeat' (first | exact MkTo.nil | refine MkTo.keep rfl ?_ | refine MkTo.drop (by decide) rfl ?_)))
        · have hip : i = p + 1 := by omega
          subst hip
          rw [show max lo (min F (p + 1 - 1)) = F by omega]
          conv => whnf
          repeat (first | (refine VLd.intro rfl ?_; conv => whnf) | (refine VArith.i64 (by omega) ?_; conv => whnf) | (refine VNeed.intro (by first | rfl | (simp; omega)) ?_; conv => whnf) | (refine VMem.store rfl rfl rfl rfl ?_; conv => whnf) | (refine VSame.intro rfl ?_; conv => whnf) | (refine VDraw.go [] (by kernel_rfl) (by kernel_rfl) ?_; conv => whnf))
          refine VCode.lp (fun k : Nat => [(1, ints t), (2, I p), (3, ints l), (4, .ptr (.loc 0) 0), (8, I 0), (9, I 0), (12, I lo), (13, I F), (15, I k)]) (fun _ => [.flat true (encF f)]) (fun k => (l.all fun x => decide (tAt t F ≤ x ∧ x ≤ tAt t p - 1)) = ((l.drop k).all fun x => decide (tAt t F ≤ x ∧ x ≤ tAt t p - 1))) (fun k => l.length - k) 0 rfl ?_ ?_
          · conv => whnf
            refine Retell.turn ⟨[0], 1, [], []⟩ (TurnOk.mk' _ _ [] [] (OutOk.lift _) rfl (by decide) (by repeat' (first | exact BTos.nil | refine BTos.flat rfl rfl (by first | rfl | simp) ?_ | refine BTos.new rfl ?_ | refine BTos.dead rfl rfl ?_ | refine BTos.row rfl rfl rfl (RowTo.snoc (RowTo.one rfl (by simp))) ?_ | refine BTos.cells rfl rfl rfl (by repeat' (first | exact VTo.undef | exact FrTo.leaf | refine FrTo.node ?_ ?_ ?_ | refine FrTo.none ?_ ?_ | exact VTo.sc (by first | rfl | (congr 1; omega) | (congr 1; simp; omega)) | exact VTos_dv _ _ | refine VTos.cons ?_ ?_ | exact VTos.nil | refine VTo.agg ?_ | refine VTo.tuple ?_ | refine VTo.func ?_ ?_ | exact VTo.fs | exact VTo.fp | exact VTo.nilptr | exact VTo.nilslice | exact VTo.nilfunc | exact VTo.ptr rfl | exact VTo.gl rfl | exact VTo.map rfl | exact VTo.glNil' (by decide) rfl rfl | exact VTo.fsNil (by decide) | exact VTo.fpPtr rfl | exact VTo.fsGl rfl (by first | rfl | exact flat_len encI_len _ | exact flat_len encS_len _ | exact flat_len encP_len _ | exact flat_len encL_len _ | exact flat_len encE_len _ | (simp [flat_len encP_len]; done) | simp [flat_len encI_len, flat_len encS_len]))) ?_)) trivial trivial rfl) (by repeat' (first | exact VTo.undef | exact FrTo.leaf | refine FrTo.node ?_ ?_ ?_ | refine FrTo.none ?_ ?_ | exact VTo.sc (by first | rfl | (congr 1; omega) | (congr 1; simp; omega)) | exact VTos_dv _ _ | refine VTos.cons ?_ ?_ | exact VTos.nil | refine VTo.agg ?_ | refine VTo.tuple ?_ | refine VTo.func ?_ ?_ | exact VTo.fs | exact VTo.fp | exact VTo.nilptr | exact VTo.nilslice | exact VTo.nilfunc | exact VTo.ptr rfl | exact VTo.gl rfl | exact VTo.map rfl | exact VTo.glNil' (by decide) rfl rfl | exact VTo.fsNil (by decide) | exact VTo.fpPtr rfl | exact VTo.fsGl rfl (by first | rfl | exact flat_len encI_len _ | exact flat_len encS_len _ | exact flat_len encP_len _ | exact flat_len encL_len _ | exact flat_len encE_len _ | (simp [flat_len encP_len]; done) | simp [flat_len encI_len, flat_len encS_len]))) (by first | rfl | (repeat' (first | exact MkTo.nil | refine MkTo.keep rfl ?_ | refine MkTo.drop (by decide) rfl ?_)))
          · rintro k k1
            conv => whnf
            refine VIte.dec (fun k3 => ?_) (fun k3 => ?_)
            · have hv : l[k]? = some l[k] := List.getElem?_eq_getElem (by omega)
              generalize l[k] = v at hv
              rw [all_drop hv] at k1
              have hq : decide (tAt t F ≤ v ∧ v ≤ tAt t p - 1) = true ↔ (t[F] ≤ v ∧ v ≤ t[p] - 1) := by rw [e8, e3, decide_eq_true_eq]
              generalize t[p] = y at hy b3 e3 hq
              generalize t[F] = z at hFy b8 e8 hq
              conv => whnf
              repeat' (first | (refine VLd.intro rfl ?_; conv => whnf) | (refine VArith.i64 (by omega) ?_; conv => whnf) | (refine VNeed.intro (by first | rfl | (simp; omega)) ?_; conv => whnf) | (refine VMem.store rfl rfl rfl rfl ?_; conv => whnf) | (refine VSame.intro rfl ?_; conv => whnf) | (refine VDraw.go [] (by kernel_rfl) (by kernel_rfl) ?_; conv => whnf) | (refine VIte.dec (fun _ => ?_) (fun _ => ?_) <;> conv => whnf) | (refine VIte.ndec (fun _ => ?_) (fun _ => ?_) <;> conv => whnf) | (refine VIte.beq (fun _ => ?_) (fun _ => ?_) <;> conv => whnf) | (refine VIte.bne (fun _ => ?_) (fun _ => ?_) <;> conv => whnf) | (refine VIte.intro (fun _ => ?_) (fun _ => ?_) <;> conv => whnf) | (refine VAny.ix encI_len p (by omega) rfl hy ?_; conv => whnf) | (refine VAny.ix encI_len F (by omega) rfl hFy ?_; conv => whnf) | (refine VAny.ix encI_len k (by omega) rfl hv ?_; conv => whnf) | (refine VCall.intro (vc_beside _ _ _ _) ?_; conv => whnf))
              · rw [Bool.eq_false_iff.2 (fun hq2 => absurd (hq.1 hq2) (by omega)), Bool.false_and] at k1
                rw [k1] at hE2
                rw [hRR 4 hE2]
                exact VOut.same rfl
              · rw [hq.2 (by omega), Bool.true_and] at k1
                refine LEnd.intro (k + 1) k1 (by omega) ?_
                conv => whnf
                refine Retell.turn ⟨[0], 1, [], []⟩ (TurnOk.mk' _ _ [] [] (OutOk.lift _) rfl (by decide) (by repeat' (first | exact BTos.nil | refine BTos.flat rfl rfl (by first | rfl | simp) ?_ | refine BTos.new rfl ?_ | refine BTos.dead rfl rfl ?_ | refine BTos.row rfl rfl rfl (RowTo.snoc (RowTo.one rfl (by simp))) ?_ | refine BTos.cells rfl rfl rfl (by repeat' (first | exact VTo.undef | exact FrTo.leaf | refine FrTo.node ?_ ?_ ?_ | refine FrTo.none ?_ ?_ | exact VTo.sc (by first | rfl | (congr 1; omega) | (congr 1; simp; omega)) | exact VTos_dv _ _ | refine VTos.cons ?_ ?_ | exact VTos.nil | refine VTo.agg ?_ | refine VTo.tuple ?_ | refine VTo.func ?_ ?_ | exact VTo.fs | exact VTo.fp | exact VTo.nilptr | exact VTo.nilslice | exact VTo.nilfunc | exact VTo.ptr rfl | exact VTo.gl rfl | exact VTo.map rfl | exact VTo.glNil' (by decide) rfl rfl | exact VTo.fsNil (by decide) | exact VTo.fpPtr rfl | exact VTo.fsGl rfl (by first | rfl | exact flat_len encI_len _ | exact flat_len encS_len _ | exact flat_len encP_len _ | exact flat_len encL_len _ | exact flat_len encE_len _ | (simp [flat_len encP_len]; done) | simp [flat_len encI_len, flat_len encS_len]))) ?_)) trivial trivial rfl) (by repeat' (first | exact VTo.undef | exact FrTo.leaf | refine FrTo.node ?_ ?_ ?_ | refine FrTo.none ?_ ?_ | exact VTo.sc (by first | rfl | (congr 1; omega) | (congr 1; simp; omega)) | exact VTos_dv _ _ | refine VTos.cons ?_ ?_ | exact VTos.nil | refine VTo.agg ?_ | refine VTo.tuple ?_ | refine VTo.func ?_ ?_ | exact VTo.fs | exact VTo.fp | exact VTo.nilptr | exact VTo.nilslice | exact VTo.nilfunc | exact VTo.ptr rfl | exact VTo.gl rfl | exact VTo.map rfl | exact VTo.glNil' (by decide) rfl rfl | exact VTo.fsNil (by decide) | exact VTo.fpPtr rfl | exact VTo.fsGl rfl (by first | rfl | exact flat_len encI_len _ | exact flat_len encS_len _ | exact flat_len encP_len _ | exact flat_len encL_len _ | exact flat_len encE_len _ | (simp [flat_len encP_len]; done) | simp [flat_len encI_len, flat_len encS_len]))) (by first | rfl | (repeat' (first | exact MkTo.nil | refine MkTo.keep rfl ?_ | refine MkTo.drop (by decide) rfl ?_)))
            · rw [k1, List.drop_of_length_le (by omega), List.all_nil, cond_true] at hE2
              have hB : l.all (fun x => decide (tAt t F ≤ x ∧ x ≤ tAt t p - 1)) = true := by rw [k1, List.drop_of_length_le (by omega), List.all_nil]
              have hin : ∀ {i : Nat} {x : Int}, l[i]? = some x → 0 ≤ x ∧ x ≤ 3000 := fun {i x} hx => by
                have h9 := List.all_eq_true.1 hB x (List.mem_of_getElem? hx)
                rw [decide_eq_true_eq] at h9
                omega
              conv => whnf
              repeat (first | (refine VLd.intro rfl ?_; conv => whnf) | (refine VArith.i64 (by omega) ?_; conv => whnf) | (refine VNeed.intro (by first | rfl | (simp; omega)) ?_; conv => whnf) | (refine VMem.store rfl rfl rfl rfl ?_; conv => whnf) | (refine VSame.intro rfl ?_; conv => whnf) | (refine VDraw.go [] (by kernel_rfl) (by kernel_rfl) ?_; conv => whnf))
              refine VCode.lp (fun k : Nat => [(1, ints t), (2, I p), (3, ints l), (4, .ptr (.loc 0) 0), (8, I 0), (9, I 0), (12, I lo), (16, I k)]) (fun _ => [.flat true (encF f)]) (fun k => lo ≤ k ∧ k ≤ hi + 1 ∧ okW f t l p (hi + 1 - lo) lo = okW f t l p (hi + 1 - k) k) (fun k => hi + 1 - k) lo ⟨Nat.le_refl _, by omega, rfl⟩ ?_ ?_
              · conv => whnf
                refine Retell.turn ⟨[0], 1, [], []⟩ (TurnOk.mk' _ _ [] [] (OutOk.lift _) rfl (by decide) (by repeat' (first | exact BTos.nil | refine BTos.flat rfl rfl (by first | rfl | simp) ?_ | refine BTos.new rfl ?_ | refine BTos.dead rfl rfl ?_ | refine BTos.row rfl rfl rfl (RowTo.snoc (RowTo.one rfl (by simp))) ?_ | refine BTos.cells rfl rfl rfl (by repeat' (first | exact VTo.undef | exact FrTo.leaf | refine FrTo.node ?_ ?_ ?_ | refine FrTo.none ?_ ?_ | exact VTo.sc (by first | rfl | (congr 1; omega) | (congr 1; simp; omega)) | exact VTos_dv _ _ | refine VTos.cons ?_ ?_ | exact VTos.nil | refine VTo.agg ?_ | refine VTo.tuple ?_ | refine VTo.func ?_ ?_ | exact VTo.fs | exact VTo.fp | exact VTo.nilptr | exact VTo.nilslice | exact VTo.nilfunc | exact VTo.ptr rfl | exact VTo.gl rfl | exact VTo.map rfl | exact VTo.glNil' (by decide) rfl rfl | exact VTo.fsNil (by decide) | exact VTo.fpPtr rfl | exact VTo.fsGl rfl (by first | rfl | exact flat_len encI_len _ | exact flat_len encS_len _ | exact flat_len encP_len _ | exact flat_len encL_len _ | exact flat_len encE_len _ | (simp [flat_len encP_len]; done) | simp [flat_len encI_len, flat_len encS_len]))) ?_)) trivial trivial rfl) (by repeat' (first | exact VTo.undef | exact FrTo.leaf | refine FrTo.node ?_ ?_ ?_ | refine FrTo.none ?_ ?_ | exact VTo.sc (by first | rfl | (congr 1; omega) | (congr 1; simp; omega)) | exact VTos_dv _ _ | refine VTos.cons ?_ ?_ | exact VTos.nil | refine VTo.agg ?_ | refine VTo.tuple ?_ | refine VTo.func ?_ ?_ | exact VTo.fs | exact VTo.fp | exact VTo.nilptr | exact VTo.nilslice | exact VTo.nilfunc | exact VTo.ptr rfl | exact VTo.gl rfl | exact VTo.map rfl | exact VTo.glNil' (by decide) rfl rfl | exact VTo.fsNil (by decide) | exact VTo.fpPtr rfl | exact VTo.fsGl rfl (by first | rfl | exact flat_len encI_len _ | exact flat_len encS_len _ | exact flat_len encP_len _ | exact flat_len encL_len _ | exact flat_len encE_len _ | (simp [flat_len encP_len]; done) | simp [flat_len encI_len, flat_len encS_len]))) (by first | rfl | (repeat' (first | exact MkTo.nil | refine MkTo.keep rfl ?_ | refine MkTo.drop (by decide) rfl ?_)))
              · rintro i ⟨g1, g2, g3⟩
                rcases Nat.eq_or_lt_of_le g2 with g5 | g5
                · subst g5
                  rw [g3, Nat.sub_self, okW, cond_true] at hE2
                  rw [hRR 0 hE2]
                  conv => whnf
                  rcases Nat.lt_or_ge (hi + 1) t.length with g6 | g6
                  · have := hout g6
                    repeat' (first | (refine VLd.intro rfl ?_; conv => whnf) | (refine VArith.i64 (by omega) ?_; conv => whnf) | (refine VNeed.intro (by first | rfl | (simp; omega)) ?_; conv => whnf) | (refine VMem.store rfl rfl rfl rfl ?_; conv => whnf) | (refine VSame.intro rfl ?_; conv => whnf) | (refine VDraw.go [] (by kernel_rfl) (by kernel_rfl) ?_; conv => whnf) | (refine VIte.dec (fun _ => ?_) (fun _ => ?_) <;> conv => whnf) | (refine VIte.ndec (fun _ => ?_) (fun _ => ?_) <;> conv => whnf) | (refine VIte.beq (fun _ => ?_) (fun _ => ?_) <;> conv => whnf) | (refine VIte.bne (fun _ => ?_) (fun _ => ?_) <;> conv => whnf) | (refine VIte.intro (fun _ => ?_) (fun _ => ?_) <;> conv => whnf) | (refine VCall.intro (vc_first f t (hi + 1) _ o.toOkt g6) ?_; conv => whnf))
                    · omega
                    · exact VOut.same rfl
                    · omega
                  · repeat' (first | (refine VLd.intro rfl ?_; conv => whnf) | (refine VArith.i64 (by omega) ?_; conv => whnf) | (refine VNeed.intro (by first | rfl | (simp; omega)) ?_; conv => whnf) | (refine VMem.store rfl rfl rfl rfl ?_; conv => whnf) | (refine VSame.intro rfl ?_; conv => whnf) | (refine VDraw.go [] (by kernel_rfl) (by kernel_rfl) ?_; conv => whnf) | (refine VIte.dec (fun _ => ?_) (fun _ => ?_) <;> conv => whnf) | (refine VIte.ndec (fun _ => ?_) (fun _ => ?_) <;> conv => whnf) | (refine VIte.beq (fun _ => ?_) (fun _ => ?_) <;> conv => whnf) | (refine VIte.bne (fun _ => ?_) (fun _ => ?_) <;> conv => whnf) | (refine VIte.intro (fun _ => ?_) (fun _ => ?_) <;> conv => whnf))
                    · omega
                    · exact VOut.same rfl
                · have hfi := hfst i g1 (by omega)
                  have hx : t[i]? = some t[i] := List.getElem?_eq_getElem (by omega)
                  have b5 := o.yr hx
                  have e5 := tAt_eq hx
                  have hbad : badW f t l p i = true ↔ (1 < cntS f t[i] l l.length ∨ (0 < cntS f t[i] l l.length ∧ i = p)) := by rw [badW, e5, decide_eq_true_eq]
                  have g3b : (badW f t l p i = true → okW f t l p (hi + 1 - lo) lo = false) ∧ (badW f t l p i = false → okW f t l p (hi + 1 - lo) lo = okW f t l p (hi + 1 - (i + 1)) (i + 1)) := by
                    obtain ⟨m, hm⟩ : ∃ m, hi + 1 - i = m + 1 := ⟨hi - i, by omega⟩
                    rw [hm, okW] at g3
                    rw [show hi + 1 - (i + 1) = m by omega, g3]
                    exact ⟨fun hb => by rw [hb]; rfl, fun hb => by rw [hb]; rfl⟩
                  generalize t[i] = x at hx b5 e5 hbad
                  conv => whnf
                  repeat' (first | (refine VLd.intro rfl ?_; conv => whnf) | (refine VArith.i64 (by omega) ?_; conv => whnf) | (refine VNeed.intro (by first | rfl | (simp; omega)) ?_; conv => whnf) | (refine VMem.store rfl rfl rfl rfl ?_; conv => whnf) | (refine VSame.intro rfl ?_; conv => whnf) | (refine VDraw.go [] (by kernel_rfl) (by kernel_rfl) ?_; conv => whnf) | (refine VIte.dec (fun _ => ?_) (fun _ => ?_) <;> conv => whnf) | (refine VIte.ndec (fun _ => ?_) (fun _ => ?_) <;> conv => whnf) | (refine VIte.beq (fun _ => ?_) (fun _ => ?_) <;> conv => whnf) | (refine VIte.bne (fun _ => ?_) (fun _ => ?_) <;> conv => whnf) | (refine VIte.intro (fun _ => ?_) (fun _ => ?_) <;> conv => whnf) | (refine VCall.intro (vc_first f t i _ o.toOkt (by omega)) ?_; conv => whnf))
                  · refine VCode.lp (fun k : Nat => [(1, ints t), (2, I p), (3, ints l), (4, .ptr (.loc 0) 0), (8, I 0), (9, I 0), (12, I lo), (16, I i), (17, I (cntS f x l k)), (18, I k)]) (fun _ => [.flat true (encF f)]) (fun k => k ≤ l.length) (fun k => l.length - k) 0 (Nat.zero_le _) ?_ ?_
                    · conv => whnf
                      refine Retell.turn ⟨[0], 1, [], []⟩ (TurnOk.mk' _ _ [] [] (OutOk.lift _) rfl (by decide) (by repeat' (first | exact BTos.nil | refine BTos.flat rfl rfl (by first | rfl | simp) ?_ | refine BTos.new rfl ?_ | refine BTos.dead rfl rfl ?_ | refine BTos.row rfl rfl rfl (RowTo.snoc (RowTo.one rfl (by simp))) ?_ | refine BTos.cells rfl rfl rfl (by repeat' (first | exact VTo.undef | exact FrTo.leaf | refine FrTo.node ?_ ?_ ?_ | refine FrTo.none ?_ ?_ | exact VTo.sc (by first | rfl | (congr 1; omega) | (congr 1; simp; omega)) | exact VTos_dv _ _ | refine VTos.cons ?_ ?_ | exact VTos.nil | refine VTo.agg ?_ | refine VTo.tuple ?_ | refine VTo.func ?_ ?_ | exact VTo.fs | exact VTo.fp | exact VTo.nilptr | exact VTo.nilslice | exact VTo.nilfunc | exact VTo.ptr rfl | exact VTo.gl rfl | exact VTo.map rfl | exact VTo.glNil' (by decide) rfl rfl | exact VTo.fsNil (by decide) | exact VTo.fpPtr rfl | exact VTo.fsGl rfl (by first | rfl | exact flat_len encI_len _ | exact flat_len encS_len _ | exact flat_len encP_len _ | exact flat_len encL_len _ | exact flat_len encE_len _ | (simp [flat_len encP_len]; done) | simp [flat_len encI_len, flat_len encS_len]))) ?_)) trivial trivial rfl) (by repeat' (first | exact VTo.undef | exact FrTo.leaf | refine FrTo.node ?_ ?_ ?_ | refine FrTo.none ?_ ?_ | exact VTo.sc (by first | rfl | (congr 1; omega) | (congr 1; simp; omega)) | exact VTos_dv _ _ | refine VTos.cons ?_ ?_ | exact VTos.nil | refine VTo.agg ?_ | refine VTo.tuple ?_ | refine VTo.func ?_ ?_ | exact VTo.fs | exact VTo.fp | exact VTo.nilptr | exact VTo.nilslice | exact VTo.nilfunc | exact VTo.ptr rfl | exact VTo.gl rfl | exact VTo.map rfl | exact VTo.glNil' (by decide) rfl rfl | exact VTo.fsNil (by decide) | exact VTo.fpPtr rfl | exact VTo.fsGl rfl (by first | rfl | exact flat_len encI_len _ | exact flat_len encS_len _ | exact flat_len encP_len _ | exact flat_len encL_len _ | exact flat_len encE_len _ | (simp [flat_len encP_len]; done) | simp [flat_len encI_len, flat_len encS_len]))) (by first | rfl | (repeat' (first | exact MkTo.nil | refine MkTo.keep rfl ?_ | refine MkTo.drop (by decide) rfl ?_)))
                    · rintro k k1
                      have hcb := cntS_bd f x l k
                      conv => whnf
                      refine VIte.dec (fun k3 => ?_) (fun k3 => ?_)
                      · have hv : l[k]? = some l[k] := List.getElem?_eq_getElem (by omega)
                        have bv := hin hv
                        have ev : l.getD k 0 = l[k] := by simp [hv]
                        have hc1 : (l[k] + 1 ≤ x ∧ x ≤ l[k] + f.G → cntS f x l (k + 1) = cntS f x l k + 1) ∧ (¬ (l[k] + 1 ≤ x ∧ x ≤ l[k] + f.G) → cntS f x l (k + 1) = cntS f x l k) := by
                          rw [cntS, ev]
                          exact ⟨fun hc => by rw [if_pos hc], fun hc => by rw [if_neg hc]; rfl⟩
                        generalize l[k] = v at hv bv ev hc1
                        conv => whnf
                        repeat' (first | (refine VLd.intro rfl ?_; conv => whnf) | (refine VArith.i64 (by omega) ?_; conv => whnf) | (refine VNeed.intro (by first | rfl | (simp; omega)) ?_; conv => whnf) | (refine VMem.store rfl rfl rfl rfl ?_; conv => whnf) | (refine VSame.intro rfl ?_; conv => whnf) | (refine VDraw.go [] (by kernel_rfl) (by kernel_rfl) ?_; conv => whnf) | (refine VIte.dec (fun _ => ?_) (fun _ => ?_) <;> conv => whnf) | (refine VIte.ndec (fun _ => ?_) (fun _ => ?_) <;> conv => whnf) | (refine VIte.beq (fun _ => ?_) (fun _ => ?_) <;> conv => whnf) | (refine VIte.bne (fun _ => ?_) (fun _ => ?_) <;> conv => whnf) | (refine VIte.intro (fun _ => ?_) (fun _ => ?_) <;> conv => whnf) | (refine VAny.ix encI_len k (by omega) rfl hv ?_; conv => whnf) | (refine VAny.ix encI_len i (by omega) rfl hx ?_; conv => whnf))
                        all_goals (
                          refine LEnd.intro (k + 1) (by omega) (by omega) ?_
                          conv => whnf
                          first | rw [hc1.1 (by omega)] | rw [hc1.2 (by omega)]
                          refine Retell.turn ⟨[0], 1, [], []⟩ (TurnOk.mk' _ _ [] [] (OutOk.lift _) rfl (by decide) (by repeat' (first | exact BTos.nil | refine BTos.flat rfl rfl (by first | rfl | simp) ?_ | refine BTos.new rfl ?_ | refine BTos.dead rfl rfl ?_ | refine BTos.row rfl rfl rfl (RowTo.snoc (RowTo.one rfl (by simp))) ?_ | refine BTos.cells rfl rfl rfl (by repeat' (first | exact VTo.undef | exact FrTo.leaf | refine FrTo.node ?_ ?_ ?_ | refine FrTo.none ?_ ?_ | exact VTo.sc (by first | rfl | (congr 1; omega) | (congr 1; simp; omega)) | exact VTos_dv _ _ | refine VTos.cons ?_ ?_ | exact VTos.nil | refine VTo.agg ?_ | refine VTo.tuple ?_ | refine VTo.func ?_ ?_ | exact VTo.fs | exact VTo.fp | exact VTo.nilptr | exact VTo.nilslice | exact VTo.nilfunc | exact VTo.ptr rfl | exact VTo.gl rfl | exact VTo.map rfl | exact VTo.glNil' (by decide) rfl rfl | exact VTo.fsNil (by decide) | exact VTo.fpPtr rfl | exact VTo.fsGl rfl (by first | rfl | exact flat_len encI_len _ | exact flat_len encS_len _ | exact flat_len encP_len _ | exact flat_len encL_len _ | exact flat_len encE_len _ | (simp [flat_len encP_len]; done) | simp [flat_len encI_len, flat_len encS_len]))) ?_)) trivial trivial rfl) (by repeat' (first | exact VTo.undef | exact FrTo.leaf | refine FrTo.node ?_ ?_ ?_ | refine FrTo.none ?_ ?_ | exact VTo.sc (by first | rfl | (congr 1; omega) | (congr 1; simp; omega)) | exact VTos_dv _ _ | refine VTos.cons ?_ ?_ | exact VTos.nil | refine VTo.agg ?_ | refine VTo.tuple ?_ | refine VTo.func ?_ ?_ | exact VTo.fs | exact VTo.fp | exact VTo.nilptr | exact VTo.nilslice | exact VTo.nilfunc | exact VTo.ptr rfl | exact VTo.gl rfl | exact VTo.map rfl | exact VTo.glNil' (by decide) rfl rfl | exact VTo.fsNil (by decide) | exact VTo.fpPtr rfl | exact VTo.fsGl rfl (by first | rfl | exact flat_len encI_len _ | exact flat_len encS_len _ | exact flat_len encP_len _ | exact flat_len encL_len _ | exact flat_len encE_len _ | (simp [flat_len encP_len]; done) | simp [flat_len encI_len, flat_len encS_len]))) (by first | rfl | (repeat' (first | exact MkTo.nil | refine MkTo.keep rfl ?_ | refine MkTo.drop (by decide) rfl ?_))))
                      · have hk : k = l.length := by omega
                        subst hk
                        conv => whnf
                        repeat' (first | (refine VLd.intro rfl ?_; conv => whnf) | (refine VArith.i64 (by omega) ?_; conv => whnf) | (refine VNeed.intro (by first | rfl | (simp; omega)) ?_; conv => whnf) | (refine VMem.store rfl rfl rfl rfl ?_; conv => whnf) | (refine VSame.intro rfl ?_; conv => whnf) | (refine VDraw.go [] (by kernel_rfl) (by kernel_rfl) ?_; conv => whnf) | (refine VIte.dec (fun _ => ?_) (fun _ => ?_) <;> conv => whnf) | (refine VIte.ndec (fun _ => ?_) (fun _ => ?_) <;> conv => whnf) | (refine VIte.beq (fun _ => ?_) (fun _ => ?_) <;> conv => whnf) | (refine VIte.bne (fun _ => ?_) (fun _ => ?_) <;> conv => whnf) | (refine VIte.intro (fun _ => ?_) (fun _ => ?_) <;> conv => whnf))
                        all_goals first
                          | (have hb := hbad.2 (by omega)
                             rw [g3b.1 hb] at hE2
                             rw [hRR 9 hE2]
                             exact VOut.same rfl)
                          | (have hb : badW f t l p i = false := Bool.eq_false_iff.2 fun hb => absurd (hbad.1 hb) (by omega)
                             refine LEnd.intro (i + 1) ⟨by omega, by omega, g3b.2 hb⟩ (by omega) ?_
                             conv => whnf
                             refine Retell.turn ⟨[0], 1, [], []⟩ (TurnOk.mk' _ _ [] [] (OutOk.lift _) rfl (by decide) (by repeat' (first | exact BTos.nil | refine BTos.flat rfl rfl (by first | rfl | simp) ?_ | refine BTos.new rfl ?_ | refine BTos.dead rfl rfl ?_ | refine BTos.row rfl rfl rfl (RowTo.snoc (RowTo.one rfl (by simp))) ?_ | refine BTos.cells rfl rfl rfl (by repeat' (first | exact VTo.undef | exact FrTo.leaf | refine FrTo.node ?_ ?_ ?_ | refine FrTo.none ?_ ?_ | exact VTo.sc (by first | rfl | (congr 1; omega) | (congr 1; simp; omega)) | exact VTos_dv _ _ | refine VTos.cons ?_ ?_ | exact VTos.nil | refine VTo.agg ?_ | refine VTo.tuple ?_ | refine VTo.func ?_ ?_ | exact VTo.fs | exact VTo.fp | exact VTo.nilptr | exact VTo.nilslice | exact VTo.nilfunc | exact VTo.ptr rfl | exact VTo.gl rfl | exact VTo.map rfl | exact VTo.glNil' (by decide) rfl rfl | exact VTo.fsNil (by decide) | exact VTo.fpPtr rfl | exact VTo.fsGl rfl (by first | rfl | exact flat_len encI_len _ | exact flat_len encS_len _ | exact flat_len encP_len _ | exact flat_len encL_len _ | exact flat_len encE_len _ | (simp [flat_len encP_len]; done) | simp [flat_len encI_len, flat_len encS_len]))) ?_)) trivial trivial rfl) (by repeat' (first | exact VTo.undef | exact FrTo.leaf | refine FrTo.node ?_ ?_ ?_ | refine FrTo.none ?_ ?_ | exact VTo.sc (by first | rfl | (congr 1; omega) | (congr 1; simp; omega)) | exact VTos_dv _ _ | refine VTos.cons ?_ ?_ | exact VTos.nil | refine VTo.agg ?_ | refine VTo.tuple ?_ | refine VTo.func ?_ ?_ | exact VTo.fs | exact VTo.fp | exact VTo.nilptr | exact VTo.nilslice | exact VTo.nilfunc | exact VTo.ptr rfl | exact VTo.gl rfl | exact VTo.map rfl | exact VTo.glNil' (by decide) rfl rfl | exact VTo.fsNil (by decide) | exact VTo.fpPtr rfl | exact VTo.fsGl rfl (by first | rfl | exact flat_len encI_len _ | exact flat_len encS_len _ | exact flat_len encP_len _ | exact flat_len encL_len _ | exact flat_len encE_len _ | (simp [flat_len encP_len]; done) | simp [flat_len encI_len, flat_len encS_len]))) (by first | rfl | (repeat' (first | exact MkTo.nil | refine MkTo.keep rfl ?_ | refine MkTo.drop (by decide) rfl ?_))))
                  all_goals omega
end Go.Proofs.Ytolnajnlcdacmaa

open Go.Vm
namespace Go.Proofs.Ytolnajnlcdacmaa
set_option maxRecDepth 20000
set_option maxHeartbeats 1000000

theorem drop_eq_dec {α : Type} [DecidableEq α] {a b : List α} {k : Nat} {x y : α} (hx : a[k]? = some x) (hy : b[k]? = some y) : decide (a.drop k = b.drop k) = (decide (x = y) && decide (a.drop (k + 1) = b.drop (k + 1))) := by
  obtain ⟨h1, rfl⟩ := List.getElem?_eq_some_iff.1 hx
  obtain ⟨h2, rfl⟩ := List.getElem?_eq_some_iff.1 hy
  rw [List.drop_eq_getElem_cons h1, List.drop_eq_getElem_cons h2, Bool.eq_iff_iff, Bool.and_eq_true, decide_eq_true_eq, decide_eq_true_eq, decide_eq_true_eq, List.cons.injEq]
theorem ne_I {x y : Int} (h : ¬ x = y) : ¬ x = y := h
theorem eq_I {x y : Int} (h : x = y) : x = y := h
theorem ne_S {x y : Spn} (h : ¬ x = y) : ¬ x = y := h
theorem eq_S {x y : Spn} (h : ¬ ¬ x = y) : x = y := Decidable.not_not.1 h
theorem ne_P {x y : Pap} (h : ¬ x = y) : ¬ x = y := h
theorem eq_P {x y : Pap} (h : ¬ ¬ x = y) : x = y := Decidable.not_not.1 h
theorem top43 : eqTop Try.prog 43 = some (Sh.cons 0 1 false Sh.int (Sh.cons 1 1 false Sh.int Sh.nil)) := by kernel_rfl
theorem top55 : eqTop Try.prog 55 = some (Sh.cons 0 1 false Sh.int (Sh.cons 1 2 true (Sh.cons 0 1 false Sh.int (Sh.cons 1 1 false Sh.int Sh.nil)) Sh.nil)) := by kernel_rfl
theorem vneqS (x y : Spn) : vaggeq Try.prog .neq 43 (.agg [I x.lo, I x.hi]) (.agg [I y.lo, I y.hi]) = some (B (decide (¬ x = y))) := by
  have : (!((x.lo == y.lo) && ((x.hi == y.hi) && true))) = decide (¬ x = y) := by cases x; cases y; rw [Bool.eq_iff_iff, decide_eq_true_eq]; simp [-not_and]; omega
  rw [← this]
  unfold vaggeq
  rw [top43]
  rfl
theorem vneqP (x y : Pap) : vaggeq Try.prog .neq 55 (.agg [I x.side, I x.lo, I x.hi]) (.agg [I y.side, I y.lo, I y.hi]) = some (B (decide (¬ x = y))) := by
  have : (!((x.side == y.side) && (((x.lo == y.lo) && ((x.hi == y.hi) && true)) && true))) = decide (¬ x = y) := by cases x; cases y; rw [Bool.eq_iff_iff, decide_eq_true_eq]; simp [-not_and]; omega
  rw [← this]
  unfold vaggeq
  rw [top55]
  rfl
theorem vc_equalI (a b : List Int) (h : Hp) (ha : a.length ≤ 4000000) (hb : b.length ≤ 4000000) : VC Try.prog 18 [ints a, ints b] h (B (decide (a = b))) h := by
  obtain ⟨E, hE⟩ : ∃ E, E = decide (a = b) := ⟨_, rfl⟩
  rw [← hE]
  refine VC.body Try.func18 rfl Try.ntmps18 Try.call18 (h.grows_refl) rfl ?_; conv => whnf
  refine VCode.lp (fun k : Nat => [(0, ints a), (1, ints b), (4, B false), (7, I a.length), (8, I k)]) (fun _ => []) (fun k => k ≤ a.length ∧ k ≤ b.length ∧ E = decide (a.drop k = b.drop k)) (fun k => a.length - k) 0 ⟨Nat.zero_le _, Nat.zero_le _, hE⟩ ?_ ?_
  · conv => whnf
    refine Retell.turn ⟨[], 0, [], []⟩ (TurnOk.mk' _ _ [] [] (OutOk.lift _) rfl (by decide) (by repeat' (first | exact BTos.nil | refine BTos.flat rfl rfl (by first | rfl | simp) ?_ | refine BTos.new rfl ?_ | refine BTos.dead rfl rfl ?_ | refine BTos.esE rfl rfl ?_ | refine BTos.row rfl rfl rfl (RowTo.snoc (RowTo.one rfl (by simp))) ?_ | refine BTos.cells rfl rfl rfl (by repeat' (first | exact VTo.undef | exact FrTo.leaf | refine FrTo.node ?_ ?_ ?_ | refine FrTo.none ?_ ?_ | exact VTo.sc (by first | rfl | (congr 1; omega) | (congr 1; simp; omega)) | exact VTos_dv _ _ | refine VTos.cons ?_ ?_ | exact VTos.nil | refine VTo.agg ?_ | refine VTo.tuple ?_ | refine VTo.func ?_ ?_ | exact VTo.fs | exact VTo.fp | exact VTo.nilptr | exact VTo.nilslice | exact VTo.nilfunc | exact VTo.ptr rfl | exact VTo.gl rfl | exact VTo.map rfl | exact VTo.yld rfl | exact VTo.fmMap rfl | exact VTo.fm | exact VTo.glNil' (by decide) rfl rfl | exact VTo.fsNil (by decide) | exact VTo.fsSl rfl rfl (by simp [flat_len encE_len]) | exact VTo.fpPtr rfl | exact VTo.fsGl rfl (by first | rfl | exact flat_len encI_len _ | exact flat_len encS_len _ | exact flat_len encP_len _ | exact flat_len encL_len _ | exact flat_len encE_len _ | (simp [flat_len encP_len]; done) | simp [flat_len encI_len, flat_len encS_len]))) ?_)) trivial trivial rfl) (by repeat' (first | exact VTo.undef | exact FrTo.leaf | refine FrTo.node ?_ ?_ ?_ | refine FrTo.none ?_ ?_ | exact VTo.sc (by first | rfl | (congr 1; omega) | (congr 1; simp; omega)) | exact VTos_dv _ _ | refine VTos.cons ?_ ?_ | exact VTos.nil | refine VTo.agg ?_ | refine VTo.tuple ?_ | refine VTo.func ?_ ?_ | exact VTo.fs | exact VTo.fp | exact VTo.nilptr | exact VTo.nilslice | exact VTo.nilfunc | exact VTo.ptr rfl | exact VTo.gl rfl | exact VTo.map rfl | exact VTo.yld rfl | exact VTo.fmMap rfl | exact VTo.fm | exact VTo.glNil' (by decide) rfl rfl | exact VTo.fsNil (by decide) | exact VTo.fsSl rfl rfl (by simp [flat_len encE_len]) | exact VTo.fpPtr rfl | exact VTo.fsGl rfl (by first | rfl | exact flat_len encI_len _ | exact flat_len encS_len _ | exact flat_len encP_len _ | exact flat_len encL_len _ | exact flat_len encE_len _ | (simp [flat_len encP_len]; done) | simp [flat_len encI_len, flat_len encS_len]))) (by first | rfl | (repeat' (first | exact MkTo.nil | refine MkTo.keep rfl ?_ | refine MkTo.drop (by decide) rfl ?_)))
  · rintro k ⟨h1, h2, h3⟩
    conv => whnf
    refine VIte.dec (fun h4 => ?_) (fun h4 => ?_)
    · have hx : a[k]? = some a[k] := List.getElem?_eq_getElem (by omega)
      rcases Nat.eq_or_lt_of_le h2 with h5 | h5
      · have hF : E = false := by
          rw [h3, decide_eq_false_iff_not]
          intro hh
          have := congrArg List.length hh
          simp at this; omega
        rw [hF]
        conv => whnf
        repeat' (first | (refine VLd.intro rfl ?_; conv => whnf) | (refine VArith.i64 (by omega) ?_; conv => whnf) | (refine VNeed.intro (by first | rfl | (simp; omega)) ?_; conv => whnf) | (refine VMem.store rfl rfl rfl rfl ?_; conv => whnf) | (refine VSame.intro rfl ?_; conv => whnf) | (refine VDraw.go [] (by kernel_rfl) (by kernel_rfl) ?_; conv => whnf) | (refine VIte.dec (fun _ => ?_) (fun _ => ?_) <;> conv => whnf) | (refine VIte.ndec (fun _ => ?_) (fun _ => ?_) <;> conv => whnf) | (refine VIte.beq (fun _ => ?_) (fun _ => ?_) <;> conv => whnf) | (refine VIte.bne (fun _ => ?_) (fun _ => ?_) <;> conv => whnf) | (refine VIte.intro (fun _ => ?_) (fun _ => ?_) <;> conv => whnf))
        · exact VOut.same rfl
        all_goals omega
      · have hy : b[k]? = some b[k] := List.getElem?_eq_getElem h5
        rw [drop_eq_dec hx hy] at h3
        generalize a[k] = x at hx h3
        generalize b[k] = y at hy h3
        conv => whnf
        repeat' (first | (refine VLd.intro rfl ?_; conv => whnf) | (refine VArith.i64 (by omega) ?_; conv => whnf) | (refine VNeed.intro (by first | rfl | (simp; omega)) ?_; conv => whnf) | (refine VMem.store rfl rfl rfl rfl ?_; conv => whnf) | (refine VSame.intro rfl ?_; conv => whnf) | (refine VDraw.go [] (by kernel_rfl) (by kernel_rfl) ?_; conv => whnf) | (refine VIte.dec (fun _ => ?_) (fun _ => ?_) <;> conv => whnf) | (refine VIte.ndec (fun _ => ?_) (fun _ => ?_) <;> conv => whnf) | (refine VIte.beq (fun _ => ?_) (fun _ => ?_) <;> conv => whnf) | (refine VIte.bne (fun _ => ?_) (fun _ => ?_) <;> conv => whnf) | (refine VIte.intro (fun _ => ?_) (fun _ => ?_) <;> conv => whnf) | (refine VAny.ix encI_len k rfl rfl hx ?_; conv => whnf) | (refine VAny.ix encI_len k rfl rfl hy ?_; conv => whnf))
        all_goals (try omega)
        all_goals first
          | (rw [decide_eq_false (ne_I (by first | assumption | omega)), Bool.false_and] at h3; rw [h3]; exact VOut.same rfl)
          | (rw [decide_eq_true (eq_I (by first | assumption | omega)), Bool.true_and] at h3
             refine LEnd.intro (k + 1) ⟨by omega, by omega, h3⟩ (by omega) ?_
             conv => whnf
             refine Retell.turn ⟨[], 0, [], []⟩ (TurnOk.mk' _ _ [] [] (OutOk.lift _) rfl (by decide) (by repeat' (first | exact BTos.nil | refine BTos.flat rfl rfl (by first | rfl | simp) ?_ | refine BTos.new rfl ?_ | refine BTos.dead rfl rfl ?_ | refine BTos.esE rfl rfl ?_ | refine BTos.row rfl rfl rfl (RowTo.snoc (RowTo.one rfl (by simp))) ?_ | refine BTos.cells rfl rfl rfl (by repeat' (first | exact VTo.undef | exact FrTo.leaf | refine FrTo.node ?_ ?_ ?_ | refine FrTo.none ?_ ?_ | exact VTo.sc (by first | rfl | (congr 1; omega) | (congr 1; simp; omega)) | exact VTos_dv _ _ | refine VTos.cons ?_ ?_ | exact VTos.nil | refine VTo.agg ?_ | refine VTo.tuple ?_ | refine VTo.func ?_ ?_ | exact VTo.fs | exact VTo.fp | exact VTo.nilptr | exact VTo.nilslice | exact VTo.nilfunc | exact VTo.ptr rfl | exact VTo.gl rfl | exact VTo.map rfl | exact VTo.yld rfl | exact VTo.fmMap rfl | exact VTo.fm | exact VTo.glNil' (by decide) rfl rfl | exact VTo.fsNil (by decide) | exact VTo.fsSl rfl rfl (by simp [flat_len encE_len]) | exact VTo.fpPtr rfl | exact VTo.fsGl rfl (by first | rfl | exact flat_len encI_len _ | exact flat_len encS_len _ | exact flat_len encP_len _ | exact flat_len encL_len _ | exact flat_len encE_len _ | (simp [flat_len encP_len]; done) | simp [flat_len encI_len, flat_len encS_len]))) ?_)) trivial trivial rfl) (by repeat' (first | exact VTo.undef | exact FrTo.leaf | refine FrTo.node ?_ ?_ ?_ | refine FrTo.none ?_ ?_ | exact VTo.sc (by first | rfl | (congr 1; omega) | (congr 1; simp; omega)) | exact VTos_dv _ _ | refine VTos.cons ?_ ?_ | exact VTos.nil | refine VTo.agg ?_ | refine VTo.tuple ?_ | refine VTo.func ?_ ?_ | exact VTo.fs | exact VTo.fp | exact VTo.nilptr | exact VTo.nilslice | exact VTo.nilfunc | exact VTo.ptr rfl | exact VTo.gl rfl | exact VTo.map rfl | exact VTo.yld rfl | exact VTo.fmMap rfl | exact VTo.fm | exact VTo.glNil' (by decide) rfl rfl | exact VTo.fsNil (by decide) | exact VTo.fsSl rfl rfl (by simp [flat_len encE_len]) | exact VTo.fpPtr rfl | exact VTo.fsGl rfl (by first | rfl | exact flat_len encI_len _ | exact flat_len encS_len _ | exact flat_len encP_len _ | exact flat_len encL_len _ | exact flat_len encE_len _ | (simp [flat_len encP_len]; done) | simp [flat_len encI_len, flat_len encS_len]))) (by first | rfl | (repeat' (first | exact MkTo.nil | refine MkTo.keep rfl ?_ | refine MkTo.drop (by decide) rfl ?_))))
    · have hk : k = a.length := by omega
      rw [h3, hk, List.drop_length]
      conv => whnf
      repeat' (first | (refine VLd.intro rfl ?_; conv => whnf) | (refine VArith.i64 (by omega) ?_; conv => whnf) | (refine VNeed.intro (by first | rfl | (simp; omega)) ?_; conv => whnf) | (refine VMem.store rfl rfl rfl rfl ?_; conv => whnf) | (refine VSame.intro rfl ?_; conv => whnf) | (refine VDraw.go [] (by kernel_rfl) (by kernel_rfl) ?_; conv => whnf) | (refine VIte.dec (fun _ => ?_) (fun _ => ?_) <;> conv => whnf) | (refine VIte.ndec (fun _ => ?_) (fun _ => ?_) <;> conv => whnf) | (refine VIte.beq (fun _ => ?_) (fun _ => ?_) <;> conv => whnf) | (refine VIte.bne (fun _ => ?_) (fun _ => ?_) <;> conv => whnf) | (refine VIte.intro (fun _ => ?_) (fun _ => ?_) <;> conv => whnf))
      refine VOut.same ?_
      have : ((a.length : Int) == b.length) = decide ([] = b.drop a.length) := by
        rw [Bool.eq_iff_iff, decide_eq_true_eq, beq_iff_eq]
        constructor
        · intro hh; rw [List.drop_of_length_le (by omega)]
        · intro hh
          have := congrArg List.length hh
          simp at this; omega
      simp only [V.ren, this]
theorem vc_equalS (a b : List Spn) (h : Hp) (ha : a.length ≤ 4000000) (hb : b.length ≤ 4000000) : VC Try.prog 39 [spans a, spans b] h (B (decide (a = b))) h := by
  obtain ⟨E, hE⟩ : ∃ E, E = decide (a = b) := ⟨_, rfl⟩
  rw [← hE]
  refine VC.body Try.func39 rfl Try.ntmps39 Try.call39 (h.grows_refl) rfl ?_; conv => whnf
  refine VCode.lp (fun k : Nat => [(0, spans a), (1, spans b), (4, B false), (7, I a.length), (8, I k)]) (fun _ => []) (fun k => k ≤ a.length ∧ k ≤ b.length ∧ E = decide (a.drop k = b.drop k)) (fun k => a.length - k) 0 ⟨Nat.zero_le _, Nat.zero_le _, hE⟩ ?_ ?_
  · conv => whnf
    refine Retell.turn ⟨[], 0, [], []⟩ (TurnOk.mk' _ _ [] [] (OutOk.lift _) rfl (by decide) (by repeat' (first | exact BTos.nil | refine BTos.flat rfl rfl (by first | rfl | simp) ?_ | refine BTos.new rfl ?_ | refine BTos.dead rfl rfl ?_ | refine BTos.esE rfl rfl ?_ | refine BTos.row rfl rfl rfl (RowTo.snoc (RowTo.one rfl (by simp))) ?_ | refine BTos.cells rfl rfl rfl (by repeat' (first | exact VTo.undef | exact FrTo.leaf | refine FrTo.node ?_ ?_ ?_ | refine FrTo.none ?_ ?_ | exact VTo.sc (by first | rfl | (congr 1; omega) | (congr 1; simp; omega)) | exact VTos_dv _ _ | refine VTos.cons ?_ ?_ | exact VTos.nil | refine VTo.agg ?_ | refine VTo.tuple ?_ | refine VTo.func ?_ ?_ | exact VTo.fs | exact VTo.fp | exact VTo.nilptr | exact VTo.nilslice | exact VTo.nilfunc | exact VTo.ptr rfl | exact VTo.gl rfl | exact VTo.map rfl | exact VTo.yld rfl | exact VTo.fmMap rfl | exact VTo.fm | exact VTo.glNil' (by decide) rfl rfl | exact VTo.fsNil (by decide) | exact VTo.fsSl rfl rfl (by simp [flat_len encE_len]) | exact VTo.fpPtr rfl | exact VTo.fsGl rfl (by first | rfl | exact flat_len encI_len _ | exact flat_len encS_len _ | exact flat_len encP_len _ | exact flat_len encL_len _ | exact flat_len encE_len _ | (simp [flat_len encP_len]; done) | simp [flat_len encI_len, flat_len encS_len]))) ?_)) trivial trivial rfl) (by repeat' (first | exact VTo.undef | exact FrTo.leaf | refine FrTo.node ?_ ?_ ?_ | refine FrTo.none ?_ ?_ | exact VTo.sc (by first | rfl | (congr 1; omega) | (congr 1; simp; omega)) | exact VTos_dv _ _ | refine VTos.cons ?_ ?_ | exact VTos.nil | refine VTo.agg ?_ | refine VTo.tuple ?_ | refine VTo.func ?_ ?_ | exact VTo.fs | exact VTo.fp | exact VTo.nilptr | exact VTo.nilslice | exact VTo.nilfunc | exact VTo.ptr rfl | exact VTo.gl rfl | exact VTo.map rfl | exact VTo.yld rfl | exact VTo.fmMap rfl | exact VTo.fm | exact VTo.glNil' (by decide) rfl rfl | exact VTo.fsNil (by decide) | exact VTo.fsSl rfl rfl (by simp [flat_len encE_len]) | exact VTo.fpPtr rfl | exact VTo.fsGl rfl (by first | rfl | exact flat_len encI_len _ | exact flat_len encS_len _ | exact flat_len encP_len _ | exact flat_len encL_len _ | exact flat_len encE_len _ | (simp [flat_len encP_len]; done) | simp [flat_len encI_len, flat_len encS_len]))) (by first | rfl | (repeat' (first | exact MkTo.nil | refine MkTo.keep rfl ?_ | refine MkTo.drop (by decide) rfl ?_)))
  · rintro k ⟨h1, h2, h3⟩
    conv => whnf
    refine VIte.dec (fun h4 => ?_) (fun h4 => ?_)
    · have hx : a[k]? = some a[k] := List.getElem?_eq_getElem (by omega)
      rcases Nat.eq_or_lt_of_le h2 with h5 | h5
      · have hF : E = false := by
          rw [h3, decide_eq_false_iff_not]
          intro hh
          have := congrArg List.length hh
          simp at this; omega
        rw [hF]
        conv => whnf
        repeat' (first | (refine VLd.intro rfl ?_; conv => whnf) | (refine VArith.i64 (by omega) ?_; conv => whnf) | (refine VNeed.intro (by first | rfl | (simp; omega)) ?_; conv => whnf) | (refine VMem.store rfl rfl rfl rfl ?_; conv => whnf) | (refine VSame.intro rfl ?_; conv => whnf) | (refine VDraw.go [] (by kernel_rfl) (by kernel_rfl) ?_; conv => whnf) | (refine VIte.dec (fun _ => ?_) (fun _ => ?_) <;> conv => whnf) | (refine VIte.ndec (fun _ => ?_) (fun _ => ?_) <;> conv => whnf) | (refine VIte.beq (fun _ => ?_) (fun _ => ?_) <;> conv => whnf) | (refine VIte.bne (fun _ => ?_) (fun _ => ?_) <;> conv => whnf) | (refine VIte.intro (fun _ => ?_) (fun _ => ?_) <;> conv => whnf))
        · exact VOut.same rfl
        all_goals omega
      · have hy : b[k]? = some b[k] := List.getElem?_eq_getElem h5
        rw [drop_eq_dec hx hy] at h3
        generalize a[k] = x at hx h3
        generalize b[k] = y at hy h3
        conv => whnf
        repeat' (first | (refine VLd.intro rfl ?_; conv => whnf) | (refine VArith.i64 (by omega) ?_; conv => whnf) | (refine VNeed.intro (by first | rfl | (simp; omega)) ?_; conv => whnf) | (refine VMem.store rfl rfl rfl rfl ?_; conv => whnf) | (refine VSame.intro rfl ?_; conv => whnf) | (refine VDraw.go [] (by kernel_rfl) (by kernel_rfl) ?_; conv => whnf) | (refine VIte.dec (fun _ => ?_) (fun _ => ?_) <;> conv => whnf) | (refine VIte.ndec (fun _ => ?_) (fun _ => ?_) <;> conv => whnf) | (refine VIte.beq (fun _ => ?_) (fun _ => ?_) <;> conv => whnf) | (refine VIte.bne (fun _ => ?_) (fun _ => ?_) <;> conv => whnf) | (refine VIte.intro (fun _ => ?_) (fun _ => ?_) <;> conv => whnf) | (refine VAny.ix encS_len k rfl rfl hx ?_; conv => whnf) | (refine VAny.ix encS_len k rfl rfl hy ?_; conv => whnf) | (refine VAgg.intro (vneqS _ _) ?_; conv => whnf))
        all_goals (try omega)
        all_goals first
          | (rw [decide_eq_false (ne_S (by first | assumption | omega)), Bool.false_and] at h3; rw [h3]; exact VOut.same rfl)
          | (rw [decide_eq_true (eq_S (by first | assumption | omega)), Bool.true_and] at h3
             refine LEnd.intro (k + 1) ⟨by omega, by omega, h3⟩ (by omega) ?_
             conv => whnf
             refine Retell.turn ⟨[], 0, [], []⟩ (TurnOk.mk' _ _ [] [] (OutOk.lift _) rfl (by decide) (by repeat' (first | exact BTos.nil | refine BTos.flat rfl rfl (by first | rfl | simp) ?_ | refine BTos.new rfl ?_ | refine BTos.dead rfl rfl ?_ | refine BTos.esE rfl rfl ?_ | refine BTos.row rfl rfl rfl (RowTo.snoc (RowTo.one rfl (by simp))) ?_ | refine BTos.cells rfl rfl rfl (by repeat' (first | exact VTo.undef | exact FrTo.leaf | refine FrTo.node ?_ ?_ ?_ | refine FrTo.none ?_ ?_ | exact VTo.sc (by first | rfl | (congr 1; omega) | (congr 1; simp; omega)) | exact VTos_dv _ _ | refine VTos.cons ?_ ?_ | exact VTos.nil | refine VTo.agg ?_ | refine VTo.tuple ?_ | refine VTo.func ?_ ?_ | exact VTo.fs | exact VTo.fp | exact VTo.nilptr | exact VTo.nilslice | exact VTo.nilfunc | exact VTo.ptr rfl | exact VTo.gl rfl | exact VTo.map rfl | exact VTo.yld rfl | exact VTo.fmMap rfl | exact VTo.fm | exact VTo.glNil' (by decide) rfl rfl | exact VTo.fsNil (by decide) | exact VTo.fsSl rfl rfl (by simp [flat_len encE_len]) | exact VTo.fpPtr rfl | exact VTo.fsGl rfl (by first | rfl | exact flat_len encI_len _ | exact flat_len encS_len _ | exact flat_len encP_len _ | exact flat_len encL_len _ | exact flat_len encE_len _ | (simp [flat_len encP_len]; done) | simp [flat_len encI_len, flat_len encS_len]))) ?_)) trivial trivial rfl) (by repeat' (first | exact VTo.undef | exact FrTo.leaf | refine FrTo.node ?_ ?_ ?_ | refine FrTo.none ?_ ?_ | exact VTo.sc (by first | rfl | (congr 1; omega) | (congr 1; simp; omega)) | exact VTos_dv _ _ | refine VTos.cons ?_ ?_ | exact VTos.nil | refine VTo.agg ?_ | refine VTo.tuple ?_ | refine VTo.func ?_ ?_ | exact VTo.fs | exact VTo.fp | exact VTo.nilptr | exact VTo.nilslice | exact VTo.nilfunc | exact VTo.ptr rfl | exact VTo.gl rfl | exact VTo.map rfl | exact VTo.yld rfl | exact VTo.fmMap rfl | exact VTo.fm | exact VTo.glNil' (by decide) rfl rfl | exact VTo.fsNil (by decide) | exact VTo.fsSl rfl rfl (by simp [flat_len encE_len]) | exact VTo.fpPtr rfl | exact VTo.fsGl rfl (by first | rfl | exact flat_len encI_len _ | exact flat_len encS_len _ | exact flat_len encP_len _ | exact flat_len encL_len _ | exact flat_len encE_len _ | (simp [flat_len encP_len]; done) | simp [flat_len encI_len, flat_len encS_len]))) (by first | rfl | (repeat' (first | exact MkTo.nil | refine MkTo.keep rfl ?_ | refine MkTo.drop (by decide) rfl ?_))))
    · have hk : k = a.length := by omega
      rw [h3, hk, List.drop_length]
      conv => whnf
      repeat' (first | (refine VLd.intro rfl ?_; conv => whnf) | (refine VArith.i64 (by omega) ?_; conv => whnf) | (refine VNeed.intro (by first | rfl | (simp; omega)) ?_; conv => whnf) | (refine VMem.store rfl rfl rfl rfl ?_; conv => whnf) | (refine VSame.intro rfl ?_; conv => whnf) | (refine VDraw.go [] (by kernel_rfl) (by kernel_rfl) ?_; conv => whnf) | (refine VIte.dec (fun _ => ?_) (fun _ => ?_) <;> conv => whnf) | (refine VIte.ndec (fun _ => ?_) (fun _ => ?_) <;> conv => whnf) | (refine VIte.beq (fun _ => ?_) (fun _ => ?_) <;> conv => whnf) | (refine VIte.bne (fun _ => ?_) (fun _ => ?_) <;> conv => whnf) | (refine VIte.intro (fun _ => ?_) (fun _ => ?_) <;> conv => whnf))
      refine VOut.same ?_
      have : ((a.length : Int) == b.length) = decide ([] = b.drop a.length) := by
        rw [Bool.eq_iff_iff, decide_eq_true_eq, beq_iff_eq]
        constructor
        · intro hh; rw [List.drop_of_length_le (by omega)]
        · intro hh
          have := congrArg List.length hh
          simp at this; omega
      simp only [V.ren, this]
theorem vc_equalP (a b : List Pap) (h : Hp) (ha : a.length ≤ 4000000) (hb : b.length ≤ 4000000) : VC Try.prog 66 [paps a, paps b] h (B (decide (a = b))) h := by
  obtain ⟨E, hE⟩ : ∃ E, E = decide (a = b) := ⟨_, rfl⟩
  rw [← hE]
  refine VC.body Try.func66 rfl Try.ntmps66 Try.call66 (h.grows_refl) rfl ?_; conv => whnf
  refine VCode.lp (fun k : Nat => [(0, paps a), (1, paps b), (4, B false), (7, I a.length), (8, I k)]) (fun _ => []) (fun k => k ≤ a.length ∧ k ≤ b.length ∧ E = decide (a.drop k = b.drop k)) (fun k => a.length - k) 0 ⟨Nat.zero_le _, Nat.zero_le _, hE⟩ ?_ ?_
  · conv => whnf
    refine Retell.turn ⟨[], 0, [], []⟩ (TurnOk.mk' _ _ [] [] (OutOk.lift _) rfl (by decide) (by repeat' (first | exact BTos.nil | refine BTos.flat rfl rfl (by first | rfl | simp) ?_ | refine BTos.new rfl ?_ | refine BTos.dead rfl rfl ?_ | refine BTos.esE rfl rfl ?_ | refine BTos.row rfl rfl rfl (RowTo.snoc (RowTo.one rfl (by simp))) ?_ | refine BTos.cells rfl rfl rfl (by repeat' (first | exact VTo.undef | exact FrTo.leaf | refine FrTo.node ?_ ?_ ?_ | refine FrTo.none ?_ ?_ | exact VTo.sc (by first | rfl | (congr 1; omega) | (congr 1; simp; omega)) | exact VTos_dv _ _ | refine VTos.cons ?_ ?_ | exact VTos.nil | refine VTo.agg ?_ | refine VTo.tuple ?_ | refine VTo.func ?_ ?_ | exact VTo.fs | exact VTo.fp | exact VTo.nilptr | exact VTo.nilslice | exact VTo.nilfunc | exact VTo.ptr rfl | exact VTo.gl rfl | exact VTo.map rfl | exact VTo.yld rfl | exact VTo.fmMap rfl | exact VTo.fm | exact VTo.glNil' (by decide) rfl rfl | exact VTo.fsNil (by decide) | exact VTo.fsSl rfl rfl (by simp [flat_len encE_len]) | exact VTo.fpPtr rfl | exact VTo.fsGl rfl (by first | rfl | exact flat_len encI_len _ | exact flat_len encS_len _ | exact flat_len encP_len _ | exact flat_len encL_len _ | exact flat_len encE_len _ | (simp [flat_len encP_len]; done) | simp [flat_len encI_len, flat_len encS_len]))) ?_)) trivial trivial rfl) (by repeat' (first | exact VTo.undef | exact FrTo.leaf | refine FrTo.node ?_ ?_ ?_ | refine FrTo.none ?_ ?_ | exact VTo.sc (by first | rfl | (congr 1; omega) | (congr 1; simp; omega)) | exact VTos_dv _ _ | refine VTos.cons ?_ ?_ | exact VTos.nil | refine VTo.agg ?_ | refine VTo.tuple ?_ | refine VTo.func ?_ ?_ | exact VTo.fs | exact VTo.fp | exact VTo.nilptr | exact VTo.nilslice | exact VTo.nilfunc | exact VTo.ptr rfl | exact VTo.gl rfl | exact VTo.map rfl | exact VTo.yld rfl | exact VTo.fmMap rfl | exact VTo.fm | exact VTo.glNil' (by decide) rfl rfl | exact VTo.fsNil (by decide) | exact VTo.fsSl rfl rfl (by simp [flat_len encE_len]) | exact VTo.fpPtr rfl | exact VTo.fsGl rfl (by first | rfl | exact flat_len encI_len _ | exact flat_len encS_len _ | exact flat_len encP_len _ | exact flat_len encL_len _ | exact flat_len encE_len _ | (simp [flat_len encP_len]; done) | simp [flat_len encI_len, flat_len encS_len]))) (by first | rfl | (repeat' (first | exact MkTo.nil | refine MkTo.keep rfl ?_ | refine MkTo.drop (by decide) rfl ?_)))
  · rintro k ⟨h1, h2, h3⟩
    conv => whnf
    refine VIte.dec (fun h4 => ?_) (fun h4 => ?_)
    · have hx : a[k]? = some a[k] := List.getElem?_eq_getElem (by omega)
      rcases Nat.eq_or_lt_of_le h2 with h5 | h5
      · have hF : E = false := by
          rw [h3, decide_eq_false_iff_not]
          intro hh
          have := congrArg List.length hh
          simp at this; omega
        rw [hF]
        conv => whnf
        repeat' (first | (refine VLd.intro rfl ?_; conv => whnf) | (refine VArith.i64 (by omega) ?_; conv => whnf) | (refine VNeed.intro (by first | rfl | (simp; omega)) ?_; conv => whnf) | (refine VMem.store rfl rfl rfl rfl ?_; conv => whnf) | (refine VSame.intro rfl ?_; conv => whnf) | (refine VDraw.go [] (by kernel_rfl) (by kernel_rfl) ?_; conv => whnf) | (refine VIte.dec (fun _ => ?_) (fun _ => ?_) <;> conv => whnf) | (refine VIte.ndec (fun _ => ?_) (fun _ => ?_) <;> conv => whnf) | (refine VIte.beq (fun _ => ?_) (fun _ => ?_) <;> conv => whnf) | (refine VIte.bne (fun _ => ?_) (fun _ => ?_) <;> conv => whnf) | (refine VIte.intro (fun _ => ?_) (fun _ => ?_) <;> conv => whnf))
        · exact VOut.same rfl
        all_goals omega
      · have hy : b[k]? = some b[k] := List.getElem?_eq_getElem h5
        rw [drop_eq_dec hx hy] at h3
        generalize a[k] = x at hx h3
        generalize b[k] = y at hy h3
        conv => whnf
        repeat' (first | (refine VLd.intro rfl ?_; conv => whnf) | (refine VArith.i64 (by omega) ?_; conv => whnf) | (refine VNeed.intro (by first | rfl | (simp; omega)) ?_; conv => whnf) | (refine VMem.store rfl rfl rfl rfl ?_; conv => whnf) | (refine VSame.intro rfl ?_; conv => whnf) | (refine VDraw.go [] (by kernel_rfl) (by kernel_rfl) ?_; conv => whnf) | (refine VIte.dec (fun _ => ?_) (fun _ => ?_) <;> conv => whnf) | (refine VIte.ndec (fun _ => ?_) (fun _ => ?_) <;> conv => whnf) | (refine VIte.beq (fun _ => ?_) (fun _ => ?_) <;> conv => whnf) | (refine VIte.bne (fun _ => ?_) (fun _ => ?_) <;> conv => whnf) | (refine VIte.intro (fun _ => ?_) (fun _ => ?_) <;> conv => whnf) | (refine VAny.ix encP_len k rfl rfl hx ?_; conv => whnf) | (refine VAny.ix encP_len k rfl rfl hy ?_; conv => whnf) | (refine VAgg.intro (vneqP _ _) ?_; conv => whnf))
        all_goals (try omega)
        all_goals first
          | (rw [decide_eq_false (ne_P (by first | assumption | omega)), Bool.false_and] at h3; rw [h3]; exact VOut.same rfl)
          | (rw [decide_eq_true (eq_P (by first | assumption | omega)), Bool.true_and] at h3
             refine LEnd.intro (k + 1) ⟨by omega, by omega, h3⟩ (by omega) ?_
             conv => whnf
             refine Retell.turn ⟨[], 0, [], []⟩ (TurnOk.mk' _ _ [] [] (OutOk.lift _) rfl (by decide) (by repeat' (first | exact BTos.nil | refine BTos.flat rfl rfl (by first | rfl | simp) ?_ | refine BTos.new rfl ?_ | refine BTos.dead rfl rfl ?_ | refine BTos.esE rfl rfl ?_ | refine BTos.row rfl rfl rfl (RowTo.snoc (RowTo.one rfl (by simp))) ?_ | refine BTos.cells rfl rfl rfl (by repeat' (first | exact VTo.undef | exact FrTo.leaf | refine FrTo.node ?_ ?_ ?_ | refine FrTo.none ?_ ?_ | exact VTo.sc (by first | rfl | (congr 1; omega) | (congr 1; simp; omega)) | exact VTos_dv _ _ | refine VTos.cons ?_ ?_ | exact VTos.nil | refine VTo.agg ?_ | refine VTo.tuple ?_ | refine VTo.func ?_ ?_ | exact VTo.fs | exact VTo.fp | exact VTo.nilptr | exact VTo.nilslice | exact VTo.nilfunc | exact VTo.ptr rfl | exact VTo.gl rfl | exact VTo.map rfl | exact VTo.yld rfl | exact VTo.fmMap rfl | exact VTo.fm | exact VTo.glNil' (by decide) rfl rfl | exact VTo.fsNil (by decide) | exact VTo.fsSl rfl rfl (by simp [flat_len encE_len]) | exact VTo.fpPtr rfl | exact VTo.fsGl rfl (by first | rfl | exact flat_len encI_len _ | exact flat_len encS_len _ | exact flat_len encP_len _ | exact flat_len encL_len _ | exact flat_len encE_len _ | (simp [flat_len encP_len]; done) | simp [flat_len encI_len, flat_len encS_len]))) ?_)) trivial trivial rfl) (by repeat' (first | exact VTo.undef | exact FrTo.leaf | refine FrTo.node ?_ ?_ ?_ | refine FrTo.none ?_ ?_ | exact VTo.sc (by first | rfl | (congr 1; omega) | (congr 1; simp; omega)) | exact VTos_dv _ _ | refine VTos.cons ?_ ?_ | exact VTos.nil | refine VTo.agg ?_ | refine VTo.tuple ?_ | refine VTo.func ?_ ?_ | exact VTo.fs | exact VTo.fp | exact VTo.nilptr | exact VTo.nilslice | exact VTo.nilfunc | exact VTo.ptr rfl | exact VTo.gl rfl | exact VTo.map rfl | exact VTo.yld rfl | exact VTo.fmMap rfl | exact VTo.fm | exact VTo.glNil' (by decide) rfl rfl | exact VTo.fsNil (by decide) | exact VTo.fsSl rfl rfl (by simp [flat_len encE_len]) | exact VTo.fpPtr rfl | exact VTo.fsGl rfl (by first | rfl | exact flat_len encI_len _ | exact flat_len encS_len _ | exact flat_len encP_len _ | exact flat_len encL_len _ | exact flat_len encE_len _ | (simp [flat_len encP_len]; done) | simp [flat_len encI_len, flat_len encS_len]))) (by first | rfl | (repeat' (first | exact MkTo.nil | refine MkTo.keep rfl ?_ | refine MkTo.drop (by decide) rfl ?_))))
    · have hk : k = a.length := by omega
      rw [h3, hk, List.drop_length]
      conv => whnf
      repeat' (first | (refine VLd.intro rfl ?_; conv => whnf) | (refine VArith.i64 (by omega) ?_; conv => whnf) | (refine VNeed.intro (by first | rfl | (simp; omega)) ?_; conv => whnf) | (refine VMem.store rfl rfl rfl rfl ?_; conv => whnf) | (refine VSame.intro rfl ?_; conv => whnf) | (refine VDraw.go [] (by kernel_rfl) (by kernel_rfl) ?_; conv => whnf) | (refine VIte.dec (fun _ => ?_) (fun _ => ?_) <;> conv => whnf) | (refine VIte.ndec (fun _ => ?_) (fun _ => ?_) <;> conv => whnf) | (refine VIte.beq (fun _ => ?_) (fun _ => ?_) <;> conv => whnf) | (refine VIte.bne (fun _ => ?_) (fun _ => ?_) <;> conv => whnf) | (refine VIte.intro (fun _ => ?_) (fun _ => ?_) <;> conv => whnf))
      refine VOut.same ?_
      have : ((a.length : Int) == b.length) = decide ([] = b.drop a.length) := by
        rw [Bool.eq_iff_iff, decide_eq_true_eq, beq_iff_eq]
        constructor
        · intro hh; rw [List.drop_of_length_le (by omega)]
        · intro hh
          have := congrArg List.length hh
          simp at this; omega
      simp only [V.ren, this]
end Go.Proofs.Ytolnajnlcdacmaa

open Go.Vm
namespace Go.Proofs.Ytolnajnlcdacmaa
set_option maxRecDepth 20000
set_option maxHeartbeats 1000000

theorem vc_cloneI (l : List Int) (h : Hp) (hl : l.length ≤ 4000000) : VC Try.prog 33 [ints l] h (ints l) h := by
  refine VC.body Try.func33 rfl Try.ntmps33 Try.call33 (h.grows_refl) rfl ?_; conv => whnf
  repeat (first | (refine VLd.intro rfl ?_; conv => whnf) | (refine VArith.i64 (by omega) ?_; conv => whnf) | (refine VNeed.intro (by first | rfl | (simp; omega)) ?_; conv => whnf) | (refine VMem.store rfl rfl rfl rfl ?_; conv => whnf) | (refine VSame.intro rfl ?_; conv => whnf) | (refine VDraw.go [] (by kernel_rfl) (by kernel_rfl) ?_; conv => whnf))
  refine VMem.appNil encI_len rfl rfl rfl (by omega) ?_
  conv => whnf
  repeat (first | (refine VLd.intro rfl ?_; conv => whnf) | (refine VArith.i64 (by omega) ?_; conv => whnf) | (refine VNeed.intro (by first | rfl | (simp; omega)) ?_; conv => whnf) | (refine VMem.store rfl rfl rfl rfl ?_; conv => whnf) | (refine VSame.intro rfl ?_; conv => whnf) | (refine VDraw.go [] (by kernel_rfl) (by kernel_rfl) ?_; conv => whnf))
  refine VOut.data 1 [(0, l.flatMap encI)] [] rfl (by repeat' (first | exact FzAll.nil | refine FzAll.flat rfl ?_ | refine FzAll.row rfl rfl (RowTo.one rfl (by simp)) ?_)) (by exact FmAll.nil) (by repeat' (first | exact VTo.undef | exact FrTo.leaf | refine FrTo.node ?_ ?_ ?_ | refine FrTo.none ?_ ?_ | exact VTo.sc (by first | rfl | (congr 1; omega) | (congr 1; simp; omega)) | exact VTos_dv _ _ | refine VTos.cons ?_ ?_ | exact VTos.nil | refine VTo.agg ?_ | refine VTo.tuple ?_ | refine VTo.func ?_ ?_ | exact VTo.fs | exact VTo.fp | exact VTo.nilptr | exact VTo.nilslice | exact VTo.nilfunc | exact VTo.ptr rfl | exact VTo.gl rfl | exact VTo.map rfl | exact VTo.glNil' (by decide) rfl rfl | exact VTo.fsNil (by decide) | exact VTo.fpPtr rfl | exact VTo.fsGl rfl (by first | rfl | exact flat_len encI_len _ | exact flat_len encS_len _ | exact flat_len encP_len _ | exact flat_len encL_len _ | exact flat_len encE_len _ | (simp [flat_len encP_len]; done) | simp [flat_len encI_len, flat_len encS_len])))
theorem vc_cloneP (l : List Pap) (h : Hp) (hl : l.length ≤ 4000000) : VC Try.prog 53 [paps l] h (paps l) h := by
  refine VC.body Try.func53 rfl Try.ntmps53 Try.call53 (h.grows_refl) rfl ?_; conv => whnf
  repeat (first | (refine VLd.intro rfl ?_; conv => whnf) | (refine VArith.i64 (by omega) ?_; conv => whnf) | (refine VNeed.intro (by first | rfl | (simp; omega)) ?_; conv => whnf) | (refine VMem.store rfl rfl rfl rfl ?_; conv => whnf) | (refine VSame.intro rfl ?_; conv => whnf) | (refine VDraw.go [] (by kernel_rfl) (by kernel_rfl) ?_; conv => whnf))
  refine VMem.appNil encP_len rfl rfl rfl (by omega) ?_
  conv => whnf
  repeat (first | (refine VLd.intro rfl ?_; conv => whnf) | (refine VArith.i64 (by omega) ?_; conv => whnf) | (refine VNeed.intro (by first | rfl | (simp; omega)) ?_; conv => whnf) | (refine VMem.store rfl rfl rfl rfl ?_; conv => whnf) | (refine VSame.intro rfl ?_; conv => whnf) | (refine VDraw.go [] (by kernel_rfl) (by kernel_rfl) ?_; conv => whnf))
  refine VOut.data 1 [(0, l.flatMap encP)] [] rfl (by repeat' (first | exact FzAll.nil | refine FzAll.flat rfl ?_ | refine FzAll.row rfl rfl (RowTo.one rfl (by simp)) ?_)) (by exact FmAll.nil) (by repeat' (first | exact VTo.undef | exact FrTo.leaf | refine FrTo.node ?_ ?_ ?_ | refine FrTo.none ?_ ?_ | exact VTo.sc (by first | rfl | (congr 1; omega) | (congr 1; simp; omega)) | exact VTos_dv _ _ | refine VTos.cons ?_ ?_ | exact VTos.nil | refine VTo.agg ?_ | refine VTo.tuple ?_ | refine VTo.func ?_ ?_ | exact VTo.fs | exact VTo.fp | exact VTo.nilptr | exact VTo.nilslice | exact VTo.nilfunc | exact VTo.ptr rfl | exact VTo.gl rfl | exact VTo.map rfl | exact VTo.glNil' (by decide) rfl rfl | exact VTo.fsNil (by decide) | exact VTo.fpPtr rfl | exact VTo.fsGl rfl (by first | rfl | exact flat_len encI_len _ | exact flat_len encS_len _ | exact flat_len encP_len _ | exact flat_len encL_len _ | exact flat_len encE_len _ | (simp [flat_len encP_len]; done) | simp [flat_len encI_len, flat_len encS_len])))
theorem vc_CloneFile (f : Fil) (h : Hp) (hl : f.ps.length ≤ 4000000) : VC Try.prog 14 [vF f] h (vF f) h := by
  refine VC.body Try.func14 rfl Try.ntmps14 Try.call14 (h.grows_refl) rfl ?_; conv => whnf
  repeat' (first | (refine VLd.intro rfl ?_; conv => whnf) | (refine VArith.i64 (by omega) ?_; conv => whnf) | (refine VNeed.intro (by first | rfl | (simp; omega)) ?_; conv => whnf) | (refine VMem.store rfl rfl rfl rfl ?_; conv => whnf) | (refine VSame.intro rfl ?_; conv => whnf) | (refine VDraw.go [(1, 6), (3, 6)] (by kernel_rfl) (by kernel_rfl) ?_; conv => whnf) | (refine VIte.dec (fun _ => ?_) (fun _ => ?_) <;> conv => whnf) | (refine VIte.ndec (fun _ => ?_) (fun _ => ?_) <;> conv => whnf) | (refine VIte.beq (fun _ => ?_) (fun _ => ?_) <;> conv => whnf) | (refine VIte.bne (fun _ => ?_) (fun _ => ?_) <;> conv => whnf) | (refine VIte.intro (fun _ => ?_) (fun _ => ?_) <;> conv => whnf) | (refine VCall.intro (vc_cloneP f.ps _ hl) ?_; conv => whnf))
  exact VOut.same rfl
theorem vc_equal (f g : Fil) (h : Hp) (hf : f.ps.length ≤ 4000000) (hg : g.ps.length ≤ 4000000) : VC Try.prog 24 [vF f, vF g] h (B (decide (f.Y = g.Y ∧ f.G = g.G ∧ f.ps = g.ps))) h := by
  refine VC.body Try.func24 rfl Try.ntmps24 Try.call24 (h.grows_refl) rfl ?_; conv => whnf
  repeat' (first | (refine VLd.intro rfl ?_; conv => whnf) | (refine VArith.i64 (by omega) ?_; conv => whnf) | (refine VNeed.intro (by first | rfl | (simp; omega)) ?_; conv => whnf) | (refine VMem.store rfl rfl rfl rfl ?_; conv => whnf) | (refine VSame.intro rfl ?_; conv => whnf) | (refine VDraw.go [] (by kernel_rfl) (by kernel_rfl) ?_; conv => whnf) | (refine VIte.dec (fun _ => ?_) (fun _ => ?_) <;> conv => whnf) | (refine VIte.ndec (fun _ => ?_) (fun _ => ?_) <;> conv => whnf) | (refine VIte.beq (fun _ => ?_) (fun _ => ?_) <;> conv => whnf) | (refine VIte.bne (fun _ => ?_) (fun _ => ?_) <;> conv => whnf) | (refine VIte.intro (fun _ => ?_) (fun _ => ?_) <;> conv => whnf) | (refine VCall.intro (vc_equalP _ _ _ hf hg) ?_; conv => whnf))
  all_goals (refine VOut.same ?_; simp_all [V.ren])
/-- A file, paper by paper. -/
theorem vc_File (f : Fil) (h : Hp) (hl : f.ps.length ≤ 4000000) : VC Try.prog 15 [vF f] h (vF f) h := by
  refine VC.body Try.func15 rfl Try.ntmps15 Try.call15 (h.grows_refl) rfl ?_; conv => whnf
  repeat (first | (refine VLd.intro rfl ?_; conv => whnf) | (refine VArith.i64 (by omega) ?_; conv => whnf) | (refine VNeed.intro (by first | rfl | (simp; omega)) ?_; conv => whnf) | (refine VMem.store rfl rfl rfl rfl ?_; conv => whnf) | (refine VSame.intro rfl ?_; conv => whnf) | (refine VDraw.go [] (by kernel_rfl) (by kernel_rfl) ?_; conv => whnf))
  refine VCode.lp (fun k : Nat => [(2, .ptr (.loc 0) 0), (3, .ptr (.loc 1) 0), (12, paps f.ps), (13, I f.ps.length), (14, I k)])
    (fun k => [.flat true [DI 0, DI 0, .nilslice], .cells true [I f.Y, I f.G, .gl (.loc 2) 3 k], .flat true ((f.ps.take k).flatMap encP)]) (fun k => k ≤ f.ps.length) (fun k => f.ps.length - k) 0 (Nat.zero_le _) ?_ ?_
  · conv => whnf
    refine Retell.turn ⟨[1,2,3], 3, [], []⟩ (TurnOk.mk' _ _ [] [] (OutOk.lift _) rfl (by decide) (by repeat' (first | exact BTos.nil | refine BTos.flat rfl rfl (by first | rfl | simp) ?_ | refine BTos.new rfl ?_ | refine BTos.dead rfl rfl ?_ | refine BTos.row rfl rfl rfl (RowTo.snoc (RowTo.one rfl (by simp))) ?_ | refine BTos.cells rfl rfl rfl (by repeat' (first | exact VTo.undef | exact FrTo.leaf | refine FrTo.node ?_ ?_ ?_ | refine FrTo.none ?_ ?_ | exact VTo.sc (by first | rfl | (congr 1; omega) | (congr 1; simp; omega)) | exact VTos_dv _ _ | refine VTos.cons ?_ ?_ | exact VTos.nil | refine VTo.agg ?_ | refine VTo.tuple ?_ | refine VTo.func ?_ ?_ | exact VTo.fs | exact VTo.fp | exact VTo.nilptr | exact VTo.nilslice | exact VTo.nilfunc | exact VTo.ptr rfl | exact VTo.gl rfl | exact VTo.map rfl | exact VTo.glNil' (by decide) rfl rfl | exact VTo.fsNil (by decide) | exact VTo.fpPtr rfl | exact VTo.fsGl rfl (by first | rfl | exact flat_len encI_len _ | exact flat_len encS_len _ | exact flat_len encP_len _ | exact flat_len encL_len _ | exact flat_len encE_len _ | (simp [flat_len encP_len]; done) | simp [flat_len encI_len, flat_len encS_len]))) ?_)) trivial trivial rfl) (by repeat' (first | exact VTo.undef | exact FrTo.leaf | refine FrTo.node ?_ ?_ ?_ | refine FrTo.none ?_ ?_ | exact VTo.sc (by first | rfl | (congr 1; omega) | (congr 1; simp; omega)) | exact VTos_dv _ _ | refine VTos.cons ?_ ?_ | exact VTos.nil | refine VTo.agg ?_ | refine VTo.tuple ?_ | refine VTo.func ?_ ?_ | exact VTo.fs | exact VTo.fp | exact VTo.nilptr | exact VTo.nilslice | exact VTo.nilfunc | exact VTo.ptr rfl | exact VTo.gl rfl | exact VTo.map rfl | exact VTo.glNil' (by decide) rfl rfl | exact VTo.fsNil (by decide) | exact VTo.fpPtr rfl | exact VTo.fsGl rfl (by first | rfl | exact flat_len encI_len _ | exact flat_len encS_len _ | exact flat_len encP_len _ | exact flat_len encL_len _ | exact flat_len encE_len _ | (simp [flat_len encP_len]; done) | simp [flat_len encI_len, flat_len encS_len]))) (by first | rfl | (repeat' (first | exact MkTo.nil | refine MkTo.keep rfl ?_ | refine MkTo.drop (by decide) rfl ?_)))
  · intro k hk
    conv => whnf
    refine VIte.dec (fun h3 => ?_) (fun h3 => ?_)
    · have hp : f.ps[k]? = some f.ps[k] := List.getElem?_eq_getElem (by omega)
      have hts : f.ps.take (k + 1) = f.ps.take k ++ [f.ps[k]] := by rw [List.take_add_one, hp]; rfl
      generalize f.ps[k] = p at hp hts
      have hlk : (f.ps.take k).length = k := by simp; omega
      conv => whnf
      repeat' (first | (refine VLd.intro rfl ?_; conv => whnf) | (refine VArith.i64 (by omega) ?_; conv => whnf) | (refine VNeed.intro (by first | rfl | (simp; omega)) ?_; conv => whnf) | (refine VMem.store rfl rfl rfl rfl ?_; conv => whnf) | (refine VSame.intro rfl ?_; conv => whnf) | (refine VDraw.go [] (by kernel_rfl) (by kernel_rfl) ?_; conv => whnf) | (refine VIte.dec (fun _ => ?_) (fun _ => ?_) <;> conv => whnf) | (refine VIte.ndec (fun _ => ?_) (fun _ => ?_) <;> conv => whnf) | (refine VIte.beq (fun _ => ?_) (fun _ => ?_) <;> conv => whnf) | (refine VIte.bne (fun _ => ?_) (fun _ => ?_) <;> conv => whnf) | (refine VIte.intro (fun _ => ?_) (fun _ => ?_) <;> conv => whnf) | (refine VAny.ix encP_len k rfl rfl hp ?_; conv => whnf))
      refine VMem.app1 (l := f.ps.take k) p encP_len rfl rfl rfl hlk.symm rfl (by omega) ?_
      conv => whnf
      repeat (first | (refine VLd.intro rfl ?_; conv => whnf) | (refine VArith.i64 (by omega) ?_; conv => whnf) | (refine VNeed.intro (by first | rfl | (simp; omega)) ?_; conv => whnf) | (refine VMem.store rfl rfl rfl rfl ?_; conv => whnf) | (refine VSame.intro rfl ?_; conv => whnf) | (refine VDraw.go [] (by kernel_rfl) (by kernel_rfl) ?_; conv => whnf))
      refine LEnd.intro (k + 1) (by omega) (by omega) ?_
      conv => whnf
      rw [hts]
      refine Retell.turn ⟨[0,1,5], 6, [], []⟩ (TurnOk.mk' _ _ [] [] (OutOk.lift _) rfl (by decide) (by repeat' (first | exact BTos.nil | refine BTos.flat rfl rfl (by first | rfl | simp) ?_ | refine BTos.new rfl ?_ | refine BTos.dead rfl rfl ?_ | refine BTos.row rfl rfl rfl (RowTo.snoc (RowTo.one rfl (by simp))) ?_ | refine BTos.cells rfl rfl rfl (by repeat' (first | exact VTo.undef | exact FrTo.leaf | refine FrTo.node ?_ ?_ ?_ | refine FrTo.none ?_ ?_ | exact VTo.sc (by first | rfl | (congr 1; omega) | (congr 1; simp; omega)) | exact VTos_dv _ _ | refine VTos.cons ?_ ?_ | exact VTos.nil | refine VTo.agg ?_ | refine VTo.tuple ?_ | refine VTo.func ?_ ?_ | exact VTo.fs | exact VTo.fp | exact VTo.nilptr | exact VTo.nilslice | exact VTo.nilfunc | exact VTo.ptr rfl | exact VTo.gl rfl | exact VTo.map rfl | exact VTo.glNil' (by decide) rfl rfl | exact VTo.fsNil (by decide) | exact VTo.fpPtr rfl | exact VTo.fsGl rfl (by first | rfl | exact flat_len encI_len _ | exact flat_len encS_len _ | exact flat_len encP_len _ | exact flat_len encL_len _ | exact flat_len encE_len _ | (simp [flat_len encP_len]; done) | simp [flat_len encI_len, flat_len encS_len]))) ?_)) trivial trivial rfl) (by repeat' (first | exact VTo.undef | exact FrTo.leaf | refine FrTo.node ?_ ?_ ?_ | refine FrTo.none ?_ ?_ | exact VTo.sc (by first | rfl | (congr 1; omega) | (congr 1; simp; omega)) | exact VTos_dv _ _ | refine VTos.cons ?_ ?_ | exact VTos.nil | refine VTo.agg ?_ | refine VTo.tuple ?_ | refine VTo.func ?_ ?_ | exact VTo.fs | exact VTo.fp | exact VTo.nilptr | exact VTo.nilslice | exact VTo.nilfunc | exact VTo.ptr rfl | exact VTo.gl rfl | exact VTo.map rfl | exact VTo.glNil' (by decide) rfl rfl | exact VTo.fsNil (by decide) | exact VTo.fpPtr rfl | exact VTo.fsGl rfl (by first | rfl | exact flat_len encI_len _ | exact flat_len encS_len _ | exact flat_len encP_len _ | exact flat_len encL_len _ | exact flat_len encE_len _ | (simp [flat_len encP_len]; done) | simp [flat_len encI_len, flat_len encS_len]))) (by first | rfl | (repeat' (first | exact MkTo.nil | refine MkTo.keep rfl ?_ | refine MkTo.drop (by decide) rfl ?_)))
    · have hk2 : k = f.ps.length := by omega
      subst hk2
      rw [List.take_of_length_le (Nat.le_refl _)]
      conv => whnf
      repeat (first | (refine VLd.intro rfl ?_; conv => whnf) | (refine VArith.i64 (by omega) ?_; conv => whnf) | (refine VNeed.intro (by first | rfl | (simp; omega)) ?_; conv => whnf) | (refine VMem.store rfl rfl rfl rfl ?_; conv => whnf) | (refine VSame.intro rfl ?_; conv => whnf) | (refine VDraw.go [] (by kernel_rfl) (by kernel_rfl) ?_; conv => whnf))
      refine VOut.data 3 [(2, f.ps.flatMap encP)] [] rfl (by repeat' (first | exact FzAll.nil | refine FzAll.flat rfl ?_ | refine FzAll.row rfl rfl (RowTo.one rfl (by simp)) ?_)) (by exact FmAll.nil) (by repeat' (first | exact VTo.undef | exact FrTo.leaf | refine FrTo.node ?_ ?_ ?_ | refine FrTo.none ?_ ?_ | exact VTo.sc (by first | rfl | (congr 1; omega) | (congr 1; simp; omega)) | exact VTos_dv _ _ | refine VTos.cons ?_ ?_ | exact VTos.nil | refine VTo.agg ?_ | refine VTo.tuple ?_ | refine VTo.func ?_ ?_ | exact VTo.fs | exact VTo.fp | exact VTo.nilptr | exact VTo.nilslice | exact VTo.nilfunc | exact VTo.ptr rfl | exact VTo.gl rfl | exact VTo.map rfl | exact VTo.glNil' (by decide) rfl rfl | exact VTo.fsNil (by decide) | exact VTo.fpPtr rfl | exact VTo.fsGl rfl (by first | rfl | exact flat_len encI_len _ | exact flat_len encS_len _ | exact flat_len encP_len _ | exact flat_len encL_len _ | exact flat_len encE_len _ | (simp [flat_len encP_len]; done) | simp [flat_len encI_len, flat_len encS_len])))
def datP (y : Int) : Pap := if y < 0 then ⟨1, -y, -y⟩ else ⟨0, y, y⟩
theorem vc_Dated (Y G : Int) (l : List Int) (h : Hp) (hl : l.length ≤ 4000000) (hb : ∀ y ∈ l, -100000 ≤ y ∧ y ≤ 100000) : VC Try.prog 52 [I Y, I G, ints l] h (vF ⟨Y, G, l.map datP⟩) h := by
  refine VC.body Try.func52 rfl Try.ntmps52 Try.call52 (h.grows_refl) rfl ?_; conv => whnf
  repeat (first | (refine VLd.intro rfl ?_; conv => whnf) | (refine VArith.i64 (by omega) ?_; conv => whnf) | (refine VNeed.intro (by first | rfl | (simp; omega)) ?_; conv => whnf) | (refine VMem.store rfl rfl rfl rfl ?_; conv => whnf) | (refine VSame.intro rfl ?_; conv => whnf) | (refine VDraw.go [] (by kernel_rfl) (by kernel_rfl) ?_; conv => whnf))
  refine VCode.lp (fun k : Nat => [(6, .ptr (.loc 0) 0), (7, .ptr (.loc 1) 0), (14, ints l), (15, I l.length), (16, I k)])
    (fun k => [.flat true [DI 0, DI 0, .nilslice], .cells true [I Y, I G, .gl (.loc 2) 3 k], .flat true (((l.take k).map datP).flatMap encP)]) (fun k => k ≤ l.length) (fun k => l.length - k) 0 (Nat.zero_le _) ?_ ?_
  · conv => whnf
    refine Retell.turn ⟨[0,1,2], 2, [], []⟩ (TurnOk.mk' _ _ [] [] (OutOk.lift _) rfl (by decide) (by repeat' (first | exact BTos.nil | refine BTos.flat rfl rfl (by first | rfl | simp) ?_ | refine BTos.new rfl ?_ | refine BTos.dead rfl rfl ?_ | refine BTos.row rfl rfl rfl (RowTo.snoc (RowTo.one rfl (by simp))) ?_ | refine BTos.cells rfl rfl rfl (by repeat' (first | exact VTo.undef | exact FrTo.leaf | refine FrTo.node ?_ ?_ ?_ | refine FrTo.none ?_ ?_ | exact VTo.sc (by first | rfl | (congr 1; omega) | (congr 1; simp; omega)) | exact VTos_dv _ _ | refine VTos.cons ?_ ?_ | exact VTos.nil | refine VTo.agg ?_ | refine VTo.tuple ?_ | refine VTo.func ?_ ?_ | exact VTo.fs | exact VTo.fp | exact VTo.nilptr | exact VTo.nilslice | exact VTo.nilfunc | exact VTo.ptr rfl | exact VTo.gl rfl | exact VTo.map rfl | exact VTo.glNil' (by decide) rfl rfl | exact VTo.fsNil (by decide) | exact VTo.fpPtr rfl | exact VTo.fsGl rfl (by first | rfl | exact flat_len encI_len _ | exact flat_len encS_len _ | exact flat_len encP_len _ | exact flat_len encL_len _ | exact flat_len encE_len _ | (simp [flat_len encP_len]; done) | simp [flat_len encI_len, flat_len encS_len]))) ?_)) trivial trivial rfl) (by repeat' (first | exact VTo.undef | exact FrTo.leaf | refine FrTo.node ?_ ?_ ?_ | refine FrTo.none ?_ ?_ | exact VTo.sc (by first | rfl | (congr 1; omega) | (congr 1; simp; omega)) | exact VTos_dv _ _ | refine VTos.cons ?_ ?_ | exact VTos.nil | refine VTo.agg ?_ | refine VTo.tuple ?_ | refine VTo.func ?_ ?_ | exact VTo.fs | exact VTo.fp | exact VTo.nilptr | exact VTo.nilslice | exact VTo.nilfunc | exact VTo.ptr rfl | exact VTo.gl rfl | exact VTo.map rfl | exact VTo.glNil' (by decide) rfl rfl | exact VTo.fsNil (by decide) | exact VTo.fpPtr rfl | exact VTo.fsGl rfl (by first | rfl | exact flat_len encI_len _ | exact flat_len encS_len _ | exact flat_len encP_len _ | exact flat_len encL_len _ | exact flat_len encE_len _ | (simp [flat_len encP_len]; done) | simp [flat_len encI_len, flat_len encS_len]))) (by first | rfl | (repeat' (first | exact MkTo.nil | refine MkTo.keep rfl ?_ | refine MkTo.drop (by decide) rfl ?_)))
  · intro k hk
    conv => whnf
    refine VIte.dec (fun h3 => ?_) (fun h3 => ?_)
    · have hp : l[k]? = some l[k] := List.getElem?_eq_getElem (by omega)
      have hts : l.take (k + 1) = l.take k ++ [l[k]] := by rw [List.take_add_one, hp]; rfl
      have hbk := hb l[k] (List.getElem_mem (by omega))
      generalize l[k] = y at hp hts hbk
      have hlk : ((l.take k).map datP).length = k := by simp; omega
      conv => whnf
      repeat' (first | (refine VLd.intro rfl ?_; conv => whnf) | (refine VArith.i64 (by omega) ?_; conv => whnf) | (refine VNeed.intro (by first | rfl | (simp; omega)) ?_; conv => whnf) | (refine VMem.store rfl rfl rfl rfl ?_; conv => whnf) | (refine VSame.intro rfl ?_; conv => whnf) | (refine VDraw.go [] (by kernel_rfl) (by kernel_rfl) ?_; conv => whnf) | (refine VIte.dec (fun _ => ?_) (fun _ => ?_) <;> conv => whnf) | (refine VIte.ndec (fun _ => ?_) (fun _ => ?_) <;> conv => whnf) | (refine VIte.beq (fun _ => ?_) (fun _ => ?_) <;> conv => whnf) | (refine VIte.bne (fun _ => ?_) (fun _ => ?_) <;> conv => whnf) | (refine VIte.intro (fun _ => ?_) (fun _ => ?_) <;> conv => whnf) | (refine VAny.ix encI_len k rfl rfl hp ?_; conv => whnf))
      · rename_i hy
        have hd : datP y = ⟨1, 0 - y, 0 - y⟩ := by rw [datP, if_pos hy]; simp
        refine VMem.app1 (l := (l.take k).map datP) (⟨1, 0 - y, 0 - y⟩ : Pap) encP_len rfl rfl rfl hlk.symm rfl (by omega) ?_
        conv => whnf
        repeat (first | (refine VLd.intro rfl ?_; conv => whnf) | (refine VArith.i64 (by omega) ?_; conv => whnf) | (refine VNeed.intro (by first | rfl | (simp; omega)) ?_; conv => whnf) | (refine VMem.store rfl rfl rfl rfl ?_; conv => whnf) | (refine VSame.intro rfl ?_; conv => whnf) | (refine VDraw.go [] (by kernel_rfl) (by kernel_rfl) ?_; conv => whnf))
        refine LEnd.intro (k + 1) (by omega) (by omega) ?_
        conv => whnf
        rw [hts, List.map_append, List.map_cons, List.map_nil, hd]
        refine Retell.turn ⟨[0,1,5], 6, [], []⟩ (TurnOk.mk' _ _ [] [] (OutOk.lift _) rfl (by decide) (by repeat' (first | exact BTos.nil | refine BTos.flat rfl rfl (by first | rfl | simp) ?_ | refine BTos.new rfl ?_ | refine BTos.dead rfl rfl ?_ | refine BTos.row rfl rfl rfl (RowTo.snoc (RowTo.one rfl (by simp))) ?_ | refine BTos.cells rfl rfl rfl (by repeat' (first | exact VTo.undef | exact FrTo.leaf | refine FrTo.node ?_ ?_ ?_ | refine FrTo.none ?_ ?_ | exact VTo.sc (by first | rfl | (congr 1; omega) | (congr 1; simp; omega)) | exact VTos_dv _ _ | refine VTos.cons ?_ ?_ | exact VTos.nil | refine VTo.agg ?_ | refine VTo.tuple ?_ | refine VTo.func ?_ ?_ | exact VTo.fs | exact VTo.fp | exact VTo.nilptr | exact VTo.nilslice | exact VTo.nilfunc | exact VTo.ptr rfl | exact VTo.gl rfl | exact VTo.map rfl | exact VTo.glNil' (by decide) rfl rfl | exact VTo.fsNil (by decide) | exact VTo.fpPtr rfl | exact VTo.fsGl rfl (by first | rfl | exact flat_len encI_len _ | exact flat_len encS_len _ | exact flat_len encP_len _ | exact flat_len encL_len _ | exact flat_len encE_len _ | (simp [flat_len encP_len]; done) | simp [flat_len encI_len, flat_len encS_len]))) ?_)) trivial trivial rfl) (by repeat' (first | exact VTo.undef | exact FrTo.leaf | refine FrTo.node ?_ ?_ ?_ | refine FrTo.none ?_ ?_ | exact VTo.sc (by first | rfl | (congr 1; omega) | (congr 1; simp; omega)) | exact VTos_dv _ _ | refine VTos.cons ?_ ?_ | exact VTos.nil | refine VTo.agg ?_ | refine VTo.tuple ?_ | refine VTo.func ?_ ?_ | exact VTo.fs | exact VTo.fp | exact VTo.nilptr | exact VTo.nilslice | exact VTo.nilfunc | exact VTo.ptr rfl | exact VTo.gl rfl | exact VTo.map rfl | exact VTo.glNil' (by decide) rfl rfl | exact VTo.fsNil (by decide) | exact VTo.fpPtr rfl | exact VTo.fsGl rfl (by first | rfl | exact flat_len encI_len _ | exact flat_len encS_len _ | exact flat_len encP_len _ | exact flat_len encL_len _ | exact flat_len encE_len _ | (simp [flat_len encP_len]; done) | simp [flat_len encI_len, flat_len encS_len]))) (by first | rfl | (repeat' (first | exact MkTo.nil | refine MkTo.keep rfl ?_ | refine MkTo.drop (by decide) rfl ?_)))
      · rename_i hy
        have hd : datP y = ⟨0, y, y⟩ := if_neg hy
        refine VMem.app1 (l := (l.take k).map datP) (⟨0, y, y⟩ : Pap) encP_len rfl rfl rfl hlk.symm rfl (by omega) ?_
        conv => whnf
        repeat (first | (refine VLd.intro rfl ?_; conv => whnf) | (refine VArith.i64 (by omega) ?_; conv => whnf) | (refine VNeed.intro (by first | rfl | (simp; omega)) ?_; conv => whnf) | (refine VMem.store rfl rfl rfl rfl ?_; conv => whnf) | (refine VSame.intro rfl ?_; conv => whnf) | (refine VDraw.go [] (by kernel_rfl) (by kernel_rfl) ?_; conv => whnf))
        refine LEnd.intro (k + 1) (by omega) (by omega) ?_
        conv => whnf
        rw [hts, List.map_append, List.map_cons, List.map_nil, hd]
        refine Retell.turn ⟨[0,1,5], 6, [], []⟩ (TurnOk.mk' _ _ [] [] (OutOk.lift _) rfl (by decide) (by repeat' (first | exact BTos.nil | refine BTos.flat rfl rfl (by first | rfl | simp) ?_ | refine BTos.new rfl ?_ | refine BTos.dead rfl rfl ?_ | refine BTos.row rfl rfl rfl (RowTo.snoc (RowTo.one rfl (by simp))) ?_ | refine BTos.cells rfl rfl rfl (by repeat' (first | exact VTo.undef | exact FrTo.leaf | refine FrTo.node ?_ ?_ ?_ | refine FrTo.none ?_ ?_ | exact VTo.sc (by first | rfl | (congr 1; omega) | (congr 1; simp; omega)) | exact VTos_dv _ _ | refine VTos.cons ?_ ?_ | exact VTos.nil | refine VTo.agg ?_ | refine VTo.tuple ?_ | refine VTo.func ?_ ?_ | exact VTo.fs | exact VTo.fp | exact VTo.nilptr | exact VTo.nilslice | exact VTo.nilfunc | exact VTo.ptr rfl | exact VTo.gl rfl | exact VTo.map rfl | exact VTo.glNil' (by decide) rfl rfl | exact VTo.fsNil (by decide) | exact VTo.fpPtr rfl | exact VTo.fsGl rfl (by first | rfl | exact flat_len encI_len _ | exact flat_len encS_len _ | exact flat_len encP_len _ | exact flat_len encL_len _ | exact flat_len encE_len _ | (simp [flat_len encP_len]; done) | simp [flat_len encI_len, flat_len encS_len]))) ?_)) trivial trivial rfl) (by repeat' (first | exact VTo.undef | exact FrTo.leaf | refine FrTo.node ?_ ?_ ?_ | refine FrTo.none ?_ ?_ | exact VTo.sc (by first | rfl | (congr 1; omega) | (congr 1; simp; omega)) | exact VTos_dv _ _ | refine VTos.cons ?_ ?_ | exact VTos.nil | refine VTo.agg ?_ | refine VTo.tuple ?_ | refine VTo.func ?_ ?_ | exact VTo.fs | exact VTo.fp | exact VTo.nilptr | exact VTo.nilslice | exact VTo.nilfunc | exact VTo.ptr rfl | exact VTo.gl rfl | exact VTo.map rfl | exact VTo.glNil' (by decide) rfl rfl | exact VTo.fsNil (by decide) | exact VTo.fpPtr rfl | exact VTo.fsGl rfl (by first | rfl | exact flat_len encI_len _ | exact flat_len encS_len _ | exact flat_len encP_len _ | exact flat_len encL_len _ | exact flat_len encE_len _ | (simp [flat_len encP_len]; done) | simp [flat_len encI_len, flat_len encS_len]))) (by first | rfl | (repeat' (first | exact MkTo.nil | refine MkTo.keep rfl ?_ | refine MkTo.drop (by decide) rfl ?_)))
    · have hk2 : k = l.length := by omega
      subst hk2
      rw [List.take_of_length_le (Nat.le_refl _)]
      rw [show vF ⟨Y, G, l.map datP⟩ = .agg [I Y, I G, .fs 3 l.length ((l.map datP).flatMap encP)] from by simp [vF, paps]]
      conv => whnf
      repeat (first | (refine VLd.intro rfl ?_; conv => whnf) | (refine VArith.i64 (by omega) ?_; conv => whnf) | (refine VNeed.intro (by first | rfl | (simp; omega)) ?_; conv => whnf) | (refine VMem.store rfl rfl rfl rfl ?_; conv => whnf) | (refine VSame.intro rfl ?_; conv => whnf) | (refine VDraw.go [] (by kernel_rfl) (by kernel_rfl) ?_; conv => whnf))
      refine VOut.data 3 [(2, (l.map datP).flatMap encP)] [] rfl (by repeat' (first | exact FzAll.nil | refine FzAll.flat rfl ?_ | refine FzAll.row rfl rfl (RowTo.one rfl (by simp)) ?_)) (by exact FmAll.nil) (by repeat' (first | exact VTo.undef | exact FrTo.leaf | refine FrTo.node ?_ ?_ ?_ | refine FrTo.none ?_ ?_ | exact VTo.sc (by first | rfl | (congr 1; omega) | (congr 1; simp; omega)) | exact VTos_dv _ _ | refine VTos.cons ?_ ?_ | exact VTos.nil | refine VTo.agg ?_ | refine VTo.tuple ?_ | refine VTo.func ?_ ?_ | exact VTo.fs | exact VTo.fp | exact VTo.nilptr | exact VTo.nilslice | exact VTo.nilfunc | exact VTo.ptr rfl | exact VTo.gl rfl | exact VTo.map rfl | exact VTo.glNil' (by decide) rfl rfl | exact VTo.fsNil (by decide) | exact VTo.fpPtr rfl | exact VTo.fsGl rfl (by first | rfl | exact flat_len encI_len _ | exact flat_len encS_len _ | exact flat_len encP_len _ | exact flat_len encL_len _ | exact flat_len encE_len _ | (simp [flat_len encP_len]; done) | simp [flat_len encI_len, flat_len encS_len])))
end Go.Proofs.Ytolnajnlcdacmaa

open Go.Vm
namespace Go.Proofs.Ytolnajnlcdacmaa
set_option maxRecDepth 20000
set_option maxHeartbeats 1000000

theorem any_drop {α : Type} {q : α → Bool} {l : List α} {k : Nat} {x : α} (hx : l[k]? = some x) : (l.drop k).any q = (q x || (l.drop (k + 1)).any q) := by
  obtain ⟨h1, rfl⟩ := List.getElem?_eq_some_iff.1 hx
  rw [List.drop_eq_getElem_cons h1, List.any_cons]
end Go.Proofs.Ytolnajnlcdacmaa

open Go.Vm
namespace Go.Proofs.Ytolnajnlcdacmaa
set_option maxRecDepth 20000
set_option maxHeartbeats 1000000

def minL : List Int → Int
  | [] => 0
  | a :: r => r.foldl min a
def maxL : List Int → Int
  | [] => 0
  | a :: r => r.foldl max a
theorem fold_snoc (g : Int → Int → Int) {l : List Int} {k : Nat} {x : Int} (a : Int) (hx : l[k]? = some x) : (l.take (k + 1)).foldl g a = g ((l.take k).foldl g a) x := by
  rw [List.take_add_one, hx]; simp
theorem vc_Min (a : Int) (r : List Int) (h : Hp) (hl : r.length ≤ 200000000) : VC Try.prog 86 [ints (a :: r)] h (I (minL (a :: r))) h := by
  have h0 : (a :: r)[0]? = some a := rfl
  have hle : (a :: r).length = r.length + 1 := rfl
  rw [minL]
  refine VC.body Try.func86 rfl Try.ntmps86 Try.call86 (h.grows_refl) rfl ?_; conv => whnf
  repeat' (first | (refine VLd.intro rfl ?_; conv => whnf) | (refine VArith.i64 (by omega) ?_; conv => whnf) | (refine VNeed.intro (by first | rfl | (simp; omega)) ?_; conv => whnf) | (refine VMem.store rfl rfl rfl rfl ?_; conv => whnf) | (refine VSame.intro rfl ?_; conv => whnf) | (refine VDraw.go [] (by kernel_rfl) (by kernel_rfl) ?_; conv => whnf) | (refine VIte.dec (fun _ => ?_) (fun _ => ?_) <;> conv => whnf) | (refine VIte.ndec (fun _ => ?_) (fun _ => ?_) <;> conv => whnf) | (refine VIte.beq (fun _ => ?_) (fun _ => ?_) <;> conv => whnf) | (refine VIte.bne (fun _ => ?_) (fun _ => ?_) <;> conv => whnf) | (refine VIte.intro (fun _ => ?_) (fun _ => ?_) <;> conv => whnf) | (refine VAny.ix encI_len 0 (by omega) rfl h0 ?_; conv => whnf))
  refine VCode.lp (fun k : Nat => [(0, ints (a :: r)), (3, I ((r.take k).foldl min a)), (4, I (k + 1 : Nat))]) (fun _ => []) (fun k => k ≤ r.length) (fun k => r.length - k) 0 (Nat.zero_le _) ?_ ?_
  · conv => whnf
    refine Retell.turn ⟨[], 0, [], []⟩ (TurnOk.mk' _ _ [] [] (OutOk.lift _) rfl (by decide) (by repeat' (first | exact BTos.nil | refine BTos.flat rfl rfl (by first | rfl | simp) ?_ | refine BTos.new rfl ?_ | refine BTos.dead rfl rfl ?_ | refine BTos.esE rfl rfl ?_ | refine BTos.row rfl rfl rfl (RowTo.snoc (RowTo.one rfl (by simp))) ?_ | refine BTos.cells rfl rfl rfl (by repeat' (first | exact VTo.undef | exact FrTo.leaf | refine FrTo.node ?_ ?_ ?_ | refine FrTo.none ?_ ?_ | exact VTo.sc (by first | rfl | (congr 1; omega) | (congr 1; simp; omega)) | exact VTos_dv _ _ | refine VTos.cons ?_ ?_ | exact VTos.nil | refine VTo.agg ?_ | refine VTo.tuple ?_ | refine VTo.func ?_ ?_ | exact VTo.fs | exact VTo.fp | exact VTo.nilptr | exact VTo.nilslice | exact VTo.nilfunc | exact VTo.ptr rfl | exact VTo.gl rfl | exact VTo.map rfl | exact VTo.yld rfl | exact VTo.fmMap rfl | exact VTo.fm | exact VTo.glNil' (by decide) rfl rfl | exact VTo.fsNil (by decide) | exact VTo.fsSl rfl rfl (by simp [flat_len encE_len]) | exact VTo.fpPtr rfl | exact VTo.fsGl rfl (by first | rfl | exact flat_len encI_len _ | exact flat_len encS_len _ | exact flat_len encP_len _ | exact flat_len encL_len _ | exact flat_len encE_len _ | (simp [flat_len encP_len]; done) | simp [flat_len encI_len, flat_len encS_len]))) ?_)) trivial trivial rfl) (by repeat' (first | exact VTo.undef | exact FrTo.leaf | refine FrTo.node ?_ ?_ ?_ | refine FrTo.none ?_ ?_ | exact VTo.sc (by first | rfl | (congr 1; omega) | (congr 1; simp; omega)) | exact VTos_dv _ _ | refine VTos.cons ?_ ?_ | exact VTos.nil | refine VTo.agg ?_ | refine VTo.tuple ?_ | refine VTo.func ?_ ?_ | exact VTo.fs | exact VTo.fp | exact VTo.nilptr | exact VTo.nilslice | exact VTo.nilfunc | exact VTo.ptr rfl | exact VTo.gl rfl | exact VTo.map rfl | exact VTo.yld rfl | exact VTo.fmMap rfl | exact VTo.fm | exact VTo.glNil' (by decide) rfl rfl | exact VTo.fsNil (by decide) | exact VTo.fsSl rfl rfl (by simp [flat_len encE_len]) | exact VTo.fpPtr rfl | exact VTo.fsGl rfl (by first | rfl | exact flat_len encI_len _ | exact flat_len encS_len _ | exact flat_len encP_len _ | exact flat_len encL_len _ | exact flat_len encE_len _ | (simp [flat_len encP_len]; done) | simp [flat_len encI_len, flat_len encS_len]))) (by first | rfl | (repeat' (first | exact MkTo.nil | refine MkTo.keep rfl ?_ | refine MkTo.drop (by decide) rfl ?_)))
  · rintro k hk
    conv => whnf
    refine VIte.dec (fun h3 => ?_) (fun h3 => ?_)
    · have hx : r[k]? = some r[k] := List.getElem?_eq_getElem (by omega)
      have hf := fold_snoc min a hx
      generalize r[k] = x at hx hf
      have hx' : (a :: r)[k + 1]? = some x := hx
      conv => whnf
      repeat' (first | (refine VLd.intro rfl ?_; conv => whnf) | (refine VArith.i64 (by omega) ?_; conv => whnf) | (refine VNeed.intro (by first | rfl | (simp; omega)) ?_; conv => whnf) | (refine VMem.store rfl rfl rfl rfl ?_; conv => whnf) | (refine VSame.intro rfl ?_; conv => whnf) | (refine VDraw.go [] (by kernel_rfl) (by kernel_rfl) ?_; conv => whnf) | (refine VIte.dec (fun _ => ?_) (fun _ => ?_) <;> conv => whnf) | (refine VIte.ndec (fun _ => ?_) (fun _ => ?_) <;> conv => whnf) | (refine VIte.beq (fun _ => ?_) (fun _ => ?_) <;> conv => whnf) | (refine VIte.bne (fun _ => ?_) (fun _ => ?_) <;> conv => whnf) | (refine VIte.intro (fun _ => ?_) (fun _ => ?_) <;> conv => whnf) | (refine VAny.ix encI_len (k + 1) (by omega) rfl hx' ?_; conv => whnf))
      refine LEnd.intro (k + 1) (by omega) (by omega) ?_
      conv => whnf
      rw [hf]
      refine Retell.turn ⟨[], 0, [], []⟩ (TurnOk.mk' _ _ [] [] (OutOk.lift _) rfl (by decide) (by repeat' (first | exact BTos.nil | refine BTos.flat rfl rfl (by first | rfl | simp) ?_ | refine BTos.new rfl ?_ | refine BTos.dead rfl rfl ?_ | refine BTos.esE rfl rfl ?_ | refine BTos.row rfl rfl rfl (RowTo.snoc (RowTo.one rfl (by simp))) ?_ | refine BTos.cells rfl rfl rfl (by repeat' (first | exact VTo.undef | exact FrTo.leaf | refine FrTo.node ?_ ?_ ?_ | refine FrTo.none ?_ ?_ | exact VTo.sc (by first | rfl | (congr 1; omega) | (congr 1; simp; omega)) | exact VTos_dv _ _ | refine VTos.cons ?_ ?_ | exact VTos.nil | refine VTo.agg ?_ | refine VTo.tuple ?_ | refine VTo.func ?_ ?_ | exact VTo.fs | exact VTo.fp | exact VTo.nilptr | exact VTo.nilslice | exact VTo.nilfunc | exact VTo.ptr rfl | exact VTo.gl rfl | exact VTo.map rfl | exact VTo.yld rfl | exact VTo.fmMap rfl | exact VTo.fm | exact VTo.glNil' (by decide) rfl rfl | exact VTo.fsNil (by decide) | exact VTo.fsSl rfl rfl (by simp [flat_len encE_len]) | exact VTo.fpPtr rfl | exact VTo.fsGl rfl (by first | rfl | exact flat_len encI_len _ | exact flat_len encS_len _ | exact flat_len encP_len _ | exact flat_len encL_len _ | exact flat_len encE_len _ | (simp [flat_len encP_len]; done) | simp [flat_len encI_len, flat_len encS_len]))) ?_)) trivial trivial rfl) (by repeat' (first | exact VTo.undef | exact FrTo.leaf | refine FrTo.node ?_ ?_ ?_ | refine FrTo.none ?_ ?_ | exact VTo.sc (by first | rfl | (congr 1; omega) | (congr 1; simp; omega)) | exact VTos_dv _ _ | refine VTos.cons ?_ ?_ | exact VTos.nil | refine VTo.agg ?_ | refine VTo.tuple ?_ | refine VTo.func ?_ ?_ | exact VTo.fs | exact VTo.fp | exact VTo.nilptr | exact VTo.nilslice | exact VTo.nilfunc | exact VTo.ptr rfl | exact VTo.gl rfl | exact VTo.map rfl | exact VTo.yld rfl | exact VTo.fmMap rfl | exact VTo.fm | exact VTo.glNil' (by decide) rfl rfl | exact VTo.fsNil (by decide) | exact VTo.fsSl rfl rfl (by simp [flat_len encE_len]) | exact VTo.fpPtr rfl | exact VTo.fsGl rfl (by first | rfl | exact flat_len encI_len _ | exact flat_len encS_len _ | exact flat_len encP_len _ | exact flat_len encL_len _ | exact flat_len encE_len _ | (simp [flat_len encP_len]; done) | simp [flat_len encI_len, flat_len encS_len]))) (by first | rfl | (repeat' (first | exact MkTo.nil | refine MkTo.keep rfl ?_ | refine MkTo.drop (by decide) rfl ?_)))
    · conv => whnf
      repeat (first | (refine VLd.intro rfl ?_; conv => whnf) | (refine VArith.i64 (by omega) ?_; conv => whnf) | (refine VNeed.intro (by first | rfl | (simp; omega)) ?_; conv => whnf) | (refine VMem.store rfl rfl rfl rfl ?_; conv => whnf) | (refine VSame.intro rfl ?_; conv => whnf) | (refine VDraw.go [] (by kernel_rfl) (by kernel_rfl) ?_; conv => whnf))
      rw [List.take_of_length_le (by omega)]
      exact VOut.same rfl
theorem vc_Max (a : Int) (r : List Int) (h : Hp) (hl : r.length ≤ 200000000) : VC Try.prog 65 [ints (a :: r)] h (I (maxL (a :: r))) h := by
  have h0 : (a :: r)[0]? = some a := rfl
  have hle : (a :: r).length = r.length + 1 := rfl
  rw [maxL]
  refine VC.body Try.func65 rfl Try.ntmps65 Try.call65 (h.grows_refl) rfl ?_; conv => whnf
  repeat' (first | (refine VLd.intro rfl ?_; conv => whnf) | (refine VArith.i64 (by omega) ?_; conv => whnf) | (refine VNeed.intro (by first | rfl | (simp; omega)) ?_; conv => whnf) | (refine VMem.store rfl rfl rfl rfl ?_; conv => whnf) | (refine VSame.intro rfl ?_; conv => whnf) | (refine VDraw.go [] (by kernel_rfl) (by kernel_rfl) ?_; conv => whnf) | (refine VIte.dec (fun _ => ?_) (fun _ => ?_) <;> conv => whnf) | (refine VIte.ndec (fun _ => ?_) (fun _ => ?_) <;> conv => whnf) | (refine VIte.beq (fun _ => ?_) (fun _ => ?_) <;> conv => whnf) | (refine VIte.bne (fun _ => ?_) (fun _ => ?_) <;> conv => whnf) | (refine VIte.intro (fun _ => ?_) (fun _ => ?_) <;> conv => whnf) | (refine VAny.ix encI_len 0 (by omega) rfl h0 ?_; conv => whnf))
  refine VCode.lp (fun k : Nat => [(0, ints (a :: r)), (3, I ((r.take k).foldl max a)), (4, I (k + 1 : Nat))]) (fun _ => []) (fun k => k ≤ r.length) (fun k => r.length - k) 0 (Nat.zero_le _) ?_ ?_
  · conv => whnf
    refine Retell.turn ⟨[], 0, [], []⟩ (TurnOk.mk' _ _ [] [] (OutOk.lift _) rfl (by decide) (by repeat' (first | exact BTos.nil | refine BTos.flat rfl rfl (by first | rfl | simp) ?_ | refine BTos.new rfl ?_ | refine BTos.dead rfl rfl ?_ | refine BTos.esE rfl rfl ?_ | refine BTos.row rfl rfl rfl (RowTo.snoc (RowTo.one rfl (by simp))) ?_ | refine BTos.cells rfl rfl rfl (by repeat' (first | exact VTo.undef | exact FrTo.leaf | refine FrTo.node ?_ ?_ ?_ | refine FrTo.none ?_ ?_ | exact VTo.sc (by first | rfl | (congr 1; omega) | (congr 1; simp; omega)) | exact VTos_dv _ _ | refine VTos.cons ?_ ?_ | exact VTos.nil | refine VTo.agg ?_ | refine VTo.tuple ?_ | refine VTo.func ?_ ?_ | exact VTo.fs | exact VTo.fp | exact VTo.nilptr | exact VTo.nilslice | exact VTo.nilfunc | exact VTo.ptr rfl | exact VTo.gl rfl | exact VTo.map rfl | exact VTo.yld rfl | exact VTo.fmMap rfl | exact VTo.fm | exact VTo.glNil' (by decide) rfl rfl | exact VTo.fsNil (by decide) | exact VTo.fsSl rfl rfl (by simp [flat_len encE_len]) | exact VTo.fpPtr rfl | exact VTo.fsGl rfl (by first | rfl | exact flat_len encI_len _ | exact flat_len encS_len _ | exact flat_len encP_len _ | exact flat_len encL_len _ | exact flat_len encE_len _ | (simp [flat_len encP_len]; done) | simp [flat_len encI_len, flat_len encS_len]))) ?_)) trivial trivial rfl) (by repeat' (first | exact VTo.undef | exact FrTo.leaf | refine FrTo.node ?_ ?_ ?_ | refine FrTo.none ?_ ?_ | exact VTo.sc (by first | rfl | (congr 1; omega) | (congr 1; simp; omega)) | exact VTos_dv _ _ | refine VTos.cons ?_ ?_ | exact VTos.nil | refine VTo.agg ?_ | refine VTo.tuple ?_ | refine VTo.func ?_ ?_ | exact VTo.fs | exact VTo.fp | exact VTo.nilptr | exact VTo.nilslice | exact VTo.nilfunc | exact VTo.ptr rfl | exact VTo.gl rfl | exact VTo.map rfl | exact VTo.yld rfl | exact VTo.fmMap rfl | exact VTo.fm | exact VTo.glNil' (by decide) rfl rfl | exact VTo.fsNil (by decide) | exact VTo.fsSl rfl rfl (by simp [flat_len encE_len]) | exact VTo.fpPtr rfl | exact VTo.fsGl rfl (by first | rfl | exact flat_len encI_len _ | exact flat_len encS_len _ | exact flat_len encP_len _ | exact flat_len encL_len _ | exact flat_len encE_len _ | (simp [flat_len encP_len]; done) | simp [flat_len encI_len, flat_len encS_len]))) (by first | rfl | (repeat' (first | exact MkTo.nil | refine MkTo.keep rfl ?_ | refine MkTo.drop (by decide) rfl ?_)))
  · rintro k hk
    conv => whnf
    refine VIte.dec (fun h3 => ?_) (fun h3 => ?_)
    · have hx : r[k]? = some r[k] := List.getElem?_eq_getElem (by omega)
      have hf := fold_snoc max a hx
      generalize r[k] = x at hx hf
      have hx' : (a :: r)[k + 1]? = some x := hx
      conv => whnf
      repeat' (first | (refine VLd.intro rfl ?_; conv => whnf) | (refine VArith.i64 (by omega) ?_; conv => whnf) | (refine VNeed.intro (by first | rfl | (simp; omega)) ?_; conv => whnf) | (refine VMem.store rfl rfl rfl rfl ?_; conv => whnf) | (refine VSame.intro rfl ?_; conv => whnf) | (refine VDraw.go [] (by kernel_rfl) (by kernel_rfl) ?_; conv => whnf) | (refine VIte.dec (fun _ => ?_) (fun _ => ?_) <;> conv => whnf) | (refine VIte.ndec (fun _ => ?_) (fun _ => ?_) <;> conv => whnf) | (refine VIte.beq (fun _ => ?_) (fun _ => ?_) <;> conv => whnf) | (refine VIte.bne (fun _ => ?_) (fun _ => ?_) <;> conv => whnf) | (refine VIte.intro (fun _ => ?_) (fun _ => ?_) <;> conv => whnf) | (refine VAny.ix encI_len (k + 1) (by omega) rfl hx' ?_; conv => whnf))
      refine LEnd.intro (k + 1) (by omega) (by omega) ?_
      conv => whnf
      rw [hf]
      refine Retell.turn ⟨[], 0, [], []⟩ (TurnOk.mk' _ _ [] [] (OutOk.lift _) rfl (by decide) (by repeat' (first | exact BTos.nil | refine BTos.flat rfl rfl (by first | rfl | simp) ?_ | refine BTos.new rfl ?_ | refine BTos.dead rfl rfl ?_ | refine BTos.esE rfl rfl ?_ | refine BTos.row rfl rfl rfl (RowTo.snoc (RowTo.one rfl (by simp))) ?_ | refine BTos.cells rfl rfl rfl (by repeat' (first | exact VTo.undef | exact FrTo.leaf | refine FrTo.node ?_ ?_ ?_ | refine FrTo.none ?_ ?_ | exact VTo.sc (by first | rfl | (congr 1; omega) | (congr 1; simp; omega)) | exact VTos_dv _ _ | refine VTos.cons ?_ ?_ | exact VTos.nil | refine VTo.agg ?_ | refine VTo.tuple ?_ | refine VTo.func ?_ ?_ | exact VTo.fs | exact VTo.fp | exact VTo.nilptr | exact VTo.nilslice | exact VTo.nilfunc | exact VTo.ptr rfl | exact VTo.gl rfl | exact VTo.map rfl | exact VTo.yld rfl | exact VTo.fmMap rfl | exact VTo.fm | exact VTo.glNil' (by decide) rfl rfl | exact VTo.fsNil (by decide) | exact VTo.fsSl rfl rfl (by simp [flat_len encE_len]) | exact VTo.fpPtr rfl | exact VTo.fsGl rfl (by first | rfl | exact flat_len encI_len _ | exact flat_len encS_len _ | exact flat_len encP_len _ | exact flat_len encL_len _ | exact flat_len encE_len _ | (simp [flat_len encP_len]; done) | simp [flat_len encI_len, flat_len encS_len]))) ?_)) trivial trivial rfl) (by repeat' (first | exact VTo.undef | exact FrTo.leaf | refine FrTo.node ?_ ?_ ?_ | refine FrTo.none ?_ ?_ | exact VTo.sc (by first | rfl | (congr 1; omega) | (congr 1; simp; omega)) | exact VTos_dv _ _ | refine VTos.cons ?_ ?_ | exact VTos.nil | refine VTo.agg ?_ | refine VTo.tuple ?_ | refine VTo.func ?_ ?_ | exact VTo.fs | exact VTo.fp | exact VTo.nilptr | exact VTo.nilslice | exact VTo.nilfunc | exact VTo.ptr rfl | exact VTo.gl rfl | exact VTo.map rfl | exact VTo.yld rfl | exact VTo.fmMap rfl | exact VTo.fm | exact VTo.glNil' (by decide) rfl rfl | exact VTo.fsNil (by decide) | exact VTo.fsSl rfl rfl (by simp [flat_len encE_len]) | exact VTo.fpPtr rfl | exact VTo.fsGl rfl (by first | rfl | exact flat_len encI_len _ | exact flat_len encS_len _ | exact flat_len encP_len _ | exact flat_len encL_len _ | exact flat_len encE_len _ | (simp [flat_len encP_len]; done) | simp [flat_len encI_len, flat_len encS_len]))) (by first | rfl | (repeat' (first | exact MkTo.nil | refine MkTo.keep rfl ?_ | refine MkTo.drop (by decide) rfl ?_)))
    · conv => whnf
      repeat (first | (refine VLd.intro rfl ?_; conv => whnf) | (refine VArith.i64 (by omega) ?_; conv => whnf) | (refine VNeed.intro (by first | rfl | (simp; omega)) ?_; conv => whnf) | (refine VMem.store rfl rfl rfl rfl ?_; conv => whnf) | (refine VSame.intro rfl ?_; conv => whnf) | (refine VDraw.go [] (by kernel_rfl) (by kernel_rfl) ?_; conv => whnf))
      rw [List.take_of_length_le (by omega)]
      exact VOut.same rfl
theorem vc_least (l : List Int) (h : Hp) (hl : l.length ≤ 200000000) : VC Try.prog 63 [ints l] h (I (minL l)) h := by
  cases l with
  | nil =>
    refine VC.body Try.func63 rfl Try.ntmps63 Try.call63 (h.grows_refl) rfl ?_; conv => whnf
    repeat' (first | (refine VLd.intro rfl ?_; conv => whnf) | (refine VArith.i64 (by omega) ?_; conv => whnf) | (refine VNeed.intro (by first | rfl | (simp; omega)) ?_; conv => whnf) | (refine VMem.store rfl rfl rfl rfl ?_; conv => whnf) | (refine VSame.intro rfl ?_; conv => whnf) | (refine VDraw.go [] (by kernel_rfl) (by kernel_rfl) ?_; conv => whnf) | (refine VIte.dec (fun _ => ?_) (fun _ => ?_) <;> conv => whnf) | (refine VIte.ndec (fun _ => ?_) (fun _ => ?_) <;> conv => whnf) | (refine VIte.beq (fun _ => ?_) (fun _ => ?_) <;> conv => whnf) | (refine VIte.bne (fun _ => ?_) (fun _ => ?_) <;> conv => whnf) | (refine VIte.intro (fun _ => ?_) (fun _ => ?_) <;> conv => whnf))
    · exact VOut.same rfl
    all_goals (rename_i h1; exact absurd rfl h1)
  | cons a r =>
    have hle : (a :: r).length = r.length + 1 := rfl
    refine VC.body Try.func63 rfl Try.ntmps63 Try.call63 (h.grows_refl) rfl ?_; conv => whnf
    repeat' (first | (refine VLd.intro rfl ?_; conv => whnf) | (refine VArith.i64 (by omega) ?_; conv => whnf) | (refine VNeed.intro (by first | rfl | (simp; omega)) ?_; conv => whnf) | (refine VMem.store rfl rfl rfl rfl ?_; conv => whnf) | (refine VSame.intro rfl ?_; conv => whnf) | (refine VDraw.go [] (by kernel_rfl) (by kernel_rfl) ?_; conv => whnf) | (refine VIte.dec (fun _ => ?_) (fun _ => ?_) <;> conv => whnf) | (refine VIte.ndec (fun _ => ?_) (fun _ => ?_) <;> conv => whnf) | (refine VIte.beq (fun _ => ?_) (fun _ => ?_) <;> conv => whnf) | (refine VIte.bne (fun _ => ?_) (fun _ => ?_) <;> conv => whnf) | (refine VIte.intro (fun _ => ?_) (fun _ => ?_) <;> conv => whnf) | (refine VCall.intro (vc_Min a r _ (by omega)) ?_; conv => whnf))
    exact VOut.same rfl
theorem vc_most (a : Int) (r : List Int) (h : Hp) (hl : r.length ≤ 200000000) : VC Try.prog 64 [ints (a :: r)] h (I (maxL (a :: r))) h := by
  refine VC.body Try.func64 rfl Try.ntmps64 Try.call64 (h.grows_refl) rfl ?_; conv => whnf
  repeat' (first | (refine VLd.intro rfl ?_; conv => whnf) | (refine VArith.i64 (by omega) ?_; conv => whnf) | (refine VNeed.intro (by first | rfl | (simp; omega)) ?_; conv => whnf) | (refine VMem.store rfl rfl rfl rfl ?_; conv => whnf) | (refine VSame.intro rfl ?_; conv => whnf) | (refine VDraw.go [] (by kernel_rfl) (by kernel_rfl) ?_; conv => whnf) | (refine VIte.dec (fun _ => ?_) (fun _ => ?_) <;> conv => whnf) | (refine VIte.ndec (fun _ => ?_) (fun _ => ?_) <;> conv => whnf) | (refine VIte.beq (fun _ => ?_) (fun _ => ?_) <;> conv => whnf) | (refine VIte.bne (fun _ => ?_) (fun _ => ?_) <;> conv => whnf) | (refine VIte.intro (fun _ => ?_) (fun _ => ?_) <;> conv => whnf) | (refine VCall.intro (vc_Max a r _ (by omega)) ?_; conv => whnf))
  exact VOut.same rfl
/-- A state behind a paper. -/
structure End where
  i : Int
  year : Int
  first : Int
  side : Int
  since : Int
  deriving DecidableEq
def encE (e : End) : List D := [DI e.i, DI e.year, DI e.first, DI e.side, DI e.since]
theorem encE_len (e : End) : (encE e).length = 5 := rfl
def ends (l : List End) : V := .fs 5 l.length (l.flatMap encE)
def aggE (e : End) : V := .agg [I e.i, I e.year, I e.first, I e.side, I e.since]
def fidx (q : End → Bool) : List End → Int → Int
  | [], _ => -1
  | a :: r, i => bif q a then i else fidx q r (i + 1)
theorem fidx_at {q : End → Bool} {a : End} {l : List End} {k : Nat} (ha : l[k]? = some a) : fidx q (l.drop k) k = bif q a then (k : Int) else fidx q (l.drop (k + 1)) ((k + 1 : Nat) : Int) := by
  obtain ⟨h1, rfl⟩ := List.getElem?_eq_some_iff.1 ha
  rw [List.drop_eq_getElem_cons h1, fidx]; rfl
theorem vc_IndexFunc (l : List End) (q : End → Bool) (g : FuncId) (caps : List D) (hl : l.length ≤ 200000000) (hso : ∀ (e : End) (h : Hp), VC Try.prog g ([aggE e] ++ D.vs caps) h (B (q e)) h) (h : Hp) :
    VC Try.prog 58 [ends l, .func (.func g) [] (D.vs caps)] h (I (fidx q l 0)) h := by
  obtain ⟨E, hE⟩ : ∃ E, E = fidx q l 0 := ⟨_, rfl⟩
  rw [← hE]
  refine VC.body Try.func58 rfl Try.ntmps58 Try.call58 (h.grows_refl) rfl ?_; conv => whnf
  rw [rens_dvs]
  refine VCode.lp (fun k : Nat => [(0, ends l), (1, .func (.func g) [] (D.vs caps)), (7, I l.length), (8, I k)]) (fun _ => []) (fun k => k ≤ l.length ∧ E = fidx q (l.drop k) k) (fun k => l.length - k) 0 ⟨Nat.zero_le _, hE⟩ ?_ ?_
  · conv => whnf
    refine Retell.turn ⟨[], 0, [], []⟩ (TurnOk.mk' _ _ [] [] (OutOk.lift _) rfl (by decide) (by repeat' (first | exact BTos.nil | refine BTos.flat rfl rfl (by first | rfl | simp) ?_ | refine BTos.new rfl ?_ | refine BTos.dead rfl rfl ?_ | refine BTos.esE rfl rfl ?_ | refine BTos.row rfl rfl rfl (RowTo.snoc (RowTo.one rfl (by simp))) ?_ | refine BTos.cells rfl rfl rfl (by repeat' (first | exact VTo.undef | exact FrTo.leaf | refine FrTo.node ?_ ?_ ?_ | refine FrTo.none ?_ ?_ | exact VTo.sc (by first | rfl | (congr 1; omega) | (congr 1; simp; omega)) | exact VTos_dv _ _ | refine VTos.cons ?_ ?_ | exact VTos.nil | refine VTo.agg ?_ | refine VTo.tuple ?_ | refine VTo.func ?_ ?_ | exact VTo.fs | exact VTo.fp | exact VTo.nilptr | exact VTo.nilslice | exact VTo.nilfunc | exact VTo.ptr rfl | exact VTo.gl rfl | exact VTo.map rfl | exact VTo.yld rfl | exact VTo.fmMap rfl | exact VTo.fm | exact VTo.glNil' (by decide) rfl rfl | exact VTo.fsNil (by decide) | exact VTo.fsSl rfl rfl (by simp [flat_len encE_len]) | exact VTo.fpPtr rfl | exact VTo.fsGl rfl (by first | rfl | exact flat_len encI_len _ | exact flat_len encS_len _ | exact flat_len encP_len _ | exact flat_len encL_len _ | exact flat_len encE_len _ | (simp [flat_len encP_len]; done) | simp [flat_len encI_len, flat_len encS_len]))) ?_)) trivial trivial rfl) (by repeat' (first | exact VTo.undef | exact FrTo.leaf | refine FrTo.node ?_ ?_ ?_ | refine FrTo.none ?_ ?_ | exact VTo.sc (by first | rfl | (congr 1; omega) | (congr 1; simp; omega)) | exact VTos_dv _ _ | refine VTos.cons ?_ ?_ | exact VTos.nil | refine VTo.agg ?_ | refine VTo.tuple ?_ | refine VTo.func ?_ ?_ | exact VTo.fs | exact VTo.fp | exact VTo.nilptr | exact VTo.nilslice | exact VTo.nilfunc | exact VTo.ptr rfl | exact VTo.gl rfl | exact VTo.map rfl | exact VTo.yld rfl | exact VTo.fmMap rfl | exact VTo.fm | exact VTo.glNil' (by decide) rfl rfl | exact VTo.fsNil (by decide) | exact VTo.fsSl rfl rfl (by simp [flat_len encE_len]) | exact VTo.fpPtr rfl | exact VTo.fsGl rfl (by first | rfl | exact flat_len encI_len _ | exact flat_len encS_len _ | exact flat_len encP_len _ | exact flat_len encL_len _ | exact flat_len encE_len _ | (simp [flat_len encP_len]; done) | simp [flat_len encI_len, flat_len encS_len]))) (by first | rfl | (repeat' (first | exact MkTo.nil | refine MkTo.keep rfl ?_ | refine MkTo.drop (by decide) rfl ?_)))
  · rintro k ⟨h1, h2⟩
    conv => whnf
    refine VIte.dec (fun h3 => ?_) (fun h3 => ?_)
    · have ha : l[k]? = some l[k] := List.getElem?_eq_getElem (by omega)
      generalize l[k] = a at ha
      rw [fidx_at ha] at h2
      conv => whnf
      repeat' (first | (refine VLd.intro rfl ?_; conv => whnf) | (refine VArith.i64 (by omega) ?_; conv => whnf) | (refine VNeed.intro (by first | rfl | (simp; omega)) ?_; conv => whnf) | (refine VMem.store rfl rfl rfl rfl ?_; conv => whnf) | (refine VSame.intro rfl ?_; conv => whnf) | (refine VDraw.go [] (by kernel_rfl) (by kernel_rfl) ?_; conv => whnf) | (refine VIte.dec (fun _ => ?_) (fun _ => ?_) <;> conv => whnf) | (refine VIte.ndec (fun _ => ?_) (fun _ => ?_) <;> conv => whnf) | (refine VIte.beq (fun _ => ?_) (fun _ => ?_) <;> conv => whnf) | (refine VIte.bne (fun _ => ?_) (fun _ => ?_) <;> conv => whnf) | (refine VIte.intro (fun _ => ?_) (fun _ => ?_) <;> conv => whnf) | (refine VAny.ix encE_len k (by omega) rfl ha ?_; conv => whnf))
      refine VCall.intro (hso a _) ?_
      conv => whnf
      cases hq : q a
      · rw [hq] at h2
        conv => whnf
        repeat (first | (refine VLd.intro rfl ?_; conv => whnf) | (refine VArith.i64 (by omega) ?_; conv => whnf) | (refine VNeed.intro (by first | rfl | (simp; omega)) ?_; conv => whnf) | (refine VMem.store rfl rfl rfl rfl ?_; conv => whnf) | (refine VSame.intro rfl ?_; conv => whnf) | (refine VDraw.go [] (by kernel_rfl) (by kernel_rfl) ?_; conv => whnf))
        refine LEnd.intro (k + 1) ⟨by omega, h2⟩ (by omega) ?_
        conv => whnf
        refine Retell.turn ⟨[], 0, [], []⟩ (TurnOk.mk' _ _ [] [] (OutOk.lift _) rfl (by decide) (by repeat' (first | exact BTos.nil | refine BTos.flat rfl rfl (by first | rfl | simp) ?_ | refine BTos.new rfl ?_ | refine BTos.dead rfl rfl ?_ | refine BTos.esE rfl rfl ?_ | refine BTos.row rfl rfl rfl (RowTo.snoc (RowTo.one rfl (by simp))) ?_ | refine BTos.cells rfl rfl rfl (by repeat' (first | exact VTo.undef | exact FrTo.leaf | refine FrTo.node ?_ ?_ ?_ | refine FrTo.none ?_ ?_ | exact VTo.sc (by first | rfl | (congr 1; omega) | (congr 1; simp; omega)) | exact VTos_dv _ _ | refine VTos.cons ?_ ?_ | exact VTos.nil | refine VTo.agg ?_ | refine VTo.tuple ?_ | refine VTo.func ?_ ?_ | exact VTo.fs | exact VTo.fp | exact VTo.nilptr | exact VTo.nilslice | exact VTo.nilfunc | exact VTo.ptr rfl | exact VTo.gl rfl | exact VTo.map rfl | exact VTo.yld rfl | exact VTo.fmMap rfl | exact VTo.fm | exact VTo.glNil' (by decide) rfl rfl | exact VTo.fsNil (by decide) | exact VTo.fsSl rfl rfl (by simp [flat_len encE_len]) | exact VTo.fpPtr rfl | exact VTo.fsGl rfl (by first | rfl | exact flat_len encI_len _ | exact flat_len encS_len _ | exact flat_len encP_len _ | exact flat_len encL_len _ | exact flat_len encE_len _ | (simp [flat_len encP_len]; done) | simp [flat_len encI_len, flat_len encS_len]))) ?_)) trivial trivial rfl) (by repeat' (first | exact VTo.undef | exact FrTo.leaf | refine FrTo.node ?_ ?_ ?_ | refine FrTo.none ?_ ?_ | exact VTo.sc (by first | rfl | (congr 1; omega) | (congr 1; simp; omega)) | exact VTos_dv _ _ | refine VTos.cons ?_ ?_ | exact VTos.nil | refine VTo.agg ?_ | refine VTo.tuple ?_ | refine VTo.func ?_ ?_ | exact VTo.fs | exact VTo.fp | exact VTo.nilptr | exact VTo.nilslice | exact VTo.nilfunc | exact VTo.ptr rfl | exact VTo.gl rfl | exact VTo.map rfl | exact VTo.yld rfl | exact VTo.fmMap rfl | exact VTo.fm | exact VTo.glNil' (by decide) rfl rfl | exact VTo.fsNil (by decide) | exact VTo.fsSl rfl rfl (by simp [flat_len encE_len]) | exact VTo.fpPtr rfl | exact VTo.fsGl rfl (by first | rfl | exact flat_len encI_len _ | exact flat_len encS_len _ | exact flat_len encP_len _ | exact flat_len encL_len _ | exact flat_len encE_len _ | (simp [flat_len encP_len]; done) | simp [flat_len encI_len, flat_len encS_len]))) (by first | rfl | (repeat' (first | exact MkTo.nil | refine MkTo.keep rfl ?_ | refine MkTo.drop (by decide) rfl ?_)))
      · rw [hq] at h2
        rw [h2]
        conv => whnf
        repeat (first | (refine VLd.intro rfl ?_; conv => whnf) | (refine VArith.i64 (by omega) ?_; conv => whnf) | (refine VNeed.intro (by first | rfl | (simp; omega)) ?_; conv => whnf) | (refine VMem.store rfl rfl rfl rfl ?_; conv => whnf) | (refine VSame.intro rfl ?_; conv => whnf) | (refine VDraw.go [] (by kernel_rfl) (by kernel_rfl) ?_; conv => whnf))
        exact VOut.same rfl
    · rw [List.drop_of_length_le (by omega), fidx] at h2
      rw [h2]
      conv => whnf
      repeat (first | (refine VLd.intro rfl ?_; conv => whnf) | (refine VArith.i64 (by omega) ?_; conv => whnf) | (refine VNeed.intro (by first | rfl | (simp; omega)) ?_; conv => whnf) | (refine VMem.store rfl rfl rfl rfl ?_; conv => whnf) | (refine VSame.intro rfl ?_; conv => whnf) | (refine VDraw.go [] (by kernel_rfl) (by kernel_rfl) ?_; conv => whnf))
      exact VOut.same rfl
theorem vc_Truth1 (s : Int) (e : End) (h : Hp) : VC Try.prog 59 [aggE e, .fp [DI s]] h (B (decide (e.side = s))) h := by
  refine VC.body Try.func59 rfl Try.ntmps59 Try.call59 (h.grows_refl) rfl ?_; conv => whnf
  repeat' (first | (refine VLd.intro rfl ?_; conv => whnf) | (refine VArith.i64 (by omega) ?_; conv => whnf) | (refine VNeed.intro (by first | rfl | (simp; omega)) ?_; conv => whnf) | (refine VMem.store rfl rfl rfl rfl ?_; conv => whnf) | (refine VSame.intro rfl ?_; conv => whnf) | (refine VDraw.go [] (by kernel_rfl) (by kernel_rfl) ?_; conv => whnf) | (refine VIte.dec (fun _ => ?_) (fun _ => ?_) <;> conv => whnf) | (refine VIte.ndec (fun _ => ?_) (fun _ => ?_) <;> conv => whnf) | (refine VIte.beq (fun _ => ?_) (fun _ => ?_) <;> conv => whnf) | (refine VIte.bne (fun _ => ?_) (fun _ => ?_) <;> conv => whnf) | (refine VIte.intro (fun _ => ?_) (fun _ => ?_) <;> conv => whnf))
  all_goals (refine VOut.dec ?_; first | (simp only [decide_eq_true_eq]; omega) | (simp; omega) | (simp; done))
end Go.Proofs.Ytolnajnlcdacmaa

open Go.Vm
namespace Go.Proofs.Ytolnajnlcdacmaa
set_option maxRecDepth 20000
set_option maxHeartbeats 1000000

/-- The years of a span. -/
def yrs (p : Pap) : List Int := (List.range (p.hi - p.lo + 1).toNat).map fun k : Nat => p.lo + (k : Int)
def ext1 (p : Pap) (ts : List (List Int)) : List (List Int) := ts.flatMap fun t => (yrs p).map fun y => t ++ [y]
/-- All truths. -/
def tru (ps : List Pap) : List (List Int) := ps.foldl (fun ts p => ext1 p ts) [[]]
theorem tru_snoc {ps : List Pap} {k : Nat} {p : Pap} (hp : ps[k]? = some p) : tru (ps.take (k + 1)) = ext1 p (tru (ps.take k)) := by
  rw [tru, List.take_add_one, hp]; simp [tru]
end Go.Proofs.Ytolnajnlcdacmaa

open Go.Vm
namespace Go.Proofs.Ytolnajnlcdacmaa
set_option maxRecDepth 20000
set_option maxHeartbeats 1000000

theorem holdsS_of : ∀ {ps : List Pap} {t : List Int}, (∀ (i : Nat) p y, ps[i]? = some p → t[i]? = some y → p.lo ≤ y ∧ y ≤ p.hi) → holdsS ps t = true
  | [], t, _ => by cases t <;> simp [holdsS]
  | p :: ps, [], _ => by simp [holdsS]
  | p :: ps, y :: t, h => by
    rw [holdsS, decide_eq_true (h 0 p y rfl rfl), Bool.true_and]
    exact holdsS_of fun i q z h1 h2 => h (i + 1) q z (by simpa using h1) (by simpa using h2)
theorem mem_yrs {p : Pap} {y : Int} : y ∈ yrs p ↔ p.lo ≤ y ∧ y ≤ p.hi := by
  unfold yrs
  rw [List.mem_map]
  constructor
  · rintro ⟨k, h1, rfl⟩
    rw [List.mem_range] at h1; omega
  · intro h
    exact ⟨(y - p.lo).toNat, by rw [List.mem_range]; omega, by omega⟩
/-- The first parts of truths are those that hold so far. -/
theorem tru_take {ps : List Pap} : ∀ {k : Nat}, k ≤ ps.length → ∀ t, t ∈ tru (ps.take k) ↔ t.length = k ∧ ∀ (i : Nat) p y, ps[i]? = some p → t[i]? = some y → p.lo ≤ y ∧ y ≤ p.hi
  | 0, _, t => by
    have : tru (ps.take 0) = [[]] := rfl
    rw [this, List.mem_singleton]
    constructor
    · rintro rfl; exact ⟨rfl, fun i p y _ h => by simp at h⟩
    · rintro ⟨h, _⟩; exact List.length_eq_zero_iff.1 h
  | k + 1, hk, t => by
    have hp : ps[k]? = some ps[k] := List.getElem?_eq_getElem (by omega)
    rw [tru_snoc hp]
    generalize ps[k] = q at hp
    simp only [ext1, List.mem_flatMap, List.mem_map]
    constructor
    · rintro ⟨t0, h1, y, h2, rfl⟩
      obtain ⟨h3, h4⟩ := (tru_take (by omega) t0).1 h1
      refine ⟨by simp [h3], fun i p z hp2 hz => ?_⟩
      rcases Nat.lt_trichotomy i k with h5 | h5 | h5
      · rw [List.getElem?_append_left (by omega)] at hz; exact h4 i p z hp2 hz
      · subst h5
        rw [hp] at hp2; cases hp2
        rw [List.getElem?_append_right (by omega), h3] at hz
        simp at hz; subst hz
        exact mem_yrs.1 h2
      · rw [List.getElem?_eq_none (by simp; omega)] at hz; cases hz
    · rintro ⟨h1, h2⟩
      have hy : t[k]? = some t[k] := List.getElem?_eq_getElem (by omega)
      refine ⟨t.take k, (tru_take (by omega) _).2 ⟨by simp; omega, fun i p z hp2 hz => ?_⟩, t[k], mem_yrs.2 (h2 k q _ hp hy), ?_⟩
      · rw [List.getElem?_take] at hz
        split at hz
        · exact h2 i p z hp2 hz
        · cases hz
      · have e9 : t.take (k + 1) = t.take k ++ [t[k]] := by rw [List.take_add_one, hy]; rfl
        rw [← e9, List.take_of_length_le (by omega)]
theorem mem_tru {ps : List Pap} {t : List Int} : t ∈ tru ps ↔ t.length = ps.length ∧ holdsS ps t = true := by
  have := tru_take (ps := ps) (Nat.le_refl _) t
  rw [List.take_of_length_le (Nat.le_refl _)] at this
  rw [this]
  constructor
  · rintro ⟨h1, h2⟩; exact ⟨h1, holdsS_of h2⟩
  · rintro ⟨h1, h2⟩; exact ⟨h1, fun i p y hp hy => holdsS_get h2 hp hy⟩
theorem tru_okt {f : Fil} (h : chk f = 0) {t : List Int} (ht : t ∈ tru f.ps) : Okt f t := by
  obtain ⟨a, b, c, d⟩ := chk_zero h
  obtain ⟨h1, h2⟩ := mem_tru.1 ht
  exact ⟨a, b, c, h1, d, h2⟩
end Go.Proofs.Ytolnajnlcdacmaa

open Go.Vm
namespace Go.Proofs.Ytolnajnlcdacmaa
set_option maxRecDepth 20000
set_option maxHeartbeats 1000000

/-- When somebody's right can have arisen, while truths are gone through. -/
structure Sn where
  found : Bool
  lo : Int
  hi : Int
def snF (f : Fil) (x : Int) (s : Sn) (t : List Int) : Sn :=
  if (own f t).1 = x then ⟨true, if s.found = false ∨ (own f t).2 < s.lo then (own f t).2 else s.lo, if s.found = false ∨ s.hi < (own f t).2 then (own f t).2 else s.hi⟩ else s
def sn (f : Fil) (x : Int) : Sn := (tru f.ps).foldl (snF f x) ⟨false, 0, 0⟩
def sinceE (f : Fil) (x : Int) : Int := if chk f ≠ 0 then chk f else if x < 0 ∨ 1 < x then 4 else bif (sn f x).found then 0 else 7
def sinceR (f : Fil) (x : Int) : V := .tuple [bif decide (sinceE f x = 0) then .agg [I (sn f x).lo, I (sn f x).hi] else .agg [I 0, I 0], I (sinceE f x)]
end Go.Proofs.Ytolnajnlcdacmaa

open Go.Vm
namespace Go.Proofs.Ytolnajnlcdacmaa
set_option maxRecDepth 20000
set_option maxHeartbeats 1000000

def aggP (p : Pap) : V := .agg [I p.side, I p.lo, I p.hi]
theorem vc_years (p : Pap) (h : Hp) : VC Try.prog 84 [aggP p] h (.func (.func 91) [] [.fp (encP p)]) h := by
  refine VC.body Try.func84 rfl Try.ntmps84 Try.call84 (h.grows_refl) rfl ?_; conv => whnf
  repeat (first | (refine VLd.intro rfl ?_; conv => whnf) | (refine VArith.i64 (by omega) ?_; conv => whnf) | (refine VNeed.intro (by first | rfl | (simp; omega)) ?_; conv => whnf) | (refine VMem.store rfl rfl rfl rfl ?_; conv => whnf) | (refine VSame.intro rfl ?_; conv => whnf) | (refine VDraw.go [] (by kernel_rfl) (by kernel_rfl) ?_; conv => whnf))
  refine VOut.data 1 [(0, encP p)] [] rfl (by repeat' (first | exact FzAll.nil | refine FzAll.flat rfl ?_ | refine FzAll.row rfl rfl (RowTo.one rfl (by simp)) ?_)) (by exact FmAll.nil) (by repeat' (first | exact VTo.undef | exact FrTo.leaf | refine FrTo.node ?_ ?_ ?_ | refine FrTo.none ?_ ?_ | exact VTo.sc (by first | rfl | (congr 1; omega) | (congr 1; simp; omega)) | exact VTos_dv _ _ | refine VTos.cons ?_ ?_ | exact VTos.nil | refine VTo.agg ?_ | refine VTo.tuple ?_ | refine VTo.func ?_ ?_ | exact VTo.fs | exact VTo.fp | exact VTo.nilptr | exact VTo.nilslice | exact VTo.nilfunc | exact VTo.ptr rfl | exact VTo.gl rfl | exact VTo.map rfl | exact VTo.yld rfl | exact VTo.fmMap rfl | exact VTo.fm | exact VTo.glNil' (by decide) rfl rfl | exact VTo.fsNil (by decide) | exact VTo.fsSl rfl rfl (by simp [flat_len encE_len]) | exact VTo.fpPtr rfl | exact VTo.fsGl rfl (by first | rfl | exact flat_len encI_len _ | exact flat_len encS_len _ | exact flat_len encP_len _ | exact flat_len encL_len _ | exact flat_len encE_len _ | (simp [flat_len encP_len]; done) | simp [flat_len encI_len, flat_len encS_len])))
end Go.Proofs.Ytolnajnlcdacmaa

open Go.Vm
namespace Go.Proofs.Ytolnajnlcdacmaa
set_option maxRecDepth 20000
set_option maxHeartbeats 1000000

/-- The years of a paper are handed to yield, one by one. -/
theorem vc_years1 (p : Pap) (hlo : -1000000 ≤ p.lo) (hhi : p.hi ≤ 1000000) : Iter Try.prog 91 [.fp (encP p)] (p.hi - p.lo + 1).toNat (fun j => I (p.lo + j)) := by
  intro h i J hs h0
  obtain ⟨g, g0, g1, g2⟩ := iter_seq hs h0
  obtain ⟨M, hM⟩ : ∃ M, M = (p.hi - p.lo + 1).toNat := ⟨_, rfl⟩
  rw [← hM] at g1 g2 ⊢
  have hgr : ∀ j, j ≤ M → h.grows (g j) := by
    intro j
    induction j with
    | zero => intro _; rw [g0]; exact h.grows_refl
    | succ j ih => intro hj; exact fun k hk => (g2 j (by omega)).1 k (ih (by omega) k hk)
  refine ⟨g M, ?_, g1 M (Nat.le_refl _)⟩
  refine VC.body Try.func91 rfl Try.ntmps91 Try.call91 (hgr M (Nat.le_refl _)) rfl ?_
  conv => whnf
  repeat (first | (refine VLd.intro rfl ?_; conv => whnf) | (refine VArith.i64 (by omega) ?_; conv => whnf) | (refine VNeed.intro (by first | rfl | (simp; omega)) ?_; conv => whnf) | (refine VMem.store rfl rfl rfl rfl ?_; conv => whnf) | (refine VSame.intro rfl ?_; conv => whnf) | (refine VDraw.go [] (by kernel_rfl) (by kernel_rfl) ?_; conv => whnf))
  refine VCode.lpo (fun k : Nat => [(0, .yld (.out i)), (1, .fp (encP p)), (3, I (p.lo + k))]) (fun k => (g k).lift) (fun _ => []) (fun k => k ≤ M) (fun k => M - k) 0 (Nat.zero_le _) (by rw [g0]) ?_ ?_
  · conv => whnf
    refine Retell.turn ⟨[], 0, [], []⟩ (TurnOk.mk' _ _ [] [] (OutOk.lift _) rfl (by decide) (by repeat' (first | exact BTos.nil | refine BTos.flat rfl rfl (by first | rfl | simp) ?_ | refine BTos.new rfl ?_ | refine BTos.dead rfl rfl ?_ | refine BTos.esE rfl rfl ?_ | refine BTos.row rfl rfl rfl (RowTo.snoc (RowTo.one rfl (by simp))) ?_ | refine BTos.cells rfl rfl rfl (by repeat' (first | exact VTo.undef | exact FrTo.leaf | refine FrTo.node ?_ ?_ ?_ | refine FrTo.none ?_ ?_ | exact VTo.sc (by first | rfl | (congr 1; omega) | (congr 1; simp; omega)) | exact VTos_dv _ _ | refine VTos.cons ?_ ?_ | exact VTos.nil | refine VTo.agg ?_ | refine VTo.tuple ?_ | refine VTo.func ?_ ?_ | exact VTo.fs | exact VTo.fp | exact VTo.nilptr | exact VTo.nilslice | exact VTo.nilfunc | exact VTo.ptr rfl | exact VTo.gl rfl | exact VTo.map rfl | exact VTo.yld rfl | exact VTo.fmMap rfl | exact VTo.fm | exact VTo.glNil' (by decide) rfl rfl | exact VTo.fsNil (by decide) | exact VTo.fsSl rfl rfl (by simp [flat_len encE_len]) | exact VTo.fpPtr rfl | exact VTo.fsGl rfl (by first | rfl | exact flat_len encI_len _ | exact flat_len encS_len _ | exact flat_len encP_len _ | exact flat_len encL_len _ | exact flat_len encE_len _ | (simp [flat_len encP_len]; done) | simp [flat_len encI_len, flat_len encS_len]))) ?_)) trivial trivial rfl) (by repeat' (first | exact VTo.undef | exact FrTo.leaf | refine FrTo.node ?_ ?_ ?_ | refine FrTo.none ?_ ?_ | exact VTo.sc (by first | rfl | (congr 1; omega) | (congr 1; simp; omega)) | exact VTos_dv _ _ | refine VTos.cons ?_ ?_ | exact VTos.nil | refine VTo.agg ?_ | refine VTo.tuple ?_ | refine VTo.func ?_ ?_ | exact VTo.fs | exact VTo.fp | exact VTo.nilptr | exact VTo.nilslice | exact VTo.nilfunc | exact VTo.ptr rfl | exact VTo.gl rfl | exact VTo.map rfl | exact VTo.yld rfl | exact VTo.fmMap rfl | exact VTo.fm | exact VTo.glNil' (by decide) rfl rfl | exact VTo.fsNil (by decide) | exact VTo.fsSl rfl rfl (by simp [flat_len encE_len]) | exact VTo.fpPtr rfl | exact VTo.fsGl rfl (by first | rfl | exact flat_len encI_len _ | exact flat_len encS_len _ | exact flat_len encP_len _ | exact flat_len encL_len _ | exact flat_len encE_len _ | (simp [flat_len encP_len]; done) | simp [flat_len encI_len, flat_len encS_len]))) (by first | rfl | (repeat' (first | exact MkTo.nil | refine MkTo.keep rfl ?_ | refine MkTo.drop (by decide) rfl ?_)))
  · rintro k hk
    conv => whnf
    repeat' (first | (refine VLd.intro rfl ?_; conv => whnf) | (refine VArith.i64 (by omega) ?_; conv => whnf) | (refine VNeed.intro (by first | rfl | (simp; omega)) ?_; conv => whnf) | (refine VMem.store rfl rfl rfl rfl ?_; conv => whnf) | (refine VSame.intro rfl ?_; conv => whnf) | (refine VDraw.go [] (by kernel_rfl) (by kernel_rfl) ?_; conv => whnf) | (refine VIte.dec (fun _ => ?_) (fun _ => ?_) <;> conv => whnf) | (refine VIte.ndec (fun _ => ?_) (fun _ => ?_) <;> conv => whnf) | (refine VIte.beq (fun _ => ?_) (fun _ => ?_) <;> conv => whnf) | (refine VIte.bne (fun _ => ?_) (fun _ => ?_) <;> conv => whnf) | (refine VIte.intro (fun _ => ?_) (fun _ => ?_) <;> conv => whnf) | (refine VYield.intro (VY.lift [] (g2 k (by omega))) ?_; conv => whnf))
    · refine LEndO.intro (k + 1) (by omega) (by omega) rfl ?_
      conv => whnf
      refine Retell.turn ⟨[], 0, [], []⟩ (TurnOk.mk' _ _ [] [] (OutOk.lift _) rfl (by decide) (by repeat' (first | exact BTos.nil | refine BTos.flat rfl rfl (by first | rfl | simp) ?_ | refine BTos.new rfl ?_ | refine BTos.dead rfl rfl ?_ | refine BTos.esE rfl rfl ?_ | refine BTos.row rfl rfl rfl (RowTo.snoc (RowTo.one rfl (by simp))) ?_ | refine BTos.cells rfl rfl rfl (by repeat' (first | exact VTo.undef | exact FrTo.leaf | refine FrTo.node ?_ ?_ ?_ | refine FrTo.none ?_ ?_ | exact VTo.sc (by first | rfl | (congr 1; omega) | (congr 1; simp; omega)) | exact VTos_dv _ _ | refine VTos.cons ?_ ?_ | exact VTos.nil | refine VTo.agg ?_ | refine VTo.tuple ?_ | refine VTo.func ?_ ?_ | exact VTo.fs | exact VTo.fp | exact VTo.nilptr | exact VTo.nilslice | exact VTo.nilfunc | exact VTo.ptr rfl | exact VTo.gl rfl | exact VTo.map rfl | exact VTo.yld rfl | exact VTo.fmMap rfl | exact VTo.fm | exact VTo.glNil' (by decide) rfl rfl | exact VTo.fsNil (by decide) | exact VTo.fsSl rfl rfl (by simp [flat_len encE_len]) | exact VTo.fpPtr rfl | exact VTo.fsGl rfl (by first | rfl | exact flat_len encI_len _ | exact flat_len encS_len _ | exact flat_len encP_len _ | exact flat_len encL_len _ | exact flat_len encE_len _ | (simp [flat_len encP_len]; done) | simp [flat_len encI_len, flat_len encS_len]))) ?_)) trivial trivial rfl) (by repeat' (first | exact VTo.undef | exact FrTo.leaf | refine FrTo.node ?_ ?_ ?_ | refine FrTo.none ?_ ?_ | exact VTo.sc (by first | rfl | (congr 1; omega) | (congr 1; simp; omega)) | exact VTos_dv _ _ | refine VTos.cons ?_ ?_ | exact VTos.nil | refine VTo.agg ?_ | refine VTo.tuple ?_ | refine VTo.func ?_ ?_ | exact VTo.fs | exact VTo.fp | exact VTo.nilptr | exact VTo.nilslice | exact VTo.nilfunc | exact VTo.ptr rfl | exact VTo.gl rfl | exact VTo.map rfl | exact VTo.yld rfl | exact VTo.fmMap rfl | exact VTo.fm | exact VTo.glNil' (by decide) rfl rfl | exact VTo.fsNil (by decide) | exact VTo.fsSl rfl rfl (by simp [flat_len encE_len]) | exact VTo.fpPtr rfl | exact VTo.fsGl rfl (by first | rfl | exact flat_len encI_len _ | exact flat_len encS_len _ | exact flat_len encP_len _ | exact flat_len encL_len _ | exact flat_len encE_len _ | (simp [flat_len encP_len]; done) | simp [flat_len encI_len, flat_len encS_len]))) (by first | rfl | (repeat' (first | exact MkTo.nil | refine MkTo.keep rfl ?_ | refine MkTo.drop (by decide) rfl ?_)))
    · have hkM : k = M := by omega
      subst hkM
      exact VOut.lifted (r := .tuple []) (hgr k (Nat.le_refl _))
end Go.Proofs.Ytolnajnlcdacmaa

open Go.Vm
namespace Go.Proofs.Ytolnajnlcdacmaa
set_option maxRecDepth 20000
set_option maxHeartbeats 1000000

abbrev AL := List (End × End)
def hasK (a : AL) (e : End) : Bool := a.any fun x => decide (x.1 = e)
def alGet (a : AL) (e : End) : Option End := (a.find? fun x => decide (x.1 = e)).map (·.2)
/-- Whether a paper's year is of the chain of the paper ahead. -/
def goesB (f : Fil) (i : Nat) (y a : Int) : Bool := decide (0 < i ∧ sdAt f i = sdAt f (i - 1) ∧ y - a ≤ f.G)
/-- How it is behind a paper, from how it was. -/
def isE (f : Fil) (i : Nat) (p : Pap) (was : End) (y : Int) : End :=
  bif decide (¬ (bif goesB f i y was.year then was.first else y) = -1 ∧ f.Y ≤ y - (bif goesB f i y was.year then was.first else y)) then ⟨i, y, -1, p.side, y⟩
  else ⟨i, y, bif goesB f i y was.year then was.first else y, was.side, was.since⟩
def gY (f : Fil) (i : Nat) (p : Pap) (was : End) (s : AL × List End) (y : Int) : AL × List End :=
  bif hasK s.1 (isE f i p was y) then s else (s.1 ++ [(isE f i p was y, was)], s.2 ++ [isE f i p was y])
/-- The first years of a paper. -/
def gYs (f : Fil) (i : Nat) (p : Pap) (was : End) (s : AL × List End) : Nat → AL × List End
  | 0 => s
  | k + 1 => gY f i p was (gYs f i p was s k) (p.lo + k)
def gW (f : Fil) (i : Nat) (p : Pap) (s : AL × List End) (was : End) : AL × List End := gYs f i p was s (p.hi - p.lo + 1).toNat
def gP (f : Fil) : List Pap → Nat → AL × List End → AL × List End
  | [], _, s => s
  | p :: r, i, s => gP f r (i + 1) (s.2.foldl (gW f i p) (s.1, []))
def beg : End := ⟨-1, 0, 0, 2, 0⟩
def gone (f : Fil) : AL × List End := gP f f.ps 0 ([], [beg])
theorem gP_at {f : Fil} {ps : List Pap} {k : Nat} {p : Pap} {s : AL × List End} (h : ps[k]? = some p) : gP f (ps.drop k) k s = gP f (ps.drop (k + 1)) (k + 1) (s.2.foldl (gW f k p) (s.1, [])) := by
  obtain ⟨hlt, rfl⟩ := List.getElem?_eq_some_iff.1 h
  rw [List.drop_eq_getElem_cons hlt, gP]
theorem gW_at {f : Fil} {i : Nat} {p : Pap} {now : List End} {j : Nat} {w : End} {s : AL × List End} (h : now[j]? = some w) : (now.drop j).foldl (gW f i p) s = (now.drop (j + 1)).foldl (gW f i p) (gW f i p s w) := by
  obtain ⟨hlt, rfl⟩ := List.getElem?_eq_some_iff.1 h
  rw [List.drop_eq_getElem_cons hlt, List.foldl_cons]
/-! ### How many there can be -/

theorem nodup_bd : ∀ (M : Nat) (l : List Nat), l.Nodup → (∀ x ∈ l, x < M) → l.length ≤ M
  | 0, l, _, h => by
    cases l with
    | nil => simp
    | cons a l => exact absurd (h a (by simp)) (by omega)
  | M + 1, l, hn, h => by
    have ih := nodup_bd M (l.erase M) (hn.erase M) (fun x hx => by
      have h1 := (List.Nodup.mem_erase_iff hn).1 hx
      have h2 := h x h1.2
      have h3 := h1.1
      omega)
    by_cases hm : M ∈ l
    · rw [List.length_erase_of_mem hm] at ih; omega
    · rw [List.erase_of_not_mem hm] at ih; omega
/-- Numbers within bounds. -/
structure EOk (e : End) : Prop where
  year : 0 ≤ e.year ∧ e.year ≤ 3000
  first : -1 ≤ e.first ∧ e.first ≤ 3000
  side : 0 ≤ e.side ∧ e.side ≤ 2
  since : 0 ≤ e.since ∧ e.since ≤ 3000
structure GI (i : Int) (p : Pap) (s : AL × List End) : Prop where
  ok : ∀ e ∈ s.2, EOk e
  at_ : ∀ e ∈ s.2, e.i = i ∧ p.lo ≤ e.year ∧ e.year ≤ p.lo + 3
  nodup : s.2.Nodup
  has : ∀ e ∈ s.2, hasK s.1 e = true
theorem GI.len {i : Int} {p : Pap} {s : AL × List End} (g : GI i p s) : s.2.length ≤ 108108024 := by
  let c : End → Nat := fun e => (((e.year - p.lo).toNat * 3002 + (e.first + 1).toNat) * 3 + e.side.toNat) * 3001 + e.since.toNat
  have h1 : (s.2.map c).Nodup := by
    unfold List.Nodup
    rw [List.pairwise_map]
    refine List.Pairwise.imp_of_mem ?_ g.nodup
    intro a b ha hb hab hc
    apply hab
    obtain ⟨a1, a2, a3, a4⟩ := g.ok a ha
    obtain ⟨b1, b2, b3, b4⟩ := g.ok b hb
    obtain ⟨a5, a6, a7⟩ := g.at_ a ha
    obtain ⟨b5, b6, b7⟩ := g.at_ b hb
    obtain ⟨i1, y1, f1, s1, n1⟩ := a
    obtain ⟨i2, y2, f2, s2, n2⟩ := b
    simp only [c] at *
    have e1 : n1 = n2 := by omega
    have e2 : s1 = s2 := by omega
    have e3 : f1 = f2 := by omega
    have e4 : y1 = y2 := by omega
    rw [e1, e2, e3, e4, a5, b5]
  have h2 : ∀ x ∈ s.2.map c, x < 108108024 := by
    intro x hx
    obtain ⟨a, ha, rfl⟩ := List.mem_map.1 hx
    obtain ⟨a1, a2, a3, a4⟩ := g.ok a ha
    obtain ⟨a5, a6, a7⟩ := g.at_ a ha
    simp only [c]
    omega
  have := nodup_bd 108108024 _ h1 h2
  simpa using this
theorem isE_ok {f : Fil} {i : Nat} {p : Pap} {was : End} {y : Int} (hp : p.side = 0 ∨ p.side = 1) (hw : EOk was) (hy : 0 ≤ y ∧ y ≤ 3000) : EOk (isE f i p was y) ∧ (isE f i p was y).i = i ∧ (isE f i p was y).year = y := by
  obtain ⟨a1, a2, a3, a4⟩ := hw
  unfold isE
  obtain ⟨st, hst⟩ : ∃ st, st = (bif goesB f i y was.year then was.first else y) := ⟨_, rfl⟩
  have hb : -1 ≤ st ∧ st ≤ 3000 := by rw [hst]; cases goesB f i y was.year <;> simp only [cond_true, cond_false] <;> omega
  rw [← hst]
  cases decide (¬ st = -1 ∧ f.Y ≤ y - st) <;> simp only [cond_true, cond_false] <;> exact ⟨⟨by simp only; omega, by simp only; omega, by simp only; omega, by simp only; omega⟩, trivial, trivial⟩
theorem hasK_snoc (a : AL) (e v x : End) : hasK (a ++ [(e, v)]) x = (hasK a x || decide (e = x)) := by simp [hasK]
theorem GI.gY {f : Fil} {i : Nat} {p : Pap} {s : AL × List End} {was : End} {y : Int} (g : GI i p s) (hp : p.side = 0 ∨ p.side = 1) (hw : EOk was) (hy : 0 ≤ y ∧ y ≤ 3000) (hy2 : p.lo ≤ y ∧ y ≤ p.lo + 3) : GI i p (gY f i p was s y) := by
  obtain ⟨h1, h2, h3⟩ := isE_ok (f := f) (i := i) (y := y) hp hw hy
  unfold Ytolnajnlcdacmaa.gY
  generalize isE f i p was y = E at h1 h2 h3
  cases hk : hasK s.1 E
  · refine ⟨?_, ?_, ?_, ?_⟩
    · intro e he
      simp only [cond_false, List.mem_append, List.mem_singleton] at he
      rcases he with he | rfl
      · exact g.ok e he
      · exact h1
    · intro e he
      simp only [cond_false, List.mem_append, List.mem_singleton] at he
      rcases he with he | rfl
      · exact g.at_ e he
      · exact ⟨h2, by omega, by omega⟩
    · simp only [cond_false]
      rw [List.nodup_append]
      refine ⟨g.nodup, by simp, ?_⟩
      intro a ha b hb hab
      rw [List.mem_singleton] at hb
      have := g.has a ha
      rw [hab, hb, hk] at this; cases this
    · intro e he
      simp only [cond_false, List.mem_append, List.mem_singleton] at he ⊢
      rw [hasK_snoc]
      rcases he with he | rfl
      · rw [g.has e he]; rfl
      · simp
  · exact g
theorem GI.gYs {f : Fil} {i : Nat} {p : Pap} {s : AL × List End} {was : End} (g : GI i p s) (hp : p.side = 0 ∨ p.side = 1) (hw : EOk was) (h0 : 0 ≤ p.lo) (h1 : p.hi ≤ 3000) (h2 : p.hi ≤ p.lo + 3) : ∀ k, k ≤ (p.hi - p.lo + 1).toNat → GI i p (gYs f i p was s k)
  | 0, _ => g
  | k + 1, hk => by
    rw [Ytolnajnlcdacmaa.gYs]
    exact (GI.gYs g hp hw h0 h1 h2 k (by omega)).gY hp hw (by omega) (by omega)
/-- What is known of papers. -/
structure POk (p : Pap) : Prop where
  side : p.side = 0 ∨ p.side = 1
  lo : 0 ≤ p.lo
  hi : p.hi ≤ 3000
  le : p.lo ≤ p.hi
  near : p.hi ≤ p.lo + 3
theorem chk_pok {f : Fil} (h : chk f = 0) : ∀ p ∈ f.ps, POk p := by
  obtain ⟨_, _, _, d⟩ := chk_zero h
  intro p hp
  have := chkGo_zero d p hp
  unfold badPap at this
  exact ⟨by omega, by omega, by omega, by omega, by omega⟩
theorem EOk.beg : EOk beg := by constructor <;> decide
end Go.Proofs.Ytolnajnlcdacmaa

open Go.Vm
namespace Go.Proofs.Ytolnajnlcdacmaa
set_option maxRecDepth 20000
set_option maxHeartbeats 2000000

def esE (a : AL) : List (V × V) := a.map fun x => (aggE x.1, aggE x.2)
def keysE (a : AL) : List D := a.map fun x => .agg (encE x.1)
def valsE (a : AL) : List D := a.map fun x => .agg (encE x.2)
theorem esE_fst (a : AL) : (esE a).map (·.1) = (keysE a).map D.v := by simp only [esE, keysE, List.map_map]; rfl
theorem esE_snd (a : AL) : (esE a).map (·.2) = (valsE a).map D.v := by simp only [esE, valsE, List.map_map]; rfl
theorem esE_zip (a : AL) : (D.vs (keysE a)).zip (D.vs (valsE a)) = esE a := by
  rw [D.vs_eq, D.vs_eq, ← esE_fst, ← esE_snd]
  induction a with
  | nil => rfl
  | cons x a ih => simpa [esE] using ih
theorem esE_ren (a : AL) (ρ : Vm.Id → Vm.Id) : (Blk.map (esE a)).ren ρ = .map (esE a) := by
  unfold Blk.ren
  congr 1
  simp only [esE, List.map_map]
  rfl
theorem BTos.esE {c : TCtx} {loc : List Blk} {pm : List Nat} {bs : List Blk} {j : Nat} {a : AL} (hj : Nat.blt j c.L = true) (hl : loc[j]? = some (.map (esE a))) (r : BTos c loc pm bs) : BTos c loc (j :: pm) (.map (esE a) :: bs) :=
  BTos.map hj hl (by rw [esE_fst]; exact RowTo.dv c _) (by rw [esE_snd]; exact RowTo.dv c _) r
theorem EsTo.esE {c : TCtx} (a : AL) : EsTo c (esE a) (keysE a) (valsE a) := ⟨by rw [esE_fst]; exact RowTo.dv c _, by rw [esE_snd]; exact RowTo.dv c _⟩
theorem top100 : ∃ sh, eqTop Try.prog 100 = some sh ∧ ∀ x y : End, veqSh sh (aggE x) (aggE y) = some (decide (x = y)) := by
  refine ⟨Sh.cons 0 1 false Sh.int (Sh.cons 1 1 false Sh.int (Sh.cons 2 1 false Sh.int (Sh.cons 3 1 false Sh.int (Sh.cons 4 1 false Sh.int Sh.nil)))), by kernel_rfl, fun x y => ?_⟩
  have : ((x.i == y.i) && ((x.year == y.year) && ((x.first == y.first) && ((x.side == y.side) && ((x.since == y.since) && true))))) = decide (x = y) := by
    cases x; cases y; rw [Bool.eq_iff_iff, decide_eq_true_eq]; simp
  rw [← this]
  rfl
theorem found_none {sh : Sh} (hs : ∀ x y : End, veqSh sh (aggE x) (aggE y) = some (decide (x = y))) {a : AL} {e : End} (h : hasK a e = false) : Vm.Found sh (aggE e) (esE a) none := by
  intro j p hp
  simp only [esE, List.getElem?_map, Option.map_eq_some_iff] at hp
  obtain ⟨x, hx, rfl⟩ := hp
  simp only [hs]
  have : x ∈ a := List.mem_of_getElem? hx
  unfold hasK at h
  rw [List.any_eq_false] at h
  have := h x this
  simp only [decide_eq_true_eq] at this
  rw [decide_eq_false (fun e1 => this e1.symm)]
theorem found_some {sh : Sh} (hs : ∀ x y : End, veqSh sh (aggE x) (aggE y) = some (decide (x = y))) : ∀ {a : AL} {e v : End}, alGet a e = some v → ∃ i, Vm.Found sh (aggE e) (esE a) (some (i, aggE v))
  | [], e, v, h => by simp [alGet] at h
  | x :: a, e, v, h => by
    by_cases hx : x.1 = e
    · simp only [alGet, List.find?_cons, hx, decide_true, Option.map_some, Option.some.injEq] at h
      refine ⟨0, aggE x.1, by simp [esE, h], by rw [hs]; simp [hx], fun j p hj => by omega⟩
    · have h' : alGet a e = some v := by simpa [alGet, List.find?_cons, hx] using h
      obtain ⟨i, k0, h1, h2, h3⟩ := found_some hs h'
      refine ⟨i + 1, k0, by simpa [esE] using h1, h2, fun j p hj hp => ?_⟩
      cases j with
      | zero =>
        simp only [esE, List.map_cons, List.getElem?_cons_zero, Option.some.injEq] at hp
        subst hp
        rw [hs, decide_eq_false (fun e1 => hx e1.symm)]
      | succ j => exact h3 j p (by omega) (by simpa [esE] using hp)
theorem hasK_get (a : AL) (e : End) : hasK a e = (alGet a e).isSome := by
  induction a with
  | nil => rfl
  | cons x a ih =>
    by_cases hx : x.1 = e
    · simp [hasK, alGet, hx]
    · simpa [hasK, alGet, hx] using ih
theorem look_esE (a : AL) (e : End) : Look Try.prog (tiOf Try.prog) 95 true (aggE e) (esE a) (match alGet a e with | some v => .tuple [aggE v, B true] | none => .tuple [aggE ⟨0, 0, 0, 0, 0⟩, B false]) := by
  obtain ⟨sh, h1, h2⟩ := top100
  cases hg : alGet a e with
  | none =>
    exact ⟨_, 100, 100, _, sh, true, none, rfl, rfl, h1, by rw [h2]; simp, found_none h2 (by rw [hasK_get, hg]; rfl), rfl⟩
  | some v =>
    obtain ⟨i, hi⟩ := found_some h2 hg
    exact ⟨_, 100, 100, _, sh, true, some (i, aggE v), rfl, rfl, h1, by rw [h2]; simp, hi, rfl⟩
theorem VMem.newE {a : AL} {e v : End} {h : Hp} {i : Vm.Id} {K : V → Hp → Prop} (hb : h.get i = some (.map (esE a))) (hf : hasK a e = false) (hK : K .undef (h.set i (.map (esE (a ++ [(e, v)]))))) : VMem Try.prog (opMapUpdate 95) [.map i, aggE e, aggE v] h K := by
  obtain ⟨sh, h1, h2⟩ := top100
  have : esE (a ++ [(e, v)]) = esE a ++ [(aggE e, aggE v)] := by simp [esE]
  rw [this] at hK
  exact VMem.intro (does_mapNew (tiOf_ok _) (t := 95) rfl rfl h1 (by rw [h2]) (found_none h2 hf) hb) hK
end Go.Proofs.Ytolnajnlcdacmaa

open Go.Vm
namespace Go.Proofs.Ytolnajnlcdacmaa
set_option maxRecDepth 20000
set_option maxHeartbeats 4000000

def vGone (f : Fil) : V := .tuple [.fm (keysE (gone f).1) (valsE (gone f).1), ends (gone f).2]
/-- What lies there between two rounds. -/
structure GJ (o : Vm.Id → Option Blk) (s : AL × List End) (g : Hp) : Prop where
  o : g.outer = o
  c : g.get (.loc 0) = some (.cells true [.map (.loc 1)])
  mp : g.get (.loc 1) = some (.map (esE s.1))
  li : ∃ m, (m = 3 ∨ 6 ≤ m) ∧ g.get (.loc 2) = some (.cells true [.gl (.loc m) 5 s.2.length]) ∧ g.get (.loc m) = some (.flat true (s.2.flatMap encE))
  mar : g.get (.loc 4) = some .mark
theorem isE_go {f : Fil} {i : Nat} {p : Pap} {was : End} {y : Int} (h : 0 < i ∧ sdAt f i = sdAt f (i - 1) ∧ y - was.year ≤ f.G) :
    isE f i p was y = bif decide (¬ was.first = -1 ∧ f.Y ≤ y - was.first) then ⟨i, y, -1, p.side, y⟩ else ⟨i, y, was.first, was.side, was.since⟩ := by
  unfold isE goesB
  rw [decide_eq_true h]; rfl
theorem isE_no {f : Fil} {i : Nat} {p : Pap} {was : End} {y : Int} (h : ¬ (0 < i ∧ sdAt f i = sdAt f (i - 1) ∧ y - was.year ≤ f.G)) :
    isE f i p was y = bif decide (¬ y = -1 ∧ f.Y ≤ y - y) then ⟨i, y, -1, p.side, y⟩ else ⟨i, y, y, was.side, was.since⟩ := by
  unfold isE goesB
  rw [decide_eq_false h]; rfl
theorem upd_ok {g : Hp} {m : Nat} {a2 b2 : AL} {n2 : List End} {b : Blk} (jb : g.get (.loc 2) = some (.cells true [.gl (.loc m) 5 n2.length])) (jm : g.get (.loc 1) = some (.map (esE a2))) (jl : g.get (.loc m) = some (.flat true (n2.flatMap encE))) :
    ∀ p ∈ [(Vm.Id.loc 1, Blk.map (esE b2)), (.loc m, .dead), (.loc 2, b)], g.get p.1 ≠ none := by
  intro p hp
  simp only [List.mem_cons, List.not_mem_nil, or_false] at hp
  rcases hp with rfl | rfl | rfl <;> simp only
  · rw [jm]; simp
  · rw [jl]; simp
  · rw [jb]; simp
theorem GJ.step {o : Vm.Id → Option Blk} {a2 : AL} {n2 : List End} {E was : End} {g : Hp} {m : Nat} (jo : g.outer = o) (jc : g.get (.loc 0) = some (.cells true [.map (.loc 1)])) (jm : g.get (.loc 1) = some (.map (esE a2)))
    (jb : g.get (.loc 2) = some (.cells true [.gl (.loc m) 5 n2.length])) (jl : g.get (.loc m) = some (.flat true (n2.flatMap encE))) (jk : g.get (.loc 4) = some .mark) (hm : m = 3 ∨ 6 ≤ m) {b5 : Blk} (j5 : g.get (.loc 5) = some b5) :
    g.grows ((g.sets [(.loc 1, .map (esE (a2 ++ [(E, was)]))), (.loc m, .dead), (.loc 2, .cells true [.gl g.fresh 5 (n2.length + 1)])]).pushes [.flat true ((n2 ++ [E]).flatMap encE)]) ∧
    GJ o (a2 ++ [(E, was)], n2 ++ [E]) ((g.sets [(.loc 1, .map (esE (a2 ++ [(E, was)]))), (.loc m, .dead), (.loc 2, .cells true [.gl g.fresh 5 (n2.length + 1)])]).pushes [.flat true ((n2 ++ [E]).flatMap encE)]) ∧
    ∀ b, g.get (.loc 5) = some b → ((g.sets [(.loc 1, .map (esE (a2 ++ [(E, was)]))), (.loc m, .dead), (.loc 2, .cells true [.gl g.fresh 5 (n2.length + 1)])]).pushes [.flat true ((n2 ++ [E]).flatMap encE)]).get (.loc 5) = some b := by
  obtain ⟨go, gl⟩ := g
  simp only [Hp.get] at jc jm jb jl jk j5
  have l5 := (List.getElem?_eq_some_iff.1 j5).1
  have l0 := (List.getElem?_eq_some_iff.1 jc).1
  have l1 := (List.getElem?_eq_some_iff.1 jm).1
  have l2 := (List.getElem?_eq_some_iff.1 jb).1
  have l4 := (List.getElem?_eq_some_iff.1 jk).1
  have key : ∀ x, x < gl.length → x ≠ 1 → x ≠ m → x ≠ 2 → ∀ (A B C N : Blk), ((((gl.set 1 A).set m B).set 2 C) ++ [N])[x]? = gl[x]? := by
    intro x hx h1 h2 h3 A B C N
    rw [List.getElem?_append_left (by simpa using hx), List.getElem?_set_ne (Ne.symm h3), List.getElem?_set_ne (Ne.symm h2), List.getElem?_set_ne (Ne.symm h1)]
  refine ⟨Hp.grows_sets (upd_ok (g := ⟨go, gl⟩) jb jm jl), ⟨jo, ?_, ?_, ⟨gl.length, .inr (by omega), ?_, ?_⟩, ?_⟩, fun b hb => ?_⟩
  · show (_ ++ _)[_]? = _
    exact (key 0 l0 (by omega) (by omega) (by omega) _ _ _ _).trans jc
  · show ((((gl.set 1 _).set m _).set 2 _) ++ [_])[1]? = _
    rw [List.getElem?_append_left (by simpa using l1), List.getElem?_set_ne (show (2 : Nat) ≠ 1 by omega), List.getElem?_set_ne (show m ≠ 1 by omega), List.getElem?_set_self l1]
  · show ((((gl.set 1 _).set m _).set 2 _) ++ [_])[2]? = _
    rw [List.getElem?_append_left (by simpa using l2), List.getElem?_set_self (by simpa using l2)]
    simp [Hp.fresh]
  · show ((((gl.set 1 _).set m _).set 2 _) ++ [_])[gl.length]? = _
    rw [List.getElem?_append_right (by simp)]
    simp
  · show (_ ++ _)[_]? = _
    exact (key 4 l4 (by omega) (by omega) (by omega) _ _ _ _).trans jk
  · have hb : gl[5]? = some b := hb
    show (_ ++ _)[_]? = _
    exact (key 5 (List.getElem?_eq_some_iff.1 hb).1 (by omega) (by omega) (by omega) _ _ _ _).trans hb
theorem blt_of {a b : Nat} (h : a < b) : Nat.blt a b = true := Nat.ble_eq_true_of_le h
theorem outer_fix {o : Vm.Id → Option Blk} {iy i1 i2 i3 : Vm.Id} {b0 b b1 b2 b3 : Blk} (h : o iy = some b) (n1 : iy ≠ i1) (n2 : iy ≠ i2) (n3 : iy ≠ i3) : outW (outW (outW (outW (outW o iy b0) i1 b1) i2 b2) i3 b3) iy b = outW (outW (outW o i1 b1) i2 b2) i3 b3 := by
  funext j
  unfold outW
  by_cases e : j = iy
  · subst e; rw [if_pos rfl, if_neg n3, if_neg n2, if_neg n1, h]
  · rw [if_neg e, if_neg e]
theorem VOut.back {h : Hp} {loc : List Blk} {iy : Vm.Id} {b0 b : Blk} {r1 r : V} (hb : h.lift iy = some b) (hr : r1 = r.ren .out) : VOut h ⟨outW (outW h.lift iy b0) iy b, loc⟩ r1 r h := by
  rw [outW_same, ← outW_id hb]
  exact VOut.same hr
theorem vc_gone (f : Fil) (h : Hp) (hc : chk f = 0) : VC Try.prog 54 [vF f] h (vGone f) h := by
  have hpok := chk_pok hc
  obtain ⟨hY1, hY2, hn16, _⟩ := chk_zero hc
  obtain ⟨R, hR⟩ : ∃ R, R = gone f := ⟨_, rfl⟩
  unfold vGone
  rw [← hR]
  refine VC.body Try.func54 rfl Try.ntmps54 Try.call54 (h.grows_refl) rfl ?_; conv => whnf
  repeat (first | (refine VLd.intro rfl ?_; conv => whnf) | (refine VArith.i64 (by omega) ?_; conv => whnf) | (refine VNeed.intro (by first | rfl | (simp; omega)) ?_; conv => whnf) | (refine VMem.store rfl rfl rfl rfl ?_; conv => whnf) | (refine VSame.intro rfl ?_; conv => whnf) | (refine VDraw.go [] (by kernel_rfl) (by kernel_rfl) ?_; conv => whnf))
  refine VCode.lp (fun x : Nat × AL × List End => [(1, .fp (encF f)), (5, .ptr (.loc 0) 0), (6, ends x.2.2), (21, paps f.ps), (22, I f.ps.length), (23, I x.1)]) (fun x => [.cells true [.map (.loc 1)], .map (esE x.2.1)])
    (fun x => x.1 ≤ f.ps.length ∧ R = gP f (f.ps.drop x.1) x.1 x.2 ∧ (∀ e ∈ x.2.2, EOk e) ∧ x.2.2.length ≤ 108108024) (fun x => f.ps.length - x.1) (0, [], [beg]) ⟨Nat.zero_le _, hR, by simp [EOk.beg], by simp⟩ ?_ ?_
  · conv => whnf
    refine Retell.turn ⟨[3,2], 5, [(0, encF f), (4, [beg].flatMap encE)], []⟩ (TurnOk.mk' _ _ [(0, encF f), (4, [beg].flatMap encE)] [] (OutOk.lift _) rfl (by decide) (by repeat' (first | exact BTos.nil | refine BTos.flat rfl rfl (by first | rfl | simp) ?_ | refine BTos.new rfl ?_ | refine BTos.dead rfl rfl ?_ | refine BTos.esE rfl rfl ?_ | refine BTos.row rfl rfl rfl (RowTo.snoc (RowTo.one rfl (by simp))) ?_ | refine BTos.cells rfl rfl rfl (by repeat' (first | exact VTo.undef | exact FrTo.leaf | refine FrTo.node ?_ ?_ ?_ | refine FrTo.none ?_ ?_ | exact VTo.sc (by first | rfl | (congr 1; omega) | (congr 1; simp; omega)) | exact VTos_dv _ _ | refine VTos.cons ?_ ?_ | exact VTos.nil | refine VTo.agg ?_ | refine VTo.tuple ?_ | refine VTo.func ?_ ?_ | exact VTo.fs | exact VTo.fp | exact VTo.nilptr | exact VTo.nilslice | exact VTo.nilfunc | exact VTo.ptr rfl | exact VTo.gl rfl | exact VTo.map rfl | exact VTo.yld rfl | exact VTo.fmMap rfl | exact VTo.fm | exact VTo.glNil' (by decide) rfl rfl | exact VTo.fsNil (by decide) | exact VTo.fsSl rfl rfl (by simp [flat_len encE_len]) | exact VTo.fpPtr rfl | exact VTo.fsGl rfl (by first | rfl | exact flat_len encI_len _ | exact flat_len encS_len _ | exact flat_len encP_len _ | exact flat_len encL_len _ | exact flat_len encE_len _ | (simp [flat_len encP_len]; done) | simp [flat_len encI_len, flat_len encS_len]))) ?_)) (by repeat' (first | exact FzAll.nil | refine FzAll.flat rfl ?_ | refine FzAll.row rfl rfl (RowTo.one rfl (by simp)) ?_)) trivial rfl) (by repeat' (first | exact VTo.undef | exact FrTo.leaf | refine FrTo.node ?_ ?_ ?_ | refine FrTo.none ?_ ?_ | exact VTo.sc (by first | rfl | (congr 1; omega) | (congr 1; simp; omega)) | exact VTos_dv _ _ | refine VTos.cons ?_ ?_ | exact VTos.nil | refine VTo.agg ?_ | refine VTo.tuple ?_ | refine VTo.func ?_ ?_ | exact VTo.fs | exact VTo.fp | exact VTo.nilptr | exact VTo.nilslice | exact VTo.nilfunc | exact VTo.ptr rfl | exact VTo.gl rfl | exact VTo.map rfl | exact VTo.yld rfl | exact VTo.fmMap rfl | exact VTo.fm | exact VTo.glNil' (by decide) rfl rfl | exact VTo.fsNil (by decide) | exact VTo.fsSl rfl rfl (by simp [flat_len encE_len]) | exact VTo.fpPtr rfl | exact VTo.fsGl rfl (by first | rfl | exact flat_len encI_len _ | exact flat_len encS_len _ | exact flat_len encP_len _ | exact flat_len encL_len _ | exact flat_len encE_len _ | (simp [flat_len encP_len]; done) | simp [flat_len encI_len, flat_len encS_len]))) (by first | rfl | (repeat' (first | exact MkTo.nil | refine MkTo.keep rfl ?_ | refine MkTo.drop (by decide) rfl ?_)))
  · rintro ⟨i, a, now⟩ ⟨hi, hRi, hok, hnl⟩
    dsimp only at hi hRi hok hnl
    conv => whnf
    refine VIte.dec (fun h3 => ?_) (fun h3 => ?_)
    · have hp : f.ps[i]? = some f.ps[i] := List.getElem?_eq_getElem (by omega)
      have hpk := hpok f.ps[i] (List.getElem_mem (by omega))
      rw [gP_at hp] at hRi
      generalize f.ps[i] = p at hp hpk hRi
      obtain ⟨W, hW⟩ : ∃ W, W = now.foldl (gW f i p) (a, []) := ⟨_, rfl⟩
      rw [← hW] at hRi
      conv => whnf
      repeat' (first | (refine VLd.intro rfl ?_; conv => whnf) | (refine VArith.i64 (by omega) ?_; conv => whnf) | (refine VNeed.intro (by first | rfl | (simp; omega)) ?_; conv => whnf) | (refine VMem.store rfl rfl rfl rfl ?_; conv => whnf) | (refine VSame.intro rfl ?_; conv => whnf) | (refine VDraw.go [] (by kernel_rfl) (by kernel_rfl) ?_; conv => whnf) | (refine VIte.dec (fun _ => ?_) (fun _ => ?_) <;> conv => whnf) | (refine VIte.ndec (fun _ => ?_) (fun _ => ?_) <;> conv => whnf) | (refine VIte.beq (fun _ => ?_) (fun _ => ?_) <;> conv => whnf) | (refine VIte.bne (fun _ => ?_) (fun _ => ?_) <;> conv => whnf) | (refine VIte.intro (fun _ => ?_) (fun _ => ?_) <;> conv => whnf) | (refine VAny.ix encP_len i rfl rfl hp ?_; conv => whnf))
      refine VCode.lp (fun x : Nat × AL × List End => [(1, .fp (encF f)), (5, .ptr (.loc 0) 0), (7, .fp [DI i]), (8, .fp (encP p)), (9, .ptr (.loc 2) 0), (21, paps f.ps), (22, I f.ps.length), (23, I i), (28, ends now), (29, I now.length), (30, I x.1)])
        (fun x => [.cells true [.map (.loc 1)], .map (esE x.2.1), .cells true [.gl (.loc 3) 5 x.2.2.length], .flat true (x.2.2.flatMap encE)])
        (fun x => x.1 ≤ now.length ∧ W = (now.drop x.1).foldl (gW f i p) x.2 ∧ GI i p x.2) (fun x => now.length - x.1) (0, a, []) ⟨Nat.zero_le _, hW, by constructor <;> simp⟩ ?_ ?_
      · conv => whnf
        refine Retell.turn ⟨[0,1,4,5], 5, [(2, [DI i]), (3, encP p)], []⟩ (TurnOk.mk' _ _ [(2, [DI i]), (3, encP p)] [] (OutOk.lift _) rfl (by decide) (by repeat' (first | exact BTos.nil | refine BTos.flat rfl rfl (by first | rfl | simp) ?_ | refine BTos.new rfl ?_ | refine BTos.dead rfl rfl ?_ | refine BTos.esE rfl rfl ?_ | refine BTos.row rfl rfl rfl (RowTo.snoc (RowTo.one rfl (by simp))) ?_ | refine BTos.cells rfl rfl rfl (by repeat' (first | exact VTo.undef | exact FrTo.leaf | refine FrTo.node ?_ ?_ ?_ | refine FrTo.none ?_ ?_ | exact VTo.sc (by first | rfl | (congr 1; omega) | (congr 1; simp; omega)) | exact VTos_dv _ _ | refine VTos.cons ?_ ?_ | exact VTos.nil | refine VTo.agg ?_ | refine VTo.tuple ?_ | refine VTo.func ?_ ?_ | exact VTo.fs | exact VTo.fp | exact VTo.nilptr | exact VTo.nilslice | exact VTo.nilfunc | exact VTo.ptr rfl | exact VTo.gl rfl | exact VTo.map rfl | exact VTo.yld rfl | exact VTo.fmMap rfl | exact VTo.fm | exact VTo.glNil' (by decide) rfl rfl | exact VTo.fsNil (by decide) | exact VTo.fsSl rfl rfl (by simp [flat_len encE_len]) | exact VTo.fpPtr rfl | exact VTo.fsGl rfl (by first | rfl | exact flat_len encI_len _ | exact flat_len encS_len _ | exact flat_len encP_len _ | exact flat_len encL_len _ | exact flat_len encE_len _ | (simp [flat_len encP_len]; done) | simp [flat_len encI_len, flat_len encS_len]))) ?_)) (by repeat' (first | exact FzAll.nil | refine FzAll.flat rfl ?_ | refine FzAll.row rfl rfl (RowTo.one rfl (by simp)) ?_)) trivial rfl) (by repeat' (first | exact VTo.undef | exact FrTo.leaf | refine FrTo.node ?_ ?_ ?_ | refine FrTo.none ?_ ?_ | exact VTo.sc (by first | rfl | (congr 1; omega) | (congr 1; simp; omega)) | exact VTos_dv _ _ | refine VTos.cons ?_ ?_ | exact VTos.nil | refine VTo.agg ?_ | refine VTo.tuple ?_ | refine VTo.func ?_ ?_ | exact VTo.fs | exact VTo.fp | exact VTo.nilptr | exact VTo.nilslice | exact VTo.nilfunc | exact VTo.ptr rfl | exact VTo.gl rfl | exact VTo.map rfl | exact VTo.yld rfl | exact VTo.fmMap rfl | exact VTo.fm | exact VTo.glNil' (by decide) rfl rfl | exact VTo.fsNil (by decide) | exact VTo.fsSl rfl rfl (by simp [flat_len encE_len]) | exact VTo.fpPtr rfl | exact VTo.fsGl rfl (by first | rfl | exact flat_len encI_len _ | exact flat_len encS_len _ | exact flat_len encP_len _ | exact flat_len encL_len _ | exact flat_len encE_len _ | (simp [flat_len encP_len]; done) | simp [flat_len encI_len, flat_len encS_len]))) (by first | rfl | (repeat' (first | exact MkTo.nil | refine MkTo.keep rfl ?_ | refine MkTo.drop (by decide) rfl ?_)))
      · rintro ⟨j, a1, nx⟩ ⟨hj, hWj, hgi⟩
        dsimp only at hj hWj
        conv => whnf
        refine VIte.dec (fun h5 => ?_) (fun h5 => ?_)
        · have hw : now[j]? = some now[j] := List.getElem?_eq_getElem (by omega)
          have hwk := hok now[j] (List.getElem_mem (by omega))
          rw [gW_at hw] at hWj
          generalize now[j] = was at hw hwk hWj
          conv => whnf
          repeat' (first | (refine VLd.intro rfl ?_; conv => whnf) | (refine VArith.i64 (by omega) ?_; conv => whnf) | (refine VNeed.intro (by first | rfl | (simp; omega)) ?_; conv => whnf) | (refine VMem.store rfl rfl rfl rfl ?_; conv => whnf) | (refine VSame.intro rfl ?_; conv => whnf) | (refine VDraw.go [] (by kernel_rfl) (by kernel_rfl) ?_; conv => whnf) | (refine VIte.dec (fun _ => ?_) (fun _ => ?_) <;> conv => whnf) | (refine VIte.ndec (fun _ => ?_) (fun _ => ?_) <;> conv => whnf) | (refine VIte.beq (fun _ => ?_) (fun _ => ?_) <;> conv => whnf) | (refine VIte.bne (fun _ => ?_) (fun _ => ?_) <;> conv => whnf) | (refine VIte.intro (fun _ => ?_) (fun _ => ?_) <;> conv => whnf) | (refine VAny.ix encE_len j rfl rfl hw ?_; conv => whnf) | (refine VCall.intro (vc_years p _) ?_; conv => whnf))
          refine VCode.tell [(1, .fp (encF f)), (5, .ptr (.loc 0) 0), (7, .fp [DI i]), (8, .fp (encP p)), (9, .ptr (.loc 2) 0), (11, .fp (encE was)), (21, paps f.ps), (22, I f.ps.length), (23, I i), (28, ends now), (29, I now.length), (30, I j), (35, .func (.func 91) [] [.fp (encP p)])]
            [.cells true [.map (.loc 1)], .map (esE a1), .cells true [.gl (.loc 3) 5 nx.length], .flat true (nx.flatMap encE)] (marks' := []) ?_ ?_
          · conv => whnf
            refine Retell.turn ⟨[0,1,2,3], 5, [(4, encE was)], []⟩ (TurnOk.mk' _ _ [(4, encE was)] [] (OutOk.lift _) rfl (by decide) (by repeat' (first | exact BTos.nil | refine BTos.flat rfl rfl (by first | rfl | simp) ?_ | refine BTos.new rfl ?_ | refine BTos.dead rfl rfl ?_ | refine BTos.esE rfl rfl ?_ | refine BTos.row rfl rfl rfl (RowTo.snoc (RowTo.one rfl (by simp))) ?_ | refine BTos.cells rfl rfl rfl (by repeat' (first | exact VTo.undef | exact FrTo.leaf | refine FrTo.node ?_ ?_ ?_ | refine FrTo.none ?_ ?_ | exact VTo.sc (by first | rfl | (congr 1; omega) | (congr 1; simp; omega)) | exact VTos_dv _ _ | refine VTos.cons ?_ ?_ | exact VTos.nil | refine VTo.agg ?_ | refine VTo.tuple ?_ | refine VTo.func ?_ ?_ | exact VTo.fs | exact VTo.fp | exact VTo.nilptr | exact VTo.nilslice | exact VTo.nilfunc | exact VTo.ptr rfl | exact VTo.gl rfl | exact VTo.map rfl | exact VTo.yld rfl | exact VTo.fmMap rfl | exact VTo.fm | exact VTo.glNil' (by decide) rfl rfl | exact VTo.fsNil (by decide) | exact VTo.fsSl rfl rfl (by simp [flat_len encE_len]) | exact VTo.fpPtr rfl | exact VTo.fsGl rfl (by first | rfl | exact flat_len encI_len _ | exact flat_len encS_len _ | exact flat_len encP_len _ | exact flat_len encL_len _ | exact flat_len encE_len _ | (simp [flat_len encP_len]; done) | simp [flat_len encI_len, flat_len encS_len]))) ?_)) (by repeat' (first | exact FzAll.nil | refine FzAll.flat rfl ?_ | refine FzAll.row rfl rfl (RowTo.one rfl (by simp)) ?_)) trivial rfl) (by repeat' (first | exact VTo.undef | exact FrTo.leaf | refine FrTo.node ?_ ?_ ?_ | refine FrTo.none ?_ ?_ | exact VTo.sc (by first | rfl | (congr 1; omega) | (congr 1; simp; omega)) | exact VTos_dv _ _ | refine VTos.cons ?_ ?_ | exact VTos.nil | refine VTo.agg ?_ | refine VTo.tuple ?_ | refine VTo.func ?_ ?_ | exact VTo.fs | exact VTo.fp | exact VTo.nilptr | exact VTo.nilslice | exact VTo.nilfunc | exact VTo.ptr rfl | exact VTo.gl rfl | exact VTo.map rfl | exact VTo.yld rfl | exact VTo.fmMap rfl | exact VTo.fm | exact VTo.glNil' (by decide) rfl rfl | exact VTo.fsNil (by decide) | exact VTo.fsSl rfl rfl (by simp [flat_len encE_len]) | exact VTo.fpPtr rfl | exact VTo.fsGl rfl (by first | rfl | exact flat_len encI_len _ | exact flat_len encS_len _ | exact flat_len encP_len _ | exact flat_len encL_len _ | exact flat_len encE_len _ | (simp [flat_len encP_len]; done) | simp [flat_len encI_len, flat_len encS_len]))) (by first | rfl | (repeat' (first | exact MkTo.nil | refine MkTo.keep rfl ?_ | refine MkTo.drop (by decide) rfl ?_)))
          · conv => whnf
            obtain ⟨p1, p2, p3, p4, p5⟩ := hpk
            obtain ⟨w1, w2, w3, w4⟩ := hwk
            refine VCode.iter (p.hi - p.lo + 1).toNat (fun k => I (p.lo + k)) (fun k g => GJ h.lift (gYs f i p was (a1, nx) k) g) _ (.loc 5) rfl (vc_years1 p (by omega) (by omega)) rfl rfl rfl (by decide) ?_ ?_ ?_
            · exact ⟨rfl, rfl, rfl, ⟨3, .inl rfl, rfl, rfl⟩, rfl⟩
            · intro k g hk hJ hl
              have hgk := GI.gYs (was := was) (f := f) hgi p1 ⟨w1, w2, w3, w4⟩ p2 p3 p5 k (by omega)
              obtain ⟨E, hE⟩ : ∃ E, E = isE f i p was (p.lo + k) := ⟨_, rfl⟩
              have hnext : gYs f i p was (a1, nx) (k + 1) = bif hasK (gYs f i p was (a1, nx) k).1 E then gYs f i p was (a1, nx) k else ((gYs f i p was (a1, nx) k).1 ++ [(E, was)], (gYs f i p was (a1, nx) k).2 ++ [E]) := by rw [gYs, gY, hE]
              rw [hnext]
              generalize gYs f i p was (a1, nx) k = s at hJ hgk
              obtain ⟨a2, n2⟩ := s
              obtain ⟨y, hy⟩ : ∃ y, y = p.lo + k := ⟨_, rfl⟩
              dsimp only
              rw [← hy] at hE ⊢
              have hyb : 0 ≤ y ∧ y ≤ 3000 := by omega
              obtain ⟨jo, jc, jm, ⟨m, hm, jb, jl⟩, jk⟩ := hJ
              dsimp only at jb jl jm
              have hlen := hgk.len
              dsimp only at hlen
              have hm1 : Vm.Id.loc m ≠ .loc 1 := by intro h0; injection h0; omega
              have hm2 : Vm.Id.loc 2 ≠ .loc m := by intro h0; injection h0; omega
              have hm5 : Vm.Id.loc m ≠ .loc 5 := by intro h0; injection h0; omega
              have hm5' : Vm.Id.loc 5 ≠ .loc m := fun h0 => hm5 h0.symm
              cases hk2 : hasK a2 E
              · obtain ⟨s1, s2, s3⟩ := GJ.step (E := E) (was := was) jo jc jm jb jl jk hm hl
                refine ⟨_, s1, s2, s3 _ hl, fun l => ?_⟩
                refine VRound.tell [(1, .fp (encF f)), (5, .ptr (.out (.loc 0)) 0), (7, .fp [DI i]), (8, .fp (encP p)), (9, .ptr (.out (.loc 2)) 0), (11, .fp (encE was)), (36, I y)] ?_ ?_
                · conv => whnf
                  refine Retell.turn ⟨[], 0, [], []⟩ (TurnOk.mk' _ _ [] [] (OutOk.lift _) rfl (by decide) (by repeat' (first | exact BTos.nil | refine BTos.flat rfl rfl (by first | rfl | simp) ?_ | refine BTos.new rfl ?_ | refine BTos.dead rfl rfl ?_ | refine BTos.esE rfl rfl ?_ | refine BTos.row rfl rfl rfl (RowTo.snoc (RowTo.one rfl (by simp))) ?_ | refine BTos.cells rfl rfl rfl (by repeat' (first | exact VTo.undef | exact FrTo.leaf | refine FrTo.node ?_ ?_ ?_ | refine FrTo.none ?_ ?_ | exact VTo.sc (by first | rfl | (congr 1; omega) | (congr 1; simp; omega)) | exact VTos_dv _ _ | refine VTos.cons ?_ ?_ | exact VTos.nil | refine VTo.agg ?_ | refine VTo.tuple ?_ | refine VTo.func ?_ ?_ | exact VTo.fs | exact VTo.fp | exact VTo.nilptr | exact VTo.nilslice | exact VTo.nilfunc | exact VTo.ptr rfl | exact VTo.gl rfl | exact VTo.map rfl | exact VTo.yld rfl | exact VTo.fmMap rfl | exact VTo.fm | exact VTo.glNil' (by decide) rfl rfl | exact VTo.fsNil (by decide) | exact VTo.fsSl rfl rfl (by simp [flat_len encE_len]) | exact VTo.fpPtr rfl | exact VTo.fsGl rfl (by first | rfl | exact flat_len encI_len _ | exact flat_len encS_len _ | exact flat_len encP_len _ | exact flat_len encL_len _ | exact flat_len encE_len _ | (simp [flat_len encP_len]; done) | simp [flat_len encI_len, flat_len encS_len]))) ?_)) trivial trivial rfl) (by repeat' (first | exact VTo.undef | exact FrTo.leaf | refine FrTo.node ?_ ?_ ?_ | refine FrTo.none ?_ ?_ | exact VTo.sc (by first | rfl | (congr 1; omega) | (congr 1; simp; omega)) | exact VTos_dv _ _ | refine VTos.cons ?_ ?_ | exact VTos.nil | refine VTo.agg ?_ | refine VTo.tuple ?_ | refine VTo.func ?_ ?_ | exact VTo.fs | exact VTo.fp | exact VTo.nilptr | exact VTo.nilslice | exact VTo.nilfunc | exact VTo.ptr rfl | exact VTo.gl rfl | exact VTo.map rfl | exact VTo.yld rfl | exact VTo.fmMap rfl | exact VTo.fm | exact VTo.glNil' (by decide) rfl rfl | exact VTo.fsNil (by decide) | exact VTo.fsSl rfl rfl (by simp [flat_len encE_len]) | exact VTo.fpPtr rfl | exact VTo.fsGl rfl (by first | rfl | exact flat_len encI_len _ | exact flat_len encS_len _ | exact flat_len encP_len _ | exact flat_len encL_len _ | exact flat_len encE_len _ | (simp [flat_len encP_len]; done) | simp [flat_len encI_len, flat_len encS_len]))) (by first | rfl | (repeat' (first | exact MkTo.nil | refine MkTo.keep rfl ?_ | refine MkTo.drop (by decide) rfl ?_)))
                · conv => whnf
                  refine VBegin.intro (get_out hl _) rfl ?_
                  conv => whnf
                  repeat' (first | (refine VLd.intro rfl ?_; conv => whnf) | (refine VArith.i64 (by omega) ?_; conv => whnf) | (refine VNeed.intro (by first | rfl | (simp; omega)) ?_; conv => whnf) | (refine VMem.store rfl rfl rfl rfl ?_; conv => whnf) | (refine VSame.intro rfl ?_; conv => whnf) | (refine VDraw.go [] (by kernel_rfl) (by kernel_rfl) ?_; conv => whnf) | (refine VIte.dec (fun _ => ?_) (fun _ => ?_) <;> conv => whnf) | (refine VIte.ndec (fun _ => ?_) (fun _ => ?_) <;> conv => whnf) | (refine VIte.beq (fun _ => ?_) (fun _ => ?_) <;> conv => whnf) | (refine VIte.bne (fun _ => ?_) (fun _ => ?_) <;> conv => whnf) | (refine VIte.intro (fun _ => ?_) (fun _ => ?_) <;> conv => whnf) | (refine VCall.intro (vc_goes f i y was.year _ (by omega) (by omega) (by omega) (by omega)) ?_; conv => whnf))
                  · rename_i x1 x2 x3
                    rw [isE_go x1, decide_eq_true ⟨x2, x3⟩] at hE
                    dsimp only [cond_true, cond_false] at hE
                    subst hE
                    have hag : alGet a2 ⟨(i : Int), y, -1, p.side, y⟩ = none := by
                      have := hk2; rw [hasK_get] at this
                      cases hz : alGet a2 ⟨(i : Int), y, -1, p.side, y⟩ with
                      | none => rfl
                      | some v => rw [hz] at this; cases this
                    refine VLd.cell rfl rfl (get_setO (by decide) jc _) rfl ?_
                    conv => whnf
                    repeat (first | (refine VLd.intro rfl ?_; conv => whnf) | (refine VArith.i64 (by omega) ?_; conv => whnf) | (refine VNeed.intro (by first | rfl | (simp; omega)) ?_; conv => whnf) | (refine VMem.store rfl rfl rfl rfl ?_; conv => whnf) | (refine VSame.intro rfl ?_; conv => whnf) | (refine VDraw.go [] (by kernel_rfl) (by kernel_rfl) ?_; conv => whnf))
                    refine VLook.intro (es := esE a2) ((get_setO (by decide) jm _).trans (by rw [esE_ren])) (look_esE a2 ⟨(i : Int), y, -1, p.side, y⟩) ?_
                    rw [hag]
                    conv => whnf
                    repeat (first | (refine VLd.intro rfl ?_; conv => whnf) | (refine VArith.i64 (by omega) ?_; conv => whnf) | (refine VNeed.intro (by first | rfl | (simp; omega)) ?_; conv => whnf) | (refine VMem.store rfl rfl rfl rfl ?_; conv => whnf) | (refine VSame.intro rfl ?_; conv => whnf) | (refine VDraw.go [] (by kernel_rfl) (by kernel_rfl) ?_; conv => whnf))
                    refine VLd.cell rfl rfl (get_setO (by decide) jc _) rfl ?_
                    conv => whnf
                    repeat (first | (refine VLd.intro rfl ?_; conv => whnf) | (refine VArith.i64 (by omega) ?_; conv => whnf) | (refine VNeed.intro (by first | rfl | (simp; omega)) ?_; conv => whnf) | (refine VMem.store rfl rfl rfl rfl ?_; conv => whnf) | (refine VSame.intro rfl ?_; conv => whnf) | (refine VDraw.go [] (by kernel_rfl) (by kernel_rfl) ?_; conv => whnf))
                    refine VMem.newE (a := a2) (e := ⟨(i : Int), y, -1, p.side, y⟩) (v := was) ((get_setO (by decide) jm _).trans (by rw [esE_ren])) hk2 ?_
                    conv => whnf
                    refine VLd.cell rfl rfl (get_outNe (by decide) (get_setO (by decide) jb _)) rfl ?_
                    conv => whnf
                    repeat (first | (refine VLd.intro rfl ?_; conv => whnf) | (refine VArith.i64 (by omega) ?_; conv => whnf) | (refine VNeed.intro (by first | rfl | (simp; omega)) ?_; conv => whnf) | (refine VMem.store rfl rfl rfl rfl ?_; conv => whnf) | (refine VSame.intro rfl ?_; conv => whnf) | (refine VDraw.go [] (by kernel_rfl) (by kernel_rfl) ?_; conv => whnf))
                    refine VMem.app1B (α := End) (l := n2) ⟨(i : Int), y, -1, p.side, y⟩ encE_len rfl (get_outNe hm1 (get_setO hm5 jl _)) rfl rfl rfl (by omega) ?_
                    conv => whnf
                    repeat (first | (refine VLd.intro rfl ?_; conv => whnf) | (refine VArith.i64 (by omega) ?_; conv => whnf) | (refine VNeed.intro (by first | rfl | (simp; omega)) ?_; conv => whnf) | (refine VMem.store rfl rfl rfl rfl ?_; conv => whnf) | (refine VSame.intro rfl ?_; conv => whnf) | (refine VDraw.go [] (by kernel_rfl) (by kernel_rfl) ?_; conv => whnf))
                    refine VMem.st1 rfl rfl rfl (b := .cells true [.gl (.out (.loc m)) 5 n2.length]) (get_outNe hm2 (get_outNe (by decide) (get_setO (by decide) jb _))) rfl ?_
                    conv => whnf
                    refine RFin.on (get_outNe (by decide) (get_outNe hm5' (get_outNe (by decide) (outW_get _ _ _ _)))) ?_
                    refine VOut.upd [(.loc 1, .map (esE (a2 ++ [(⟨(i : Int), y, -1, p.side, y⟩, was)]))), (.loc m, .dead), (.loc 2, .cells true [.gl g.fresh 5 (n2.length + 1)])] [.flat true ((n2 ++ ([⟨(i : Int), y, -1, p.side, y⟩] : List End)).flatMap encE)] [3] 4 ?_ (upd_ok jb jm jl) ?_ ?_ ?_ ?_ ?_
                    · rfl
                    · decide
                    · rfl
                    · intro k b hk
                      cases k with
                      | zero => rw [List.getElem?_cons_zero, Option.some.injEq] at hk; subst hk; exact ⟨3, rfl, rfl⟩
                      | succ k => simp at hk
                    · intro σ x hx; exact hx
                    · have e1 : (Blk.cells true [V.gl g.fresh 5 (n2.length + 1)]).ren (backR g.loc.length [3] 4) = .cells true [.gl (.loc 3) 5 (n2.length + 1)] := by simp [Blk.ren, V.ren, backR, Hp.fresh]
                      simp only [List.map_cons, List.map_nil, e1, esE_ren]
                      exact outer_fix (get_out hl []) (by decide) hm5' (by decide)
                  · rename_i x1 x2 x3
                    rw [isE_go x1, decide_eq_false (fun hh => x3 hh.2)] at hE
                    dsimp only [cond_true, cond_false] at hE
                    subst hE
                    have hag : alGet a2 ⟨(i : Int), y, was.first, was.side, was.since⟩ = none := by
                      have := hk2; rw [hasK_get] at this
                      cases hz : alGet a2 ⟨(i : Int), y, was.first, was.side, was.since⟩ with
                      | none => rfl
                      | some v => rw [hz] at this; cases this
                    refine VLd.cell rfl rfl (get_setO (by decide) jc _) rfl ?_
                    conv => whnf
                    repeat (first | (refine VLd.intro rfl ?_; conv => whnf) | (refine VArith.i64 (by omega) ?_; conv => whnf) | (refine VNeed.intro (by first | rfl | (simp; omega)) ?_; conv => whnf) | (refine VMem.store rfl rfl rfl rfl ?_; conv => whnf) | (refine VSame.intro rfl ?_; conv => whnf) | (refine VDraw.go [] (by kernel_rfl) (by kernel_rfl) ?_; conv => whnf))
                    refine VLook.intro (es := esE a2) ((get_setO (by decide) jm _).trans (by rw [esE_ren])) (look_esE a2 ⟨(i : Int), y, was.first, was.side, was.since⟩) ?_
                    rw [hag]
                    conv => whnf
                    repeat (first | (refine VLd.intro rfl ?_; conv => whnf) | (refine VArith.i64 (by omega) ?_; conv => whnf) | (refine VNeed.intro (by first | rfl | (simp; omega)) ?_; conv => whnf) | (refine VMem.store rfl rfl rfl rfl ?_; conv => whnf) | (refine VSame.intro rfl ?_; conv => whnf) | (refine VDraw.go [] (by kernel_rfl) (by kernel_rfl) ?_; conv => whnf))
                    refine VLd.cell rfl rfl (get_setO (by decide) jc _) rfl ?_
                    conv => whnf
                    repeat (first | (refine VLd.intro rfl ?_; conv => whnf) | (refine VArith.i64 (by omega) ?_; conv => whnf) | (refine VNeed.intro (by first | rfl | (simp; omega)) ?_; conv => whnf) | (refine VMem.store rfl rfl rfl rfl ?_; conv => whnf) | (refine VSame.intro rfl ?_; conv => whnf) | (refine VDraw.go [] (by kernel_rfl) (by kernel_rfl) ?_; conv => whnf))
                    refine VMem.newE (a := a2) (e := ⟨(i : Int), y, was.first, was.side, was.since⟩) (v := was) ((get_setO (by decide) jm _).trans (by rw [esE_ren])) hk2 ?_
                    conv => whnf
                    refine VLd.cell rfl rfl (get_outNe (by decide) (get_setO (by decide) jb _)) rfl ?_
                    conv => whnf
                    repeat (first | (refine VLd.intro rfl ?_; conv => whnf) | (refine VArith.i64 (by omega) ?_; conv => whnf) | (refine VNeed.intro (by first | rfl | (simp; omega)) ?_; conv => whnf) | (refine VMem.store rfl rfl rfl rfl ?_; conv => whnf) | (refine VSame.intro rfl ?_; conv => whnf) | (refine VDraw.go [] (by kernel_rfl) (by kernel_rfl) ?_; conv => whnf))
                    refine VMem.app1B (α := End) (l := n2) ⟨(i : Int), y, was.first, was.side, was.since⟩ encE_len rfl (get_outNe hm1 (get_setO hm5 jl _)) rfl rfl rfl (by omega) ?_
                    conv => whnf
                    repeat (first | (refine VLd.intro rfl ?_; conv => whnf) | (refine VArith.i64 (by omega) ?_; conv => whnf) | (refine VNeed.intro (by first | rfl | (simp; omega)) ?_; conv => whnf) | (refine VMem.store rfl rfl rfl rfl ?_; conv => whnf) | (refine VSame.intro rfl ?_; conv => whnf) | (refine VDraw.go [] (by kernel_rfl) (by kernel_rfl) ?_; conv => whnf))
                    refine VMem.st1 rfl rfl rfl (b := .cells true [.gl (.out (.loc m)) 5 n2.length]) (get_outNe hm2 (get_outNe (by decide) (get_setO (by decide) jb _))) rfl ?_
                    conv => whnf
                    refine RFin.on (get_outNe (by decide) (get_outNe hm5' (get_outNe (by decide) (outW_get _ _ _ _)))) ?_
                    refine VOut.upd [(.loc 1, .map (esE (a2 ++ [(⟨(i : Int), y, was.first, was.side, was.since⟩, was)]))), (.loc m, .dead), (.loc 2, .cells true [.gl g.fresh 5 (n2.length + 1)])] [.flat true ((n2 ++ ([⟨(i : Int), y, was.first, was.side, was.since⟩] : List End)).flatMap encE)] [3] 4 ?_ (upd_ok jb jm jl) ?_ ?_ ?_ ?_ ?_
                    · rfl
                    · decide
                    · rfl
                    · intro k b hk
                      cases k with
                      | zero => rw [List.getElem?_cons_zero, Option.some.injEq] at hk; subst hk; exact ⟨3, rfl, rfl⟩
                      | succ k => simp at hk
                    · intro σ x hx; exact hx
                    · have e1 : (Blk.cells true [V.gl g.fresh 5 (n2.length + 1)]).ren (backR g.loc.length [3] 4) = .cells true [.gl (.loc 3) 5 (n2.length + 1)] := by simp [Blk.ren, V.ren, backR, Hp.fresh]
                      simp only [List.map_cons, List.map_nil, e1, esE_ren]
                      exact outer_fix (get_out hl []) (by decide) hm5' (by decide)
                  · rename_i x1 x2
                    rw [isE_go x1, decide_eq_false (fun hh => hh.1 x2)] at hE
                    dsimp only [cond_true, cond_false] at hE
                    subst hE
                    have hag : alGet a2 ⟨(i : Int), y, was.first, was.side, was.since⟩ = none := by
                      have := hk2; rw [hasK_get] at this
                      cases hz : alGet a2 ⟨(i : Int), y, was.first, was.side, was.since⟩ with
                      | none => rfl
                      | some v => rw [hz] at this; cases this
                    refine VLd.cell rfl rfl (get_setO (by decide) jc _) rfl ?_
                    conv => whnf
                    repeat (first | (refine VLd.intro rfl ?_; conv => whnf) | (refine VArith.i64 (by omega) ?_; conv => whnf) | (refine VNeed.intro (by first | rfl | (simp; omega)) ?_; conv => whnf) | (refine VMem.store rfl rfl rfl rfl ?_; conv => whnf) | (refine VSame.intro rfl ?_; conv => whnf) | (refine VDraw.go [] (by kernel_rfl) (by kernel_rfl) ?_; conv => whnf))
                    refine VLook.intro (es := esE a2) ((get_setO (by decide) jm _).trans (by rw [esE_ren])) (look_esE a2 ⟨(i : Int), y, was.first, was.side, was.since⟩) ?_
                    rw [hag]
                    conv => whnf
                    repeat (first | (refine VLd.intro rfl ?_; conv => whnf) | (refine VArith.i64 (by omega) ?_; conv => whnf) | (refine VNeed.intro (by first | rfl | (simp; omega)) ?_; conv => whnf) | (refine VMem.store rfl rfl rfl rfl ?_; conv => whnf) | (refine VSame.intro rfl ?_; conv => whnf) | (refine VDraw.go [] (by kernel_rfl) (by kernel_rfl) ?_; conv => whnf))
                    refine VLd.cell rfl rfl (get_setO (by decide) jc _) rfl ?_
                    conv => whnf
                    repeat (first | (refine VLd.intro rfl ?_; conv => whnf) | (refine VArith.i64 (by omega) ?_; conv => whnf) | (refine VNeed.intro (by first | rfl | (simp; omega)) ?_; conv => whnf) | (refine VMem.store rfl rfl rfl rfl ?_; conv => whnf) | (refine VSame.intro rfl ?_; conv => whnf) | (refine VDraw.go [] (by kernel_rfl) (by kernel_rfl) ?_; conv => whnf))
                    refine VMem.newE (a := a2) (e := ⟨(i : Int), y, was.first, was.side, was.since⟩) (v := was) ((get_setO (by decide) jm _).trans (by rw [esE_ren])) hk2 ?_
                    conv => whnf
                    refine VLd.cell rfl rfl (get_outNe (by decide) (get_setO (by decide) jb _)) rfl ?_
                    conv => whnf
                    repeat (first | (refine VLd.intro rfl ?_; conv => whnf) | (refine VArith.i64 (by omega) ?_; conv => whnf) | (refine VNeed.intro (by first | rfl | (simp; omega)) ?_; conv => whnf) | (refine VMem.store rfl rfl rfl rfl ?_; conv => whnf) | (refine VSame.intro rfl ?_; conv => whnf) | (refine VDraw.go [] (by kernel_rfl) (by kernel_rfl) ?_; conv => whnf))
                    refine VMem.app1B (α := End) (l := n2) ⟨(i : Int), y, was.first, was.side, was.since⟩ encE_len rfl (get_outNe hm1 (get_setO hm5 jl _)) rfl rfl rfl (by omega) ?_
                    conv => whnf
                    repeat (first | (refine VLd.intro rfl ?_; conv => whnf) | (refine VArith.i64 (by omega) ?_; conv => whnf) | (refine VNeed.intro (by first | rfl | (simp; omega)) ?_; conv => whnf) | (refine VMem.store rfl rfl rfl rfl ?_; conv => whnf) | (refine VSame.intro rfl ?_; conv => whnf) | (refine VDraw.go [] (by kernel_rfl) (by kernel_rfl) ?_; conv => whnf))
                    refine VMem.st1 rfl rfl rfl (b := .cells true [.gl (.out (.loc m)) 5 n2.length]) (get_outNe hm2 (get_outNe (by decide) (get_setO (by decide) jb _))) rfl ?_
                    conv => whnf
                    refine RFin.on (get_outNe (by decide) (get_outNe hm5' (get_outNe (by decide) (outW_get _ _ _ _)))) ?_
                    refine VOut.upd [(.loc 1, .map (esE (a2 ++ [(⟨(i : Int), y, was.first, was.side, was.since⟩, was)]))), (.loc m, .dead), (.loc 2, .cells true [.gl g.fresh 5 (n2.length + 1)])] [.flat true ((n2 ++ ([⟨(i : Int), y, was.first, was.side, was.since⟩] : List End)).flatMap encE)] [3] 4 ?_ (upd_ok jb jm jl) ?_ ?_ ?_ ?_ ?_
                    · rfl
                    · decide
                    · rfl
                    · intro k b hk
                      cases k with
                      | zero => rw [List.getElem?_cons_zero, Option.some.injEq] at hk; subst hk; exact ⟨3, rfl, rfl⟩
                      | succ k => simp at hk
                    · intro σ x hx; exact hx
                    · have e1 : (Blk.cells true [V.gl g.fresh 5 (n2.length + 1)]).ren (backR g.loc.length [3] 4) = .cells true [.gl (.loc 3) 5 (n2.length + 1)] := by simp [Blk.ren, V.ren, backR, Hp.fresh]
                      simp only [List.map_cons, List.map_nil, e1, esE_ren]
                      exact outer_fix (get_out hl []) (by decide) hm5' (by decide)
                  · rename_i x1 x2 x3
                    rw [isE_no x1, decide_eq_true ⟨x2, x3⟩] at hE
                    dsimp only [cond_true, cond_false] at hE
                    subst hE
                    have hag : alGet a2 ⟨(i : Int), y, -1, p.side, y⟩ = none := by
                      have := hk2; rw [hasK_get] at this
                      cases hz : alGet a2 ⟨(i : Int), y, -1, p.side, y⟩ with
                      | none => rfl
                      | some v => rw [hz] at this; cases this
                    refine VLd.cell rfl rfl (get_setO (by decide) jc _) rfl ?_
                    conv => whnf
                    repeat (first | (refine VLd.intro rfl ?_; conv => whnf) | (refine VArith.i64 (by omega) ?_; conv => whnf) | (refine VNeed.intro (by first | rfl | (simp; omega)) ?_; conv => whnf) | (refine VMem.store rfl rfl rfl rfl ?_; conv => whnf) | (refine VSame.intro rfl ?_; conv => whnf) | (refine VDraw.go [] (by kernel_rfl) (by kernel_rfl) ?_; conv => whnf))
                    refine VLook.intro (es := esE a2) ((get_setO (by decide) jm _).trans (by rw [esE_ren])) (look_esE a2 ⟨(i : Int), y, -1, p.side, y⟩) ?_
                    rw [hag]
                    conv => whnf
                    repeat (first | (refine VLd.intro rfl ?_; conv => whnf) | (refine VArith.i64 (by omega) ?_; conv => whnf) | (refine VNeed.intro (by first | rfl | (simp; omega)) ?_; conv => whnf) | (refine VMem.store rfl rfl rfl rfl ?_; conv => whnf) | (refine VSame.intro rfl ?_; conv => whnf) | (refine VDraw.go [] (by kernel_rfl) (by kernel_rfl) ?_; conv => whnf))
                    refine VLd.cell rfl rfl (get_setO (by decide) jc _) rfl ?_
                    conv => whnf
                    repeat (first | (refine VLd.intro rfl ?_; conv => whnf) | (refine VArith.i64 (by omega) ?_; conv => whnf) | (refine VNeed.intro (by first | rfl | (simp; omega)) ?_; conv => whnf) | (refine VMem.store rfl rfl rfl rfl ?_; conv => whnf) | (refine VSame.intro rfl ?_; conv => whnf) | (refine VDraw.go [] (by kernel_rfl) (by kernel_rfl) ?_; conv => whnf))
                    refine VMem.newE (a := a2) (e := ⟨(i : Int), y, -1, p.side, y⟩) (v := was) ((get_setO (by decide) jm _).trans (by rw [esE_ren])) hk2 ?_
                    conv => whnf
                    refine VLd.cell rfl rfl (get_outNe (by decide) (get_setO (by decide) jb _)) rfl ?_
                    conv => whnf
                    repeat (first | (refine VLd.intro rfl ?_; conv => whnf) | (refine VArith.i64 (by omega) ?_; conv => whnf) | (refine VNeed.intro (by first | rfl | (simp; omega)) ?_; conv => whnf) | (refine VMem.store rfl rfl rfl rfl ?_; conv => whnf) | (refine VSame.intro rfl ?_; conv => whnf) | (refine VDraw.go [] (by kernel_rfl) (by kernel_rfl) ?_; conv => whnf))
                    refine VMem.app1B (α := End) (l := n2) ⟨(i : Int), y, -1, p.side, y⟩ encE_len rfl (get_outNe hm1 (get_setO hm5 jl _)) rfl rfl rfl (by omega) ?_
                    conv => whnf
                    repeat (first | (refine VLd.intro rfl ?_; conv => whnf) | (refine VArith.i64 (by omega) ?_; conv => whnf) | (refine VNeed.intro (by first | rfl | (simp; omega)) ?_; conv => whnf) | (refine VMem.store rfl rfl rfl rfl ?_; conv => whnf) | (refine VSame.intro rfl ?_; conv => whnf) | (refine VDraw.go [] (by kernel_rfl) (by kernel_rfl) ?_; conv => whnf))
                    refine VMem.st1 rfl rfl rfl (b := .cells true [.gl (.out (.loc m)) 5 n2.length]) (get_outNe hm2 (get_outNe (by decide) (get_setO (by decide) jb _))) rfl ?_
                    conv => whnf
                    refine RFin.on (get_outNe (by decide) (get_outNe hm5' (get_outNe (by decide) (outW_get _ _ _ _)))) ?_
                    refine VOut.upd [(.loc 1, .map (esE (a2 ++ [(⟨(i : Int), y, -1, p.side, y⟩, was)]))), (.loc m, .dead), (.loc 2, .cells true [.gl g.fresh 5 (n2.length + 1)])] [.flat true ((n2 ++ ([⟨(i : Int), y, -1, p.side, y⟩] : List End)).flatMap encE)] [3] 4 ?_ (upd_ok jb jm jl) ?_ ?_ ?_ ?_ ?_
                    · rfl
                    · decide
                    · rfl
                    · intro k b hk
                      cases k with
                      | zero => rw [List.getElem?_cons_zero, Option.some.injEq] at hk; subst hk; exact ⟨3, rfl, rfl⟩
                      | succ k => simp at hk
                    · intro σ x hx; exact hx
                    · have e1 : (Blk.cells true [V.gl g.fresh 5 (n2.length + 1)]).ren (backR g.loc.length [3] 4) = .cells true [.gl (.loc 3) 5 (n2.length + 1)] := by simp [Blk.ren, V.ren, backR, Hp.fresh]
                      simp only [List.map_cons, List.map_nil, e1, esE_ren]
                      exact outer_fix (get_out hl []) (by decide) hm5' (by decide)
                  · rename_i x1 x2 x3
                    rw [isE_no x1, decide_eq_false (fun hh => x3 hh.2)] at hE
                    dsimp only [cond_true, cond_false] at hE
                    subst hE
                    have hag : alGet a2 ⟨(i : Int), y, y, was.side, was.since⟩ = none := by
                      have := hk2; rw [hasK_get] at this
                      cases hz : alGet a2 ⟨(i : Int), y, y, was.side, was.since⟩ with
                      | none => rfl
                      | some v => rw [hz] at this; cases this
                    refine VLd.cell rfl rfl (get_setO (by decide) jc _) rfl ?_
                    conv => whnf
                    repeat (first | (refine VLd.intro rfl ?_; conv => whnf) | (refine VArith.i64 (by omega) ?_; conv => whnf) | (refine VNeed.intro (by first | rfl | (simp; omega)) ?_; conv => whnf) | (refine VMem.store rfl rfl rfl rfl ?_; conv => whnf) | (refine VSame.intro rfl ?_; conv => whnf) | (refine VDraw.go [] (by kernel_rfl) (by kernel_rfl) ?_; conv => whnf))
                    refine VLook.intro (es := esE a2) ((get_setO (by decide) jm _).trans (by rw [esE_ren])) (look_esE a2 ⟨(i : Int), y, y, was.side, was.since⟩) ?_
                    rw [hag]
                    conv => whnf
                    repeat (first | (refine VLd.intro rfl ?_; conv => whnf) | (refine VArith.i64 (by omega) ?_; conv => whnf) | (refine VNeed.intro (by first | rfl | (simp; omega)) ?_; conv => whnf) | (refine VMem.store rfl rfl rfl rfl ?_; conv => whnf) | (refine VSame.intro rfl ?_; conv => whnf) | (refine VDraw.go [] (by kernel_rfl) (by kernel_rfl) ?_; conv => whnf))
                    refine VLd.cell rfl rfl (get_setO (by decide) jc _) rfl ?_
                    conv => whnf
                    repeat (first | (refine VLd.intro rfl ?_; conv => whnf) | (refine VArith.i64 (by omega) ?_; conv => whnf) | (refine VNeed.intro (by first | rfl | (simp; omega)) ?_; conv => whnf) | (refine VMem.store rfl rfl rfl rfl ?_; conv => whnf) | (refine VSame.intro rfl ?_; conv => whnf) | (refine VDraw.go [] (by kernel_rfl) (by kernel_rfl) ?_; conv => whnf))
                    refine VMem.newE (a := a2) (e := ⟨(i : Int), y, y, was.side, was.since⟩) (v := was) ((get_setO (by decide) jm _).trans (by rw [esE_ren])) hk2 ?_
                    conv => whnf
                    refine VLd.cell rfl rfl (get_outNe (by decide) (get_setO (by decide) jb _)) rfl ?_
                    conv => whnf
                    repeat (first | (refine VLd.intro rfl ?_; conv => whnf) | (refine VArith.i64 (by omega) ?_; conv => whnf) | (refine VNeed.intro (by first | rfl | (simp; omega)) ?_; conv => whnf) | (refine VMem.store rfl rfl rfl rfl ?_; conv => whnf) | (refine VSame.intro rfl ?_; conv => whnf) | (refine VDraw.go [] (by kernel_rfl) (by kernel_rfl) ?_; conv => whnf))
                    refine VMem.app1B (α := End) (l := n2) ⟨(i : Int), y, y, was.side, was.since⟩ encE_len rfl (get_outNe hm1 (get_setO hm5 jl _)) rfl rfl rfl (by omega) ?_
                    conv => whnf
                    repeat (first | (refine VLd.intro rfl ?_; conv => whnf) | (refine VArith.i64 (by omega) ?_; conv => whnf) | (refine VNeed.intro (by first | rfl | (simp; omega)) ?_; conv => whnf) | (refine VMem.store rfl rfl rfl rfl ?_; conv => whnf) | (refine VSame.intro rfl ?_; conv => whnf) | (refine VDraw.go [] (by kernel_rfl) (by kernel_rfl) ?_; conv => whnf))
                    refine VMem.st1 rfl rfl rfl (b := .cells true [.gl (.out (.loc m)) 5 n2.length]) (get_outNe hm2 (get_outNe (by decide) (get_setO (by decide) jb _))) rfl ?_
                    conv => whnf
                    refine RFin.on (get_outNe (by decide) (get_outNe hm5' (get_outNe (by decide) (outW_get _ _ _ _)))) ?_
                    refine VOut.upd [(.loc 1, .map (esE (a2 ++ [(⟨(i : Int), y, y, was.side, was.since⟩, was)]))), (.loc m, .dead), (.loc 2, .cells true [.gl g.fresh 5 (n2.length + 1)])] [.flat true ((n2 ++ ([⟨(i : Int), y, y, was.side, was.since⟩] : List End)).flatMap encE)] [3] 4 ?_ (upd_ok jb jm jl) ?_ ?_ ?_ ?_ ?_
                    · rfl
                    · decide
                    · rfl
                    · intro k b hk
                      cases k with
                      | zero => rw [List.getElem?_cons_zero, Option.some.injEq] at hk; subst hk; exact ⟨3, rfl, rfl⟩
                      | succ k => simp at hk
                    · intro σ x hx; exact hx
                    · have e1 : (Blk.cells true [V.gl g.fresh 5 (n2.length + 1)]).ren (backR g.loc.length [3] 4) = .cells true [.gl (.loc 3) 5 (n2.length + 1)] := by simp [Blk.ren, V.ren, backR, Hp.fresh]
                      simp only [List.map_cons, List.map_nil, e1, esE_ren]
                      exact outer_fix (get_out hl []) (by decide) hm5' (by decide)
                  · rename_i x1 x2
                    rw [isE_no x1, decide_eq_false (fun hh => hh.1 x2)] at hE
                    dsimp only [cond_true, cond_false] at hE
                    subst hE
                    have hag : alGet a2 ⟨(i : Int), y, y, was.side, was.since⟩ = none := by
                      have := hk2; rw [hasK_get] at this
                      cases hz : alGet a2 ⟨(i : Int), y, y, was.side, was.since⟩ with
                      | none => rfl
                      | some v => rw [hz] at this; cases this
                    refine VLd.cell rfl rfl (get_setO (by decide) jc _) rfl ?_
                    conv => whnf
                    repeat (first | (refine VLd.intro rfl ?_; conv => whnf) | (refine VArith.i64 (by omega) ?_; conv => whnf) | (refine VNeed.intro (by first | rfl | (simp; omega)) ?_; conv => whnf) | (refine VMem.store rfl rfl rfl rfl ?_; conv => whnf) | (refine VSame.intro rfl ?_; conv => whnf) | (refine VDraw.go [] (by kernel_rfl) (by kernel_rfl) ?_; conv => whnf))
                    refine VLook.intro (es := esE a2) ((get_setO (by decide) jm _).trans (by rw [esE_ren])) (look_esE a2 ⟨(i : Int), y, y, was.side, was.since⟩) ?_
                    rw [hag]
                    conv => whnf
                    repeat (first | (refine VLd.intro rfl ?_; conv => whnf) | (refine VArith.i64 (by omega) ?_; conv => whnf) | (refine VNeed.intro (by first | rfl | (simp; omega)) ?_; conv => whnf) | (refine VMem.store rfl rfl rfl rfl ?_; conv => whnf) | (refine VSame.intro rfl ?_; conv => whnf) | (refine VDraw.go [] (by kernel_rfl) (by kernel_rfl) ?_; conv => whnf))
                    refine VLd.cell rfl rfl (get_setO (by decide) jc _) rfl ?_
                    conv => whnf
                    repeat (first | (refine VLd.intro rfl ?_; conv => whnf) | (refine VArith.i64 (by omega) ?_; conv => whnf) | (refine VNeed.intro (by first | rfl | (simp; omega)) ?_; conv => whnf) | (refine VMem.store rfl rfl rfl rfl ?_; conv => whnf) | (refine VSame.intro rfl ?_; conv => whnf) | (refine VDraw.go [] (by kernel_rfl) (by kernel_rfl) ?_; conv => whnf))
                    refine VMem.newE (a := a2) (e := ⟨(i : Int), y, y, was.side, was.since⟩) (v := was) ((get_setO (by decide) jm _).trans (by rw [esE_ren])) hk2 ?_
                    conv => whnf
                    refine VLd.cell rfl rfl (get_outNe (by decide) (get_setO (by decide) jb _)) rfl ?_
                    conv => whnf
                    repeat (first | (refine VLd.intro rfl ?_; conv => whnf) | (refine VArith.i64 (by omega) ?_; conv => whnf) | (refine VNeed.intro (by first | rfl | (simp; omega)) ?_; conv => whnf) | (refine VMem.store rfl rfl rfl rfl ?_; conv => whnf) | (refine VSame.intro rfl ?_; conv => whnf) | (refine VDraw.go [] (by kernel_rfl) (by kernel_rfl) ?_; conv => whnf))
                    refine VMem.app1B (α := End) (l := n2) ⟨(i : Int), y, y, was.side, was.since⟩ encE_len rfl (get_outNe hm1 (get_setO hm5 jl _)) rfl rfl rfl (by omega) ?_
                    conv => whnf
                    repeat (first | (refine VLd.intro rfl ?_; conv => whnf) | (refine VArith.i64 (by omega) ?_; conv => whnf) | (refine VNeed.intro (by first | rfl | (simp; omega)) ?_; conv => whnf) | (refine VMem.store rfl rfl rfl rfl ?_; conv => whnf) | (refine VSame.intro rfl ?_; conv => whnf) | (refine VDraw.go [] (by kernel_rfl) (by kernel_rfl) ?_; conv => whnf))
                    refine VMem.st1 rfl rfl rfl (b := .cells true [.gl (.out (.loc m)) 5 n2.length]) (get_outNe hm2 (get_outNe (by decide) (get_setO (by decide) jb _))) rfl ?_
                    conv => whnf
                    refine RFin.on (get_outNe (by decide) (get_outNe hm5' (get_outNe (by decide) (outW_get _ _ _ _)))) ?_
                    refine VOut.upd [(.loc 1, .map (esE (a2 ++ [(⟨(i : Int), y, y, was.side, was.since⟩, was)]))), (.loc m, .dead), (.loc 2, .cells true [.gl g.fresh 5 (n2.length + 1)])] [.flat true ((n2 ++ ([⟨(i : Int), y, y, was.side, was.since⟩] : List End)).flatMap encE)] [3] 4 ?_ (upd_ok jb jm jl) ?_ ?_ ?_ ?_ ?_
                    · rfl
                    · decide
                    · rfl
                    · intro k b hk
                      cases k with
                      | zero => rw [List.getElem?_cons_zero, Option.some.injEq] at hk; subst hk; exact ⟨3, rfl, rfl⟩
                      | succ k => simp at hk
                    · intro σ x hx; exact hx
                    · have e1 : (Blk.cells true [V.gl g.fresh 5 (n2.length + 1)]).ren (backR g.loc.length [3] 4) = .cells true [.gl (.loc 3) 5 (n2.length + 1)] := by simp [Blk.ren, V.ren, backR, Hp.fresh]
                      simp only [List.map_cons, List.map_nil, e1, esE_ren]
                      exact outer_fix (get_out hl []) (by decide) hm5' (by decide)
              · refine ⟨g, g.grows_refl, ⟨jo, jc, jm, ⟨m, hm, jb, jl⟩, jk⟩, hl, fun l => ?_⟩
                refine VRound.tell [(1, .fp (encF f)), (5, .ptr (.out (.loc 0)) 0), (7, .fp [DI i]), (8, .fp (encP p)), (9, .ptr (.out (.loc 2)) 0), (11, .fp (encE was)), (36, I y)] ?_ ?_
                · conv => whnf
                  refine Retell.turn ⟨[], 0, [], []⟩ (TurnOk.mk' _ _ [] [] (OutOk.lift _) rfl (by decide) (by repeat' (first | exact BTos.nil | refine BTos.flat rfl rfl (by first | rfl | simp) ?_ | refine BTos.new rfl ?_ | refine BTos.dead rfl rfl ?_ | refine BTos.esE rfl rfl ?_ | refine BTos.row rfl rfl rfl (RowTo.snoc (RowTo.one rfl (by simp))) ?_ | refine BTos.cells rfl rfl rfl (by repeat' (first | exact VTo.undef | exact FrTo.leaf | refine FrTo.node ?_ ?_ ?_ | refine FrTo.none ?_ ?_ | exact VTo.sc (by first | rfl | (congr 1; omega) | (congr 1; simp; omega)) | exact VTos_dv _ _ | refine VTos.cons ?_ ?_ | exact VTos.nil | refine VTo.agg ?_ | refine VTo.tuple ?_ | refine VTo.func ?_ ?_ | exact VTo.fs | exact VTo.fp | exact VTo.nilptr | exact VTo.nilslice | exact VTo.nilfunc | exact VTo.ptr rfl | exact VTo.gl rfl | exact VTo.map rfl | exact VTo.yld rfl | exact VTo.fmMap rfl | exact VTo.fm | exact VTo.glNil' (by decide) rfl rfl | exact VTo.fsNil (by decide) | exact VTo.fsSl rfl rfl (by simp [flat_len encE_len]) | exact VTo.fpPtr rfl | exact VTo.fsGl rfl (by first | rfl | exact flat_len encI_len _ | exact flat_len encS_len _ | exact flat_len encP_len _ | exact flat_len encL_len _ | exact flat_len encE_len _ | (simp [flat_len encP_len]; done) | simp [flat_len encI_len, flat_len encS_len]))) ?_)) trivial trivial rfl) (by repeat' (first | exact VTo.undef | exact FrTo.leaf | refine FrTo.node ?_ ?_ ?_ | refine FrTo.none ?_ ?_ | exact VTo.sc (by first | rfl | (congr 1; omega) | (congr 1; simp; omega)) | exact VTos_dv _ _ | refine VTos.cons ?_ ?_ | exact VTos.nil | refine VTo.agg ?_ | refine VTo.tuple ?_ | refine VTo.func ?_ ?_ | exact VTo.fs | exact VTo.fp | exact VTo.nilptr | exact VTo.nilslice | exact VTo.nilfunc | exact VTo.ptr rfl | exact VTo.gl rfl | exact VTo.map rfl | exact VTo.yld rfl | exact VTo.fmMap rfl | exact VTo.fm | exact VTo.glNil' (by decide) rfl rfl | exact VTo.fsNil (by decide) | exact VTo.fsSl rfl rfl (by simp [flat_len encE_len]) | exact VTo.fpPtr rfl | exact VTo.fsGl rfl (by first | rfl | exact flat_len encI_len _ | exact flat_len encS_len _ | exact flat_len encP_len _ | exact flat_len encL_len _ | exact flat_len encE_len _ | (simp [flat_len encP_len]; done) | simp [flat_len encI_len, flat_len encS_len]))) (by first | rfl | (repeat' (first | exact MkTo.nil | refine MkTo.keep rfl ?_ | refine MkTo.drop (by decide) rfl ?_)))
                · conv => whnf
                  refine VBegin.intro (get_out hl _) rfl ?_
                  conv => whnf
                  repeat' (first | (refine VLd.intro rfl ?_; conv => whnf) | (refine VArith.i64 (by omega) ?_; conv => whnf) | (refine VNeed.intro (by first | rfl | (simp; omega)) ?_; conv => whnf) | (refine VMem.store rfl rfl rfl rfl ?_; conv => whnf) | (refine VSame.intro rfl ?_; conv => whnf) | (refine VDraw.go [] (by kernel_rfl) (by kernel_rfl) ?_; conv => whnf) | (refine VIte.dec (fun _ => ?_) (fun _ => ?_) <;> conv => whnf) | (refine VIte.ndec (fun _ => ?_) (fun _ => ?_) <;> conv => whnf) | (refine VIte.beq (fun _ => ?_) (fun _ => ?_) <;> conv => whnf) | (refine VIte.bne (fun _ => ?_) (fun _ => ?_) <;> conv => whnf) | (refine VIte.intro (fun _ => ?_) (fun _ => ?_) <;> conv => whnf) | (refine VCall.intro (vc_goes f i y was.year _ (by omega) (by omega) (by omega) (by omega)) ?_; conv => whnf))
                  · rename_i x1 x2 x3
                    rw [isE_go x1, decide_eq_true ⟨x2, x3⟩] at hE
                    dsimp only [cond_true, cond_false] at hE
                    subst hE
                    have hag : ∃ v, alGet a2 ⟨(i : Int), y, -1, p.side, y⟩ = some v := by
                      have := hk2; rw [hasK_get] at this
                      cases hz : alGet a2 ⟨(i : Int), y, -1, p.side, y⟩ with
                      | none => rw [hz] at this; cases this
                      | some v => exact ⟨v, rfl⟩
                    obtain ⟨v, hag⟩ := hag
                    refine VLd.cell rfl rfl (get_setO (by decide) jc _) rfl ?_
                    conv => whnf
                    repeat (first | (refine VLd.intro rfl ?_; conv => whnf) | (refine VArith.i64 (by omega) ?_; conv => whnf) | (refine VNeed.intro (by first | rfl | (simp; omega)) ?_; conv => whnf) | (refine VMem.store rfl rfl rfl rfl ?_; conv => whnf) | (refine VSame.intro rfl ?_; conv => whnf) | (refine VDraw.go [] (by kernel_rfl) (by kernel_rfl) ?_; conv => whnf))
                    refine VLook.intro (es := esE a2) ((get_setO (by decide) jm _).trans (by rw [esE_ren])) (look_esE a2 ⟨(i : Int), y, -1, p.side, y⟩) ?_
                    rw [hag]
                    conv => whnf
                    repeat (first | (refine VLd.intro rfl ?_; conv => whnf) | (refine VArith.i64 (by omega) ?_; conv => whnf) | (refine VNeed.intro (by first | rfl | (simp; omega)) ?_; conv => whnf) | (refine VMem.store rfl rfl rfl rfl ?_; conv => whnf) | (refine VSame.intro rfl ?_; conv => whnf) | (refine VDraw.go [] (by kernel_rfl) (by kernel_rfl) ?_; conv => whnf))
                    refine RFin.on (outW_get _ _ _ _) ?_
                    exact VOut.back (get_out hl []) rfl
                  · rename_i x1 x2 x3
                    rw [isE_go x1, decide_eq_false (fun hh => x3 hh.2)] at hE
                    dsimp only [cond_true, cond_false] at hE
                    subst hE
                    have hag : ∃ v, alGet a2 ⟨(i : Int), y, was.first, was.side, was.since⟩ = some v := by
                      have := hk2; rw [hasK_get] at this
                      cases hz : alGet a2 ⟨(i : Int), y, was.first, was.side, was.since⟩ with
                      | none => rw [hz] at this; cases this
                      | some v => exact ⟨v, rfl⟩
                    obtain ⟨v, hag⟩ := hag
                    refine VLd.cell rfl rfl (get_setO (by decide) jc _) rfl ?_
                    conv => whnf
                    repeat (first | (refine VLd.intro rfl ?_; conv => whnf) | (refine VArith.i64 (by omega) ?_; conv => whnf) | (refine VNeed.intro (by first | rfl | (simp; omega)) ?_; conv => whnf) | (refine VMem.store rfl rfl rfl rfl ?_; conv => whnf) | (refine VSame.intro rfl ?_; conv => whnf) | (refine VDraw.go [] (by kernel_rfl) (by kernel_rfl) ?_; conv => whnf))
                    refine VLook.intro (es := esE a2) ((get_setO (by decide) jm _).trans (by rw [esE_ren])) (look_esE a2 ⟨(i : Int), y, was.first, was.side, was.since⟩) ?_
                    rw [hag]
                    conv => whnf
                    repeat (first | (refine VLd.intro rfl ?_; conv => whnf) | (refine VArith.i64 (by omega) ?_; conv => whnf) | (refine VNeed.intro (by first | rfl | (simp; omega)) ?_; conv => whnf) | (refine VMem.store rfl rfl rfl rfl ?_; conv => whnf) | (refine VSame.intro rfl ?_; conv => whnf) | (refine VDraw.go [] (by kernel_rfl) (by kernel_rfl) ?_; conv => whnf))
                    refine RFin.on (outW_get _ _ _ _) ?_
                    exact VOut.back (get_out hl []) rfl
                  · rename_i x1 x2
                    rw [isE_go x1, decide_eq_false (fun hh => hh.1 x2)] at hE
                    dsimp only [cond_true, cond_false] at hE
                    subst hE
                    have hag : ∃ v, alGet a2 ⟨(i : Int), y, was.first, was.side, was.since⟩ = some v := by
                      have := hk2; rw [hasK_get] at this
                      cases hz : alGet a2 ⟨(i : Int), y, was.first, was.side, was.since⟩ with
                      | none => rw [hz] at this; cases this
                      | some v => exact ⟨v, rfl⟩
                    obtain ⟨v, hag⟩ := hag
                    refine VLd.cell rfl rfl (get_setO (by decide) jc _) rfl ?_
                    conv => whnf
                    repeat (first | (refine VLd.intro rfl ?_; conv => whnf) | (refine VArith.i64 (by omega) ?_; conv => whnf) | (refine VNeed.intro (by first | rfl | (simp; omega)) ?_; conv => whnf) | (refine VMem.store rfl rfl rfl rfl ?_; conv => whnf) | (refine VSame.intro rfl ?_; conv => whnf) | (refine VDraw.go [] (by kernel_rfl) (by kernel_rfl) ?_; conv => whnf))
                    refine VLook.intro (es := esE a2) ((get_setO (by decide) jm _).trans (by rw [esE_ren])) (look_esE a2 ⟨(i : Int), y, was.first, was.side, was.since⟩) ?_
                    rw [hag]
                    conv => whnf
                    repeat (first | (refine VLd.intro rfl ?_; conv => whnf) | (refine VArith.i64 (by omega) ?_; conv => whnf) | (refine VNeed.intro (by first | rfl | (simp; omega)) ?_; conv => whnf) | (refine VMem.store rfl rfl rfl rfl ?_; conv => whnf) | (refine VSame.intro rfl ?_; conv => whnf) | (refine VDraw.go [] (by kernel_rfl) (by kernel_rfl) ?_; conv => whnf))
                    refine RFin.on (outW_get _ _ _ _) ?_
                    exact VOut.back (get_out hl []) rfl
                  · rename_i x1 x2 x3
                    rw [isE_no x1, decide_eq_true ⟨x2, x3⟩] at hE
                    dsimp only [cond_true, cond_false] at hE
                    subst hE
                    have hag : ∃ v, alGet a2 ⟨(i : Int), y, -1, p.side, y⟩ = some v := by
                      have := hk2; rw [hasK_get] at this
                      cases hz : alGet a2 ⟨(i : Int), y, -1, p.side, y⟩ with
                      | none => rw [hz] at this; cases this
                      | some v => exact ⟨v, rfl⟩
                    obtain ⟨v, hag⟩ := hag
                    refine VLd.cell rfl rfl (get_setO (by decide) jc _) rfl ?_
                    conv => whnf
                    repeat (first | (refine VLd.intro rfl ?_; conv => whnf) | (refine VArith.i64 (by omega) ?_; conv => whnf) | (refine VNeed.intro (by first | rfl | (simp; omega)) ?_; conv => whnf) | (refine VMem.store rfl rfl rfl rfl ?_; conv => whnf) | (refine VSame.intro rfl ?_; conv => whnf) | (refine VDraw.go [] (by kernel_rfl) (by kernel_rfl) ?_; conv => whnf))
                    refine VLook.intro (es := esE a2) ((get_setO (by decide) jm _).trans (by rw [esE_ren])) (look_esE a2 ⟨(i : Int), y, -1, p.side, y⟩) ?_
                    rw [hag]
                    conv => whnf
                    repeat (first | (refine VLd.intro rfl ?_; conv => whnf) | (refine VArith.i64 (by omega) ?_; conv => whnf) | (refine VNeed.intro (by first | rfl | (simp; omega)) ?_; conv => whnf) | (refine VMem.store rfl rfl rfl rfl ?_; conv => whnf) | (refine VSame.intro rfl ?_; conv => whnf) | (refine VDraw.go [] (by kernel_rfl) (by kernel_rfl) ?_; conv => whnf))
                    refine RFin.on (outW_get _ _ _ _) ?_
                    exact VOut.back (get_out hl []) rfl
                  · rename_i x1 x2 x3
                    rw [isE_no x1, decide_eq_false (fun hh => x3 hh.2)] at hE
                    dsimp only [cond_true, cond_false] at hE
                    subst hE
                    have hag : ∃ v, alGet a2 ⟨(i : Int), y, y, was.side, was.since⟩ = some v := by
                      have := hk2; rw [hasK_get] at this
                      cases hz : alGet a2 ⟨(i : Int), y, y, was.side, was.since⟩ with
                      | none => rw [hz] at this; cases this
                      | some v => exact ⟨v, rfl⟩
                    obtain ⟨v, hag⟩ := hag
                    refine VLd.cell rfl rfl (get_setO (by decide) jc _) rfl ?_
                    conv => whnf
                    repeat (first | (refine VLd.intro rfl ?_; conv => whnf) | (refine VArith.i64 (by omega) ?_; conv => whnf) | (refine VNeed.intro (by first | rfl | (simp; omega)) ?_; conv => whnf) | (refine VMem.store rfl rfl rfl rfl ?_; conv => whnf) | (refine VSame.intro rfl ?_; conv => whnf) | (refine VDraw.go [] (by kernel_rfl) (by kernel_rfl) ?_; conv => whnf))
                    refine VLook.intro (es := esE a2) ((get_setO (by decide) jm _).trans (by rw [esE_ren])) (look_esE a2 ⟨(i : Int), y, y, was.side, was.since⟩) ?_
                    rw [hag]
                    conv => whnf
                    repeat (first | (refine VLd.intro rfl ?_; conv => whnf) | (refine VArith.i64 (by omega) ?_; conv => whnf) | (refine VNeed.intro (by first | rfl | (simp; omega)) ?_; conv => whnf) | (refine VMem.store rfl rfl rfl rfl ?_; conv => whnf) | (refine VSame.intro rfl ?_; conv => whnf) | (refine VDraw.go [] (by kernel_rfl) (by kernel_rfl) ?_; conv => whnf))
                    refine RFin.on (outW_get _ _ _ _) ?_
                    exact VOut.back (get_out hl []) rfl
                  · rename_i x1 x2
                    rw [isE_no x1, decide_eq_false (fun hh => hh.1 x2)] at hE
                    dsimp only [cond_true, cond_false] at hE
                    subst hE
                    have hag : ∃ v, alGet a2 ⟨(i : Int), y, y, was.side, was.since⟩ = some v := by
                      have := hk2; rw [hasK_get] at this
                      cases hz : alGet a2 ⟨(i : Int), y, y, was.side, was.since⟩ with
                      | none => rw [hz] at this; cases this
                      | some v => exact ⟨v, rfl⟩
                    obtain ⟨v, hag⟩ := hag
                    refine VLd.cell rfl rfl (get_setO (by decide) jc _) rfl ?_
                    conv => whnf
                    repeat (first | (refine VLd.intro rfl ?_; conv => whnf) | (refine VArith.i64 (by omega) ?_; conv => whnf) | (refine VNeed.intro (by first | rfl | (simp; omega)) ?_; conv => whnf) | (refine VMem.store rfl rfl rfl rfl ?_; conv => whnf) | (refine VSame.intro rfl ?_; conv => whnf) | (refine VDraw.go [] (by kernel_rfl) (by kernel_rfl) ?_; conv => whnf))
                    refine VLook.intro (es := esE a2) ((get_setO (by decide) jm _).trans (by rw [esE_ren])) (look_esE a2 ⟨(i : Int), y, y, was.side, was.since⟩) ?_
                    rw [hag]
                    conv => whnf
                    repeat (first | (refine VLd.intro rfl ?_; conv => whnf) | (refine VArith.i64 (by omega) ?_; conv => whnf) | (refine VNeed.intro (by first | rfl | (simp; omega)) ?_; conv => whnf) | (refine VMem.store rfl rfl rfl rfl ?_; conv => whnf) | (refine VSame.intro rfl ?_; conv => whnf) | (refine VDraw.go [] (by kernel_rfl) (by kernel_rfl) ?_; conv => whnf))
                    refine RFin.on (outW_get _ _ _ _) ?_
                    exact VOut.back (get_out hl []) rfl
            · intro g hJ hl
              have hgk := GI.gYs (was := was) (f := f) hgi p1 ⟨w1, w2, w3, w4⟩ p2 p3 p5 (p.hi - p.lo + 1).toNat (Nat.le_refl _)
              have e : gYs f i p was (a1, nx) (p.hi - p.lo + 1).toNat = gW f i p (a1, nx) was := rfl
              rw [e] at hJ hgk
              generalize gW f i p (a1, nx) was = s at hJ hgk hWj
              obtain ⟨a2, n2⟩ := s
              obtain ⟨go, gl⟩ := g
              obtain ⟨jo, jc, jm, ⟨m, hm, jb, jl⟩, jk⟩ := hJ
              dsimp only at jo jb jl jm
              subst jo
              simp only [Hp.get] at jc jm jb jl jk
              have l0 := (List.getElem?_eq_some_iff.1 jc).1
              have l1 := (List.getElem?_eq_some_iff.1 jm).1
              have l2 := (List.getElem?_eq_some_iff.1 jb).1
              have lm := (List.getElem?_eq_some_iff.1 jl).1
              have key : ∀ (x : Nat) (A : Blk), x ≠ 5 → (gl.set 5 A)[x]? = gl[x]? := fun x A hx => List.getElem?_set_ne (Ne.symm hx)
              conv => whnf
              repeat (first | (refine VLd.intro rfl ?_; conv => whnf) | (refine VArith.i64 (by omega) ?_; conv => whnf) | (refine VNeed.intro (by first | rfl | (simp; omega)) ?_; conv => whnf) | (refine VMem.store rfl rfl rfl rfl ?_; conv => whnf) | (refine VSame.intro rfl ?_; conv => whnf) | (refine VDraw.go [] (by kernel_rfl) (by kernel_rfl) ?_; conv => whnf))
              refine LEnd.intro (j + 1, a2, n2) ⟨by dsimp only; omega, hWj, hgk⟩ (by dsimp only; omega) ?_
              conv => whnf
              have hmn : ([0, 1, 2, m] : List Nat).Nodup := by simp; omega
              have hm4 : 4 ∉ ([0, 1, 2, m] : List Nat) := by simp; omega
              refine Retell.turn ⟨[0, 1, 2, m], gl.length, [], []⟩ (TurnOk.mk' _ _ [] [] (OutOk.lift _) (Nat.ble_eq_true_of_le (by simp)) hmn
                (BTos.cells (blt_of l0) ((key 0 _ (by omega)).trans jc) rfl (by repeat' (first | exact VTo.undef | exact FrTo.leaf | refine FrTo.node ?_ ?_ ?_ | refine FrTo.none ?_ ?_ | exact VTo.sc (by first | rfl | (congr 1; omega) | (congr 1; simp; omega)) | exact VTos_dv _ _ | refine VTos.cons ?_ ?_ | exact VTos.nil | refine VTo.agg ?_ | refine VTo.tuple ?_ | refine VTo.func ?_ ?_ | exact VTo.fs | exact VTo.fp | exact VTo.nilptr | exact VTo.nilslice | exact VTo.nilfunc | exact VTo.ptr rfl | exact VTo.gl rfl | exact VTo.map rfl | exact VTo.yld rfl | exact VTo.fmMap rfl | exact VTo.fm | exact VTo.glNil' (by decide) rfl rfl | exact VTo.fsNil (by decide) | exact VTo.fsSl rfl rfl (by simp [flat_len encE_len]) | exact VTo.fpPtr rfl | exact VTo.fsGl rfl (by first | rfl | exact flat_len encI_len _ | exact flat_len encS_len _ | exact flat_len encP_len _ | exact flat_len encL_len _ | exact flat_len encE_len _ | (simp [flat_len encP_len]; done) | simp [flat_len encI_len, flat_len encS_len]))) (BTos.esE (blt_of l1) ((key 1 _ (by omega)).trans jm) (BTos.cells (blt_of l2) ((key 2 _ (by omega)).trans jb) rfl (by repeat' (first | exact VTo.undef | exact FrTo.leaf | refine FrTo.node ?_ ?_ ?_ | refine FrTo.none ?_ ?_ | exact VTo.sc (by first | rfl | (congr 1; omega) | (congr 1; simp; omega)) | exact VTos_dv _ _ | refine VTos.cons ?_ ?_ | exact VTos.nil | refine VTo.agg ?_ | refine VTo.tuple ?_ | refine VTo.func ?_ ?_ | exact VTo.fs | exact VTo.fp | exact VTo.nilptr | exact VTo.nilslice | exact VTo.nilfunc | exact VTo.ptr rfl | exact VTo.gl rfl | exact VTo.map rfl | exact VTo.yld rfl | exact VTo.fmMap rfl | exact VTo.fm | exact VTo.glNil' (by decide) rfl rfl | exact VTo.fsNil (by decide) | exact VTo.fsSl rfl rfl (by simp [flat_len encE_len]) | exact VTo.fpPtr rfl | exact VTo.fsGl rfl (by first | rfl | exact flat_len encI_len _ | exact flat_len encS_len _ | exact flat_len encP_len _ | exact flat_len encL_len _ | exact flat_len encE_len _ | (simp [flat_len encP_len]; done) | simp [flat_len encI_len, flat_len encS_len]))) (BTos.flat (blt_of lm) ((key m _ (by omega)).trans jl) rfl BTos.nil)))) trivial trivial rfl) (by repeat' (first | exact VTo.undef | exact FrTo.leaf | refine FrTo.node ?_ ?_ ?_ | refine FrTo.none ?_ ?_ | exact VTo.sc (by first | rfl | (congr 1; omega) | (congr 1; simp; omega)) | exact VTos_dv _ _ | refine VTos.cons ?_ ?_ | exact VTos.nil | refine VTo.agg ?_ | refine VTo.tuple ?_ | refine VTo.func ?_ ?_ | exact VTo.fs | exact VTo.fp | exact VTo.nilptr | exact VTo.nilslice | exact VTo.nilfunc | exact VTo.ptr rfl | exact VTo.gl rfl | exact VTo.map rfl | exact VTo.yld rfl | exact VTo.fmMap rfl | exact VTo.fm | exact VTo.glNil' (by decide) rfl rfl | exact VTo.fsNil (by decide) | exact VTo.fsSl rfl rfl (by simp [flat_len encE_len]) | exact VTo.fpPtr rfl | exact VTo.fsGl rfl (by first | rfl | exact flat_len encI_len _ | exact flat_len encS_len _ | exact flat_len encP_len _ | exact flat_len encL_len _ | exact flat_len encE_len _ | (simp [flat_len encP_len]; done) | simp [flat_len encI_len, flat_len encS_len])))
                (MkTo.drop hm4 ((key 4 _ (by omega)).trans jk) MkTo.nil)
        · have hje : j = now.length := by omega
          subst hje
          rw [List.drop_of_length_le (Nat.le_refl _), List.foldl_nil] at hWj
          subst hWj
          conv => whnf
          repeat (first | (refine VLd.intro rfl ?_; conv => whnf) | (refine VArith.i64 (by omega) ?_; conv => whnf) | (refine VNeed.intro (by first | rfl | (simp; omega)) ?_; conv => whnf) | (refine VMem.store rfl rfl rfl rfl ?_; conv => whnf) | (refine VSame.intro rfl ?_; conv => whnf) | (refine VDraw.go [] (by kernel_rfl) (by kernel_rfl) ?_; conv => whnf))
          refine LEnd.intro (i + 1, a1, nx) ⟨by dsimp only; omega, hRi, hgi.ok, hgi.len⟩ (by dsimp only; omega) ?_
          conv => whnf
          refine Retell.turn ⟨[0,1], 4, [(3, nx.flatMap encE)], []⟩ (TurnOk.mk' _ _ [(3, nx.flatMap encE)] [] (OutOk.lift _) rfl (by decide) (by repeat' (first | exact BTos.nil | refine BTos.flat rfl rfl (by first | rfl | simp) ?_ | refine BTos.new rfl ?_ | refine BTos.dead rfl rfl ?_ | refine BTos.esE rfl rfl ?_ | refine BTos.row rfl rfl rfl (RowTo.snoc (RowTo.one rfl (by simp))) ?_ | refine BTos.cells rfl rfl rfl (by repeat' (first | exact VTo.undef | exact FrTo.leaf | refine FrTo.node ?_ ?_ ?_ | refine FrTo.none ?_ ?_ | exact VTo.sc (by first | rfl | (congr 1; omega) | (congr 1; simp; omega)) | exact VTos_dv _ _ | refine VTos.cons ?_ ?_ | exact VTos.nil | refine VTo.agg ?_ | refine VTo.tuple ?_ | refine VTo.func ?_ ?_ | exact VTo.fs | exact VTo.fp | exact VTo.nilptr | exact VTo.nilslice | exact VTo.nilfunc | exact VTo.ptr rfl | exact VTo.gl rfl | exact VTo.map rfl | exact VTo.yld rfl | exact VTo.fmMap rfl | exact VTo.fm | exact VTo.glNil' (by decide) rfl rfl | exact VTo.fsNil (by decide) | exact VTo.fsSl rfl rfl (by simp [flat_len encE_len]) | exact VTo.fpPtr rfl | exact VTo.fsGl rfl (by first | rfl | exact flat_len encI_len _ | exact flat_len encS_len _ | exact flat_len encP_len _ | exact flat_len encL_len _ | exact flat_len encE_len _ | (simp [flat_len encP_len]; done) | simp [flat_len encI_len, flat_len encS_len]))) ?_)) (by repeat' (first | exact FzAll.nil | refine FzAll.flat rfl ?_ | refine FzAll.row rfl rfl (RowTo.one rfl (by simp)) ?_)) trivial rfl) (by repeat' (first | exact VTo.undef | exact FrTo.leaf | refine FrTo.node ?_ ?_ ?_ | refine FrTo.none ?_ ?_ | exact VTo.sc (by first | rfl | (congr 1; omega) | (congr 1; simp; omega)) | exact VTos_dv _ _ | refine VTos.cons ?_ ?_ | exact VTos.nil | refine VTo.agg ?_ | refine VTo.tuple ?_ | refine VTo.func ?_ ?_ | exact VTo.fs | exact VTo.fp | exact VTo.nilptr | exact VTo.nilslice | exact VTo.nilfunc | exact VTo.ptr rfl | exact VTo.gl rfl | exact VTo.map rfl | exact VTo.yld rfl | exact VTo.fmMap rfl | exact VTo.fm | exact VTo.glNil' (by decide) rfl rfl | exact VTo.fsNil (by decide) | exact VTo.fsSl rfl rfl (by simp [flat_len encE_len]) | exact VTo.fpPtr rfl | exact VTo.fsGl rfl (by first | rfl | exact flat_len encI_len _ | exact flat_len encS_len _ | exact flat_len encP_len _ | exact flat_len encL_len _ | exact flat_len encE_len _ | (simp [flat_len encP_len]; done) | simp [flat_len encI_len, flat_len encS_len]))) (by first | rfl | (repeat' (first | exact MkTo.nil | refine MkTo.keep rfl ?_ | refine MkTo.drop (by decide) rfl ?_)))
    · have hie : i = f.ps.length := by dsimp only at h3; omega
      subst hie
      rw [List.drop_of_length_le (Nat.le_refl _), gP] at hRi
      subst hRi
      conv => whnf
      repeat (first | (refine VLd.intro rfl ?_; conv => whnf) | (refine VArith.i64 (by omega) ?_; conv => whnf) | (refine VNeed.intro (by first | rfl | (simp; omega)) ?_; conv => whnf) | (refine VMem.store rfl rfl rfl rfl ?_; conv => whnf) | (refine VSame.intro rfl ?_; conv => whnf) | (refine VDraw.go [] (by kernel_rfl) (by kernel_rfl) ?_; conv => whnf))
      refine VOut.data 2 [] [(1, keysE a, valsE a)] rfl FzAll.nil ⟨⟨esE a, rfl, EsTo.esE a⟩, trivial⟩ (by repeat' (first | exact VTo.undef | exact FrTo.leaf | refine FrTo.node ?_ ?_ ?_ | refine FrTo.none ?_ ?_ | exact VTo.sc (by first | rfl | (congr 1; omega) | (congr 1; simp; omega)) | exact VTos_dv _ _ | refine VTos.cons ?_ ?_ | exact VTos.nil | refine VTo.agg ?_ | refine VTo.tuple ?_ | refine VTo.func ?_ ?_ | exact VTo.fs | exact VTo.fp | exact VTo.nilptr | exact VTo.nilslice | exact VTo.nilfunc | exact VTo.ptr rfl | exact VTo.gl rfl | exact VTo.map rfl | exact VTo.yld rfl | exact VTo.fmMap rfl | exact VTo.fm | exact VTo.glNil' (by decide) rfl rfl | exact VTo.fsNil (by decide) | exact VTo.fsSl rfl rfl (by simp [flat_len encE_len]) | exact VTo.fpPtr rfl | exact VTo.fsGl rfl (by first | rfl | exact flat_len encI_len _ | exact flat_len encS_len _ | exact flat_len encP_len _ | exact flat_len encL_len _ | exact flat_len encE_len _ | (simp [flat_len encP_len]; done) | simp [flat_len encI_len, flat_len encS_len])))
end Go.Proofs.Ytolnajnlcdacmaa

