/- Part 5 of the proof that the law of Exchanges always answers true. No condition. -/
import Derived.Test.YtmpjpjfkbmlmfaaEx4
set_option linter.unusedVariables false
set_option linter.unusedSimpArgs false
open Go.Vm
namespace Go.Proofs.Ytmpjpjfkbmlmfaa
set_option maxRecDepth 20000
set_option maxHeartbeats 4000000

theorem vc_Order_ok (l : Lnd) (h : Hp) (o : Ok l) : VC Try.prog 15 [vL l] h (.tuple [ints (ordL l), I 0]) h := by
  refine VC.body Try.func15 rfl Try.ntmps15 Try.call15 (h.grows_refl) rfl ?_; conv => whnf
  repeat' (first | (refine VLd.intro rfl ?_; conv => whnf) | (refine VArith.i64 (by first | omega | (dsimp only; omega)) ?_; conv => whnf) | (refine VNeed.intro (by first | rfl | (simp; omega) | (simp; done)) ?_; conv => whnf) | (refine VMem.store rfl rfl rfl rfl ?_; conv => whnf) | (refine VSame.intro rfl ?_; conv => whnf) | (refine VDraw.go [] (by kernel_rfl) (by kernel_rfl) ?_; conv => whnf) | (refine VIte.dec (fun _ => ?_) (fun _ => ?_) <;> conv => whnf) | (refine VIte.ndec (fun _ => ?_) (fun _ => ?_) <;> conv => whnf) | (refine VIte.beq (fun _ => ?_) (fun _ => ?_) <;> conv => whnf) | (refine VIte.bne (fun _ => ?_) (fun _ => ?_) <;> conv => whnf) | (refine VIte.intro (fun _ => ?_) (fun _ => ?_) <;> conv => whnf) | (refine VCall.intro (vc_opened_ok l _ o) ?_; conv => whnf) | (refine VCall.intro (vc_order l _ o) ?_; conv => whnf))
  exact VOut.same rfl
/-! ### Exchanges by order -/
def prt (l : Lnd) (f : List Int) (c n w : Int) (i : Nat) : Int := if (i : Int) = c then n else if (i : Int) ∈ f then w else bif freeQ l i then 0 else (1 - (sAt l i).ow) * w
def exL (l : Lnd) (f : List Int) (c n w : Int) : List Int := (List.range l.ss.length).map (prt l f c n w)
theorem exL_len (l : Lnd) (f : List Int) (c n w : Int) : (exL l f c n w).length = l.ss.length := by simp [exL]
theorem exL_at {l : Lnd} {f : List Int} {c n w : Int} {i : Nat} (h : i < l.ss.length) : (exL l f c n w)[i]? = some (prt l f c n w i) := by simp [exL, h]
theorem exL_ext {l : Lnd} {f : List Int} {c n w : Int} {L : List Int} (hl : L.length = l.ss.length) (h : ∀ j, j < l.ss.length → L[j]? = some (prt l f c n w j)) : L = exL l f c n w := by
  apply List.ext_getElem?
  intro j
  rcases Nat.lt_or_ge j l.ss.length with hj | hj
  · rw [h j hj, exL_at hj]
  · rw [List.getElem?_eq_none (by rw [hl]; exact hj), List.getElem?_eq_none (by rw [exL_len]; exact hj)]
theorem exL_set {l : Lnd} {f : List Int} {n w : Int} {i : Nat} (h : i < l.ss.length) : (exL l f (-1) n w).set i w = exL l (f ++ [(i : Int)]) (-1) n w := by
  refine exL_ext (by rw [List.length_set, exL_len]) fun j hj => ?_
  have hj1 : ¬ ((j : Int) = -1) := by omega
  rw [List.getElem?_set, exL_len, exL_at hj]
  unfold prt
  rw [if_neg hj1, if_neg hj1]
  by_cases e : i = j
  · subst e; rw [if_pos rfl, if_pos hj, if_pos (by simp)]
  · have : (j : Int) ∈ f ++ [(i : Int)] ↔ (j : Int) ∈ f := by simp; omega
    rw [if_neg e]
    simp only [this]
theorem exL_cut {l : Lnd} {f : List Int} {n m w : Int} {i : Nat} (h : i < l.ss.length) : (exL l f (-1) m w).set i n = exL l f i n w := by
  refine exL_ext (by rw [List.length_set, exL_len]) fun j hj => ?_
  have hj1 : ¬ ((j : Int) = -1) := by omega
  rw [List.getElem?_set, exL_len, exL_at hj]
  unfold prt
  rw [if_neg hj1]
  by_cases e : i = j
  · subst e; rw [if_pos rfl, if_pos hj, if_pos rfl]
  · have hji : ¬ ((j : Int) = (i : Int)) := by omega
    rw [if_neg e, if_neg hji]
theorem exL_irr (l : Lnd) (f : List Int) (n m w : Int) : exL l f (-1) n w = exL l f (-1) m w := by
  unfold exL
  refine List.map_congr_left fun i _ => ?_
  have hi : ¬ ((i : Int) = -1) := by omega
  unfold prt
  rw [if_neg hi, if_neg hi]
/-- The first ones of one list, the others of another one. -/
def mixL (A B : List Int) (k : Nat) : List Int := A.take k ++ B.drop k
theorem mixL_at {A B : List Int} {k : Nat} (hAB : A.length = B.length) (hk : k < B.length) : (mixL A B k)[k]? = B[k]? := by
  unfold mixL
  have : (A.take k).length = k := by simp; omega
  rw [List.getElem?_append_right (by omega), this, Nat.sub_self, List.getElem?_drop]; simp
theorem mixL_set {A B : List Int} {k : Nat} {a : Int} (hAB : A.length = B.length) (ha : A[k]? = some a) : (mixL A B k).set k a = mixL A B (k + 1) := by
  obtain ⟨hlt, e⟩ := List.getElem?_eq_some_iff.1 ha
  unfold mixL
  have h1 : (A.take k).length = k := by simp; omega
  rw [List.set_append_right _ _ (by omega), h1, Nat.sub_self, List.drop_eq_getElem_cons (by omega : k < B.length), List.set_cons_zero, List.take_add_one, ha]
  simp
theorem mixL_len {A B : List Int} {k : Nat} (hAB : A.length = B.length) (hk : k ≤ B.length) : (mixL A B k).length = B.length := by unfold mixL; simp; omega
theorem tmod_nat (a b : Nat) : (a : Int).tmod b = ((a % b : Nat) : Int) := by
  rw [Int.tmod_eq_emod_of_nonneg (by omega)]; rfl
theorem tdiv_nat (a b : Nat) : (a : Int).tdiv b = ((a / b : Nat) : Int) := by
  rw [Int.tdiv_eq_ediv_of_nonneg (by omega)]; rfl
theorem vc_given (l : Lnd) (f : List Int) (c : Int) (n w : Nat) (h : Hp) (o : Ok l) (hf : ∀ x ∈ f, ∃ j : Nat, j < l.ss.length ∧ x = j) (hfl : f.length ≤ 4000000) (hc : c = -1 ∨ ∃ j : Nat, j < l.ss.length ∧ c = j) (hw : 0 < w) (hw2 : w ≤ 2000) (hnb : n ≤ 1000000) :
    VC Try.prog 56 [.fp (encN l), ints f, I c, I n, I w] h (vX ⟨(w / Nat.gcd n w : Nat), exL l f c (n / Nat.gcd n w : Nat) (w / Nat.gcd n w : Nat)⟩) h := by
  have hn := o.n
  obtain ⟨G, hG⟩ : ∃ G, G = Nat.gcd n w := ⟨_, rfl⟩
  rw [← hG]
  have hGp : 0 < G := by rw [hG]; exact Nat.gcd_pos_of_pos_right _ hw
  have hc1 := fun h => vc_now l h o
  refine VC.body Try.func56 rfl Try.ntmps56 Try.call56 (h.grows_refl) rfl ?_; conv => whnf
  repeat' (first | (refine VLd.intro rfl ?_; conv => whnf) | (refine VArith.i64 (by first | omega | (dsimp only; omega)) ?_; conv => whnf) | (refine VNeed.intro (by first | rfl | (simp; omega) | (simp; done)) ?_; conv => whnf) | (refine VMem.store rfl rfl rfl rfl ?_; conv => whnf) | (refine VSame.intro rfl ?_; conv => whnf) | (refine VDraw.go [] (by kernel_rfl) (by kernel_rfl) ?_; conv => whnf) | (refine VIte.dec (fun _ => ?_) (fun _ => ?_) <;> conv => whnf) | (refine VIte.ndec (fun _ => ?_) (fun _ => ?_) <;> conv => whnf) | (refine VIte.beq (fun _ => ?_) (fun _ => ?_) <;> conv => whnf) | (refine VIte.bne (fun _ => ?_) (fun _ => ?_) <;> conv => whnf) | (refine VIte.intro (fun _ => ?_) (fun _ => ?_) <;> conv => whnf))
  refine VCode.lp (fun x : Nat × Nat => [(0, .fp (encN l)), (1, ints f), (2, I c), (3, I n), (4, I w), (10, .ptr (.loc 0) 0), (11, I x.1), (12, I x.2)]) (fun _ => [.flat true [DI 0, .nilslice]]) (fun x => Nat.gcd x.1 x.2 = G ∧ x.1 ≤ 1000000 ∧ x.2 ≤ 1000000) (fun x => x.2) (n, w) ⟨hG.symm, hnb, by dsimp only; omega⟩ ?_ ?_
  · conv => whnf
    refine Retell.turn ⟨[0], 1, [], []⟩ (TurnOk.mk' _ _ [] [] (OutOk.lift _) rfl (by decide) (by repeat' (first | exact BTos.nil | refine BTos.flat rfl rfl (by first | rfl | simp) ?_ | refine BTos.new rfl ?_ | refine BTos.dead rfl rfl ?_ | refine BTos.esE rfl rfl ?_ | refine BTos.row rfl rfl rfl (RowTo.snoc (RowTo.one rfl (by simp))) ?_ | refine BTos.cells rfl rfl rfl (by repeat' (first | exact VTo.undef | exact FrTo.leaf | refine FrTo.node ?_ ?_ ?_ | refine FrTo.none ?_ ?_ | exact VTo.sc (by first | rfl | (congr 1; omega) | (congr 1; simp; omega)) | exact VTos_dv _ _ | refine VTos.cons ?_ ?_ | exact VTos.nil | refine VTo.agg ?_ | refine VTo.tuple ?_ | refine VTo.func ?_ ?_ | exact VTo.fs | exact VTo.fp | exact VTo.nilptr | exact VTo.nilslice | exact VTo.nilfunc | exact VTo.ptr rfl | exact VTo.gl rfl | exact VTo.map rfl | exact VTo.yld rfl | exact VTo.fmMap rfl | exact VTo.fm | exact VTo.glNil' (by decide) rfl rfl | exact VTo.fsNil (by decide) | exact VTo.fsSl rfl rfl (by simp [flat_len encE_len]) | exact VTo.fpPtr rfl | exact VTo.fsGl rfl (by first | rfl | exact flat_len encI_len _ | exact flat_len encT_len _ | exact flat_len encS_len _ | exact flat_len encP_len _ | exact flat_len encL_len _ | exact flat_len encE_len _ | (simp [flat_len encP_len]; done) | simp [flat_len encI_len, flat_len encS_len]))) ?_)) trivial trivial rfl) (by repeat' (first | exact VTo.undef | exact FrTo.leaf | refine FrTo.node ?_ ?_ ?_ | refine FrTo.none ?_ ?_ | exact VTo.sc (by first | rfl | (congr 1; omega) | (congr 1; simp; omega)) | exact VTos_dv _ _ | refine VTos.cons ?_ ?_ | exact VTos.nil | refine VTo.agg ?_ | refine VTo.tuple ?_ | refine VTo.func ?_ ?_ | exact VTo.fs | exact VTo.fp | exact VTo.nilptr | exact VTo.nilslice | exact VTo.nilfunc | exact VTo.ptr rfl | exact VTo.gl rfl | exact VTo.map rfl | exact VTo.yld rfl | exact VTo.fmMap rfl | exact VTo.fm | exact VTo.glNil' (by decide) rfl rfl | exact VTo.fsNil (by decide) | exact VTo.fsSl rfl rfl (by simp [flat_len encE_len]) | exact VTo.fpPtr rfl | exact VTo.fsGl rfl (by first | rfl | exact flat_len encI_len _ | exact flat_len encT_len _ | exact flat_len encS_len _ | exact flat_len encP_len _ | exact flat_len encL_len _ | exact flat_len encE_len _ | (simp [flat_len encP_len]; done) | simp [flat_len encI_len, flat_len encS_len]))) (by first | rfl | (repeat' (first | exact MkTo.nil | refine MkTo.keep rfl ?_ | refine MkTo.drop (by decide) rfl ?_)))
  · rintro ⟨a, b⟩ ⟨hab, ha1, hb1⟩
    dsimp only at hab ha1 hb1
    conv => whnf
    refine VIte.bne (fun h3 => ?_) (fun h3 => ?_)
    · have hb0 : 0 < b := by dsimp only at h3; omega
      have hml := Nat.mod_lt a hb0
      have hm2 : a % b ≤ 1000000 := by omega
      have hmm : Nat.gcd b (a % b) = G := by rw [← hab, Nat.gcd_comm b, ← Nat.gcd_rec, Nat.gcd_comm]
      have ht := tmod_nat a b
      conv => whnf
      repeat' (first | (refine VLd.intro rfl ?_; conv => whnf) | (refine VArith.i64 (by first | omega | (dsimp only; omega)) ?_; conv => whnf) | (refine VNeed.intro (by first | rfl | (simp; omega) | (simp; done)) ?_; conv => whnf) | (refine VMem.store rfl rfl rfl rfl ?_; conv => whnf) | (refine VSame.intro rfl ?_; conv => whnf) | (refine VDraw.go [] (by kernel_rfl) (by kernel_rfl) ?_; conv => whnf) | (refine VIte.dec (fun _ => ?_) (fun _ => ?_) <;> conv => whnf) | (refine VIte.ndec (fun _ => ?_) (fun _ => ?_) <;> conv => whnf) | (refine VIte.beq (fun _ => ?_) (fun _ => ?_) <;> conv => whnf) | (refine VIte.bne (fun _ => ?_) (fun _ => ?_) <;> conv => whnf) | (refine VIte.intro (fun _ => ?_) (fun _ => ?_) <;> conv => whnf))
      refine LEnd.intro (b, a % b) ⟨hmm, by dsimp only; omega, by dsimp only; omega⟩ (by dsimp only; omega) ?_
      conv => whnf
      rw [ht]
      refine Retell.turn ⟨[0], 1, [], []⟩ (TurnOk.mk' _ _ [] [] (OutOk.lift _) rfl (by decide) (by repeat' (first | exact BTos.nil | refine BTos.flat rfl rfl (by first | rfl | simp) ?_ | refine BTos.new rfl ?_ | refine BTos.dead rfl rfl ?_ | refine BTos.esE rfl rfl ?_ | refine BTos.row rfl rfl rfl (RowTo.snoc (RowTo.one rfl (by simp))) ?_ | refine BTos.cells rfl rfl rfl (by repeat' (first | exact VTo.undef | exact FrTo.leaf | refine FrTo.node ?_ ?_ ?_ | refine FrTo.none ?_ ?_ | exact VTo.sc (by first | rfl | (congr 1; omega) | (congr 1; simp; omega)) | exact VTos_dv _ _ | refine VTos.cons ?_ ?_ | exact VTos.nil | refine VTo.agg ?_ | refine VTo.tuple ?_ | refine VTo.func ?_ ?_ | exact VTo.fs | exact VTo.fp | exact VTo.nilptr | exact VTo.nilslice | exact VTo.nilfunc | exact VTo.ptr rfl | exact VTo.gl rfl | exact VTo.map rfl | exact VTo.yld rfl | exact VTo.fmMap rfl | exact VTo.fm | exact VTo.glNil' (by decide) rfl rfl | exact VTo.fsNil (by decide) | exact VTo.fsSl rfl rfl (by simp [flat_len encE_len]) | exact VTo.fpPtr rfl | exact VTo.fsGl rfl (by first | rfl | exact flat_len encI_len _ | exact flat_len encT_len _ | exact flat_len encS_len _ | exact flat_len encP_len _ | exact flat_len encL_len _ | exact flat_len encE_len _ | (simp [flat_len encP_len]; done) | simp [flat_len encI_len, flat_len encS_len]))) ?_)) trivial trivial rfl) (by repeat' (first | exact VTo.undef | exact FrTo.leaf | refine FrTo.node ?_ ?_ ?_ | refine FrTo.none ?_ ?_ | exact VTo.sc (by first | rfl | (congr 1; omega) | (congr 1; simp; omega)) | exact VTos_dv _ _ | refine VTos.cons ?_ ?_ | exact VTos.nil | refine VTo.agg ?_ | refine VTo.tuple ?_ | refine VTo.func ?_ ?_ | exact VTo.fs | exact VTo.fp | exact VTo.nilptr | exact VTo.nilslice | exact VTo.nilfunc | exact VTo.ptr rfl | exact VTo.gl rfl | exact VTo.map rfl | exact VTo.yld rfl | exact VTo.fmMap rfl | exact VTo.fm | exact VTo.glNil' (by decide) rfl rfl | exact VTo.fsNil (by decide) | exact VTo.fsSl rfl rfl (by simp [flat_len encE_len]) | exact VTo.fpPtr rfl | exact VTo.fsGl rfl (by first | rfl | exact flat_len encI_len _ | exact flat_len encT_len _ | exact flat_len encS_len _ | exact flat_len encP_len _ | exact flat_len encL_len _ | exact flat_len encE_len _ | (simp [flat_len encP_len]; done) | simp [flat_len encI_len, flat_len encS_len]))) (by first | rfl | (repeat' (first | exact MkTo.nil | refine MkTo.keep rfl ?_ | refine MkTo.drop (by decide) rfl ?_)))
    · have hb0 : b = 0 := by dsimp only at h3; omega
      subst hb0
      rw [Nat.gcd_zero_right] at hab
      subst hab
      have t1 := tdiv_nat n a
      have t2 := tdiv_nat w a
      obtain ⟨N, hN⟩ : ∃ N, N = n / a := ⟨_, rfl⟩
      obtain ⟨M, hM⟩ : ∃ M, M = w / a := ⟨_, rfl⟩
      rw [← hN] at t1
      rw [← hM] at t2
      rw [← hN, ← hM]
      have hM2 : M ≤ 2000 := by rw [hM]; exact Nat.le_trans (Nat.div_le_self _ _) hw2
      conv => whnf
      repeat' (first | (refine VLd.intro rfl ?_; conv => whnf) | (refine VArith.i64 (by first | omega | (dsimp only; omega)) ?_; conv => whnf) | (refine VNeed.intro (by first | rfl | (simp; omega) | (simp; done)) ?_; conv => whnf) | (refine VMem.store rfl rfl rfl rfl ?_; conv => whnf) | (refine VSame.intro rfl ?_; conv => whnf) | (refine VDraw.go [] (by kernel_rfl) (by kernel_rfl) ?_; conv => whnf) | (refine VIte.dec (fun _ => ?_) (fun _ => ?_) <;> conv => whnf) | (refine VIte.ndec (fun _ => ?_) (fun _ => ?_) <;> conv => whnf) | (refine VIte.beq (fun _ => ?_) (fun _ => ?_) <;> conv => whnf) | (refine VIte.bne (fun _ => ?_) (fun _ => ?_) <;> conv => whnf) | (refine VIte.intro (fun _ => ?_) (fun _ => ?_) <;> conv => whnf))
      have hN2 : N ≤ 1000000 := by rw [hN]; exact Nat.le_trans (Nat.div_le_self _ _) hnb
      rw [t1, t2, wrap_i64 (n := (N : Int)) (by omega), wrap_i64 (n := (M : Int)) (by omega)]
      refine VMem.make (n := l.ss.length) (0 : Int) encI_len rfl rfl rfl rfl rfl rfl (by omega) ?_
      conv => whnf
      repeat' (first | (refine VLd.intro rfl ?_; conv => whnf) | (refine VArith.i64 (by first | omega | (dsimp only; omega)) ?_; conv => whnf) | (refine VNeed.intro (by first | rfl | (simp; omega) | (simp; done)) ?_; conv => whnf) | (refine VMem.store rfl rfl rfl rfl ?_; conv => whnf) | (refine VSame.intro rfl ?_; conv => whnf) | (refine VIte.dec (fun _ => ?_) (fun _ => ?_) <;> conv => whnf) | (refine VIte.ndec (fun _ => ?_) (fun _ => ?_) <;> conv => whnf) | (refine VIte.beq (fun _ => ?_) (fun _ => ?_) <;> conv => whnf) | (refine VIte.bne (fun _ => ?_) (fun _ => ?_) <;> conv => whnf) | (refine VIte.intro (fun _ => ?_) (fun _ => ?_) <;> conv => whnf))
      refine VDraw.go [(1, 3)] (by kernel_rfl) (by kernel_rfl) ?_
      conv => whnf
      repeat' (first | (refine VLd.intro rfl ?_; conv => whnf) | (refine VArith.i64 (by first | omega | (dsimp only; omega)) ?_; conv => whnf) | (refine VNeed.intro (by first | rfl | (simp; omega) | (simp; done)) ?_; conv => whnf) | (refine VMem.store rfl rfl rfl rfl ?_; conv => whnf) | (refine VSame.intro rfl ?_; conv => whnf) | (refine VIte.dec (fun _ => ?_) (fun _ => ?_) <;> conv => whnf) | (refine VIte.ndec (fun _ => ?_) (fun _ => ?_) <;> conv => whnf) | (refine VIte.beq (fun _ => ?_) (fun _ => ?_) <;> conv => whnf) | (refine VIte.bne (fun _ => ?_) (fun _ => ?_) <;> conv => whnf) | (refine VIte.intro (fun _ => ?_) (fun _ => ?_) <;> conv => whnf) | (refine VCall.intro (hc1 _) ?_; conv => whnf))
      refine VMem.copyFs (l := List.replicate l.ss.length (0 : Int)) (l2 := nowP l) encI_len rfl rfl (by simp) rfl (nowP_len l).symm ?_
      conv => whnf
      repeat' (first | (refine VLd.intro rfl ?_; conv => whnf) | (refine VArith.i64 (by first | omega | (dsimp only; omega)) ?_; conv => whnf) | (refine VNeed.intro (by first | rfl | (simp; omega) | (simp; done)) ?_; conv => whnf) | (refine VMem.store rfl rfl rfl rfl ?_; conv => whnf) | (refine VSame.intro rfl ?_; conv => whnf) | (refine VIte.dec (fun _ => ?_) (fun _ => ?_) <;> conv => whnf) | (refine VIte.ndec (fun _ => ?_) (fun _ => ?_) <;> conv => whnf) | (refine VIte.beq (fun _ => ?_) (fun _ => ?_) <;> conv => whnf) | (refine VIte.bne (fun _ => ?_) (fun _ => ?_) <;> conv => whnf) | (refine VIte.intro (fun _ => ?_) (fun _ => ?_) <;> conv => whnf))
      have hAB : (exL l [] (-1) 0 (M : Int)).length = (nowP l).length := by rw [exL_len, nowP_len]
      refine VCode.lp (fun k : Nat => [(0, .fp (encN l)), (1, ints f), (2, I c), (3, I N), (4, I M), (10, .ptr (.loc 0) 0), (13, .ptr (.loc 2) 0), (48, I l.ss.length), (49, I k)])
        (fun k => [.flat true [DI 0, .nilslice], .flat true ((mixL (exL l [] (-1) 0 (M : Int)) (nowP l) k).flatMap encI), .cells true [I M, .gl (.loc 1) 1 l.ss.length]]) (fun k => k ≤ l.ss.length) (fun k => l.ss.length - k) 0 (Nat.zero_le _) ?_ ?_
      · conv => whnf
        refine Retell.turn ⟨[0,1,2], 3, [], []⟩ (TurnOk.mk' _ _ [] [] (OutOk.lift _) rfl (by decide) (by repeat' (first | exact BTos.nil | refine BTos.flat rfl rfl (by first | rfl | simp) ?_ | refine BTos.new rfl ?_ | refine BTos.dead rfl rfl ?_ | refine BTos.esE rfl rfl ?_ | refine BTos.row rfl rfl rfl (RowTo.snoc (RowTo.one rfl (by simp))) ?_ | refine BTos.cells rfl rfl rfl (by repeat' (first | exact VTo.undef | exact FrTo.leaf | refine FrTo.node ?_ ?_ ?_ | refine FrTo.none ?_ ?_ | exact VTo.sc (by first | rfl | (congr 1; omega) | (congr 1; simp; omega)) | exact VTos_dv _ _ | refine VTos.cons ?_ ?_ | exact VTos.nil | refine VTo.agg ?_ | refine VTo.tuple ?_ | refine VTo.func ?_ ?_ | exact VTo.fs | exact VTo.fp | exact VTo.nilptr | exact VTo.nilslice | exact VTo.nilfunc | exact VTo.ptr rfl | exact VTo.gl rfl | exact VTo.map rfl | exact VTo.yld rfl | exact VTo.fmMap rfl | exact VTo.fm | exact VTo.glNil' (by decide) rfl rfl | exact VTo.fsNil (by decide) | exact VTo.fsSl rfl rfl (by simp [flat_len encE_len]) | exact VTo.fpPtr rfl | exact VTo.fsGl rfl (by first | rfl | exact flat_len encI_len _ | exact flat_len encT_len _ | exact flat_len encS_len _ | exact flat_len encP_len _ | exact flat_len encL_len _ | exact flat_len encE_len _ | (simp [flat_len encP_len]; done) | simp [flat_len encI_len, flat_len encS_len]))) ?_)) trivial trivial rfl) (by repeat' (first | exact VTo.undef | exact FrTo.leaf | refine FrTo.node ?_ ?_ ?_ | refine FrTo.none ?_ ?_ | exact VTo.sc (by first | rfl | (congr 1; omega) | (congr 1; simp; omega)) | exact VTos_dv _ _ | refine VTos.cons ?_ ?_ | exact VTos.nil | refine VTo.agg ?_ | refine VTo.tuple ?_ | refine VTo.func ?_ ?_ | exact VTo.fs | exact VTo.fp | exact VTo.nilptr | exact VTo.nilslice | exact VTo.nilfunc | exact VTo.ptr rfl | exact VTo.gl rfl | exact VTo.map rfl | exact VTo.yld rfl | exact VTo.fmMap rfl | exact VTo.fm | exact VTo.glNil' (by decide) rfl rfl | exact VTo.fsNil (by decide) | exact VTo.fsSl rfl rfl (by simp [flat_len encE_len]) | exact VTo.fpPtr rfl | exact VTo.fsGl rfl (by first | rfl | exact flat_len encI_len _ | exact flat_len encT_len _ | exact flat_len encS_len _ | exact flat_len encP_len _ | exact flat_len encL_len _ | exact flat_len encE_len _ | (simp [flat_len encP_len]; done) | simp [flat_len encI_len, flat_len encS_len]))) (by first | rfl | (repeat' (first | exact MkTo.nil | refine MkTo.keep rfl ?_ | refine MkTo.drop (by decide) rfl ?_)))
      · intro k hk
        conv => whnf
        refine VIte.dec (fun h4 => ?_) (fun h4 => ?_)
        · have hs : l.ss[k]? = some l.ss[k] := List.getElem?_eq_getElem (by omega)
          have q1 := o.ss _ (List.getElem_mem (by omega : k < l.ss.length))
          have es := sAt_eq hs
          have hx1 : (mixL (exL l [] (-1) 0 (M : Int)) (nowP l) k)[k]? = some (1 - l.ss[k].ow) := by rw [mixL_at hAB (by rw [nowP_len]; omega)]; simp [nowP, hs]
          have hx2 := exL_at (l := l) (f := []) (c := -1) (n := 0) (w := (M : Int)) (i := k) (by omega)
          have hx3 := mixL_set hAB hx2
          have hml := mixL_len (k := k) hAB (by rw [nowP_len]; omega)
          rw [nowP_len] at hml
          have hcb := fun h => vc_bound l k h (by omega)
          rw [bdAt_eq hs] at hcb
          have hpr : prt l [] (-1) 0 (M : Int) k = bif isFree l.ss[k] then 0 else (1 - l.ss[k].ow) * (M : Int) := by
            have hk1 : ¬ ((k : Int) = -1) := by omega
            unfold prt freeQ
            rw [if_neg hk1, if_neg (by simp), es]
          rw [hpr] at hx3
          generalize l.ss[k] = s at hs q1 hx1 hx3 hcb
          have q2 := q1.ow
          have m1 := mul_le (a := 1 - s.ow) (b := (M : Int)) (A := 1) (B := 2000) (by omega) (by omega)
          conv => whnf
          repeat' (first | (refine VLd.intro rfl ?_; conv => whnf) | (refine VArith.i64 (by first | omega | (dsimp only; omega)) ?_; conv => whnf) | (refine VNeed.intro (by first | rfl | (simp; omega) | (simp; done)) ?_; conv => whnf) | (refine VMem.store rfl rfl rfl rfl ?_; conv => whnf) | (refine VSame.intro rfl ?_; conv => whnf) | (refine VIte.dec (fun _ => ?_) (fun _ => ?_) <;> conv => whnf) | (refine VIte.ndec (fun _ => ?_) (fun _ => ?_) <;> conv => whnf) | (refine VIte.beq (fun _ => ?_) (fun _ => ?_) <;> conv => whnf) | (refine VIte.bne (fun _ => ?_) (fun _ => ?_) <;> conv => whnf) | (refine VIte.intro (fun _ => ?_) (fun _ => ?_) <;> conv => whnf) | (refine VLd.recc encI_len k 0 rfl rfl rfl hx1 (by decide) rfl (by simp) ?_; conv => whnf))
          refine VMem.setRec encI_len k 0 ((1 - s.ow) * (M : Int)) rfl rfl rfl hx1 (by decide) rfl (by simp) ?_
          conv => whnf
          cases hfr : isFree s
          · rw [hfr] at hcb hx3
            rw [cond_false] at hx3
            repeat' (first | (refine VLd.intro rfl ?_; conv => whnf) | (refine VArith.i64 (by first | omega | (dsimp only; omega)) ?_; conv => whnf) | (refine VNeed.intro (by first | rfl | (simp; omega) | (simp; done)) ?_; conv => whnf) | (refine VMem.store rfl rfl rfl rfl ?_; conv => whnf) | (refine VSame.intro rfl ?_; conv => whnf) | (refine VIte.dec (fun _ => ?_) (fun _ => ?_) <;> conv => whnf) | (refine VIte.ndec (fun _ => ?_) (fun _ => ?_) <;> conv => whnf) | (refine VIte.beq (fun _ => ?_) (fun _ => ?_) <;> conv => whnf) | (refine VIte.bne (fun _ => ?_) (fun _ => ?_) <;> conv => whnf) | (refine VIte.intro (fun _ => ?_) (fun _ => ?_) <;> conv => whnf) | (refine VCall.intro (hcb _) ?_; conv => whnf))
            refine LEnd.intro (k + 1) (by omega) (by omega) ?_
            conv => whnf
            rw [hx3]
            refine Retell.turn ⟨[0,1,2], 3, [], []⟩ (TurnOk.mk' _ _ [] [] (OutOk.lift _) rfl (by decide) (by repeat' (first | exact BTos.nil | refine BTos.flat rfl rfl (by first | rfl | simp) ?_ | refine BTos.new rfl ?_ | refine BTos.dead rfl rfl ?_ | refine BTos.esE rfl rfl ?_ | refine BTos.row rfl rfl rfl (RowTo.snoc (RowTo.one rfl (by simp))) ?_ | refine BTos.cells rfl rfl rfl (by repeat' (first | exact VTo.undef | exact FrTo.leaf | refine FrTo.node ?_ ?_ ?_ | refine FrTo.none ?_ ?_ | exact VTo.sc (by first | rfl | (congr 1; omega) | (congr 1; simp; omega)) | exact VTos_dv _ _ | refine VTos.cons ?_ ?_ | exact VTos.nil | refine VTo.agg ?_ | refine VTo.tuple ?_ | refine VTo.func ?_ ?_ | exact VTo.fs | exact VTo.fp | exact VTo.nilptr | exact VTo.nilslice | exact VTo.nilfunc | exact VTo.ptr rfl | exact VTo.gl rfl | exact VTo.map rfl | exact VTo.yld rfl | exact VTo.fmMap rfl | exact VTo.fm | exact VTo.glNil' (by decide) rfl rfl | exact VTo.fsNil (by decide) | exact VTo.fsSl rfl rfl (by simp [flat_len encE_len]) | exact VTo.fpPtr rfl | exact VTo.fsGl rfl (by first | rfl | exact flat_len encI_len _ | exact flat_len encT_len _ | exact flat_len encS_len _ | exact flat_len encP_len _ | exact flat_len encL_len _ | exact flat_len encE_len _ | (simp [flat_len encP_len]; done) | simp [flat_len encI_len, flat_len encS_len]))) ?_)) trivial trivial rfl) (by repeat' (first | exact VTo.undef | exact FrTo.leaf | refine FrTo.node ?_ ?_ ?_ | refine FrTo.none ?_ ?_ | exact VTo.sc (by first | rfl | (congr 1; omega) | (congr 1; simp; omega)) | exact VTos_dv _ _ | refine VTos.cons ?_ ?_ | exact VTos.nil | refine VTo.agg ?_ | refine VTo.tuple ?_ | refine VTo.func ?_ ?_ | exact VTo.fs | exact VTo.fp | exact VTo.nilptr | exact VTo.nilslice | exact VTo.nilfunc | exact VTo.ptr rfl | exact VTo.gl rfl | exact VTo.map rfl | exact VTo.yld rfl | exact VTo.fmMap rfl | exact VTo.fm | exact VTo.glNil' (by decide) rfl rfl | exact VTo.fsNil (by decide) | exact VTo.fsSl rfl rfl (by simp [flat_len encE_len]) | exact VTo.fpPtr rfl | exact VTo.fsGl rfl (by first | rfl | exact flat_len encI_len _ | exact flat_len encT_len _ | exact flat_len encS_len _ | exact flat_len encP_len _ | exact flat_len encL_len _ | exact flat_len encE_len _ | (simp [flat_len encP_len]; done) | simp [flat_len encI_len, flat_len encS_len]))) (by first | rfl | (repeat' (first | exact MkTo.nil | refine MkTo.keep rfl ?_ | refine MkTo.drop (by decide) rfl ?_)))
          · rw [hfr] at hcb hx3
            rw [cond_true] at hx3
            have hx4 : ((mixL (exL l [] (-1) 0 (M : Int)) (nowP l) k).set k ((1 - s.ow) * (M : Int)))[k]? = some ((1 - s.ow) * (M : Int)) := by rw [List.getElem?_set_self (by omega)]
            have hx5 : ((mixL (exL l [] (-1) 0 (M : Int)) (nowP l) k).set k ((1 - s.ow) * (M : Int))).set k 0 = (mixL (exL l [] (-1) 0 (M : Int)) (nowP l) k).set k 0 := by rw [List.set_set]
            repeat' (first | (refine VLd.intro rfl ?_; conv => whnf) | (refine VArith.i64 (by first | omega | (dsimp only; omega)) ?_; conv => whnf) | (refine VNeed.intro (by first | rfl | (simp; omega) | (simp; done)) ?_; conv => whnf) | (refine VMem.store rfl rfl rfl rfl ?_; conv => whnf) | (refine VSame.intro rfl ?_; conv => whnf) | (refine VIte.dec (fun _ => ?_) (fun _ => ?_) <;> conv => whnf) | (refine VIte.ndec (fun _ => ?_) (fun _ => ?_) <;> conv => whnf) | (refine VIte.beq (fun _ => ?_) (fun _ => ?_) <;> conv => whnf) | (refine VIte.bne (fun _ => ?_) (fun _ => ?_) <;> conv => whnf) | (refine VIte.intro (fun _ => ?_) (fun _ => ?_) <;> conv => whnf) | (refine VCall.intro (hcb _) ?_; conv => whnf))
            refine VMem.setRec encI_len k 0 (0 : Int) rfl rfl rfl hx4 (by decide) rfl (by simp) ?_
            conv => whnf
            repeat' (first | (refine VLd.intro rfl ?_; conv => whnf) | (refine VArith.i64 (by first | omega | (dsimp only; omega)) ?_; conv => whnf) | (refine VNeed.intro (by first | rfl | (simp; omega) | (simp; done)) ?_; conv => whnf) | (refine VMem.store rfl rfl rfl rfl ?_; conv => whnf) | (refine VSame.intro rfl ?_; conv => whnf) | (refine VIte.dec (fun _ => ?_) (fun _ => ?_) <;> conv => whnf) | (refine VIte.ndec (fun _ => ?_) (fun _ => ?_) <;> conv => whnf) | (refine VIte.beq (fun _ => ?_) (fun _ => ?_) <;> conv => whnf) | (refine VIte.bne (fun _ => ?_) (fun _ => ?_) <;> conv => whnf) | (refine VIte.intro (fun _ => ?_) (fun _ => ?_) <;> conv => whnf))
            refine LEnd.intro (k + 1) (by omega) (by omega) ?_
            conv => whnf
            rw [hx5, hx3]
            refine Retell.turn ⟨[0,1,2], 3, [], []⟩ (TurnOk.mk' _ _ [] [] (OutOk.lift _) rfl (by decide) (by repeat' (first | exact BTos.nil | refine BTos.flat rfl rfl (by first | rfl | simp) ?_ | refine BTos.new rfl ?_ | refine BTos.dead rfl rfl ?_ | refine BTos.esE rfl rfl ?_ | refine BTos.row rfl rfl rfl (RowTo.snoc (RowTo.one rfl (by simp))) ?_ | refine BTos.cells rfl rfl rfl (by repeat' (first | exact VTo.undef | exact FrTo.leaf | refine FrTo.node ?_ ?_ ?_ | refine FrTo.none ?_ ?_ | exact VTo.sc (by first | rfl | (congr 1; omega) | (congr 1; simp; omega)) | exact VTos_dv _ _ | refine VTos.cons ?_ ?_ | exact VTos.nil | refine VTo.agg ?_ | refine VTo.tuple ?_ | refine VTo.func ?_ ?_ | exact VTo.fs | exact VTo.fp | exact VTo.nilptr | exact VTo.nilslice | exact VTo.nilfunc | exact VTo.ptr rfl | exact VTo.gl rfl | exact VTo.map rfl | exact VTo.yld rfl | exact VTo.fmMap rfl | exact VTo.fm | exact VTo.glNil' (by decide) rfl rfl | exact VTo.fsNil (by decide) | exact VTo.fsSl rfl rfl (by simp [flat_len encE_len]) | exact VTo.fpPtr rfl | exact VTo.fsGl rfl (by first | rfl | exact flat_len encI_len _ | exact flat_len encT_len _ | exact flat_len encS_len _ | exact flat_len encP_len _ | exact flat_len encL_len _ | exact flat_len encE_len _ | (simp [flat_len encP_len]; done) | simp [flat_len encI_len, flat_len encS_len]))) ?_)) trivial trivial rfl) (by repeat' (first | exact VTo.undef | exact FrTo.leaf | refine FrTo.node ?_ ?_ ?_ | refine FrTo.none ?_ ?_ | exact VTo.sc (by first | rfl | (congr 1; omega) | (congr 1; simp; omega)) | exact VTos_dv _ _ | refine VTos.cons ?_ ?_ | exact VTos.nil | refine VTo.agg ?_ | refine VTo.tuple ?_ | refine VTo.func ?_ ?_ | exact VTo.fs | exact VTo.fp | exact VTo.nilptr | exact VTo.nilslice | exact VTo.nilfunc | exact VTo.ptr rfl | exact VTo.gl rfl | exact VTo.map rfl | exact VTo.yld rfl | exact VTo.fmMap rfl | exact VTo.fm | exact VTo.glNil' (by decide) rfl rfl | exact VTo.fsNil (by decide) | exact VTo.fsSl rfl rfl (by simp [flat_len encE_len]) | exact VTo.fpPtr rfl | exact VTo.fsGl rfl (by first | rfl | exact flat_len encI_len _ | exact flat_len encT_len _ | exact flat_len encS_len _ | exact flat_len encP_len _ | exact flat_len encL_len _ | exact flat_len encE_len _ | (simp [flat_len encP_len]; done) | simp [flat_len encI_len, flat_len encS_len]))) (by first | rfl | (repeat' (first | exact MkTo.nil | refine MkTo.keep rfl ?_ | refine MkTo.drop (by decide) rfl ?_)))
        · have he : mixL (exL l [] (-1) 0 (M : Int)) (nowP l) k = exL l [] (-1) 0 (M : Int) := by
            unfold mixL
            rw [List.take_of_length_le (by rw [exL_len]; omega), List.drop_of_length_le (by rw [nowP_len]; omega), List.append_nil]
          rw [he]
          conv => whnf
          repeat' (first | (refine VLd.intro rfl ?_; conv => whnf) | (refine VArith.i64 (by first | omega | (dsimp only; omega)) ?_; conv => whnf) | (refine VNeed.intro (by first | rfl | (simp; omega) | (simp; done)) ?_; conv => whnf) | (refine VMem.store rfl rfl rfl rfl ?_; conv => whnf) | (refine VSame.intro rfl ?_; conv => whnf) | (refine VIte.dec (fun _ => ?_) (fun _ => ?_) <;> conv => whnf) | (refine VIte.ndec (fun _ => ?_) (fun _ => ?_) <;> conv => whnf) | (refine VIte.beq (fun _ => ?_) (fun _ => ?_) <;> conv => whnf) | (refine VIte.bne (fun _ => ?_) (fun _ => ?_) <;> conv => whnf) | (refine VIte.intro (fun _ => ?_) (fun _ => ?_) <;> conv => whnf))
          refine VCode.lp (fun k : Nat => [(2, I c), (3, I N), (4, I M), (10, .ptr (.loc 0) 0), (13, .ptr (.loc 2) 0), (69, ints f), (70, I f.length), (71, I k)])
            (fun k => [.flat true [DI 0, .nilslice], .flat true ((exL l (f.take k) (-1) 0 (M : Int)).flatMap encI), .cells true [I M, .gl (.loc 1) 1 l.ss.length]]) (fun k => k ≤ f.length) (fun k => f.length - k) 0 (Nat.zero_le _) ?_ ?_
          · conv => whnf
            refine Retell.turn ⟨[0,1,2], 3, [], []⟩ (TurnOk.mk' _ _ [] [] (OutOk.lift _) rfl (by decide) (by repeat' (first | exact BTos.nil | refine BTos.flat rfl rfl (by first | rfl | simp) ?_ | refine BTos.new rfl ?_ | refine BTos.dead rfl rfl ?_ | refine BTos.esE rfl rfl ?_ | refine BTos.row rfl rfl rfl (RowTo.snoc (RowTo.one rfl (by simp))) ?_ | refine BTos.cells rfl rfl rfl (by repeat' (first | exact VTo.undef | exact FrTo.leaf | refine FrTo.node ?_ ?_ ?_ | refine FrTo.none ?_ ?_ | exact VTo.sc (by first | rfl | (congr 1; omega) | (congr 1; simp; omega)) | exact VTos_dv _ _ | refine VTos.cons ?_ ?_ | exact VTos.nil | refine VTo.agg ?_ | refine VTo.tuple ?_ | refine VTo.func ?_ ?_ | exact VTo.fs | exact VTo.fp | exact VTo.nilptr | exact VTo.nilslice | exact VTo.nilfunc | exact VTo.ptr rfl | exact VTo.gl rfl | exact VTo.map rfl | exact VTo.yld rfl | exact VTo.fmMap rfl | exact VTo.fm | exact VTo.glNil' (by decide) rfl rfl | exact VTo.fsNil (by decide) | exact VTo.fsSl rfl rfl (by simp [flat_len encE_len]) | exact VTo.fpPtr rfl | exact VTo.fsGl rfl (by first | rfl | exact flat_len encI_len _ | exact flat_len encT_len _ | exact flat_len encS_len _ | exact flat_len encP_len _ | exact flat_len encL_len _ | exact flat_len encE_len _ | (simp [flat_len encP_len]; done) | simp [flat_len encI_len, flat_len encS_len]))) ?_)) trivial trivial rfl) (by repeat' (first | exact VTo.undef | exact FrTo.leaf | refine FrTo.node ?_ ?_ ?_ | refine FrTo.none ?_ ?_ | exact VTo.sc (by first | rfl | (congr 1; omega) | (congr 1; simp; omega)) | exact VTos_dv _ _ | refine VTos.cons ?_ ?_ | exact VTos.nil | refine VTo.agg ?_ | refine VTo.tuple ?_ | refine VTo.func ?_ ?_ | exact VTo.fs | exact VTo.fp | exact VTo.nilptr | exact VTo.nilslice | exact VTo.nilfunc | exact VTo.ptr rfl | exact VTo.gl rfl | exact VTo.map rfl | exact VTo.yld rfl | exact VTo.fmMap rfl | exact VTo.fm | exact VTo.glNil' (by decide) rfl rfl | exact VTo.fsNil (by decide) | exact VTo.fsSl rfl rfl (by simp [flat_len encE_len]) | exact VTo.fpPtr rfl | exact VTo.fsGl rfl (by first | rfl | exact flat_len encI_len _ | exact flat_len encT_len _ | exact flat_len encS_len _ | exact flat_len encP_len _ | exact flat_len encL_len _ | exact flat_len encE_len _ | (simp [flat_len encP_len]; done) | simp [flat_len encI_len, flat_len encS_len]))) (by first | rfl | (repeat' (first | exact MkTo.nil | refine MkTo.keep rfl ?_ | refine MkTo.drop (by decide) rfl ?_)))
          · intro k hk
            conv => whnf
            refine VIte.dec (fun h5 => ?_) (fun h5 => ?_)
            · have hx : f[k]? = some f[k] := List.getElem?_eq_getElem (by omega)
              obtain ⟨j, hj1, hj2⟩ := hf _ (List.getElem_mem (by omega : k < f.length))
              rw [hj2] at hx
              have hat := exL_at (l := l) (f := f.take k) (c := -1) (n := 0) (w := (M : Int)) hj1
              have hst := exL_set (l := l) (f := f.take k) (n := 0) (w := (M : Int)) hj1
              have htk : f.take k ++ [(j : Int)] = f.take (k + 1) := by rw [List.take_add_one, hx]; rfl
              rw [htk] at hst
              conv => whnf
              repeat' (first | (refine VLd.intro rfl ?_; conv => whnf) | (refine VArith.i64 (by first | omega | (dsimp only; omega)) ?_; conv => whnf) | (refine VNeed.intro (by first | rfl | (simp; omega) | (simp; done)) ?_; conv => whnf) | (refine VMem.store rfl rfl rfl rfl ?_; conv => whnf) | (refine VSame.intro rfl ?_; conv => whnf) | (refine VIte.dec (fun _ => ?_) (fun _ => ?_) <;> conv => whnf) | (refine VIte.ndec (fun _ => ?_) (fun _ => ?_) <;> conv => whnf) | (refine VIte.beq (fun _ => ?_) (fun _ => ?_) <;> conv => whnf) | (refine VIte.bne (fun _ => ?_) (fun _ => ?_) <;> conv => whnf) | (refine VIte.intro (fun _ => ?_) (fun _ => ?_) <;> conv => whnf) | (refine VAny.ix encI_len k rfl rfl hx ?_; conv => whnf))
              refine VMem.setRec encI_len j 0 (M : Int) rfl rfl rfl hat (by decide) rfl (by simp) ?_
              conv => whnf
              repeat' (first | (refine VLd.intro rfl ?_; conv => whnf) | (refine VArith.i64 (by first | omega | (dsimp only; omega)) ?_; conv => whnf) | (refine VNeed.intro (by first | rfl | (simp; omega) | (simp; done)) ?_; conv => whnf) | (refine VMem.store rfl rfl rfl rfl ?_; conv => whnf) | (refine VSame.intro rfl ?_; conv => whnf) | (refine VIte.dec (fun _ => ?_) (fun _ => ?_) <;> conv => whnf) | (refine VIte.ndec (fun _ => ?_) (fun _ => ?_) <;> conv => whnf) | (refine VIte.beq (fun _ => ?_) (fun _ => ?_) <;> conv => whnf) | (refine VIte.bne (fun _ => ?_) (fun _ => ?_) <;> conv => whnf) | (refine VIte.intro (fun _ => ?_) (fun _ => ?_) <;> conv => whnf))
              refine LEnd.intro (k + 1) (by omega) (by omega) ?_
              conv => whnf
              rw [hst]
              refine Retell.turn ⟨[0,1,2], 3, [], []⟩ (TurnOk.mk' _ _ [] [] (OutOk.lift _) rfl (by decide) (by repeat' (first | exact BTos.nil | refine BTos.flat rfl rfl (by first | rfl | simp) ?_ | refine BTos.new rfl ?_ | refine BTos.dead rfl rfl ?_ | refine BTos.esE rfl rfl ?_ | refine BTos.row rfl rfl rfl (RowTo.snoc (RowTo.one rfl (by simp))) ?_ | refine BTos.cells rfl rfl rfl (by repeat' (first | exact VTo.undef | exact FrTo.leaf | refine FrTo.node ?_ ?_ ?_ | refine FrTo.none ?_ ?_ | exact VTo.sc (by first | rfl | (congr 1; omega) | (congr 1; simp; omega)) | exact VTos_dv _ _ | refine VTos.cons ?_ ?_ | exact VTos.nil | refine VTo.agg ?_ | refine VTo.tuple ?_ | refine VTo.func ?_ ?_ | exact VTo.fs | exact VTo.fp | exact VTo.nilptr | exact VTo.nilslice | exact VTo.nilfunc | exact VTo.ptr rfl | exact VTo.gl rfl | exact VTo.map rfl | exact VTo.yld rfl | exact VTo.fmMap rfl | exact VTo.fm | exact VTo.glNil' (by decide) rfl rfl | exact VTo.fsNil (by decide) | exact VTo.fsSl rfl rfl (by simp [flat_len encE_len]) | exact VTo.fpPtr rfl | exact VTo.fsGl rfl (by first | rfl | exact flat_len encI_len _ | exact flat_len encT_len _ | exact flat_len encS_len _ | exact flat_len encP_len _ | exact flat_len encL_len _ | exact flat_len encE_len _ | (simp [flat_len encP_len]; done) | simp [flat_len encI_len, flat_len encS_len]))) ?_)) trivial trivial rfl) (by repeat' (first | exact VTo.undef | exact FrTo.leaf | refine FrTo.node ?_ ?_ ?_ | refine FrTo.none ?_ ?_ | exact VTo.sc (by first | rfl | (congr 1; omega) | (congr 1; simp; omega)) | exact VTos_dv _ _ | refine VTos.cons ?_ ?_ | exact VTos.nil | refine VTo.agg ?_ | refine VTo.tuple ?_ | refine VTo.func ?_ ?_ | exact VTo.fs | exact VTo.fp | exact VTo.nilptr | exact VTo.nilslice | exact VTo.nilfunc | exact VTo.ptr rfl | exact VTo.gl rfl | exact VTo.map rfl | exact VTo.yld rfl | exact VTo.fmMap rfl | exact VTo.fm | exact VTo.glNil' (by decide) rfl rfl | exact VTo.fsNil (by decide) | exact VTo.fsSl rfl rfl (by simp [flat_len encE_len]) | exact VTo.fpPtr rfl | exact VTo.fsGl rfl (by first | rfl | exact flat_len encI_len _ | exact flat_len encT_len _ | exact flat_len encS_len _ | exact flat_len encP_len _ | exact flat_len encL_len _ | exact flat_len encE_len _ | (simp [flat_len encP_len]; done) | simp [flat_len encI_len, flat_len encS_len]))) (by first | rfl | (repeat' (first | exact MkTo.nil | refine MkTo.keep rfl ?_ | refine MkTo.drop (by decide) rfl ?_)))
            · have hkf : f.take k = f := List.take_of_length_le (by omega)
              rw [hkf]
              rcases hc with rfl | ⟨j, hj1, rfl⟩
              · have hel := exL_len l f (-1) (N : Int) (M : Int)
                rw [exL_irr l f 0 (N : Int) (M : Int), show l.ss.length = (exL l f (-1) (N : Int) (M : Int)).length from hel.symm]
                conv => whnf
                repeat' (first | (refine VLd.intro rfl ?_; conv => whnf) | (refine VArith.i64 (by first | omega | (dsimp only; omega)) ?_; conv => whnf) | (refine VNeed.intro (by first | rfl | (simp; omega) | (simp; done)) ?_; conv => whnf) | (refine VMem.store rfl rfl rfl rfl ?_; conv => whnf) | (refine VSame.intro rfl ?_; conv => whnf) | (refine VDraw.go [] (by kernel_rfl) (by kernel_rfl) ?_; conv => whnf) | (refine VIte.dec (fun _ => ?_) (fun _ => ?_) <;> conv => whnf) | (refine VIte.ndec (fun _ => ?_) (fun _ => ?_) <;> conv => whnf) | (refine VIte.beq (fun _ => ?_) (fun _ => ?_) <;> conv => whnf) | (refine VIte.bne (fun _ => ?_) (fun _ => ?_) <;> conv => whnf) | (refine VIte.intro (fun _ => ?_) (fun _ => ?_) <;> conv => whnf))
                refine VOut.data 3 [(1, (exL l f (-1) (N : Int) (M : Int)).flatMap encI)] [] rfl (by repeat' (first | exact FzAll.nil | refine FzAll.flat rfl ?_ | refine FzAll.row rfl rfl (RowTo.one rfl (by simp)) ?_)) (by exact FmAll.nil) (by repeat' (first | exact VTo.undef | exact FrTo.leaf | refine FrTo.node ?_ ?_ ?_ | refine FrTo.none ?_ ?_ | exact VTo.sc (by first | rfl | (congr 1; omega) | (congr 1; simp; omega)) | exact VTos_dv _ _ | refine VTos.cons ?_ ?_ | exact VTos.nil | refine VTo.agg ?_ | refine VTo.tuple ?_ | refine VTo.func ?_ ?_ | exact VTo.fs | exact VTo.fp | exact VTo.nilptr | exact VTo.nilslice | exact VTo.nilfunc | exact VTo.ptr rfl | exact VTo.gl rfl | exact VTo.map rfl | exact VTo.yld rfl | exact VTo.fmMap rfl | exact VTo.fm | exact VTo.glNil' (by decide) rfl rfl | exact VTo.fsNil (by decide) | exact VTo.fsSl rfl rfl (by simp [flat_len encE_len]) | exact VTo.fpPtr rfl | exact VTo.fsGl rfl (by first | rfl | exact flat_len encI_len _ | exact flat_len encT_len _ | exact flat_len encS_len _ | exact flat_len encP_len _ | exact flat_len encL_len _ | exact flat_len encE_len _ | (simp [flat_len encP_len]; done) | simp [flat_len encI_len, flat_len encS_len])))
              · have hat := exL_at (l := l) (f := f) (c := -1) (n := 0) (w := (M : Int)) hj1
                have hst := exL_cut (l := l) (f := f) (n := (N : Int)) (m := 0) (w := (M : Int)) hj1
                have hel := exL_len l f (j : Int) (N : Int) (M : Int)
                conv => whnf
                repeat' (first | (refine VLd.intro rfl ?_; conv => whnf) | (refine VArith.i64 (by first | omega | (dsimp only; omega)) ?_; conv => whnf) | (refine VNeed.intro (by first | rfl | (simp; omega) | (simp; done)) ?_; conv => whnf) | (refine VMem.store rfl rfl rfl rfl ?_; conv => whnf) | (refine VSame.intro rfl ?_; conv => whnf) | (refine VDraw.go [] (by kernel_rfl) (by kernel_rfl) ?_; conv => whnf) | (refine VIte.dec (fun _ => ?_) (fun _ => ?_) <;> conv => whnf) | (refine VIte.ndec (fun _ => ?_) (fun _ => ?_) <;> conv => whnf) | (refine VIte.beq (fun _ => ?_) (fun _ => ?_) <;> conv => whnf) | (refine VIte.bne (fun _ => ?_) (fun _ => ?_) <;> conv => whnf) | (refine VIte.intro (fun _ => ?_) (fun _ => ?_) <;> conv => whnf))
                all_goals try (exfalso; omega)
                refine VMem.setRec encI_len j 0 (N : Int) rfl rfl rfl hat (by decide) rfl (by simp) ?_
                conv => whnf
                repeat' (first | (refine VLd.intro rfl ?_; conv => whnf) | (refine VArith.i64 (by first | omega | (dsimp only; omega)) ?_; conv => whnf) | (refine VNeed.intro (by first | rfl | (simp; omega) | (simp; done)) ?_; conv => whnf) | (refine VMem.store rfl rfl rfl rfl ?_; conv => whnf) | (refine VSame.intro rfl ?_; conv => whnf) | (refine VDraw.go [] (by kernel_rfl) (by kernel_rfl) ?_; conv => whnf) | (refine VIte.dec (fun _ => ?_) (fun _ => ?_) <;> conv => whnf) | (refine VIte.ndec (fun _ => ?_) (fun _ => ?_) <;> conv => whnf) | (refine VIte.beq (fun _ => ?_) (fun _ => ?_) <;> conv => whnf) | (refine VIte.bne (fun _ => ?_) (fun _ => ?_) <;> conv => whnf) | (refine VIte.intro (fun _ => ?_) (fun _ => ?_) <;> conv => whnf))
                rw [hst, show l.ss.length = (exL l f (j : Int) (N : Int) (M : Int)).length from hel.symm]
                refine VOut.data 3 [(1, (exL l f (j : Int) (N : Int) (M : Int)).flatMap encI)] [] rfl (by repeat' (first | exact FzAll.nil | refine FzAll.flat rfl ?_ | refine FzAll.row rfl rfl (RowTo.one rfl (by simp)) ?_)) (by exact FmAll.nil) (by repeat' (first | exact VTo.undef | exact FrTo.leaf | refine FrTo.node ?_ ?_ ?_ | refine FrTo.none ?_ ?_ | exact VTo.sc (by first | rfl | (congr 1; omega) | (congr 1; simp; omega)) | exact VTos_dv _ _ | refine VTos.cons ?_ ?_ | exact VTos.nil | refine VTo.agg ?_ | refine VTo.tuple ?_ | refine VTo.func ?_ ?_ | exact VTo.fs | exact VTo.fp | exact VTo.nilptr | exact VTo.nilslice | exact VTo.nilfunc | exact VTo.ptr rfl | exact VTo.gl rfl | exact VTo.map rfl | exact VTo.yld rfl | exact VTo.fmMap rfl | exact VTo.fm | exact VTo.glNil' (by decide) rfl rfl | exact VTo.fsNil (by decide) | exact VTo.fsSl rfl rfl (by simp [flat_len encE_len]) | exact VTo.fpPtr rfl | exact VTo.fsGl rfl (by first | rfl | exact flat_len encI_len _ | exact flat_len encT_len _ | exact flat_len encS_len _ | exact flat_len encP_len _ | exact flat_len encL_len _ | exact flat_len encE_len _ | (simp [flat_len encP_len]; done) | simp [flat_len encI_len, flat_len encS_len])))
end Go.Proofs.Ytmpjpjfkbmlmfaa

open Go.Vm
namespace Go.Proofs.Ytmpjpjfkbmlmfaa
set_option maxRecDepth 20000
set_option maxHeartbeats 4000000

theorem ord_mem {l : Lnd} {x : Int} (h : x ∈ ordL l) : ∃ j : Nat, j < l.ss.length ∧ x = j ∧ freeQ l j = true := by
  have := isGo_mem (q := ahB l) (l := frL l l.ss.length) (Nat.le_refl _) x h
  exact mem_selS.1 this
theorem ord_len (l : Lnd) : (ordL l).length ≤ l.ss.length := by
  have : (ordL l).length = (frL l l.ss.length).length := isrt_len _ _
  rw [this]; exact selS_len _ _
/-- The stretch that is cut. -/
def cutC (l : Lnd) (many : Nat) : Int := (ordL l).getD many (-1)
end Go.Proofs.Ytmpjpjfkbmlmfaa

open Go.Vm
namespace Go.Proofs.Ytmpjpjfkbmlmfaa
set_option maxRecDepth 20000
set_option maxHeartbeats 1000000

theorem hN_set : ∀ {ss : List Str} {ps : List Int} {i : Nat} {s : Str} {p : Int} (v : Int), ss[i]? = some s → ps[i]? = some p → hN ss (ps.set i v) = hN ss ps + s.no * (v - p)
  | [], _, _, _, _, _, h, _ => by simp at h
  | _ :: _, [], _, _, _, _, _, h => by simp at h
  | t :: ss, q :: ps, 0, s, p, v, h1, h2 => by
    simp at h1 h2; subst h1 h2
    rw [List.set_cons_zero, hN, hN, Int.mul_sub]; omega
  | t :: ss, q :: ps, i + 1, s, p, v, h1, h2 => by
    rw [List.set_cons_succ, hN, hN, hN_set v (by simpa using h1) (by simpa using h2)]; omega
theorem hS_set {w : Int} : ∀ {ss : List Str} {ps : List Int} {i : Nat} {s : Str} {p : Int} (v : Int), ss[i]? = some s → ps[i]? = some p → hS w ss (ps.set i v) = hS w ss ps - s.so * (v - p)
  | [], _, _, _, _, _, h, _ => by simp at h
  | _ :: _, [], _, _, _, _, _, h => by simp at h
  | t :: ss, q :: ps, 0, s, p, v, h1, h2 => by
    simp at h1 h2; subst h1 h2
    rw [List.set_cons_zero, hS, hS, Int.mul_sub, Int.mul_sub, Int.mul_sub]; omega
  | t :: ss, q :: ps, i + 1, s, p, v, h1, h2 => by
    rw [List.set_cons_succ, hS, hS, hS_set v (by simpa using h1) (by simpa using h2)]; omega
theorem hN_mono : ∀ {ss : List Str} {ps qs : List Int}, (∀ s ∈ ss, 0 ≤ s.no) → ps.length = ss.length → qs.length = ss.length → (∀ (i : Nat) p q, ps[i]? = some p → qs[i]? = some q → p ≤ q) → hN ss ps ≤ hN ss qs
  | [], _, _, _, _, _, _ => by simp [hN]
  | s :: ss, [], _, _, h, _, _ => by simp at h
  | s :: ss, _ :: _, [], _, _, h, _ => by simp at h
  | s :: ss, p :: ps, q :: qs, hs, h1, h2, h => by
    have := hN_mono (fun t hm => hs t (List.mem_cons_of_mem _ hm)) (by simpa using h1) (by simpa using h2) (fun i p q hp hq => h (i + 1) p q (by simpa using hp) (by simpa using hq))
    have h0 := Int.mul_le_mul_of_nonneg_left (h 0 p q rfl rfl) (hs s (by simp))
    rw [hN, hN]; omega
theorem hS_mono {w : Int} : ∀ {ss : List Str} {ps qs : List Int}, (∀ s ∈ ss, 0 ≤ s.so) → ps.length = ss.length → qs.length = ss.length → (∀ (i : Nat) p q, ps[i]? = some p → qs[i]? = some q → p ≤ q) → hS w ss qs ≤ hS w ss ps
  | [], _, _, _, _, _, _ => by simp [hS]
  | s :: ss, [], _, _, h, _, _ => by simp at h
  | s :: ss, _ :: _, [], _, _, h, _ => by simp at h
  | s :: ss, p :: ps, q :: qs, hs, h1, h2, h => by
    have := hS_mono (w := w) (fun t hm => hs t (List.mem_cons_of_mem _ hm)) (by simpa using h1) (by simpa using h2) (fun i p q hp hq => h (i + 1) p q (by simpa using hp) (by simpa using hq))
    have h0 := Int.mul_le_mul_of_nonneg_left (show w - q ≤ w - p by have := h 0 p q rfl rfl; omega) (hs s (by simp))
    rw [hS, hS]; omega
/-! ### The order, place by place -/
theorem selS_nodup (q : Nat → Bool) : ∀ k, (selS q k).Nodup
  | 0 => List.nodup_nil
  | k + 1 => by
    rw [selS]
    split
    · rw [List.nodup_append]
      refine ⟨selS_nodup q k, by simp, ?_⟩
      intro a ha b hb
      rw [List.mem_singleton] at hb
      obtain ⟨j, h1, h2, _⟩ := mem_selS.1 ha
      omega
    · exact selS_nodup q k
theorem insS_nodup {q : Int → Bool} {out : List Int} {x : Int} (h : out.Nodup) (hx : x ∉ out) : (insS q out x).Nodup := by
  unfold insS
  generalize posS q out out.length = p
  rw [← List.take_append_drop p out] at h hx
  generalize out.take p = A at h hx
  generalize out.drop p = B at h hx
  rw [List.nodup_append] at h ⊢
  obtain ⟨h1, h2, h3⟩ := h
  refine ⟨h1, ?_, ?_⟩
  · rw [List.nodup_cons]
    exact ⟨fun hb => hx (List.mem_append.2 (.inr hb)), h2⟩
  · intro a ha b hb
    rcases List.mem_cons.1 hb with rfl | hb
    · intro e; subst e; exact hx (List.mem_append.2 (.inl ha))
    · exact h3 a ha b hb
theorem isGo_nodup {q : Int → Int → Bool} {l : List Int} (h : l.Nodup) : ∀ m, m ≤ l.length → (isGo q l m).Nodup ∧ ∀ y ∈ isGo q l m, y ∈ l.take m
  | 0, _ => ⟨List.nodup_nil, fun y hy => by cases hy⟩
  | m + 1, hm => by
    obtain ⟨h1, h2⟩ := isGo_nodup h m (by omega)
    have hx : l[m]? = some l[m] := List.getElem?_eq_getElem (by omega)
    have hg : l.getD m 0 = l[m] := by rw [List.getD_eq_getElem?_getD, hx]; rfl
    have hnot : l[m] ∉ l.take m := by
      intro hin
      rw [← List.take_append_drop m l, List.nodup_append] at h
      refine h.2.2 _ hin l[m] ?_ rfl
      rw [List.drop_eq_getElem_cons (by omega)]; exact List.mem_cons_self
    have htk : l.take (m + 1) = l.take m ++ [l[m]] := by rw [List.take_add_one, hx]; rfl
    rw [isGo, hg]
    refine ⟨insS_nodup h1 fun hin => hnot (h2 _ hin), fun y hy => ?_⟩
    rw [htk]
    rcases insS_mem.1 hy with rfl | hy
    · exact List.mem_append.2 (.inr List.mem_cons_self)
    · exact List.mem_append.2 (.inl (h2 y hy))
theorem ord_nodup (l : Lnd) : (ordL l).Nodup := (isGo_nodup (selS_nodup _ _) _ (Nat.le_refl _)).1
/-- The k-th stretch in the order. -/
def oS (l : Lnd) (k : Nat) : Str := sAt l ((ordL l).getD k 0).toNat
structure AtK (l : Lnd) (k j : Nat) : Prop where
  at_ : (ordL l)[k]? = some (j : Int)
  lt : j < l.ss.length
  free : freeQ l j = true
  new : (j : Int) ∉ (ordL l).take k
  tk : (ordL l).take (k + 1) = (ordL l).take k ++ [(j : Int)]
  cut : cutC l k = j
  st : l.ss[j]? = some (oS l k)
theorem at_k {l : Lnd} {k : Nat} (hk : k < (ordL l).length) : ∃ j, AtK l k j := by
  have hx : (ordL l)[k]? = some (ordL l)[k] := List.getElem?_eq_getElem hk
  obtain ⟨j, h1, h2, h3⟩ := ord_mem (List.getElem_mem hk)
  rw [h2] at hx
  have hs : l.ss[j]? = some l.ss[j] := List.getElem?_eq_getElem h1
  refine ⟨j, hx, h1, h3, ?_, by rw [List.take_add_one, hx]; rfl, by unfold cutC; rw [List.getD_eq_getElem?_getD, hx]; rfl, ?_⟩
  · intro hin
    have hn := ord_nodup l
    rw [← List.take_append_drop k (ordL l), List.nodup_append] at hn
    refine hn.2.2 _ hin (j : Int) ?_ rfl
    rw [List.drop_eq_getElem_cons hk, h2]; simp
  · unfold oS
    rw [List.getD_eq_getElem?_getD, hx, Option.getD_some, Int.toNat_natCast, sAt_eq hs]; exact hs
/-- The exchange in which the North has the first ones. -/
def xK (l : Lnd) (k : Nat) : Exc := ⟨1, exL l ((ordL l).take k) (-1) 0 1⟩
/-- And n of w parts of the next one. -/
def xC (l : Lnd) (k : Nat) (n w : Int) : Exc := ⟨w, exL l ((ordL l).take k) (cutC l k) n w⟩
theorem prt_free {l : Lnd} {f : List Int} {n w : Int} {j : Nat} (hf : freeQ l j = true) (hn : (j : Int) ∉ f) : prt l f (-1) n w j = 0 := by
  have h1 : ¬ ((j : Int) = -1) := by omega
  unfold prt
  rw [if_neg h1, if_neg hn, hf]; rfl
def nK (l : Lnd) (k : Nat) : Int := gnN l (xK l k)
def sK (l : Lnd) (k : Nat) : Int := gnS l (xK l k)
theorem nK_succ {l : Lnd} {k : Nat} (hk : k < (ordL l).length) : nK l (k + 1) = nK l k + (oS l k).no ∧ sK l (k + 1) = sK l k - (oS l k).so := by
  obtain ⟨j, A⟩ := at_k hk
  have hat := exL_at (l := l) (f := (ordL l).take k) (c := -1) (n := 0) (w := 1) A.lt
  rw [prt_free A.free A.new] at hat
  have e : exL l ((ordL l).take (k + 1)) (-1) 0 1 = (exL l ((ordL l).take k) (-1) 0 1).set j 1 := by rw [A.tk, exL_set A.lt]
  have e1 := hN_set 1 A.st hat
  have e2 := hS_set (w := 1) 1 A.st hat
  rw [← e] at e1 e2
  unfold nK sK gnN gnS hasN hasS xK
  dsimp only
  rw [e1, e2]
  omega
end Go.Proofs.Ytmpjpjfkbmlmfaa

open Go.Vm
namespace Go.Proofs.Ytmpjpjfkbmlmfaa
set_option maxRecDepth 20000
set_option maxHeartbeats 4000000

theorem exL_ok {l : Lnd} {f : List Int} {c n w : Int} (o : Ok l) (hn : 0 ≤ n ∧ n ≤ w) (hw : 1 ≤ w ∧ w ≤ 2000) : XOk l ⟨w, exL l f c n w⟩ where
  w := hw
  len := exL_len l f c n w
  ps := fun p hp => by
    obtain ⟨i, hi, rfl⟩ := List.mem_map.1 hp
    rw [List.mem_range] at hi
    have hs : l.ss[i]? = some l.ss[i] := List.getElem?_eq_getElem hi
    have q := (o.ss _ (List.getElem_mem hi)).ow
    show 0 ≤ prt l f c n w i ∧ prt l f c n w i ≤ w
    unfold prt
    rw [sAt_eq hs]
    split
    · exact hn
    · split
      · omega
      · cases freeQ l i
        · rw [cond_false]
          rcases q with e | e <;> rw [e] <;> omega
        · rw [cond_true]; omega
theorem xK_ok {l : Lnd} (o : Ok l) (k : Nat) : XOk l (xK l k) := exL_ok o (by omega) (by omega)
/-- In lowest terms. -/
def xR (l : Lnd) (k n w : Nat) : Exc := xC l k ((n / Nat.gcd n w : Nat) : Int) ((w / Nat.gcd n w : Nat) : Int)
theorem nK_bd {l : Lnd} (o : Ok l) (k : Nat) : (-16000 ≤ nK l k ∧ nK l k ≤ 16000) ∧ -16000 ≤ sK l k ∧ sK l k ≤ 16000 := by
  have b1 := nowN_b o
  have b2 := nowS_b o
  have hx := xK_ok o k
  have a1 := hasN_b o hx
  have a2 := hasS_b o hx
  have c1 := hN_b1 l.ss (xK l k).ps (o.nos 0) (hx.pss 0)
  have c2 := hS_b1 l.ss (xK l k).ps (o.sos 0) (hx.pss 0)
  have hn := o.n
  have e1 : hasN l (xK l k) = hN l.ss (xK l k).ps := rfl
  have e2 : hasS l (xK l k) = hS 1 l.ss (xK l k).ps := rfl
  have e3 : (xK l k).w = 1 := rfl
  unfold nK sK gnN gnS
  rw [e3]
  omega
/-- With nothing of free stretches the North gains nothing, and the South loses nothing. -/
theorem less0 {l : Lnd} (o : Ok l) : 0 ≤ sK l 0 - nK l 0 := by
  have hle : ∀ (i : Nat) p q, (xK l 0).ps[i]? = some p → (nowP l)[i]? = some q → p ≤ q := by
    intro i p q hp hq
    have hi : i < l.ss.length := by rw [← nowP_len l]; exact (List.getElem?_eq_some_iff.1 hq).1
    have hs : l.ss[i]? = some l.ss[i] := List.getElem?_eq_getElem hi
    have q1 := (o.ss _ (List.getElem_mem hi)).ow
    have e1 : (xK l 0).ps[i]? = some (prt l [] (-1) 0 1 i) := exL_at (f := []) hi
    rw [e1] at hp
    have e2 : (nowP l)[i]? = some (1 - l.ss[i].ow) := by simp [nowP, hs]
    rw [e2] at hq
    cases hp; cases hq
    have hk1 : ¬ ((i : Int) = -1) := by omega
    unfold prt
    rw [if_neg hk1, if_neg (by simp), sAt_eq hs]
    cases freeQ l i
    · rw [cond_false]; omega
    · rw [cond_true]; omega
  have h1 := hN_mono (ss := l.ss) (fun s hs => by have := (o.ss s hs).no; omega) (exL_len l _ _ _ _) (nowP_len l) hle
  have h2 := hS_mono (w := 1) (ss := l.ss) (fun s hs => by have := (o.ss s hs).so; omega) (exL_len l _ _ _ _) (nowP_len l) hle
  have e1 : hasN l (xK l 0) = hN l.ss (xK l 0).ps := rfl
  have e2 : hasS l (xK l 0) = hS 1 l.ss (xK l 0).ps := rfl
  have e3 : hasN l (nowX l) = hN l.ss (nowP l) := rfl
  have e4 : hasS l (nowX l) = hS 1 l.ss (nowP l) := rfl
  have e5 : (xK l 0).w = 1 := rfl
  unfold sK nK gnN gnS
  rw [e5, e1, e2, e3, e4]
  have e6 : (xK l 0).ps = exL l ((ordL l).take 0) (-1) 0 1 := rfl
  rw [e6]
  omega
theorem vc_given0 (l : Lnd) (f : List Int) (h : Hp) (o : Ok l) (hf : ∀ x ∈ f, ∃ j : Nat, j < l.ss.length ∧ x = j) (hfl : f.length ≤ 4000000) :
    VC Try.prog 56 [.fp (encN l), ints f, I (-1), I 0, I 1] h (vX ⟨1, exL l f (-1) 0 1⟩) h := vc_given l f (-1) 0 1 h o hf hfl (.inl rfl) (by decide) (by decide) (by decide)
theorem vc_givenC (l : Lnd) (k j n w : Nat) (h : Hp) (o : Ok l) (A : AtK l k j) (hw : 0 < w) (hw2 : w ≤ 2000) (hnb : n ≤ 1000000) :
    VC Try.prog 56 [.fp (encN l), ints ((ordL l).take k), I j, I n, I w] h (vX (xR l k n w)) h := by
  have := vc_given l ((ordL l).take k) j n w h o (fun x hx => by obtain ⟨j, h1, h2, _⟩ := ord_mem (List.mem_of_mem_take hx); exact ⟨j, h1, h2⟩) (by have := ord_len l; have := o.n; rw [List.length_take]; omega) (.inr ⟨j, A.lt, rfl⟩) hw hw2 hnb
  rw [← A.cut] at this
  rw [← A.cut]; exact this
theorem vc_givenK (l : Lnd) (k : Nat) (h : Hp) (o : Ok l) :
    VC Try.prog 56 [.fp (encN l), ints ((ordL l).take k), I (-1), I 0, I 1] h (vX (xK l k)) h :=
  vc_given0 l ((ordL l).take k) h o (fun x hx => by obtain ⟨j, h1, h2, _⟩ := ord_mem (List.mem_of_mem_take hx); exact ⟨j, h1, h2⟩) (by have := ord_len l; have := o.n; rw [List.length_take]; omega)
/-- The exchange by which both gain alike. -/
def stepK (l : Lnd) (k : Nat) : Int := (oS l k).no + (oS l k).so
def evGo (l : Lnd) : Nat → Nat → Exc
  | k, 0 => xK l k
  | k, d + 1 => if sK l k - nK l k < stepK l k then xR l k (sK l k - nK l k).toNat (stepK l k).toNat else evGo l (k + 1) d
def evX (l : Lnd) : Exc := evGo l 0 (ordL l).length
theorem vc_Even_ok (l : Lnd) (h : Hp) (o : Ok l) : VC Try.prog 21 [vL l] h (.tuple [vX (evX l), I 0]) h := by
  obtain ⟨R, hR⟩ : ∃ R, R = evX l := ⟨_, rfl⟩
  rw [← hR]
  unfold evX at hR
  have hn := o.n
  have hol := ord_len l
  refine VC.body Try.func21 rfl Try.ntmps21 Try.call21 (h.grows_refl) rfl ?_; conv => whnf
  repeat' (first | (refine VLd.intro rfl ?_; conv => whnf) | (refine VArith.i64 (by first | omega | (dsimp only; omega)) ?_; conv => whnf) | (refine VNeed.intro (by first | rfl | (simp; omega) | (simp; done)) ?_; conv => whnf) | (refine VMem.store rfl rfl rfl rfl ?_; conv => whnf) | (refine VSame.intro rfl ?_; conv => whnf) | (refine VDraw.go [] (by kernel_rfl) (by kernel_rfl) ?_; conv => whnf) | (refine VIte.dec (fun _ => ?_) (fun _ => ?_) <;> conv => whnf) | (refine VIte.ndec (fun _ => ?_) (fun _ => ?_) <;> conv => whnf) | (refine VIte.beq (fun _ => ?_) (fun _ => ?_) <;> conv => whnf) | (refine VIte.bne (fun _ => ?_) (fun _ => ?_) <;> conv => whnf) | (refine VIte.intro (fun _ => ?_) (fun _ => ?_) <;> conv => whnf) | (refine VCall.intro (vc_opened_ok l _ o) ?_; conv => whnf) | (refine VCall.intro (vc_order l _ o) ?_; conv => whnf))
  refine VCode.lp (fun k : Nat => [(2, .ptr (.loc 0) 0), (4, .fp (encN l)), (6, ints (ordL l)), (23, ints (ordL l)), (24, I (ordL l).length), (25, I k)]) (fun _ => [.flat true [DI 0, .nilslice]]) (fun k => k ≤ (ordL l).length ∧ R = evGo l k ((ordL l).length - k) ∧ 0 ≤ sK l k - nK l k) (fun k => (ordL l).length - k) 0 ⟨Nat.zero_le _, hR, less0 o⟩ ?_ ?_
  · conv => whnf
    refine Retell.turn ⟨[1], 2, [], []⟩ (TurnOk.mk' _ _ [] [] (OutOk.lift _) rfl (by decide) (by repeat' (first | exact BTos.nil | refine BTos.flat rfl rfl (by first | rfl | simp) ?_ | refine BTos.new rfl ?_ | refine BTos.dead rfl rfl ?_ | refine BTos.esE rfl rfl ?_ | refine BTos.row rfl rfl rfl (RowTo.snoc (RowTo.one rfl (by simp))) ?_ | refine BTos.cells rfl rfl rfl (by repeat' (first | exact VTo.undef | exact FrTo.leaf | refine FrTo.node ?_ ?_ ?_ | refine FrTo.none ?_ ?_ | exact VTo.sc (by first | rfl | (congr 1; omega) | (congr 1; simp; omega)) | exact VTos_dv _ _ | refine VTos.cons ?_ ?_ | exact VTos.nil | refine VTo.agg ?_ | refine VTo.tuple ?_ | refine VTo.func ?_ ?_ | exact VTo.fs | exact VTo.fp | exact VTo.nilptr | exact VTo.nilslice | exact VTo.nilfunc | exact VTo.ptr rfl | exact VTo.gl rfl | exact VTo.map rfl | exact VTo.yld rfl | exact VTo.fmMap rfl | exact VTo.fm | exact VTo.glNil' (by decide) rfl rfl | exact VTo.fsNil (by decide) | exact VTo.fsSl rfl rfl (by simp [flat_len encE_len]) | exact VTo.fpPtr rfl | exact VTo.fsGl rfl (by first | rfl | exact flat_len encI_len _ | exact flat_len encT_len _ | exact flat_len encS_len _ | exact flat_len encP_len _ | exact flat_len encL_len _ | exact flat_len encE_len _ | (simp [flat_len encP_len]; done) | simp [flat_len encI_len, flat_len encS_len]))) ?_)) trivial trivial rfl) (by repeat' (first | exact VTo.undef | exact FrTo.leaf | refine FrTo.node ?_ ?_ ?_ | refine FrTo.none ?_ ?_ | exact VTo.sc (by first | rfl | (congr 1; omega) | (congr 1; simp; omega)) | exact VTos_dv _ _ | refine VTos.cons ?_ ?_ | exact VTos.nil | refine VTo.agg ?_ | refine VTo.tuple ?_ | refine VTo.func ?_ ?_ | exact VTo.fs | exact VTo.fp | exact VTo.nilptr | exact VTo.nilslice | exact VTo.nilfunc | exact VTo.ptr rfl | exact VTo.gl rfl | exact VTo.map rfl | exact VTo.yld rfl | exact VTo.fmMap rfl | exact VTo.fm | exact VTo.glNil' (by decide) rfl rfl | exact VTo.fsNil (by decide) | exact VTo.fsSl rfl rfl (by simp [flat_len encE_len]) | exact VTo.fpPtr rfl | exact VTo.fsGl rfl (by first | rfl | exact flat_len encI_len _ | exact flat_len encT_len _ | exact flat_len encS_len _ | exact flat_len encP_len _ | exact flat_len encL_len _ | exact flat_len encE_len _ | (simp [flat_len encP_len]; done) | simp [flat_len encI_len, flat_len encS_len]))) (by first | rfl | (repeat' (first | exact MkTo.nil | refine MkTo.keep rfl ?_ | refine MkTo.drop (by decide) rfl ?_)))
  · rintro k ⟨hk, hRk, hless⟩
    conv => whnf
    refine VIte.dec (fun h3 => ?_) (fun h3 => ?_)
    · have hkl : k < (ordL l).length := by omega
      obtain ⟨j, A⟩ := at_k hkl
      have hsok := o.ss _ (List.mem_of_getElem? A.st)
      have hst : stepK l k = (oS l k).no + (oS l k).so := rfl
      rw [show (ordL l).length - k = ((ordL l).length - (k + 1)) + 1 by omega, evGo] at hRk
      obtain ⟨n1, n2⟩ := nK_succ hkl
      have hbd := nK_bd o k
      have q1 := hsok.no
      have q2 := hsok.so
      have c1 := fun h => vc_givenK l k h o
      have c2 := fun h => vc_gains l (xK l k) h o (xK_ok o k)
      have e1 : gnN l (xK l k) = nK l k := rfl
      have e2 : gnS l (xK l k) = sK l k := rfl
      rw [e1, e2] at c2
      obtain ⟨m, hm⟩ : ∃ m : Nat, (m : Int) = sK l k - nK l k := ⟨(sK l k - nK l k).toNat, by omega⟩
      obtain ⟨s, hs⟩ : ∃ s : Nat, (s : Int) = stepK l k := ⟨(stepK l k).toNat, by omega⟩
      have c3 := fun h => vc_givenC l k j m s h o A (by omega) (by omega) (by omega)
      rw [show (sK l k - nK l k).toNat = m by omega, show (stepK l k).toNat = s by omega] at hRk
      have hAs := A.st
      have hAa := A.at_
      have hsub : ((ordL l).drop (Int.toNat 0)).take ((k : Int) - 0).toNat = (ordL l).take k := by simp
      generalize oS l k = st at hAs hst q1 q2 n1 n2
      generalize sK l k = S at *
      generalize nK l k = N at *
      conv => whnf
      repeat' (first | (refine VLd.intro rfl ?_; conv => whnf) | (refine VArith.i64 (by first | omega | (dsimp only; omega)) ?_; conv => whnf) | (refine VNeed.intro (by first | rfl | (simp; omega) | (simp; done)) ?_; conv => whnf) | (refine VMem.store rfl rfl rfl rfl ?_; conv => whnf) | (refine VSame.intro rfl ?_; conv => whnf) | (refine VIte.dec (fun _ => ?_) (fun _ => ?_) <;> conv => whnf) | (refine VIte.ndec (fun _ => ?_) (fun _ => ?_) <;> conv => whnf) | (refine VIte.beq (fun _ => ?_) (fun _ => ?_) <;> conv => whnf) | (refine VIte.bne (fun _ => ?_) (fun _ => ?_) <;> conv => whnf) | (refine VIte.intro (fun _ => ?_) (fun _ => ?_) <;> conv => whnf) | (refine VAny.ix encI_len k rfl rfl hAa ?_; conv => whnf))
      refine VAny.sub encI_len rfl (by omega) ?_
      rw [hsub]
      conv => whnf
      repeat' (first | (refine VLd.intro rfl ?_; conv => whnf) | (refine VArith.i64 (by first | omega | (dsimp only; omega)) ?_; conv => whnf) | (refine VNeed.intro (by first | rfl | (simp; omega) | (simp; done)) ?_; conv => whnf) | (refine VMem.store rfl rfl rfl rfl ?_; conv => whnf) | (refine VSame.intro rfl ?_; conv => whnf) | (refine VIte.dec (fun _ => ?_) (fun _ => ?_) <;> conv => whnf) | (refine VIte.ndec (fun _ => ?_) (fun _ => ?_) <;> conv => whnf) | (refine VIte.beq (fun _ => ?_) (fun _ => ?_) <;> conv => whnf) | (refine VIte.bne (fun _ => ?_) (fun _ => ?_) <;> conv => whnf) | (refine VIte.intro (fun _ => ?_) (fun _ => ?_) <;> conv => whnf) | (refine VCall.intro (c1 _) ?_; conv => whnf) | (refine VCall.intro (c2 _) ?_; conv => whnf))
      refine VDraw.go [] (by kernel_rfl) (by kernel_rfl) ?_
      conv => whnf
      repeat' (first | (refine VLd.intro rfl ?_; conv => whnf) | (refine VArith.i64 (by first | omega | (dsimp only; omega)) ?_; conv => whnf) | (refine VNeed.intro (by first | rfl | (simp; omega) | (simp; done)) ?_; conv => whnf) | (refine VMem.store rfl rfl rfl rfl ?_; conv => whnf) | (refine VSame.intro rfl ?_; conv => whnf) | (refine VIte.dec (fun _ => ?_) (fun _ => ?_) <;> conv => whnf) | (refine VIte.ndec (fun _ => ?_) (fun _ => ?_) <;> conv => whnf) | (refine VIte.beq (fun _ => ?_) (fun _ => ?_) <;> conv => whnf) | (refine VIte.bne (fun _ => ?_) (fun _ => ?_) <;> conv => whnf) | (refine VIte.intro (fun _ => ?_) (fun _ => ?_) <;> conv => whnf) | (refine VAny.ix encT_len j rfl rfl hAs ?_; conv => whnf))
      · rename_i h5
        refine VAny.sub encI_len rfl (by omega) ?_
        rw [hsub]
        simp only [hm, hs, hst] at c3
        conv => whnf
        repeat' (first | (refine VLd.intro rfl ?_; conv => whnf) | (refine VArith.i64 (by first | omega | (dsimp only; omega)) ?_; conv => whnf) | (refine VNeed.intro (by first | rfl | (simp; omega) | (simp; done)) ?_; conv => whnf) | (refine VMem.store rfl rfl rfl rfl ?_; conv => whnf) | (refine VSame.intro rfl ?_; conv => whnf) | (refine VIte.dec (fun _ => ?_) (fun _ => ?_) <;> conv => whnf) | (refine VIte.ndec (fun _ => ?_) (fun _ => ?_) <;> conv => whnf) | (refine VIte.beq (fun _ => ?_) (fun _ => ?_) <;> conv => whnf) | (refine VIte.bne (fun _ => ?_) (fun _ => ?_) <;> conv => whnf) | (refine VIte.intro (fun _ => ?_) (fun _ => ?_) <;> conv => whnf) | (refine VCall.intro (c3 _) ?_; conv => whnf))
        rw [hRk, if_pos (by omega)]
        exact VOut.same rfl
      · rename_i h5
        refine LEnd.intro (k + 1) ⟨by omega, by rw [hRk, if_neg (by omega)], by rw [n1, n2]; omega⟩ (by omega) ?_
        conv => whnf
        refine Retell.turn ⟨[0], 2, [], []⟩ (TurnOk.mk' _ _ [] [] (OutOk.lift _) rfl (by decide) (by repeat' (first | exact BTos.nil | refine BTos.flat rfl rfl (by first | rfl | simp) ?_ | refine BTos.new rfl ?_ | refine BTos.dead rfl rfl ?_ | refine BTos.esE rfl rfl ?_ | refine BTos.row rfl rfl rfl (RowTo.snoc (RowTo.one rfl (by simp))) ?_ | refine BTos.cells rfl rfl rfl (by repeat' (first | exact VTo.undef | exact FrTo.leaf | refine FrTo.node ?_ ?_ ?_ | refine FrTo.none ?_ ?_ | exact VTo.sc (by first | rfl | (congr 1; omega) | (congr 1; simp; omega)) | exact VTos_dv _ _ | refine VTos.cons ?_ ?_ | exact VTos.nil | refine VTo.agg ?_ | refine VTo.tuple ?_ | refine VTo.func ?_ ?_ | exact VTo.fs | exact VTo.fp | exact VTo.nilptr | exact VTo.nilslice | exact VTo.nilfunc | exact VTo.ptr rfl | exact VTo.gl rfl | exact VTo.map rfl | exact VTo.yld rfl | exact VTo.fmMap rfl | exact VTo.fm | exact VTo.glNil' (by decide) rfl rfl | exact VTo.fsNil (by decide) | exact VTo.fsSl rfl rfl (by simp [flat_len encE_len]) | exact VTo.fpPtr rfl | exact VTo.fsGl rfl (by first | rfl | exact flat_len encI_len _ | exact flat_len encT_len _ | exact flat_len encS_len _ | exact flat_len encP_len _ | exact flat_len encL_len _ | exact flat_len encE_len _ | (simp [flat_len encP_len]; done) | simp [flat_len encI_len, flat_len encS_len]))) ?_)) trivial trivial rfl) (by repeat' (first | exact VTo.undef | exact FrTo.leaf | refine FrTo.node ?_ ?_ ?_ | refine FrTo.none ?_ ?_ | exact VTo.sc (by first | rfl | (congr 1; omega) | (congr 1; simp; omega)) | exact VTos_dv _ _ | refine VTos.cons ?_ ?_ | exact VTos.nil | refine VTo.agg ?_ | refine VTo.tuple ?_ | refine VTo.func ?_ ?_ | exact VTo.fs | exact VTo.fp | exact VTo.nilptr | exact VTo.nilslice | exact VTo.nilfunc | exact VTo.ptr rfl | exact VTo.gl rfl | exact VTo.map rfl | exact VTo.yld rfl | exact VTo.fmMap rfl | exact VTo.fm | exact VTo.glNil' (by decide) rfl rfl | exact VTo.fsNil (by decide) | exact VTo.fsSl rfl rfl (by simp [flat_len encE_len]) | exact VTo.fpPtr rfl | exact VTo.fsGl rfl (by first | rfl | exact flat_len encI_len _ | exact flat_len encT_len _ | exact flat_len encS_len _ | exact flat_len encP_len _ | exact flat_len encL_len _ | exact flat_len encE_len _ | (simp [flat_len encP_len]; done) | simp [flat_len encI_len, flat_len encS_len]))) (by first | rfl | (repeat' (first | exact MkTo.nil | refine MkTo.keep rfl ?_ | refine MkTo.drop (by decide) rfl ?_)))
    · have hkl : k = (ordL l).length := by omega
      subst hkl
      rw [Nat.sub_self, evGo] at hRk
      subst hRk
      have c1 := fun h => vc_givenK l (ordL l).length h o
      rw [List.take_of_length_le (Nat.le_refl _)] at c1
      conv => whnf
      repeat' (first | (refine VLd.intro rfl ?_; conv => whnf) | (refine VArith.i64 (by first | omega | (dsimp only; omega)) ?_; conv => whnf) | (refine VNeed.intro (by first | rfl | (simp; omega) | (simp; done)) ?_; conv => whnf) | (refine VMem.store rfl rfl rfl rfl ?_; conv => whnf) | (refine VSame.intro rfl ?_; conv => whnf) | (refine VDraw.go [] (by kernel_rfl) (by kernel_rfl) ?_; conv => whnf) | (refine VIte.dec (fun _ => ?_) (fun _ => ?_) <;> conv => whnf) | (refine VIte.ndec (fun _ => ?_) (fun _ => ?_) <;> conv => whnf) | (refine VIte.beq (fun _ => ?_) (fun _ => ?_) <;> conv => whnf) | (refine VIte.bne (fun _ => ?_) (fun _ => ?_) <;> conv => whnf) | (refine VIte.intro (fun _ => ?_) (fun _ => ?_) <;> conv => whnf) | (refine VCall.intro (c1 _) ?_; conv => whnf))
      exact VOut.same rfl
end Go.Proofs.Ytmpjpjfkbmlmfaa

open Go.Vm
namespace Go.Proofs.Ytmpjpjfkbmlmfaa
set_option maxRecDepth 20000
set_option maxHeartbeats 4000000

/-- The exchange by which the North gains so much. -/
def mxGo (l : Lnd) (g : Int) : Nat → Nat → Exc
  | k, 0 => xK l k
  | k, d + 1 => if g - nK l k ≤ 0 then xK l k else if g - nK l k < (oS l k).no then xR l k (g - nK l k).toNat (oS l k).no.toNat else mxGo l g (k + 1) d
def mxX (l : Lnd) (g : Int) : Exc := mxGo l g 0 (ordL l).length
def allN (l : Lnd) : Int := nK l (ordL l).length
theorem vc_lacks (l : Lnd) (g : Int) (k : Nat) (h : Hp) (o : Ok l) (hk : k ≤ (ordL l).length) (hg : -20000 ≤ g ∧ g ≤ 20000) :
    VC Try.prog 57 [I k, .fp [DI g], .fp [.pt (encN l)], .fp [.sl 1 (ordL l).length ((ordL l).flatMap encI)]] h (I (g - nK l k)) h := by
  have c1 := fun h => vc_givenK l k h o
  have c2 := fun h => vc_gains l (xK l k) h o (xK_ok o k)
  have e1 : gnN l (xK l k) = nK l k := rfl
  have e2 : gnS l (xK l k) = sK l k := rfl
  rw [e1, e2] at c2
  have hbd := nK_bd o k
  have hsub : ((ordL l).drop (Int.toNat 0)).take ((k : Int) - 0).toNat = (ordL l).take k := by simp
  have hn := o.n
  have hol := ord_len l
  generalize sK l k = S at *
  generalize nK l k = N at *
  refine VC.body Try.func57 rfl Try.ntmps57 Try.call57 (h.grows_refl) rfl ?_; conv => whnf
  repeat' (first | (refine VLd.intro rfl ?_; conv => whnf) | (refine VArith.i64 (by first | omega | (dsimp only; omega)) ?_; conv => whnf) | (refine VNeed.intro (by first | rfl | (simp; omega) | (simp; done)) ?_; conv => whnf) | (refine VMem.store rfl rfl rfl rfl ?_; conv => whnf) | (refine VSame.intro rfl ?_; conv => whnf) | (refine VIte.dec (fun _ => ?_) (fun _ => ?_) <;> conv => whnf) | (refine VIte.ndec (fun _ => ?_) (fun _ => ?_) <;> conv => whnf) | (refine VIte.beq (fun _ => ?_) (fun _ => ?_) <;> conv => whnf) | (refine VIte.bne (fun _ => ?_) (fun _ => ?_) <;> conv => whnf) | (refine VIte.intro (fun _ => ?_) (fun _ => ?_) <;> conv => whnf))
  refine VDraw.go [(0, 5), (1, 5), (2, 5), (0, 6), (1, 6), (0, 7)] (by kernel_rfl) (by kernel_rfl) ?_
  conv => whnf
  repeat' (first | (refine VLd.intro rfl ?_; conv => whnf) | (refine VArith.i64 (by first | omega | (dsimp only; omega)) ?_; conv => whnf) | (refine VNeed.intro (by first | rfl | (simp; omega) | (simp; done)) ?_; conv => whnf) | (refine VMem.store rfl rfl rfl rfl ?_; conv => whnf) | (refine VSame.intro rfl ?_; conv => whnf) | (refine VIte.dec (fun _ => ?_) (fun _ => ?_) <;> conv => whnf) | (refine VIte.ndec (fun _ => ?_) (fun _ => ?_) <;> conv => whnf) | (refine VIte.beq (fun _ => ?_) (fun _ => ?_) <;> conv => whnf) | (refine VIte.bne (fun _ => ?_) (fun _ => ?_) <;> conv => whnf) | (refine VIte.intro (fun _ => ?_) (fun _ => ?_) <;> conv => whnf))
  refine VAny.sub encI_len rfl (by omega) ?_
  rw [hsub]
  conv => whnf
  repeat' (first | (refine VLd.intro rfl ?_; conv => whnf) | (refine VArith.i64 (by first | omega | (dsimp only; omega)) ?_; conv => whnf) | (refine VNeed.intro (by first | rfl | (simp; omega) | (simp; done)) ?_; conv => whnf) | (refine VMem.store rfl rfl rfl rfl ?_; conv => whnf) | (refine VSame.intro rfl ?_; conv => whnf) | (refine VIte.dec (fun _ => ?_) (fun _ => ?_) <;> conv => whnf) | (refine VIte.ndec (fun _ => ?_) (fun _ => ?_) <;> conv => whnf) | (refine VIte.beq (fun _ => ?_) (fun _ => ?_) <;> conv => whnf) | (refine VIte.bne (fun _ => ?_) (fun _ => ?_) <;> conv => whnf) | (refine VIte.intro (fun _ => ?_) (fun _ => ?_) <;> conv => whnf) | (refine VCall.intro (c1 _) ?_; conv => whnf) | (refine VCall.intro (c2 _) ?_; conv => whnf))
  exact VOut.same rfl
def mxV (l : Lnd) (g : Int) : V := .tuple (if g ≤ allN l then [vX (mxX l g), I 0] else [.agg [I 0, .nilslice], I 7])
theorem vc_Most_ok (l : Lnd) (g : Int) (h : Hp) (o : Ok l) : VC Try.prog 18 [vL l, I g] h (mxV l g) h := by
  obtain ⟨R, hR⟩ : ∃ R, R = mxX l g := ⟨_, rfl⟩
  unfold mxV
  rw [← hR]
  unfold mxX at hR
  have hn := o.n
  have hol := ord_len l
  have c1 := fun h => vc_givenK l (ordL l).length h o
  rw [List.take_of_length_le (Nat.le_refl _)] at c1
  have c2 := fun h => vc_gains l (xK l (ordL l).length) h o (xK_ok o _)
  have e1 : gnN l (xK l (ordL l).length) = allN l := rfl
  have e2 : gnS l (xK l (ordL l).length) = sK l (ordL l).length := rfl
  have hb0 : -16000 ≤ allN l ∧ allN l ≤ 16000 := (nK_bd o _).1
  rw [e1, e2] at c2
  generalize allN l = A at c2 hb0 ⊢
  generalize sK l (ordL l).length = SA at c2
  refine VC.body Try.func18 rfl Try.ntmps18 Try.call18 (h.grows_refl) rfl ?_; conv => whnf
  repeat' (first | (refine VLd.intro rfl ?_; conv => whnf) | (refine VArith.i64 (by first | omega | (dsimp only; omega)) ?_; conv => whnf) | (refine VNeed.intro (by first | rfl | (simp; omega) | (simp; done)) ?_; conv => whnf) | (refine VMem.store rfl rfl rfl rfl ?_; conv => whnf) | (refine VSame.intro rfl ?_; conv => whnf) | (refine VIte.dec (fun _ => ?_) (fun _ => ?_) <;> conv => whnf) | (refine VIte.ndec (fun _ => ?_) (fun _ => ?_) <;> conv => whnf) | (refine VIte.beq (fun _ => ?_) (fun _ => ?_) <;> conv => whnf) | (refine VIte.bne (fun _ => ?_) (fun _ => ?_) <;> conv => whnf) | (refine VIte.intro (fun _ => ?_) (fun _ => ?_) <;> conv => whnf) | (refine VCall.intro (vc_opened_ok l _ o) ?_; conv => whnf) | (refine VCall.intro (vc_order l _ o) ?_; conv => whnf))
  refine VDraw.go [(0, 3)] (by kernel_rfl) (by kernel_rfl) ?_
  conv => whnf
  repeat' (first | (refine VLd.intro rfl ?_; conv => whnf) | (refine VArith.i64 (by first | omega | (dsimp only; omega)) ?_; conv => whnf) | (refine VNeed.intro (by first | rfl | (simp; omega) | (simp; done)) ?_; conv => whnf) | (refine VMem.store rfl rfl rfl rfl ?_; conv => whnf) | (refine VSame.intro rfl ?_; conv => whnf) | (refine VIte.dec (fun _ => ?_) (fun _ => ?_) <;> conv => whnf) | (refine VIte.ndec (fun _ => ?_) (fun _ => ?_) <;> conv => whnf) | (refine VIte.beq (fun _ => ?_) (fun _ => ?_) <;> conv => whnf) | (refine VIte.bne (fun _ => ?_) (fun _ => ?_) <;> conv => whnf) | (refine VIte.intro (fun _ => ?_) (fun _ => ?_) <;> conv => whnf) | (refine VCall.intro (c1 _) ?_; conv => whnf) | (refine VCall.intro (c2 _) ?_; conv => whnf))
  · rename_i h1
    rw [if_neg (by omega)]
    exact VOut.same rfl
  · rename_i h1
    rw [if_pos (by omega)]
    refine VCode.lp (fun k : Nat => [(4, .ptr (.loc 0) 0), (6, .fp [.pt (encN l)]), (8, .fp [.sl 1 (ordL l).length ((ordL l).flatMap encI)]), (10, .func (.func 57) [] [.fp [DI (max g (-16000))], .fp [.pt (encN l)], .fp [.sl 1 (ordL l).length ((ordL l).flatMap encI)]]), (39, ints (ordL l)), (40, I (ordL l).length), (41, I k)]) (fun _ => [.flat true [DI 0, .nilslice]]) (fun k => k ≤ (ordL l).length ∧ R = mxGo l g k ((ordL l).length - k)) (fun k => (ordL l).length - k) 0 ⟨Nat.zero_le _, hR⟩ ?_ ?_
    · conv => whnf
      refine Retell.turn ⟨[2], 6, [(1, [DI (max g (-16000))]), (3, [.pt (encN l)]), (4, [.sl 1 (ordL l).length ((ordL l).flatMap encI)])], []⟩ (TurnOk.mk' _ _ [(1, [DI (max g (-16000))]), (3, [.pt (encN l)]), (4, [.sl 1 (ordL l).length ((ordL l).flatMap encI)])] [] (OutOk.lift _) rfl (by decide) (by repeat' (first | exact BTos.nil | refine BTos.flat rfl rfl (by first | rfl | simp) ?_ | refine BTos.new rfl ?_ | refine BTos.dead rfl rfl ?_ | refine BTos.esE rfl rfl ?_ | refine BTos.row rfl rfl rfl (RowTo.snoc (RowTo.one rfl (by simp))) ?_ | refine BTos.cells rfl rfl rfl (by repeat' (first | exact VTo.undef | exact FrTo.leaf | refine FrTo.node ?_ ?_ ?_ | refine FrTo.none ?_ ?_ | exact VTo.sc (by first | rfl | (congr 1; omega) | (congr 1; simp; omega)) | exact VTos_dv _ _ | refine VTos.cons ?_ ?_ | exact VTos.nil | refine VTo.agg ?_ | refine VTo.tuple ?_ | refine VTo.func ?_ ?_ | exact VTo.fs | exact VTo.fp | exact VTo.nilptr | exact VTo.nilslice | exact VTo.nilfunc | exact VTo.ptr rfl | exact VTo.gl rfl | exact VTo.map rfl | exact VTo.yld rfl | exact VTo.fmMap rfl | exact VTo.fm | exact VTo.glNil' (by decide) rfl rfl | exact VTo.fsNil (by decide) | exact VTo.fsSl rfl rfl (by simp [flat_len encE_len]) | exact VTo.fpPtr rfl | exact VTo.fsGl rfl (by first | rfl | exact flat_len encI_len _ | exact flat_len encT_len _ | exact flat_len encS_len _ | exact flat_len encP_len _ | exact flat_len encL_len _ | exact flat_len encE_len _ | (simp [flat_len encP_len]; done) | simp [flat_len encI_len, flat_len encS_len]))) ?_)) (by repeat' (first | exact FzAll.nil | refine FzAll.flat rfl ?_ | refine FzAll.row rfl rfl (RowTo.one rfl (by simp)) ?_)) trivial rfl) (by repeat' (first | exact VTo.undef | exact FrTo.leaf | refine FrTo.node ?_ ?_ ?_ | refine FrTo.none ?_ ?_ | exact VTo.sc (by first | rfl | (congr 1; omega) | (congr 1; simp; omega)) | exact VTos_dv _ _ | refine VTos.cons ?_ ?_ | exact VTos.nil | refine VTo.agg ?_ | refine VTo.tuple ?_ | refine VTo.func ?_ ?_ | exact VTo.fs | exact VTo.fp | exact VTo.nilptr | exact VTo.nilslice | exact VTo.nilfunc | exact VTo.ptr rfl | exact VTo.gl rfl | exact VTo.map rfl | exact VTo.yld rfl | exact VTo.fmMap rfl | exact VTo.fm | exact VTo.glNil' (by decide) rfl rfl | exact VTo.fsNil (by decide) | exact VTo.fsSl rfl rfl (by simp [flat_len encE_len]) | exact VTo.fpPtr rfl | exact VTo.fsGl rfl (by first | rfl | exact flat_len encI_len _ | exact flat_len encT_len _ | exact flat_len encS_len _ | exact flat_len encP_len _ | exact flat_len encL_len _ | exact flat_len encE_len _ | (simp [flat_len encP_len]; done) | simp [flat_len encI_len, flat_len encS_len]))) (by first | rfl | (repeat' (first | exact MkTo.nil | refine MkTo.keep rfl ?_ | refine MkTo.drop (by decide) rfl ?_)))
    · rintro k ⟨hk, hRk⟩
      conv => whnf
      refine VIte.dec (fun h3 => ?_) (fun h3 => ?_)
      · have hkl : k < (ordL l).length := by omega
        obtain ⟨j, A'⟩ := at_k hkl
        have hsok := o.ss _ (List.mem_of_getElem? A'.st)
        rw [show (ordL l).length - k = ((ordL l).length - (k + 1)) + 1 by omega, mxGo] at hRk
        have hbd := nK_bd o k
        have q1 := hsok.no
        have c3 := fun h => vc_givenK l k h o
        have c4 := fun h => vc_lacks l (max g (-16000)) k h o hk (by omega)
        obtain ⟨s, hs⟩ : ∃ s : Nat, (s : Int) = (oS l k).no := ⟨(oS l k).no.toNat, by omega⟩
        rw [← hs, Int.toNat_natCast] at hRk
        have c5 := fun (m : Nat) h => vc_givenC l k j m s h o A' (by omega) (by omega)
        have hAs := A'.st
        have hAa := A'.at_
        have hsub : ((ordL l).drop (Int.toNat 0)).take ((k : Int) - 0).toNat = (ordL l).take k := by simp
        generalize oS l k = st at hAs hs q1
        generalize nK l k = N at *
        conv => whnf
        repeat' (first | (refine VLd.intro rfl ?_; conv => whnf) | (refine VArith.i64 (by first | omega | (dsimp only; omega)) ?_; conv => whnf) | (refine VNeed.intro (by first | rfl | (simp; omega) | (simp; done)) ?_; conv => whnf) | (refine VMem.store rfl rfl rfl rfl ?_; conv => whnf) | (refine VSame.intro rfl ?_; conv => whnf) | (refine VIte.dec (fun _ => ?_) (fun _ => ?_) <;> conv => whnf) | (refine VIte.ndec (fun _ => ?_) (fun _ => ?_) <;> conv => whnf) | (refine VIte.beq (fun _ => ?_) (fun _ => ?_) <;> conv => whnf) | (refine VIte.bne (fun _ => ?_) (fun _ => ?_) <;> conv => whnf) | (refine VIte.intro (fun _ => ?_) (fun _ => ?_) <;> conv => whnf) | (refine VAny.ix encI_len k rfl rfl hAa ?_; conv => whnf))
        refine VDraw.go [(0, 10), (4, 10), (7, 10)] (by kernel_rfl) (by kernel_rfl) ?_
        conv => whnf
        repeat' (first | (refine VLd.intro rfl ?_; conv => whnf) | (refine VArith.i64 (by first | omega | (dsimp only; omega)) ?_; conv => whnf) | (refine VNeed.intro (by first | rfl | (simp; omega) | (simp; done)) ?_; conv => whnf) | (refine VMem.store rfl rfl rfl rfl ?_; conv => whnf) | (refine VSame.intro rfl ?_; conv => whnf) | (refine VIte.dec (fun _ => ?_) (fun _ => ?_) <;> conv => whnf) | (refine VIte.ndec (fun _ => ?_) (fun _ => ?_) <;> conv => whnf) | (refine VIte.beq (fun _ => ?_) (fun _ => ?_) <;> conv => whnf) | (refine VIte.bne (fun _ => ?_) (fun _ => ?_) <;> conv => whnf) | (refine VIte.intro (fun _ => ?_) (fun _ => ?_) <;> conv => whnf) | (refine VAny.ix encT_len j rfl rfl hAs ?_; conv => whnf) | (refine VCall.intro (c4 _) ?_; conv => whnf))
        · rename_i h5
          rw [if_pos (by omega)] at hRk
          subst hRk
          refine VDraw.go [(0, 3)] (by kernel_rfl) (by kernel_rfl) ?_
          conv => whnf
          repeat' (first | (refine VLd.intro rfl ?_; conv => whnf) | (refine VArith.i64 (by first | omega | (dsimp only; omega)) ?_; conv => whnf) | (refine VNeed.intro (by first | rfl | (simp; omega) | (simp; done)) ?_; conv => whnf) | (refine VMem.store rfl rfl rfl rfl ?_; conv => whnf) | (refine VSame.intro rfl ?_; conv => whnf) | (refine VIte.dec (fun _ => ?_) (fun _ => ?_) <;> conv => whnf) | (refine VIte.ndec (fun _ => ?_) (fun _ => ?_) <;> conv => whnf) | (refine VIte.beq (fun _ => ?_) (fun _ => ?_) <;> conv => whnf) | (refine VIte.bne (fun _ => ?_) (fun _ => ?_) <;> conv => whnf) | (refine VIte.intro (fun _ => ?_) (fun _ => ?_) <;> conv => whnf))
          refine VAny.sub encI_len rfl (by omega) ?_
          rw [hsub]
          conv => whnf
          repeat' (first | (refine VLd.intro rfl ?_; conv => whnf) | (refine VArith.i64 (by first | omega | (dsimp only; omega)) ?_; conv => whnf) | (refine VNeed.intro (by first | rfl | (simp; omega) | (simp; done)) ?_; conv => whnf) | (refine VMem.store rfl rfl rfl rfl ?_; conv => whnf) | (refine VSame.intro rfl ?_; conv => whnf) | (refine VIte.dec (fun _ => ?_) (fun _ => ?_) <;> conv => whnf) | (refine VIte.ndec (fun _ => ?_) (fun _ => ?_) <;> conv => whnf) | (refine VIte.beq (fun _ => ?_) (fun _ => ?_) <;> conv => whnf) | (refine VIte.bne (fun _ => ?_) (fun _ => ?_) <;> conv => whnf) | (refine VIte.intro (fun _ => ?_) (fun _ => ?_) <;> conv => whnf) | (refine VCall.intro (c3 _) ?_; conv => whnf))
          exact VOut.same rfl
        · rename_i h5 h6
          obtain ⟨m, hm⟩ : ∃ m : Nat, (m : Int) = max g (-16000) - N := ⟨(max g (-16000) - N).toNat, by omega⟩
          rw [if_neg (by omega), if_pos (by omega), show (g - N).toNat = m by omega] at hRk
          subst hRk
          have c6 := fun h => c5 m h (by omega)
          simp only [hm, hs] at c6
          refine VDraw.go [(0, 3), (3, 7)] (by kernel_rfl) (by kernel_rfl) ?_
          conv => whnf
          repeat' (first | (refine VLd.intro rfl ?_; conv => whnf) | (refine VArith.i64 (by first | omega | (dsimp only; omega)) ?_; conv => whnf) | (refine VNeed.intro (by first | rfl | (simp; omega) | (simp; done)) ?_; conv => whnf) | (refine VMem.store rfl rfl rfl rfl ?_; conv => whnf) | (refine VSame.intro rfl ?_; conv => whnf) | (refine VIte.dec (fun _ => ?_) (fun _ => ?_) <;> conv => whnf) | (refine VIte.ndec (fun _ => ?_) (fun _ => ?_) <;> conv => whnf) | (refine VIte.beq (fun _ => ?_) (fun _ => ?_) <;> conv => whnf) | (refine VIte.bne (fun _ => ?_) (fun _ => ?_) <;> conv => whnf) | (refine VIte.intro (fun _ => ?_) (fun _ => ?_) <;> conv => whnf))
          refine VAny.sub encI_len rfl (by omega) ?_
          rw [hsub]
          conv => whnf
          repeat' (first | (refine VLd.intro rfl ?_; conv => whnf) | (refine VArith.i64 (by first | omega | (dsimp only; omega)) ?_; conv => whnf) | (refine VNeed.intro (by first | rfl | (simp; omega) | (simp; done)) ?_; conv => whnf) | (refine VMem.store rfl rfl rfl rfl ?_; conv => whnf) | (refine VSame.intro rfl ?_; conv => whnf) | (refine VIte.dec (fun _ => ?_) (fun _ => ?_) <;> conv => whnf) | (refine VIte.ndec (fun _ => ?_) (fun _ => ?_) <;> conv => whnf) | (refine VIte.beq (fun _ => ?_) (fun _ => ?_) <;> conv => whnf) | (refine VIte.bne (fun _ => ?_) (fun _ => ?_) <;> conv => whnf) | (refine VIte.intro (fun _ => ?_) (fun _ => ?_) <;> conv => whnf) | (refine VCall.intro (c6 _) ?_; conv => whnf))
          exact VOut.same rfl
        · rename_i h5 h6
          rw [if_neg (by omega), if_neg (by omega)] at hRk
          refine LEnd.intro (k + 1) ⟨by omega, hRk⟩ (by omega) ?_
          conv => whnf
          refine Retell.turn ⟨[0], 2, [], []⟩ (TurnOk.mk' _ _ [] [] (OutOk.lift _) rfl (by decide) (by repeat' (first | exact BTos.nil | refine BTos.flat rfl rfl (by first | rfl | simp) ?_ | refine BTos.new rfl ?_ | refine BTos.dead rfl rfl ?_ | refine BTos.esE rfl rfl ?_ | refine BTos.row rfl rfl rfl (RowTo.snoc (RowTo.one rfl (by simp))) ?_ | refine BTos.cells rfl rfl rfl (by repeat' (first | exact VTo.undef | exact FrTo.leaf | refine FrTo.node ?_ ?_ ?_ | refine FrTo.none ?_ ?_ | exact VTo.sc (by first | rfl | (congr 1; omega) | (congr 1; simp; omega)) | exact VTos_dv _ _ | refine VTos.cons ?_ ?_ | exact VTos.nil | refine VTo.agg ?_ | refine VTo.tuple ?_ | refine VTo.func ?_ ?_ | exact VTo.fs | exact VTo.fp | exact VTo.nilptr | exact VTo.nilslice | exact VTo.nilfunc | exact VTo.ptr rfl | exact VTo.gl rfl | exact VTo.map rfl | exact VTo.yld rfl | exact VTo.fmMap rfl | exact VTo.fm | exact VTo.glNil' (by decide) rfl rfl | exact VTo.fsNil (by decide) | exact VTo.fsSl rfl rfl (by simp [flat_len encE_len]) | exact VTo.fpPtr rfl | exact VTo.fsGl rfl (by first | rfl | exact flat_len encI_len _ | exact flat_len encT_len _ | exact flat_len encS_len _ | exact flat_len encP_len _ | exact flat_len encL_len _ | exact flat_len encE_len _ | (simp [flat_len encP_len]; done) | simp [flat_len encI_len, flat_len encS_len]))) ?_)) trivial trivial rfl) (by repeat' (first | exact VTo.undef | exact FrTo.leaf | refine FrTo.node ?_ ?_ ?_ | refine FrTo.none ?_ ?_ | exact VTo.sc (by first | rfl | (congr 1; omega) | (congr 1; simp; omega)) | exact VTos_dv _ _ | refine VTos.cons ?_ ?_ | exact VTos.nil | refine VTo.agg ?_ | refine VTo.tuple ?_ | refine VTo.func ?_ ?_ | exact VTo.fs | exact VTo.fp | exact VTo.nilptr | exact VTo.nilslice | exact VTo.nilfunc | exact VTo.ptr rfl | exact VTo.gl rfl | exact VTo.map rfl | exact VTo.yld rfl | exact VTo.fmMap rfl | exact VTo.fm | exact VTo.glNil' (by decide) rfl rfl | exact VTo.fsNil (by decide) | exact VTo.fsSl rfl rfl (by simp [flat_len encE_len]) | exact VTo.fpPtr rfl | exact VTo.fsGl rfl (by first | rfl | exact flat_len encI_len _ | exact flat_len encT_len _ | exact flat_len encS_len _ | exact flat_len encP_len _ | exact flat_len encL_len _ | exact flat_len encE_len _ | (simp [flat_len encP_len]; done) | simp [flat_len encI_len, flat_len encS_len]))) (by first | rfl | (repeat' (first | exact MkTo.nil | refine MkTo.keep rfl ?_ | refine MkTo.drop (by decide) rfl ?_)))
      · have hkl : k = (ordL l).length := by omega
        subst hkl
        rw [Nat.sub_self, mxGo] at hRk
        subst hRk
        conv => whnf
        repeat' (first | (refine VLd.intro rfl ?_; conv => whnf) | (refine VArith.i64 (by first | omega | (dsimp only; omega)) ?_; conv => whnf) | (refine VNeed.intro (by first | rfl | (simp; omega) | (simp; done)) ?_; conv => whnf) | (refine VMem.store rfl rfl rfl rfl ?_; conv => whnf) | (refine VSame.intro rfl ?_; conv => whnf) | (refine VDraw.go [] (by kernel_rfl) (by kernel_rfl) ?_; conv => whnf) | (refine VIte.dec (fun _ => ?_) (fun _ => ?_) <;> conv => whnf) | (refine VIte.ndec (fun _ => ?_) (fun _ => ?_) <;> conv => whnf) | (refine VIte.beq (fun _ => ?_) (fun _ => ?_) <;> conv => whnf) | (refine VIte.bne (fun _ => ?_) (fun _ => ?_) <;> conv => whnf) | (refine VIte.intro (fun _ => ?_) (fun _ => ?_) <;> conv => whnf) | (refine VCall.intro (c1 _) ?_; conv => whnf))
        exact VOut.same rfl
end Go.Proofs.Ytmpjpjfkbmlmfaa

open Go.Vm
namespace Go.Proofs.Ytmpjpjfkbmlmfaa
set_option maxRecDepth 20000
set_option maxHeartbeats 4000000

def wsV (l : Lnd) (x : Exc) : V := bif alB l x then (match wst l x with
  | some (i, k) => .tuple [I i, I k, I 0]
  | none => .tuple [I 0, I 0, I 7]) else .tuple [I 0, I 0, I 9]
theorem vc_Waste_ok (l : Lnd) (x : Exc) (h : Hp) (o : Ok l) (ox : XOk l x) : VC Try.prog 32 [vL l, vX x] h (wsV l x) h := by
  have cw := fun h => vc_waste l x h o ox
  have ca := fun h => vc_allowed l x h o ox
  unfold wsV
  cases hA : alB l x <;> cases hW : wst l x <;> rw [hA] at ca <;> rw [hW] at cw
  all_goals (
    refine VC.body Try.func32 rfl Try.ntmps32 Try.call32 (h.grows_refl) rfl ?_; conv => whnf
    repeat' (first | (refine VLd.intro rfl ?_; conv => whnf) | (refine VArith.i64 (by first | omega | (dsimp only; omega)) ?_; conv => whnf) | (refine VNeed.intro (by first | rfl | (simp; omega) | (simp; done)) ?_; conv => whnf) | (refine VMem.store rfl rfl rfl rfl ?_; conv => whnf) | (refine VSame.intro rfl ?_; conv => whnf) | (refine VDraw.go [] (by kernel_rfl) (by kernel_rfl) ?_; conv => whnf) | (refine VIte.dec (fun _ => ?_) (fun _ => ?_) <;> conv => whnf) | (refine VIte.ndec (fun _ => ?_) (fun _ => ?_) <;> conv => whnf) | (refine VIte.beq (fun _ => ?_) (fun _ => ?_) <;> conv => whnf) | (refine VIte.bne (fun _ => ?_) (fun _ => ?_) <;> conv => whnf) | (refine VIte.intro (fun _ => ?_) (fun _ => ?_) <;> conv => whnf) | (refine VCall.intro (vc_asked_ok l x _ o ox) ?_; conv => whnf) | (refine VCall.intro (ca _) ?_; conv => whnf) | (refine VCall.intro (cw _) ?_; conv => whnf))
    exact VOut.same rfl)
end Go.Proofs.Ytmpjpjfkbmlmfaa

open Go.Vm
namespace Go.Proofs.Ytmpjpjfkbmlmfaa
set_option maxRecDepth 20000
set_option maxHeartbeats 4000000

/-- The land of three stretches, and the same with a well. -/
def three : Lnd := ⟨[⟨0, 10, 30, -1⟩, ⟨1, 40, 20, -1⟩, ⟨1, 20, 20, -1⟩], []⟩
def threeW : Lnd := ⟨[⟨0, 10, 30, 0⟩, ⟨1, 40, 20, -1⟩, ⟨1, 20, 20, -1⟩], [0]⟩
theorem three_ok : Ok three := chk_ok.1 (by decide)
theorem threeW_ok : Ok threeW := chk_ok.1 (by decide)
theorem three_ord : ordL three = [1, 2, 0] := by decide
theorem three_al : alB three ⟨1, [1, 0, 0]⟩ = true := by decide
theorem three_wst : wst three ⟨1, [1, 0, 0]⟩ = some (1, 0) := by decide
theorem three_gn : gnN three ⟨1, [0, 1, 0]⟩ = 30 ∧ gnS three ⟨1, [0, 1, 0]⟩ = 10 := by decide
theorem three_hl : hlB three ⟨1, [0, 1, 0]⟩ 1 1 = true := by decide
theorem three_even : evX three = ⟨3, [0, 2, 0]⟩ := by decide
theorem three_m30 : mxX three 30 = ⟨1, [0, 1, 0]⟩ := by decide
theorem three_m40 : mxX three 40 = ⟨2, [0, 2, 1]⟩ := by decide
theorem three_all : allN three = 60 := by decide
theorem threeW_even : evX threeW = ⟨1, [1, 0, 0]⟩ := by decide
end Go.Proofs.Ytmpjpjfkbmlmfaa

open Go.Vm
namespace Go.Proofs.Ytmpjpjfkbmlmfaa
set_option maxRecDepth 20000
set_option maxHeartbeats 4000000

theorem vc_is (x : Exc) (w : Int) (ps : List Int) (h : Hp) (h1 : x.ps.length ≤ 4000000) (h2 : ps.length ≤ 4000000) : VC Try.prog 50 [vX x, I w, ints ps] h (B (decide (x.w = w) && decide (x.ps = ps))) h := by
  have ce := fun h => vc_equalI x.ps ps h h1 h2
  generalize decide (x.ps = ps) = E at ce ⊢
  refine VC.body Try.func50 rfl Try.ntmps50 Try.call50 (h.grows_refl) rfl ?_; conv => whnf
  repeat' (first | (refine VLd.intro rfl ?_; conv => whnf) | (refine VArith.i64 (by first | omega | (dsimp only; omega)) ?_; conv => whnf) | (refine VNeed.intro (by first | rfl | (simp; omega) | (simp; done)) ?_; conv => whnf) | (refine VMem.store rfl rfl rfl rfl ?_; conv => whnf) | (refine VSame.intro rfl ?_; conv => whnf) | (refine VDraw.go [] (by kernel_rfl) (by kernel_rfl) ?_; conv => whnf) | (refine VIte.dec (fun _ => ?_) (fun _ => ?_) <;> conv => whnf) | (refine VIte.ndec (fun _ => ?_) (fun _ => ?_) <;> conv => whnf) | (refine VIte.beq (fun _ => ?_) (fun _ => ?_) <;> conv => whnf) | (refine VIte.bne (fun _ => ?_) (fun _ => ?_) <;> conv => whnf) | (refine VIte.intro (fun _ => ?_) (fun _ => ?_) <;> conv => whnf) | (refine VCall.intro (ce _) ?_; conv => whnf))
  · rename_i h3
    rw [decide_eq_true h3, Bool.true_and]
    exact VOut.same rfl
  · rename_i h3
    rw [decide_eq_false h3, Bool.false_and]
    exact VOut.same rfl
theorem vc_Three (h : Hp) : VC Try.prog 48 [] h (.agg [strs three.ss, .nilslice]) h := by
  refine VC.body Try.func48 rfl Try.ntmps48 Try.call48 (h.grows_refl) rfl ?_; conv => whnf
  repeat' (first | (refine VLd.intro rfl ?_; conv => whnf) | (refine VArith.i64 (by first | omega | (dsimp only; omega)) ?_; conv => whnf) | (refine VNeed.intro (by first | rfl | (simp; omega) | (simp; done)) ?_; conv => whnf) | (refine VMem.store rfl rfl rfl rfl ?_; conv => whnf) | (refine VSame.intro rfl ?_; conv => whnf) | (refine VDraw.go [] (by kernel_rfl) (by kernel_rfl) ?_; conv => whnf) | (refine VIte.dec (fun _ => ?_) (fun _ => ?_) <;> conv => whnf) | (refine VIte.ndec (fun _ => ?_) (fun _ => ?_) <;> conv => whnf) | (refine VIte.beq (fun _ => ?_) (fun _ => ?_) <;> conv => whnf) | (refine VIte.bne (fun _ => ?_) (fun _ => ?_) <;> conv => whnf) | (refine VIte.intro (fun _ => ?_) (fun _ => ?_) <;> conv => whnf))
  refine VOut.data 2 [(1, three.ss.flatMap encT)] [] rfl (by repeat' (first | exact FzAll.nil | refine FzAll.flat rfl ?_ | refine FzAll.row rfl rfl (RowTo.one rfl (by simp)) ?_)) (by exact FmAll.nil) (by repeat' (first | exact VTo.undef | exact FrTo.leaf | refine FrTo.node ?_ ?_ ?_ | refine FrTo.none ?_ ?_ | exact VTo.sc (by first | rfl | (congr 1; omega) | (congr 1; simp; omega)) | exact VTos_dv _ _ | refine VTos.cons ?_ ?_ | exact VTos.nil | refine VTo.agg ?_ | refine VTo.tuple ?_ | refine VTo.func ?_ ?_ | exact VTo.fs | exact VTo.fp | exact VTo.nilptr | exact VTo.nilslice | exact VTo.nilfunc | exact VTo.ptr rfl | exact VTo.gl rfl | exact VTo.map rfl | exact VTo.yld rfl | exact VTo.fmMap rfl | exact VTo.fm | exact VTo.glNil' (by decide) rfl rfl | exact VTo.fsNil (by decide) | exact VTo.fsSl rfl rfl (by simp [flat_len encE_len]) | exact VTo.fpPtr rfl | exact VTo.fsGl rfl (by first | rfl | exact flat_len encI_len _ | exact flat_len encT_len _ | exact flat_len encS_len _ | exact flat_len encP_len _ | exact flat_len encL_len _ | exact flat_len encE_len _ | (simp [flat_len encP_len]; done) | simp [flat_len encI_len, flat_len encS_len])))
theorem VOut.ownL {h : Hp} {loc : List Blk} {esz n : Nat} {ds : List D} (j L : Nat) (hL : Nat.ble loc.length L = true) (hj : loc[j]? = some (.flat true ds)) : VOut h ⟨h.lift, loc⟩ (.agg [.gl (.loc j) esz n, .nilslice]) (.agg [.gl h.fresh esz n, .nilslice]) (h.push (.flat true ds)) := by
  refine VOut.upd [] [.flat true ds] [j] L hL (by intro p hp; cases hp) (by simp) rfl ?_ ?_ rfl
  · intro k b hk
    cases k with
    | zero => rw [List.getElem?_cons_zero, Option.some.injEq] at hk; subst hk; exact ⟨j, rfl, hj⟩
    | succ k => simp at hk
  · intro σ x hx
    have : (V.agg [.gl h.fresh esz n, .nilslice]).ren (backR h.loc.length [j] L) = .agg [.gl (.loc j) esz n, .nilslice] := by simp [V.ren, V.rens, backR, Hp.fresh]
    rw [this]; exact hx
/-- Three as a list of one's own. -/
theorem vc_ThreeO (h : Hp) : VC Try.prog 48 [] h (.agg [.gl h.fresh 4 3, .nilslice]) (h.push (.flat true (three.ss.flatMap encT))) := by
  refine VC.body Try.func48 rfl Try.ntmps48 Try.call48 (h.grows_push _) rfl ?_
  conv => whnf
  repeat' (first | (refine VLd.intro rfl ?_; conv => whnf) | (refine VArith.i64 (by first | omega | (dsimp only; omega)) ?_; conv => whnf) | (refine VNeed.intro (by first | rfl | (simp; omega) | (simp; done)) ?_; conv => whnf) | (refine VMem.store rfl rfl rfl rfl ?_; conv => whnf) | (refine VSame.intro rfl ?_; conv => whnf) | (refine VDraw.go [] (by kernel_rfl) (by kernel_rfl) ?_; conv => whnf) | (refine VIte.dec (fun _ => ?_) (fun _ => ?_) <;> conv => whnf) | (refine VIte.ndec (fun _ => ?_) (fun _ => ?_) <;> conv => whnf) | (refine VIte.beq (fun _ => ?_) (fun _ => ?_) <;> conv => whnf) | (refine VIte.bne (fun _ => ?_) (fun _ => ?_) <;> conv => whnf) | (refine VIte.intro (fun _ => ?_) (fun _ => ?_) <;> conv => whnf))
  exact VOut.ownL 1 2 rfl rfl
end Go.Proofs.Ytmpjpjfkbmlmfaa

open Go.Vm
namespace Go.Proofs.Ytmpjpjfkbmlmfaa
set_option maxRecDepth 20000
set_option maxHeartbeats 4000000

def d100 : List D := [DI 1, DI 0, DI 0]
def d120 : List D := [DI 1, DI 2, DI 0]
def d020 : List D := [DI 0, DI 2, DI 0]
def d0 : List D := [DI 0]
def d021 : List D := [DI 0, DI 2, DI 1]
def d010 : List D := [DI 0, DI 1, DI 0]
theorem vc_awake (h : Hp) : VC Try.prog 12 [] h (B true) h := by
  have c15 := fun h => vc_Order_ok three h three_ok
  rw [three_ord] at c15
  have c32 := fun h => vc_Waste_ok three ⟨1, [1, 0, 0]⟩ h three_ok ⟨by decide, by decide, by decide⟩
  have e32 : wsV three ⟨1, [1, 0, 0]⟩ = .tuple [I 1, I 0, I 0] := by unfold wsV; rw [three_al, three_wst]; rfl
  rw [e32] at c32
  have c26 := fun h => vc_Gains_ok three ⟨1, [0, 1, 0]⟩ h three_ok ⟨by decide, by decide, by decide⟩
  rw [three_gn.1, three_gn.2] at c26
  have c34 := fun h => vc_Holds three ⟨1, [0, 1, 0]⟩ 1 1 h (by decide) (by decide) (by decide)
  have e34 : hlE three ⟨1, [0, 1, 0]⟩ 1 1 = 0 := by decide
  rw [three_hl, e34] at c34
  have c21 := fun h => vc_Even_ok three h three_ok
  rw [three_even] at c21
  have c17 := fun h => eqI [1, 2, 0] h (by decide)
  have c50 := fun h => vc_is ⟨3, [0, 2, 0]⟩ 3 [0, 2, 0] h (by decide) (by decide)
  have c30 := fun h => vc_Most_ok three 30 h three_ok
  have c40 := fun h => vc_Most_ok three 40 h three_ok
  have c61 := fun h => vc_Most_ok three 61 h three_ok
  unfold mxV at c30 c40 c61
  rw [three_all, if_pos (by decide), three_m30] at c30
  rw [three_all, if_pos (by decide), three_m40] at c40
  rw [three_all, if_neg (by decide)] at c61
  have cW := fun h => vc_Even_ok threeW h threeW_ok
  rw [threeW_even] at cW
  have k1 := fun h => vc_is ⟨1, [0, 1, 0]⟩ 1 [0, 1, 0] h (by decide) (by decide)
  have k2 := fun h => vc_is ⟨2, [0, 2, 1]⟩ 2 [0, 2, 1] h (by decide) (by decide)
  have k3 := fun h => vc_is ⟨1, [1, 0, 0]⟩ 1 [1, 0, 0] h (by decide) (by decide)
  refine VC.body Try.func12 rfl Try.ntmps12 Try.call12 (h.grows_refl) rfl ?_; conv => whnf
  repeat' (first | (refine VLd.intro rfl ?_; conv => whnf) | (refine VArith.i64 (by first | omega | (dsimp only; omega)) ?_; conv => whnf) | (refine VNeed.intro (by first | rfl | (simp; omega) | (simp; done)) ?_; conv => whnf) | (refine VMem.store rfl rfl rfl rfl ?_; conv => whnf) | (refine VSame.intro rfl ?_; conv => whnf) | (refine VDraw.go [] (by kernel_rfl) (by kernel_rfl) ?_; conv => whnf) | (refine VIte.dec (fun _ => ?_) (fun _ => ?_) <;> conv => whnf) | (refine VIte.ndec (fun _ => ?_) (fun _ => ?_) <;> conv => whnf) | (refine VIte.beq (fun _ => ?_) (fun _ => ?_) <;> conv => whnf) | (refine VIte.bne (fun _ => ?_) (fun _ => ?_) <;> conv => whnf) | (refine VIte.intro (fun _ => ?_) (fun _ => ?_) <;> conv => whnf) | (refine VCall.intro (vc_Three _) ?_; conv => whnf) | (refine VCall.intro (VC.give (args' := [vL three]) (loc' := []) [] [] (OutOk.lift _) (by repeat' (first | exact BTos.nil | refine BTos.flat rfl rfl (by first | rfl | simp) ?_ | refine BTos.new rfl ?_ | refine BTos.dead rfl rfl ?_ | refine BTos.esE rfl rfl ?_ | refine BTos.row rfl rfl rfl (RowTo.snoc (RowTo.one rfl (by simp))) ?_ | refine BTos.cells rfl rfl rfl (by repeat' (first | exact VTo.undef | exact FrTo.leaf | refine FrTo.node ?_ ?_ ?_ | refine FrTo.none ?_ ?_ | exact VTo.sc (by first | rfl | (congr 1; omega) | (congr 1; simp; omega)) | exact VTos_dv _ _ | refine VTos.cons ?_ ?_ | exact VTos.nil | refine VTo.agg ?_ | refine VTo.tuple ?_ | refine VTo.func ?_ ?_ | exact VTo.fs | exact VTo.fp | exact VTo.nilptr | exact VTo.nilslice | exact VTo.nilfunc | exact VTo.ptr rfl | exact VTo.gl rfl | exact VTo.map rfl | exact VTo.yld rfl | exact VTo.fmMap rfl | exact VTo.fm | exact VTo.glNil' (by decide) rfl rfl | exact VTo.fsNil (by decide) | exact VTo.fsSl rfl rfl (by simp [flat_len encE_len]) | exact VTo.fpPtr rfl | exact VTo.fsGl rfl (by first | rfl | exact flat_len encI_len _ | exact flat_len encT_len _ | exact flat_len encS_len _ | exact flat_len encP_len _ | exact flat_len encL_len _ | exact flat_len encE_len _ | (simp [flat_len encP_len]; done) | simp [flat_len encI_len, flat_len encS_len]))) ?_)) (by repeat' (first | exact FzAll.nil | refine FzAll.flat rfl ?_ | refine FzAll.row rfl rfl (RowTo.one rfl (by simp)) ?_)) (by exact FmAll.nil) rfl (by repeat' (first | exact VTo.undef | exact FrTo.leaf | refine FrTo.node ?_ ?_ ?_ | refine FrTo.none ?_ ?_ | exact VTo.sc (by first | rfl | (congr 1; omega) | (congr 1; simp; omega)) | exact VTos_dv _ _ | refine VTos.cons ?_ ?_ | exact VTos.nil | refine VTo.agg ?_ | refine VTo.tuple ?_ | refine VTo.func ?_ ?_ | exact VTo.fs | exact VTo.fp | exact VTo.nilptr | exact VTo.nilslice | exact VTo.nilfunc | exact VTo.ptr rfl | exact VTo.gl rfl | exact VTo.map rfl | exact VTo.yld rfl | exact VTo.fmMap rfl | exact VTo.fm | exact VTo.glNil' (by decide) rfl rfl | exact VTo.fsNil (by decide) | exact VTo.fsSl rfl rfl (by simp [flat_len encE_len]) | exact VTo.fpPtr rfl | exact VTo.fsGl rfl (by first | rfl | exact flat_len encI_len _ | exact flat_len encT_len _ | exact flat_len encS_len _ | exact flat_len encP_len _ | exact flat_len encL_len _ | exact flat_len encE_len _ | (simp [flat_len encP_len]; done) | simp [flat_len encI_len, flat_len encS_len]))) (c15 _)) ?_; conv => whnf))
  refine VCall.intro (VC.give (args' := [vL three, vX ⟨1, [1, 0, 0]⟩]) (loc' := [.dead]) [(0, d100)] [] (OutOk.lift _) (by repeat' (first | exact BTos.nil | refine BTos.flat rfl rfl (by first | rfl | simp) ?_ | refine BTos.new rfl ?_ | refine BTos.dead rfl rfl ?_ | refine BTos.esE rfl rfl ?_ | refine BTos.row rfl rfl rfl (RowTo.snoc (RowTo.one rfl (by simp))) ?_ | refine BTos.cells rfl rfl rfl (by repeat' (first | exact VTo.undef | exact FrTo.leaf | refine FrTo.node ?_ ?_ ?_ | refine FrTo.none ?_ ?_ | exact VTo.sc (by first | rfl | (congr 1; omega) | (congr 1; simp; omega)) | exact VTos_dv _ _ | refine VTos.cons ?_ ?_ | exact VTos.nil | refine VTo.agg ?_ | refine VTo.tuple ?_ | refine VTo.func ?_ ?_ | exact VTo.fs | exact VTo.fp | exact VTo.nilptr | exact VTo.nilslice | exact VTo.nilfunc | exact VTo.ptr rfl | exact VTo.gl rfl | exact VTo.map rfl | exact VTo.yld rfl | exact VTo.fmMap rfl | exact VTo.fm | exact VTo.glNil' (by decide) rfl rfl | exact VTo.fsNil (by decide) | exact VTo.fsSl rfl rfl (by simp [flat_len encE_len]) | exact VTo.fpPtr rfl | exact VTo.fsGl rfl (by first | rfl | exact flat_len encI_len _ | exact flat_len encT_len _ | exact flat_len encS_len _ | exact flat_len encP_len _ | exact flat_len encL_len _ | exact flat_len encE_len _ | (simp [flat_len encP_len]; done) | simp [flat_len encI_len, flat_len encS_len]))) ?_)) (by repeat' (first | exact FzAll.nil | refine FzAll.flat rfl ?_ | refine FzAll.row rfl rfl (RowTo.one rfl (by simp)) ?_)) (by exact FmAll.nil) rfl (by repeat' (first | exact VTo.undef | exact FrTo.leaf | refine FrTo.node ?_ ?_ ?_ | refine FrTo.none ?_ ?_ | exact VTo.sc (by first | rfl | (congr 1; omega) | (congr 1; simp; omega)) | exact VTos_dv _ _ | refine VTos.cons ?_ ?_ | exact VTos.nil | refine VTo.agg ?_ | refine VTo.tuple ?_ | refine VTo.func ?_ ?_ | exact VTo.fs | exact VTo.fp | exact VTo.nilptr | exact VTo.nilslice | exact VTo.nilfunc | exact VTo.ptr rfl | exact VTo.gl rfl | exact VTo.map rfl | exact VTo.yld rfl | exact VTo.fmMap rfl | exact VTo.fm | exact VTo.glNil' (by decide) rfl rfl | exact VTo.fsNil (by decide) | exact VTo.fsSl rfl rfl (by simp [flat_len encE_len]) | exact VTo.fpPtr rfl | exact VTo.fsGl rfl (by first | rfl | exact flat_len encI_len _ | exact flat_len encT_len _ | exact flat_len encS_len _ | exact flat_len encP_len _ | exact flat_len encL_len _ | exact flat_len encE_len _ | (simp [flat_len encP_len]; done) | simp [flat_len encI_len, flat_len encS_len]))) (c32 _)) ?_
  conv => whnf
  repeat' (first | (refine VLd.intro rfl ?_; conv => whnf) | (refine VArith.i64 (by first | omega | (dsimp only; omega)) ?_; conv => whnf) | (refine VNeed.intro (by first | rfl | (simp; omega) | (simp; done)) ?_; conv => whnf) | (refine VMem.store rfl rfl rfl rfl ?_; conv => whnf) | (refine VSame.intro rfl ?_; conv => whnf) | (refine VDraw.go [] (by kernel_rfl) (by kernel_rfl) ?_; conv => whnf) | (refine VIte.dec (fun _ => ?_) (fun _ => ?_) <;> conv => whnf) | (refine VIte.ndec (fun _ => ?_) (fun _ => ?_) <;> conv => whnf) | (refine VIte.beq (fun _ => ?_) (fun _ => ?_) <;> conv => whnf) | (refine VIte.bne (fun _ => ?_) (fun _ => ?_) <;> conv => whnf) | (refine VIte.intro (fun _ => ?_) (fun _ => ?_) <;> conv => whnf) | (refine VCall.intro (vc_Three _) ?_; conv => whnf))
  refine VCall.intro (VC.give (args' := [vL three, vX ⟨1, [0, 1, 0]⟩]) (loc' := [.dead, .dead]) [(1, d010)] [] (OutOk.lift _) (by repeat' (first | exact BTos.nil | refine BTos.flat rfl rfl (by first | rfl | simp) ?_ | refine BTos.new rfl ?_ | refine BTos.dead rfl rfl ?_ | refine BTos.esE rfl rfl ?_ | refine BTos.row rfl rfl rfl (RowTo.snoc (RowTo.one rfl (by simp))) ?_ | refine BTos.cells rfl rfl rfl (by repeat' (first | exact VTo.undef | exact FrTo.leaf | refine FrTo.node ?_ ?_ ?_ | refine FrTo.none ?_ ?_ | exact VTo.sc (by first | rfl | (congr 1; omega) | (congr 1; simp; omega)) | exact VTos_dv _ _ | refine VTos.cons ?_ ?_ | exact VTos.nil | refine VTo.agg ?_ | refine VTo.tuple ?_ | refine VTo.func ?_ ?_ | exact VTo.fs | exact VTo.fp | exact VTo.nilptr | exact VTo.nilslice | exact VTo.nilfunc | exact VTo.ptr rfl | exact VTo.gl rfl | exact VTo.map rfl | exact VTo.yld rfl | exact VTo.fmMap rfl | exact VTo.fm | exact VTo.glNil' (by decide) rfl rfl | exact VTo.fsNil (by decide) | exact VTo.fsSl rfl rfl (by simp [flat_len encE_len]) | exact VTo.fpPtr rfl | exact VTo.fsGl rfl (by first | rfl | exact flat_len encI_len _ | exact flat_len encT_len _ | exact flat_len encS_len _ | exact flat_len encP_len _ | exact flat_len encL_len _ | exact flat_len encE_len _ | (simp [flat_len encP_len]; done) | simp [flat_len encI_len, flat_len encS_len]))) ?_)) (by repeat' (first | exact FzAll.nil | refine FzAll.flat rfl ?_ | refine FzAll.row rfl rfl (RowTo.one rfl (by simp)) ?_)) (by exact FmAll.nil) rfl (by repeat' (first | exact VTo.undef | exact FrTo.leaf | refine FrTo.node ?_ ?_ ?_ | refine FrTo.none ?_ ?_ | exact VTo.sc (by first | rfl | (congr 1; omega) | (congr 1; simp; omega)) | exact VTos_dv _ _ | refine VTos.cons ?_ ?_ | exact VTos.nil | refine VTo.agg ?_ | refine VTo.tuple ?_ | refine VTo.func ?_ ?_ | exact VTo.fs | exact VTo.fp | exact VTo.nilptr | exact VTo.nilslice | exact VTo.nilfunc | exact VTo.ptr rfl | exact VTo.gl rfl | exact VTo.map rfl | exact VTo.yld rfl | exact VTo.fmMap rfl | exact VTo.fm | exact VTo.glNil' (by decide) rfl rfl | exact VTo.fsNil (by decide) | exact VTo.fsSl rfl rfl (by simp [flat_len encE_len]) | exact VTo.fpPtr rfl | exact VTo.fsGl rfl (by first | rfl | exact flat_len encI_len _ | exact flat_len encT_len _ | exact flat_len encS_len _ | exact flat_len encP_len _ | exact flat_len encL_len _ | exact flat_len encE_len _ | (simp [flat_len encP_len]; done) | simp [flat_len encI_len, flat_len encS_len]))) (c26 _)) ?_
  conv => whnf
  repeat' (first | (refine VLd.intro rfl ?_; conv => whnf) | (refine VArith.i64 (by first | omega | (dsimp only; omega)) ?_; conv => whnf) | (refine VNeed.intro (by first | rfl | (simp; omega) | (simp; done)) ?_; conv => whnf) | (refine VMem.store rfl rfl rfl rfl ?_; conv => whnf) | (refine VSame.intro rfl ?_; conv => whnf) | (refine VDraw.go [] (by kernel_rfl) (by kernel_rfl) ?_; conv => whnf) | (refine VIte.dec (fun _ => ?_) (fun _ => ?_) <;> conv => whnf) | (refine VIte.ndec (fun _ => ?_) (fun _ => ?_) <;> conv => whnf) | (refine VIte.beq (fun _ => ?_) (fun _ => ?_) <;> conv => whnf) | (refine VIte.bne (fun _ => ?_) (fun _ => ?_) <;> conv => whnf) | (refine VIte.intro (fun _ => ?_) (fun _ => ?_) <;> conv => whnf) | (refine VCall.intro (vc_Three _) ?_; conv => whnf))
  refine VCall.intro (VC.give (args' := [vL three, vX ⟨1, [0, 1, 0]⟩, I 1, I 1]) (loc' := [.dead, .dead, .dead]) [(2, d010)] [] (OutOk.lift _) (by repeat' (first | exact BTos.nil | refine BTos.flat rfl rfl (by first | rfl | simp) ?_ | refine BTos.new rfl ?_ | refine BTos.dead rfl rfl ?_ | refine BTos.esE rfl rfl ?_ | refine BTos.row rfl rfl rfl (RowTo.snoc (RowTo.one rfl (by simp))) ?_ | refine BTos.cells rfl rfl rfl (by repeat' (first | exact VTo.undef | exact FrTo.leaf | refine FrTo.node ?_ ?_ ?_ | refine FrTo.none ?_ ?_ | exact VTo.sc (by first | rfl | (congr 1; omega) | (congr 1; simp; omega)) | exact VTos_dv _ _ | refine VTos.cons ?_ ?_ | exact VTos.nil | refine VTo.agg ?_ | refine VTo.tuple ?_ | refine VTo.func ?_ ?_ | exact VTo.fs | exact VTo.fp | exact VTo.nilptr | exact VTo.nilslice | exact VTo.nilfunc | exact VTo.ptr rfl | exact VTo.gl rfl | exact VTo.map rfl | exact VTo.yld rfl | exact VTo.fmMap rfl | exact VTo.fm | exact VTo.glNil' (by decide) rfl rfl | exact VTo.fsNil (by decide) | exact VTo.fsSl rfl rfl (by simp [flat_len encE_len]) | exact VTo.fpPtr rfl | exact VTo.fsGl rfl (by first | rfl | exact flat_len encI_len _ | exact flat_len encT_len _ | exact flat_len encS_len _ | exact flat_len encP_len _ | exact flat_len encL_len _ | exact flat_len encE_len _ | (simp [flat_len encP_len]; done) | simp [flat_len encI_len, flat_len encS_len]))) ?_)) (by repeat' (first | exact FzAll.nil | refine FzAll.flat rfl ?_ | refine FzAll.row rfl rfl (RowTo.one rfl (by simp)) ?_)) (by exact FmAll.nil) rfl (by repeat' (first | exact VTo.undef | exact FrTo.leaf | refine FrTo.node ?_ ?_ ?_ | refine FrTo.none ?_ ?_ | exact VTo.sc (by first | rfl | (congr 1; omega) | (congr 1; simp; omega)) | exact VTos_dv _ _ | refine VTos.cons ?_ ?_ | exact VTos.nil | refine VTo.agg ?_ | refine VTo.tuple ?_ | refine VTo.func ?_ ?_ | exact VTo.fs | exact VTo.fp | exact VTo.nilptr | exact VTo.nilslice | exact VTo.nilfunc | exact VTo.ptr rfl | exact VTo.gl rfl | exact VTo.map rfl | exact VTo.yld rfl | exact VTo.fmMap rfl | exact VTo.fm | exact VTo.glNil' (by decide) rfl rfl | exact VTo.fsNil (by decide) | exact VTo.fsSl rfl rfl (by simp [flat_len encE_len]) | exact VTo.fpPtr rfl | exact VTo.fsGl rfl (by first | rfl | exact flat_len encI_len _ | exact flat_len encT_len _ | exact flat_len encS_len _ | exact flat_len encP_len _ | exact flat_len encL_len _ | exact flat_len encE_len _ | (simp [flat_len encP_len]; done) | simp [flat_len encI_len, flat_len encS_len]))) (c34 _)) ?_
  conv => whnf
  repeat' (first | (refine VLd.intro rfl ?_; conv => whnf) | (refine VArith.i64 (by first | omega | (dsimp only; omega)) ?_; conv => whnf) | (refine VNeed.intro (by first | rfl | (simp; omega) | (simp; done)) ?_; conv => whnf) | (refine VMem.store rfl rfl rfl rfl ?_; conv => whnf) | (refine VSame.intro rfl ?_; conv => whnf) | (refine VDraw.go [] (by kernel_rfl) (by kernel_rfl) ?_; conv => whnf) | (refine VIte.dec (fun _ => ?_) (fun _ => ?_) <;> conv => whnf) | (refine VIte.ndec (fun _ => ?_) (fun _ => ?_) <;> conv => whnf) | (refine VIte.beq (fun _ => ?_) (fun _ => ?_) <;> conv => whnf) | (refine VIte.bne (fun _ => ?_) (fun _ => ?_) <;> conv => whnf) | (refine VIte.intro (fun _ => ?_) (fun _ => ?_) <;> conv => whnf) | (refine VCall.intro (vc_Three _) ?_; conv => whnf))
  refine VCall.intro (VC.give (args' := [vL three]) (loc' := [.dead, .dead, .dead]) [] [] (OutOk.lift _) (by repeat' (first | exact BTos.nil | refine BTos.flat rfl rfl (by first | rfl | simp) ?_ | refine BTos.new rfl ?_ | refine BTos.dead rfl rfl ?_ | refine BTos.esE rfl rfl ?_ | refine BTos.row rfl rfl rfl (RowTo.snoc (RowTo.one rfl (by simp))) ?_ | refine BTos.cells rfl rfl rfl (by repeat' (first | exact VTo.undef | exact FrTo.leaf | refine FrTo.node ?_ ?_ ?_ | refine FrTo.none ?_ ?_ | exact VTo.sc (by first | rfl | (congr 1; omega) | (congr 1; simp; omega)) | exact VTos_dv _ _ | refine VTos.cons ?_ ?_ | exact VTos.nil | refine VTo.agg ?_ | refine VTo.tuple ?_ | refine VTo.func ?_ ?_ | exact VTo.fs | exact VTo.fp | exact VTo.nilptr | exact VTo.nilslice | exact VTo.nilfunc | exact VTo.ptr rfl | exact VTo.gl rfl | exact VTo.map rfl | exact VTo.yld rfl | exact VTo.fmMap rfl | exact VTo.fm | exact VTo.glNil' (by decide) rfl rfl | exact VTo.fsNil (by decide) | exact VTo.fsSl rfl rfl (by simp [flat_len encE_len]) | exact VTo.fpPtr rfl | exact VTo.fsGl rfl (by first | rfl | exact flat_len encI_len _ | exact flat_len encT_len _ | exact flat_len encS_len _ | exact flat_len encP_len _ | exact flat_len encL_len _ | exact flat_len encE_len _ | (simp [flat_len encP_len]; done) | simp [flat_len encI_len, flat_len encS_len]))) ?_)) (by repeat' (first | exact FzAll.nil | refine FzAll.flat rfl ?_ | refine FzAll.row rfl rfl (RowTo.one rfl (by simp)) ?_)) (by exact FmAll.nil) rfl (by repeat' (first | exact VTo.undef | exact FrTo.leaf | refine FrTo.node ?_ ?_ ?_ | refine FrTo.none ?_ ?_ | exact VTo.sc (by first | rfl | (congr 1; omega) | (congr 1; simp; omega)) | exact VTos_dv _ _ | refine VTos.cons ?_ ?_ | exact VTos.nil | refine VTo.agg ?_ | refine VTo.tuple ?_ | refine VTo.func ?_ ?_ | exact VTo.fs | exact VTo.fp | exact VTo.nilptr | exact VTo.nilslice | exact VTo.nilfunc | exact VTo.ptr rfl | exact VTo.gl rfl | exact VTo.map rfl | exact VTo.yld rfl | exact VTo.fmMap rfl | exact VTo.fm | exact VTo.glNil' (by decide) rfl rfl | exact VTo.fsNil (by decide) | exact VTo.fsSl rfl rfl (by simp [flat_len encE_len]) | exact VTo.fpPtr rfl | exact VTo.fsGl rfl (by first | rfl | exact flat_len encI_len _ | exact flat_len encT_len _ | exact flat_len encS_len _ | exact flat_len encP_len _ | exact flat_len encL_len _ | exact flat_len encE_len _ | (simp [flat_len encP_len]; done) | simp [flat_len encI_len, flat_len encS_len]))) (c21 _)) ?_
  conv => whnf
  repeat' (first | (refine VLd.intro rfl ?_; conv => whnf) | (refine VArith.i64 (by first | omega | (dsimp only; omega)) ?_; conv => whnf) | (refine VNeed.intro (by first | rfl | (simp; omega) | (simp; done)) ?_; conv => whnf) | (refine VMem.store rfl rfl rfl rfl ?_; conv => whnf) | (refine VSame.intro rfl ?_; conv => whnf) | (refine VDraw.go [] (by kernel_rfl) (by kernel_rfl) ?_; conv => whnf) | (refine VIte.dec (fun _ => ?_) (fun _ => ?_) <;> conv => whnf) | (refine VIte.ndec (fun _ => ?_) (fun _ => ?_) <;> conv => whnf) | (refine VIte.beq (fun _ => ?_) (fun _ => ?_) <;> conv => whnf) | (refine VIte.bne (fun _ => ?_) (fun _ => ?_) <;> conv => whnf) | (refine VIte.intro (fun _ => ?_) (fun _ => ?_) <;> conv => whnf))
  refine VCall.intro (VC.give (args' := [ints [1, 2, 0], ints [1, 2, 0]]) (loc' := [.dead, .dead, .dead, .flat true (encX ⟨3, [0, 2, 0]⟩), .dead]) [(4, d120)] [] (OutOk.lift _) (by repeat' (first | exact BTos.nil | refine BTos.flat rfl rfl (by first | rfl | simp) ?_ | refine BTos.new rfl ?_ | refine BTos.dead rfl rfl ?_ | refine BTos.esE rfl rfl ?_ | refine BTos.row rfl rfl rfl (RowTo.snoc (RowTo.one rfl (by simp))) ?_ | refine BTos.cells rfl rfl rfl (by repeat' (first | exact VTo.undef | exact FrTo.leaf | refine FrTo.node ?_ ?_ ?_ | refine FrTo.none ?_ ?_ | exact VTo.sc (by first | rfl | (congr 1; omega) | (congr 1; simp; omega)) | exact VTos_dv _ _ | refine VTos.cons ?_ ?_ | exact VTos.nil | refine VTo.agg ?_ | refine VTo.tuple ?_ | refine VTo.func ?_ ?_ | exact VTo.fs | exact VTo.fp | exact VTo.nilptr | exact VTo.nilslice | exact VTo.nilfunc | exact VTo.ptr rfl | exact VTo.gl rfl | exact VTo.map rfl | exact VTo.yld rfl | exact VTo.fmMap rfl | exact VTo.fm | exact VTo.glNil' (by decide) rfl rfl | exact VTo.fsNil (by decide) | exact VTo.fsSl rfl rfl (by simp [flat_len encE_len]) | exact VTo.fpPtr rfl | exact VTo.fsGl rfl (by first | rfl | exact flat_len encI_len _ | exact flat_len encT_len _ | exact flat_len encS_len _ | exact flat_len encP_len _ | exact flat_len encL_len _ | exact flat_len encE_len _ | (simp [flat_len encP_len]; done) | simp [flat_len encI_len, flat_len encS_len]))) ?_)) (by repeat' (first | exact FzAll.nil | refine FzAll.flat rfl ?_ | refine FzAll.row rfl rfl (RowTo.one rfl (by simp)) ?_)) (by exact FmAll.nil) rfl (by repeat' (first | exact VTo.undef | exact FrTo.leaf | refine FrTo.node ?_ ?_ ?_ | refine FrTo.none ?_ ?_ | exact VTo.sc (by first | rfl | (congr 1; omega) | (congr 1; simp; omega)) | exact VTos_dv _ _ | refine VTos.cons ?_ ?_ | exact VTos.nil | refine VTo.agg ?_ | refine VTo.tuple ?_ | refine VTo.func ?_ ?_ | exact VTo.fs | exact VTo.fp | exact VTo.nilptr | exact VTo.nilslice | exact VTo.nilfunc | exact VTo.ptr rfl | exact VTo.gl rfl | exact VTo.map rfl | exact VTo.yld rfl | exact VTo.fmMap rfl | exact VTo.fm | exact VTo.glNil' (by decide) rfl rfl | exact VTo.fsNil (by decide) | exact VTo.fsSl rfl rfl (by simp [flat_len encE_len]) | exact VTo.fpPtr rfl | exact VTo.fsGl rfl (by first | rfl | exact flat_len encI_len _ | exact flat_len encT_len _ | exact flat_len encS_len _ | exact flat_len encP_len _ | exact flat_len encL_len _ | exact flat_len encE_len _ | (simp [flat_len encP_len]; done) | simp [flat_len encI_len, flat_len encS_len]))) (c17 _)) ?_
  conv => whnf
  repeat' (first | (refine VLd.intro rfl ?_; conv => whnf) | (refine VArith.i64 (by first | omega | (dsimp only; omega)) ?_; conv => whnf) | (refine VNeed.intro (by first | rfl | (simp; omega) | (simp; done)) ?_; conv => whnf) | (refine VMem.store rfl rfl rfl rfl ?_; conv => whnf) | (refine VSame.intro rfl ?_; conv => whnf) | (refine VDraw.go [] (by kernel_rfl) (by kernel_rfl) ?_; conv => whnf) | (refine VIte.dec (fun _ => ?_) (fun _ => ?_) <;> conv => whnf) | (refine VIte.ndec (fun _ => ?_) (fun _ => ?_) <;> conv => whnf) | (refine VIte.beq (fun _ => ?_) (fun _ => ?_) <;> conv => whnf) | (refine VIte.bne (fun _ => ?_) (fun _ => ?_) <;> conv => whnf) | (refine VIte.intro (fun _ => ?_) (fun _ => ?_) <;> conv => whnf))
  refine VCall.intro (VC.give (args' := [vX ⟨3, [0, 2, 0]⟩, I 3, ints [0, 2, 0]]) (loc' := [.dead, .dead, .dead, .flat true (encX ⟨3, [0, 2, 0]⟩), .dead, .dead]) [(5, d020)] [] (OutOk.lift _) (by repeat' (first | exact BTos.nil | refine BTos.flat rfl rfl (by first | rfl | simp) ?_ | refine BTos.new rfl ?_ | refine BTos.dead rfl rfl ?_ | refine BTos.esE rfl rfl ?_ | refine BTos.row rfl rfl rfl (RowTo.snoc (RowTo.one rfl (by simp))) ?_ | refine BTos.cells rfl rfl rfl (by repeat' (first | exact VTo.undef | exact FrTo.leaf | refine FrTo.node ?_ ?_ ?_ | refine FrTo.none ?_ ?_ | exact VTo.sc (by first | rfl | (congr 1; omega) | (congr 1; simp; omega)) | exact VTos_dv _ _ | refine VTos.cons ?_ ?_ | exact VTos.nil | refine VTo.agg ?_ | refine VTo.tuple ?_ | refine VTo.func ?_ ?_ | exact VTo.fs | exact VTo.fp | exact VTo.nilptr | exact VTo.nilslice | exact VTo.nilfunc | exact VTo.ptr rfl | exact VTo.gl rfl | exact VTo.map rfl | exact VTo.yld rfl | exact VTo.fmMap rfl | exact VTo.fm | exact VTo.glNil' (by decide) rfl rfl | exact VTo.fsNil (by decide) | exact VTo.fsSl rfl rfl (by simp [flat_len encE_len]) | exact VTo.fpPtr rfl | exact VTo.fsGl rfl (by first | rfl | exact flat_len encI_len _ | exact flat_len encT_len _ | exact flat_len encS_len _ | exact flat_len encP_len _ | exact flat_len encL_len _ | exact flat_len encE_len _ | (simp [flat_len encP_len]; done) | simp [flat_len encI_len, flat_len encS_len]))) ?_)) (by repeat' (first | exact FzAll.nil | refine FzAll.flat rfl ?_ | refine FzAll.row rfl rfl (RowTo.one rfl (by simp)) ?_)) (by exact FmAll.nil) rfl (by repeat' (first | exact VTo.undef | exact FrTo.leaf | refine FrTo.node ?_ ?_ ?_ | refine FrTo.none ?_ ?_ | exact VTo.sc (by first | rfl | (congr 1; omega) | (congr 1; simp; omega)) | exact VTos_dv _ _ | refine VTos.cons ?_ ?_ | exact VTos.nil | refine VTo.agg ?_ | refine VTo.tuple ?_ | refine VTo.func ?_ ?_ | exact VTo.fs | exact VTo.fp | exact VTo.nilptr | exact VTo.nilslice | exact VTo.nilfunc | exact VTo.ptr rfl | exact VTo.gl rfl | exact VTo.map rfl | exact VTo.yld rfl | exact VTo.fmMap rfl | exact VTo.fm | exact VTo.glNil' (by decide) rfl rfl | exact VTo.fsNil (by decide) | exact VTo.fsSl rfl rfl (by simp [flat_len encE_len]) | exact VTo.fpPtr rfl | exact VTo.fsGl rfl (by first | rfl | exact flat_len encI_len _ | exact flat_len encT_len _ | exact flat_len encS_len _ | exact flat_len encP_len _ | exact flat_len encL_len _ | exact flat_len encE_len _ | (simp [flat_len encP_len]; done) | simp [flat_len encI_len, flat_len encS_len]))) (c50 _)) ?_
  conv => whnf
  repeat' (first | (refine VLd.intro rfl ?_; conv => whnf) | (refine VArith.i64 (by first | omega | (dsimp only; omega)) ?_; conv => whnf) | (refine VNeed.intro (by first | rfl | (simp; omega) | (simp; done)) ?_; conv => whnf) | (refine VMem.store rfl rfl rfl rfl ?_; conv => whnf) | (refine VSame.intro rfl ?_; conv => whnf) | (refine VDraw.go [] (by kernel_rfl) (by kernel_rfl) ?_; conv => whnf) | (refine VIte.dec (fun _ => ?_) (fun _ => ?_) <;> conv => whnf) | (refine VIte.ndec (fun _ => ?_) (fun _ => ?_) <;> conv => whnf) | (refine VIte.beq (fun _ => ?_) (fun _ => ?_) <;> conv => whnf) | (refine VIte.bne (fun _ => ?_) (fun _ => ?_) <;> conv => whnf) | (refine VIte.intro (fun _ => ?_) (fun _ => ?_) <;> conv => whnf) | (refine VCall.intro (vc_Three _) ?_; conv => whnf))
  refine VCall.intro (VC.give (args' := [vL three, I 30]) (loc' := [.dead, .dead, .dead, .flat true (encX ⟨3, [0, 2, 0]⟩), .dead, .dead]) [] [] (OutOk.lift _) (by repeat' (first | exact BTos.nil | refine BTos.flat rfl rfl (by first | rfl | simp) ?_ | refine BTos.new rfl ?_ | refine BTos.dead rfl rfl ?_ | refine BTos.esE rfl rfl ?_ | refine BTos.row rfl rfl rfl (RowTo.snoc (RowTo.one rfl (by simp))) ?_ | refine BTos.cells rfl rfl rfl (by repeat' (first | exact VTo.undef | exact FrTo.leaf | refine FrTo.node ?_ ?_ ?_ | refine FrTo.none ?_ ?_ | exact VTo.sc (by first | rfl | (congr 1; omega) | (congr 1; simp; omega)) | exact VTos_dv _ _ | refine VTos.cons ?_ ?_ | exact VTos.nil | refine VTo.agg ?_ | refine VTo.tuple ?_ | refine VTo.func ?_ ?_ | exact VTo.fs | exact VTo.fp | exact VTo.nilptr | exact VTo.nilslice | exact VTo.nilfunc | exact VTo.ptr rfl | exact VTo.gl rfl | exact VTo.map rfl | exact VTo.yld rfl | exact VTo.fmMap rfl | exact VTo.fm | exact VTo.glNil' (by decide) rfl rfl | exact VTo.fsNil (by decide) | exact VTo.fsSl rfl rfl (by simp [flat_len encE_len]) | exact VTo.fpPtr rfl | exact VTo.fsGl rfl (by first | rfl | exact flat_len encI_len _ | exact flat_len encT_len _ | exact flat_len encS_len _ | exact flat_len encP_len _ | exact flat_len encL_len _ | exact flat_len encE_len _ | (simp [flat_len encP_len]; done) | simp [flat_len encI_len, flat_len encS_len]))) ?_)) (by repeat' (first | exact FzAll.nil | refine FzAll.flat rfl ?_ | refine FzAll.row rfl rfl (RowTo.one rfl (by simp)) ?_)) (by exact FmAll.nil) rfl (by repeat' (first | exact VTo.undef | exact FrTo.leaf | refine FrTo.node ?_ ?_ ?_ | refine FrTo.none ?_ ?_ | exact VTo.sc (by first | rfl | (congr 1; omega) | (congr 1; simp; omega)) | exact VTos_dv _ _ | refine VTos.cons ?_ ?_ | exact VTos.nil | refine VTo.agg ?_ | refine VTo.tuple ?_ | refine VTo.func ?_ ?_ | exact VTo.fs | exact VTo.fp | exact VTo.nilptr | exact VTo.nilslice | exact VTo.nilfunc | exact VTo.ptr rfl | exact VTo.gl rfl | exact VTo.map rfl | exact VTo.yld rfl | exact VTo.fmMap rfl | exact VTo.fm | exact VTo.glNil' (by decide) rfl rfl | exact VTo.fsNil (by decide) | exact VTo.fsSl rfl rfl (by simp [flat_len encE_len]) | exact VTo.fpPtr rfl | exact VTo.fsGl rfl (by first | rfl | exact flat_len encI_len _ | exact flat_len encT_len _ | exact flat_len encS_len _ | exact flat_len encP_len _ | exact flat_len encL_len _ | exact flat_len encE_len _ | (simp [flat_len encP_len]; done) | simp [flat_len encI_len, flat_len encS_len]))) (c30 _)) ?_
  conv => whnf
  repeat' (first | (refine VLd.intro rfl ?_; conv => whnf) | (refine VArith.i64 (by first | omega | (dsimp only; omega)) ?_; conv => whnf) | (refine VNeed.intro (by first | rfl | (simp; omega) | (simp; done)) ?_; conv => whnf) | (refine VMem.store rfl rfl rfl rfl ?_; conv => whnf) | (refine VSame.intro rfl ?_; conv => whnf) | (refine VDraw.go [] (by kernel_rfl) (by kernel_rfl) ?_; conv => whnf) | (refine VIte.dec (fun _ => ?_) (fun _ => ?_) <;> conv => whnf) | (refine VIte.ndec (fun _ => ?_) (fun _ => ?_) <;> conv => whnf) | (refine VIte.beq (fun _ => ?_) (fun _ => ?_) <;> conv => whnf) | (refine VIte.bne (fun _ => ?_) (fun _ => ?_) <;> conv => whnf) | (refine VIte.intro (fun _ => ?_) (fun _ => ?_) <;> conv => whnf) | (refine VCall.intro (vc_Three _) ?_; conv => whnf))
  refine VCall.intro (VC.give (args' := [vL three, I 40]) (loc' := [.dead, .dead, .dead, .flat true (encX ⟨3, [0, 2, 0]⟩), .dead, .dead, .flat true (encX ⟨1, [0, 1, 0]⟩)]) [] [] (OutOk.lift _) (by repeat' (first | exact BTos.nil | refine BTos.flat rfl rfl (by first | rfl | simp) ?_ | refine BTos.new rfl ?_ | refine BTos.dead rfl rfl ?_ | refine BTos.esE rfl rfl ?_ | refine BTos.row rfl rfl rfl (RowTo.snoc (RowTo.one rfl (by simp))) ?_ | refine BTos.cells rfl rfl rfl (by repeat' (first | exact VTo.undef | exact FrTo.leaf | refine FrTo.node ?_ ?_ ?_ | refine FrTo.none ?_ ?_ | exact VTo.sc (by first | rfl | (congr 1; omega) | (congr 1; simp; omega)) | exact VTos_dv _ _ | refine VTos.cons ?_ ?_ | exact VTos.nil | refine VTo.agg ?_ | refine VTo.tuple ?_ | refine VTo.func ?_ ?_ | exact VTo.fs | exact VTo.fp | exact VTo.nilptr | exact VTo.nilslice | exact VTo.nilfunc | exact VTo.ptr rfl | exact VTo.gl rfl | exact VTo.map rfl | exact VTo.yld rfl | exact VTo.fmMap rfl | exact VTo.fm | exact VTo.glNil' (by decide) rfl rfl | exact VTo.fsNil (by decide) | exact VTo.fsSl rfl rfl (by simp [flat_len encE_len]) | exact VTo.fpPtr rfl | exact VTo.fsGl rfl (by first | rfl | exact flat_len encI_len _ | exact flat_len encT_len _ | exact flat_len encS_len _ | exact flat_len encP_len _ | exact flat_len encL_len _ | exact flat_len encE_len _ | (simp [flat_len encP_len]; done) | simp [flat_len encI_len, flat_len encS_len]))) ?_)) (by repeat' (first | exact FzAll.nil | refine FzAll.flat rfl ?_ | refine FzAll.row rfl rfl (RowTo.one rfl (by simp)) ?_)) (by exact FmAll.nil) rfl (by repeat' (first | exact VTo.undef | exact FrTo.leaf | refine FrTo.node ?_ ?_ ?_ | refine FrTo.none ?_ ?_ | exact VTo.sc (by first | rfl | (congr 1; omega) | (congr 1; simp; omega)) | exact VTos_dv _ _ | refine VTos.cons ?_ ?_ | exact VTos.nil | refine VTo.agg ?_ | refine VTo.tuple ?_ | refine VTo.func ?_ ?_ | exact VTo.fs | exact VTo.fp | exact VTo.nilptr | exact VTo.nilslice | exact VTo.nilfunc | exact VTo.ptr rfl | exact VTo.gl rfl | exact VTo.map rfl | exact VTo.yld rfl | exact VTo.fmMap rfl | exact VTo.fm | exact VTo.glNil' (by decide) rfl rfl | exact VTo.fsNil (by decide) | exact VTo.fsSl rfl rfl (by simp [flat_len encE_len]) | exact VTo.fpPtr rfl | exact VTo.fsGl rfl (by first | rfl | exact flat_len encI_len _ | exact flat_len encT_len _ | exact flat_len encS_len _ | exact flat_len encP_len _ | exact flat_len encL_len _ | exact flat_len encE_len _ | (simp [flat_len encP_len]; done) | simp [flat_len encI_len, flat_len encS_len]))) (c40 _)) ?_
  conv => whnf
  repeat' (first | (refine VLd.intro rfl ?_; conv => whnf) | (refine VArith.i64 (by first | omega | (dsimp only; omega)) ?_; conv => whnf) | (refine VNeed.intro (by first | rfl | (simp; omega) | (simp; done)) ?_; conv => whnf) | (refine VMem.store rfl rfl rfl rfl ?_; conv => whnf) | (refine VSame.intro rfl ?_; conv => whnf) | (refine VDraw.go [] (by kernel_rfl) (by kernel_rfl) ?_; conv => whnf) | (refine VIte.dec (fun _ => ?_) (fun _ => ?_) <;> conv => whnf) | (refine VIte.ndec (fun _ => ?_) (fun _ => ?_) <;> conv => whnf) | (refine VIte.beq (fun _ => ?_) (fun _ => ?_) <;> conv => whnf) | (refine VIte.bne (fun _ => ?_) (fun _ => ?_) <;> conv => whnf) | (refine VIte.intro (fun _ => ?_) (fun _ => ?_) <;> conv => whnf) | (refine VCall.intro (vc_Three _) ?_; conv => whnf))
  refine VCall.intro (VC.give (args' := [vL three, I 61]) (loc' := [.dead, .dead, .dead, .flat true (encX ⟨3, [0, 2, 0]⟩), .dead, .dead, .flat true (encX ⟨1, [0, 1, 0]⟩), .flat true (encX ⟨2, [0, 2, 1]⟩)]) [] [] (OutOk.lift _) (by repeat' (first | exact BTos.nil | refine BTos.flat rfl rfl (by first | rfl | simp) ?_ | refine BTos.new rfl ?_ | refine BTos.dead rfl rfl ?_ | refine BTos.esE rfl rfl ?_ | refine BTos.row rfl rfl rfl (RowTo.snoc (RowTo.one rfl (by simp))) ?_ | refine BTos.cells rfl rfl rfl (by repeat' (first | exact VTo.undef | exact FrTo.leaf | refine FrTo.node ?_ ?_ ?_ | refine FrTo.none ?_ ?_ | exact VTo.sc (by first | rfl | (congr 1; omega) | (congr 1; simp; omega)) | exact VTos_dv _ _ | refine VTos.cons ?_ ?_ | exact VTos.nil | refine VTo.agg ?_ | refine VTo.tuple ?_ | refine VTo.func ?_ ?_ | exact VTo.fs | exact VTo.fp | exact VTo.nilptr | exact VTo.nilslice | exact VTo.nilfunc | exact VTo.ptr rfl | exact VTo.gl rfl | exact VTo.map rfl | exact VTo.yld rfl | exact VTo.fmMap rfl | exact VTo.fm | exact VTo.glNil' (by decide) rfl rfl | exact VTo.fsNil (by decide) | exact VTo.fsSl rfl rfl (by simp [flat_len encE_len]) | exact VTo.fpPtr rfl | exact VTo.fsGl rfl (by first | rfl | exact flat_len encI_len _ | exact flat_len encT_len _ | exact flat_len encS_len _ | exact flat_len encP_len _ | exact flat_len encL_len _ | exact flat_len encE_len _ | (simp [flat_len encP_len]; done) | simp [flat_len encI_len, flat_len encS_len]))) ?_)) (by repeat' (first | exact FzAll.nil | refine FzAll.flat rfl ?_ | refine FzAll.row rfl rfl (RowTo.one rfl (by simp)) ?_)) (by exact FmAll.nil) rfl (by repeat' (first | exact VTo.undef | exact FrTo.leaf | refine FrTo.node ?_ ?_ ?_ | refine FrTo.none ?_ ?_ | exact VTo.sc (by first | rfl | (congr 1; omega) | (congr 1; simp; omega)) | exact VTos_dv _ _ | refine VTos.cons ?_ ?_ | exact VTos.nil | refine VTo.agg ?_ | refine VTo.tuple ?_ | refine VTo.func ?_ ?_ | exact VTo.fs | exact VTo.fp | exact VTo.nilptr | exact VTo.nilslice | exact VTo.nilfunc | exact VTo.ptr rfl | exact VTo.gl rfl | exact VTo.map rfl | exact VTo.yld rfl | exact VTo.fmMap rfl | exact VTo.fm | exact VTo.glNil' (by decide) rfl rfl | exact VTo.fsNil (by decide) | exact VTo.fsSl rfl rfl (by simp [flat_len encE_len]) | exact VTo.fpPtr rfl | exact VTo.fsGl rfl (by first | rfl | exact flat_len encI_len _ | exact flat_len encT_len _ | exact flat_len encS_len _ | exact flat_len encP_len _ | exact flat_len encL_len _ | exact flat_len encE_len _ | (simp [flat_len encP_len]; done) | simp [flat_len encI_len, flat_len encS_len]))) (c61 _)) ?_
  conv => whnf
  repeat' (first | (refine VLd.intro rfl ?_; conv => whnf) | (refine VArith.i64 (by first | omega | (dsimp only; omega)) ?_; conv => whnf) | (refine VNeed.intro (by first | rfl | (simp; omega) | (simp; done)) ?_; conv => whnf) | (refine VMem.store rfl rfl rfl rfl ?_; conv => whnf) | (refine VSame.intro rfl ?_; conv => whnf) | (refine VDraw.go [] (by kernel_rfl) (by kernel_rfl) ?_; conv => whnf) | (refine VIte.dec (fun _ => ?_) (fun _ => ?_) <;> conv => whnf) | (refine VIte.ndec (fun _ => ?_) (fun _ => ?_) <;> conv => whnf) | (refine VIte.beq (fun _ => ?_) (fun _ => ?_) <;> conv => whnf) | (refine VIte.bne (fun _ => ?_) (fun _ => ?_) <;> conv => whnf) | (refine VIte.intro (fun _ => ?_) (fun _ => ?_) <;> conv => whnf) | (refine VCall.intro (vc_ThreeO _) ?_; conv => whnf))
  refine VCall.intro (VC.give (args' := [vL threeW]) (loc' := [.dead, .dead, .dead, .flat true (encX ⟨3, [0, 2, 0]⟩), .dead, .dead, .flat true (encX ⟨1, [0, 1, 0]⟩), .flat true (encX ⟨2, [0, 2, 1]⟩), .dead, .dead, .dead]) [(8, threeW.ss.flatMap encT), (10, d0)] [] (OutOk.lift _) (by repeat' (first | exact BTos.nil | refine BTos.flat rfl rfl (by first | rfl | simp) ?_ | refine BTos.new rfl ?_ | refine BTos.dead rfl rfl ?_ | refine BTos.esE rfl rfl ?_ | refine BTos.row rfl rfl rfl (RowTo.snoc (RowTo.one rfl (by simp))) ?_ | refine BTos.cells rfl rfl rfl (by repeat' (first | exact VTo.undef | exact FrTo.leaf | refine FrTo.node ?_ ?_ ?_ | refine FrTo.none ?_ ?_ | exact VTo.sc (by first | rfl | (congr 1; omega) | (congr 1; simp; omega)) | exact VTos_dv _ _ | refine VTos.cons ?_ ?_ | exact VTos.nil | refine VTo.agg ?_ | refine VTo.tuple ?_ | refine VTo.func ?_ ?_ | exact VTo.fs | exact VTo.fp | exact VTo.nilptr | exact VTo.nilslice | exact VTo.nilfunc | exact VTo.ptr rfl | exact VTo.gl rfl | exact VTo.map rfl | exact VTo.yld rfl | exact VTo.fmMap rfl | exact VTo.fm | exact VTo.glNil' (by decide) rfl rfl | exact VTo.fsNil (by decide) | exact VTo.fsSl rfl rfl (by simp [flat_len encE_len]) | exact VTo.fpPtr rfl | exact VTo.fsGl rfl (by first | rfl | exact flat_len encI_len _ | exact flat_len encT_len _ | exact flat_len encS_len _ | exact flat_len encP_len _ | exact flat_len encL_len _ | exact flat_len encE_len _ | (simp [flat_len encP_len]; done) | simp [flat_len encI_len, flat_len encS_len]))) ?_)) (by repeat' (first | exact FzAll.nil | refine FzAll.flat rfl ?_ | refine FzAll.row rfl rfl (RowTo.one rfl (by simp)) ?_)) (by exact FmAll.nil) rfl (by repeat' (first | exact VTo.undef | exact FrTo.leaf | refine FrTo.node ?_ ?_ ?_ | refine FrTo.none ?_ ?_ | exact VTo.sc (by first | rfl | (congr 1; omega) | (congr 1; simp; omega)) | exact VTos_dv _ _ | refine VTos.cons ?_ ?_ | exact VTos.nil | refine VTo.agg ?_ | refine VTo.tuple ?_ | refine VTo.func ?_ ?_ | exact VTo.fs | exact VTo.fp | exact VTo.nilptr | exact VTo.nilslice | exact VTo.nilfunc | exact VTo.ptr rfl | exact VTo.gl rfl | exact VTo.map rfl | exact VTo.yld rfl | exact VTo.fmMap rfl | exact VTo.fm | exact VTo.glNil' (by decide) rfl rfl | exact VTo.fsNil (by decide) | exact VTo.fsSl rfl rfl (by simp [flat_len encE_len]) | exact VTo.fpPtr rfl | exact VTo.fsGl rfl (by first | rfl | exact flat_len encI_len _ | exact flat_len encT_len _ | exact flat_len encS_len _ | exact flat_len encP_len _ | exact flat_len encL_len _ | exact flat_len encE_len _ | (simp [flat_len encP_len]; done) | simp [flat_len encI_len, flat_len encS_len]))) (cW _)) ?_
  conv => whnf
  repeat' (first | (refine VLd.intro rfl ?_; conv => whnf) | (refine VArith.i64 (by first | omega | (dsimp only; omega)) ?_; conv => whnf) | (refine VNeed.intro (by first | rfl | (simp; omega) | (simp; done)) ?_; conv => whnf) | (refine VMem.store rfl rfl rfl rfl ?_; conv => whnf) | (refine VSame.intro rfl ?_; conv => whnf) | (refine VDraw.go [] (by kernel_rfl) (by kernel_rfl) ?_; conv => whnf) | (refine VIte.dec (fun _ => ?_) (fun _ => ?_) <;> conv => whnf) | (refine VIte.ndec (fun _ => ?_) (fun _ => ?_) <;> conv => whnf) | (refine VIte.beq (fun _ => ?_) (fun _ => ?_) <;> conv => whnf) | (refine VIte.bne (fun _ => ?_) (fun _ => ?_) <;> conv => whnf) | (refine VIte.intro (fun _ => ?_) (fun _ => ?_) <;> conv => whnf))
  refine VCall.intro (VC.give (args' := [vX ⟨1, [0, 1, 0]⟩, I 1, ints [0, 1, 0]]) (loc' := [.dead, .dead, .dead, .flat true (encX ⟨3, [0, 2, 0]⟩), .dead, .dead, .flat true (encX ⟨1, [0, 1, 0]⟩), .flat true (encX ⟨2, [0, 2, 1]⟩), .dead, .dead, .dead, .flat true (encX ⟨1, [1, 0, 0]⟩), .dead]) [(12, d010)] [] (OutOk.lift _) (by repeat' (first | exact BTos.nil | refine BTos.flat rfl rfl (by first | rfl | simp) ?_ | refine BTos.new rfl ?_ | refine BTos.dead rfl rfl ?_ | refine BTos.esE rfl rfl ?_ | refine BTos.row rfl rfl rfl (RowTo.snoc (RowTo.one rfl (by simp))) ?_ | refine BTos.cells rfl rfl rfl (by repeat' (first | exact VTo.undef | exact FrTo.leaf | refine FrTo.node ?_ ?_ ?_ | refine FrTo.none ?_ ?_ | exact VTo.sc (by first | rfl | (congr 1; omega) | (congr 1; simp; omega)) | exact VTos_dv _ _ | refine VTos.cons ?_ ?_ | exact VTos.nil | refine VTo.agg ?_ | refine VTo.tuple ?_ | refine VTo.func ?_ ?_ | exact VTo.fs | exact VTo.fp | exact VTo.nilptr | exact VTo.nilslice | exact VTo.nilfunc | exact VTo.ptr rfl | exact VTo.gl rfl | exact VTo.map rfl | exact VTo.yld rfl | exact VTo.fmMap rfl | exact VTo.fm | exact VTo.glNil' (by decide) rfl rfl | exact VTo.fsNil (by decide) | exact VTo.fsSl rfl rfl (by simp [flat_len encE_len]) | exact VTo.fpPtr rfl | exact VTo.fsGl rfl (by first | rfl | exact flat_len encI_len _ | exact flat_len encT_len _ | exact flat_len encS_len _ | exact flat_len encP_len _ | exact flat_len encL_len _ | exact flat_len encE_len _ | (simp [flat_len encP_len]; done) | simp [flat_len encI_len, flat_len encS_len]))) ?_)) (by repeat' (first | exact FzAll.nil | refine FzAll.flat rfl ?_ | refine FzAll.row rfl rfl (RowTo.one rfl (by simp)) ?_)) (by exact FmAll.nil) rfl (by repeat' (first | exact VTo.undef | exact FrTo.leaf | refine FrTo.node ?_ ?_ ?_ | refine FrTo.none ?_ ?_ | exact VTo.sc (by first | rfl | (congr 1; omega) | (congr 1; simp; omega)) | exact VTos_dv _ _ | refine VTos.cons ?_ ?_ | exact VTos.nil | refine VTo.agg ?_ | refine VTo.tuple ?_ | refine VTo.func ?_ ?_ | exact VTo.fs | exact VTo.fp | exact VTo.nilptr | exact VTo.nilslice | exact VTo.nilfunc | exact VTo.ptr rfl | exact VTo.gl rfl | exact VTo.map rfl | exact VTo.yld rfl | exact VTo.fmMap rfl | exact VTo.fm | exact VTo.glNil' (by decide) rfl rfl | exact VTo.fsNil (by decide) | exact VTo.fsSl rfl rfl (by simp [flat_len encE_len]) | exact VTo.fpPtr rfl | exact VTo.fsGl rfl (by first | rfl | exact flat_len encI_len _ | exact flat_len encT_len _ | exact flat_len encS_len _ | exact flat_len encP_len _ | exact flat_len encL_len _ | exact flat_len encE_len _ | (simp [flat_len encP_len]; done) | simp [flat_len encI_len, flat_len encS_len]))) (k1 _)) ?_
  conv => whnf
  repeat' (first | (refine VLd.intro rfl ?_; conv => whnf) | (refine VArith.i64 (by first | omega | (dsimp only; omega)) ?_; conv => whnf) | (refine VNeed.intro (by first | rfl | (simp; omega) | (simp; done)) ?_; conv => whnf) | (refine VMem.store rfl rfl rfl rfl ?_; conv => whnf) | (refine VSame.intro rfl ?_; conv => whnf) | (refine VDraw.go [] (by kernel_rfl) (by kernel_rfl) ?_; conv => whnf) | (refine VIte.dec (fun _ => ?_) (fun _ => ?_) <;> conv => whnf) | (refine VIte.ndec (fun _ => ?_) (fun _ => ?_) <;> conv => whnf) | (refine VIte.beq (fun _ => ?_) (fun _ => ?_) <;> conv => whnf) | (refine VIte.bne (fun _ => ?_) (fun _ => ?_) <;> conv => whnf) | (refine VIte.intro (fun _ => ?_) (fun _ => ?_) <;> conv => whnf))
  refine VCall.intro (VC.give (args' := [vX ⟨2, [0, 2, 1]⟩, I 2, ints [0, 2, 1]]) (loc' := [.dead, .dead, .dead, .flat true (encX ⟨3, [0, 2, 0]⟩), .dead, .dead, .flat true (encX ⟨1, [0, 1, 0]⟩), .flat true (encX ⟨2, [0, 2, 1]⟩), .dead, .dead, .dead, .flat true (encX ⟨1, [1, 0, 0]⟩), .dead, .dead]) [(13, d021)] [] (OutOk.lift _) (by repeat' (first | exact BTos.nil | refine BTos.flat rfl rfl (by first | rfl | simp) ?_ | refine BTos.new rfl ?_ | refine BTos.dead rfl rfl ?_ | refine BTos.esE rfl rfl ?_ | refine BTos.row rfl rfl rfl (RowTo.snoc (RowTo.one rfl (by simp))) ?_ | refine BTos.cells rfl rfl rfl (by repeat' (first | exact VTo.undef | exact FrTo.leaf | refine FrTo.node ?_ ?_ ?_ | refine FrTo.none ?_ ?_ | exact VTo.sc (by first | rfl | (congr 1; omega) | (congr 1; simp; omega)) | exact VTos_dv _ _ | refine VTos.cons ?_ ?_ | exact VTos.nil | refine VTo.agg ?_ | refine VTo.tuple ?_ | refine VTo.func ?_ ?_ | exact VTo.fs | exact VTo.fp | exact VTo.nilptr | exact VTo.nilslice | exact VTo.nilfunc | exact VTo.ptr rfl | exact VTo.gl rfl | exact VTo.map rfl | exact VTo.yld rfl | exact VTo.fmMap rfl | exact VTo.fm | exact VTo.glNil' (by decide) rfl rfl | exact VTo.fsNil (by decide) | exact VTo.fsSl rfl rfl (by simp [flat_len encE_len]) | exact VTo.fpPtr rfl | exact VTo.fsGl rfl (by first | rfl | exact flat_len encI_len _ | exact flat_len encT_len _ | exact flat_len encS_len _ | exact flat_len encP_len _ | exact flat_len encL_len _ | exact flat_len encE_len _ | (simp [flat_len encP_len]; done) | simp [flat_len encI_len, flat_len encS_len]))) ?_)) (by repeat' (first | exact FzAll.nil | refine FzAll.flat rfl ?_ | refine FzAll.row rfl rfl (RowTo.one rfl (by simp)) ?_)) (by exact FmAll.nil) rfl (by repeat' (first | exact VTo.undef | exact FrTo.leaf | refine FrTo.node ?_ ?_ ?_ | refine FrTo.none ?_ ?_ | exact VTo.sc (by first | rfl | (congr 1; omega) | (congr 1; simp; omega)) | exact VTos_dv _ _ | refine VTos.cons ?_ ?_ | exact VTos.nil | refine VTo.agg ?_ | refine VTo.tuple ?_ | refine VTo.func ?_ ?_ | exact VTo.fs | exact VTo.fp | exact VTo.nilptr | exact VTo.nilslice | exact VTo.nilfunc | exact VTo.ptr rfl | exact VTo.gl rfl | exact VTo.map rfl | exact VTo.yld rfl | exact VTo.fmMap rfl | exact VTo.fm | exact VTo.glNil' (by decide) rfl rfl | exact VTo.fsNil (by decide) | exact VTo.fsSl rfl rfl (by simp [flat_len encE_len]) | exact VTo.fpPtr rfl | exact VTo.fsGl rfl (by first | rfl | exact flat_len encI_len _ | exact flat_len encT_len _ | exact flat_len encS_len _ | exact flat_len encP_len _ | exact flat_len encL_len _ | exact flat_len encE_len _ | (simp [flat_len encP_len]; done) | simp [flat_len encI_len, flat_len encS_len]))) (k2 _)) ?_
  conv => whnf
  repeat' (first | (refine VLd.intro rfl ?_; conv => whnf) | (refine VArith.i64 (by first | omega | (dsimp only; omega)) ?_; conv => whnf) | (refine VNeed.intro (by first | rfl | (simp; omega) | (simp; done)) ?_; conv => whnf) | (refine VMem.store rfl rfl rfl rfl ?_; conv => whnf) | (refine VSame.intro rfl ?_; conv => whnf) | (refine VDraw.go [] (by kernel_rfl) (by kernel_rfl) ?_; conv => whnf) | (refine VIte.dec (fun _ => ?_) (fun _ => ?_) <;> conv => whnf) | (refine VIte.ndec (fun _ => ?_) (fun _ => ?_) <;> conv => whnf) | (refine VIte.beq (fun _ => ?_) (fun _ => ?_) <;> conv => whnf) | (refine VIte.bne (fun _ => ?_) (fun _ => ?_) <;> conv => whnf) | (refine VIte.intro (fun _ => ?_) (fun _ => ?_) <;> conv => whnf))
  refine VCall.intro (VC.give (args' := [vX ⟨1, [1, 0, 0]⟩, I 1, ints [1, 0, 0]]) (loc' := [.dead, .dead, .dead, .flat true (encX ⟨3, [0, 2, 0]⟩), .dead, .dead, .flat true (encX ⟨1, [0, 1, 0]⟩), .flat true (encX ⟨2, [0, 2, 1]⟩), .dead, .dead, .dead, .flat true (encX ⟨1, [1, 0, 0]⟩), .dead, .dead, .dead]) [(14, d100)] [] (OutOk.lift _) (by repeat' (first | exact BTos.nil | refine BTos.flat rfl rfl (by first | rfl | simp) ?_ | refine BTos.new rfl ?_ | refine BTos.dead rfl rfl ?_ | refine BTos.esE rfl rfl ?_ | refine BTos.row rfl rfl rfl (RowTo.snoc (RowTo.one rfl (by simp))) ?_ | refine BTos.cells rfl rfl rfl (by repeat' (first | exact VTo.undef | exact FrTo.leaf | refine FrTo.node ?_ ?_ ?_ | refine FrTo.none ?_ ?_ | exact VTo.sc (by first | rfl | (congr 1; omega) | (congr 1; simp; omega)) | exact VTos_dv _ _ | refine VTos.cons ?_ ?_ | exact VTos.nil | refine VTo.agg ?_ | refine VTo.tuple ?_ | refine VTo.func ?_ ?_ | exact VTo.fs | exact VTo.fp | exact VTo.nilptr | exact VTo.nilslice | exact VTo.nilfunc | exact VTo.ptr rfl | exact VTo.gl rfl | exact VTo.map rfl | exact VTo.yld rfl | exact VTo.fmMap rfl | exact VTo.fm | exact VTo.glNil' (by decide) rfl rfl | exact VTo.fsNil (by decide) | exact VTo.fsSl rfl rfl (by simp [flat_len encE_len]) | exact VTo.fpPtr rfl | exact VTo.fsGl rfl (by first | rfl | exact flat_len encI_len _ | exact flat_len encT_len _ | exact flat_len encS_len _ | exact flat_len encP_len _ | exact flat_len encL_len _ | exact flat_len encE_len _ | (simp [flat_len encP_len]; done) | simp [flat_len encI_len, flat_len encS_len]))) ?_)) (by repeat' (first | exact FzAll.nil | refine FzAll.flat rfl ?_ | refine FzAll.row rfl rfl (RowTo.one rfl (by simp)) ?_)) (by exact FmAll.nil) rfl (by repeat' (first | exact VTo.undef | exact FrTo.leaf | refine FrTo.node ?_ ?_ ?_ | refine FrTo.none ?_ ?_ | exact VTo.sc (by first | rfl | (congr 1; omega) | (congr 1; simp; omega)) | exact VTos_dv _ _ | refine VTos.cons ?_ ?_ | exact VTos.nil | refine VTo.agg ?_ | refine VTo.tuple ?_ | refine VTo.func ?_ ?_ | exact VTo.fs | exact VTo.fp | exact VTo.nilptr | exact VTo.nilslice | exact VTo.nilfunc | exact VTo.ptr rfl | exact VTo.gl rfl | exact VTo.map rfl | exact VTo.yld rfl | exact VTo.fmMap rfl | exact VTo.fm | exact VTo.glNil' (by decide) rfl rfl | exact VTo.fsNil (by decide) | exact VTo.fsSl rfl rfl (by simp [flat_len encE_len]) | exact VTo.fpPtr rfl | exact VTo.fsGl rfl (by first | rfl | exact flat_len encI_len _ | exact flat_len encT_len _ | exact flat_len encS_len _ | exact flat_len encP_len _ | exact flat_len encL_len _ | exact flat_len encE_len _ | (simp [flat_len encP_len]; done) | simp [flat_len encI_len, flat_len encS_len]))) (k3 _)) ?_
  conv => whnf
  repeat' (first | (refine VLd.intro rfl ?_; conv => whnf) | (refine VArith.i64 (by first | omega | (dsimp only; omega)) ?_; conv => whnf) | (refine VNeed.intro (by first | rfl | (simp; omega) | (simp; done)) ?_; conv => whnf) | (refine VMem.store rfl rfl rfl rfl ?_; conv => whnf) | (refine VSame.intro rfl ?_; conv => whnf) | (refine VDraw.go [] (by kernel_rfl) (by kernel_rfl) ?_; conv => whnf) | (refine VIte.dec (fun _ => ?_) (fun _ => ?_) <;> conv => whnf) | (refine VIte.ndec (fun _ => ?_) (fun _ => ?_) <;> conv => whnf) | (refine VIte.beq (fun _ => ?_) (fun _ => ?_) <;> conv => whnf) | (refine VIte.bne (fun _ => ?_) (fun _ => ?_) <;> conv => whnf) | (refine VIte.intro (fun _ => ?_) (fun _ => ?_) <;> conv => whnf))
  exact VOut.same rfl
end Go.Proofs.Ytmpjpjfkbmlmfaa

open Go.Vm
namespace Go.Proofs.Ytmpjpjfkbmlmfaa

theorem vc_BarterExchanges (l : Lnd) (x : Exc) (h : Hp) : VC Try.prog 8 [vL l, vX x] h (B true) h := vc_BarterExchangesA l x h vc_awake
end Go.Proofs.Ytmpjpjfkbmlmfaa

open Go.Vm
namespace Go.Proofs.Ytmpjpjfkbmlmfaa
open Go.ChangeShapes Go.WideShapes Go.ChangeAt Go.RowKit

theorem Opens.struct4 {P : Program} {α β γ δ : Type} {ea : α → List D} {eb : β → List D} {ec : γ → List D} {ed : δ → List D} {t : TypeId} {f0 f1 f2 f3 : Field} (m0 m1 m2 m3 : Nat) (ht : P.underlying t = some (.struct #[f0, f1, f2, f3])) (hc : P.cellsOf t = m0 + (m1 + (m2 + m3))) (h0 : f0.offset = 0) (h1 : f1.offset = m0) (h2 : f2.offset = m0 + m1) (h3 : f3.offset = m0 + m1 + m2)
    (c0 : P.cellsOf f0.type = m0) (c1 : P.cellsOf f1.type = m1) (c2 : P.cellsOf f2.type = m2) (c3 : P.cellsOf f3.type = m3) (ha : Opens P f0.type ea) (hb : Opens P f1.type eb) (hcc : Opens P f2.type ec) (hd4 : Opens P f3.type ed) : Opens P t (fun x : α × β × γ × δ => ea x.1 ++ (eb x.2.1 ++ (ec x.2.2.1 ++ ed x.2.2.2))) := by
  intro W H en sp hd fuel cs x h
  obtain ⟨y0, y1, y2, y3, n, _, hl, g0, g1, g2, g3⟩ := Go.Joins.trod_struct4 ht h
  rw [h0, c0] at g0
  rw [h1, c1] at g1
  rw [h2, c2] at g2
  rw [h3, c3] at g3
  obtain ⟨a, a1, a2⟩ := ha W H en sp hd n _ _ g0
  obtain ⟨b, b1, b2⟩ := hb W H en sp hd n _ _ g1
  obtain ⟨c, d1, d2⟩ := hcc W H en sp hd n _ _ g2
  obtain ⟨d, e1, e2'⟩ := hd4 W H en sp hd n _ _ g3
  have e := take_all (m0 := m0) (m1 := m1 + (m2 + m3)) (cs := cs) (by rw [hl, hc])
  have e2 : (cs.drop m0).take (m1 + (m2 + m3)) = (cs.drop m0).take m1 ++ ((cs.drop (m0 + m1)).take m2 ++ (cs.drop (m0 + m1 + m2)).take m3) := by rw [List.take_add, List.drop_drop, List.take_add, List.drop_drop]
  refine ⟨(a, b, c, d), ?_, fun v hv => ?_⟩
  · rw [e, e2]; exact DRs.append a1 (DRs.append b1 (DRs.append d1 e1))
  · rw [e, e2] at hv
    simp only [List.mem_append] at hv
    rcases hv with hv | hv | hv | hv
    · exact a2 v hv
    · exact b2 v hv
    · exact d2 v hv
    · exact e2' v hv
theorem open3 : Opens Try.prog 3 (fun n : Int => [DI n]) := Opens.int Try.underlying3
theorem open58 : Opens Try.prog 58 encT := (Opens.struct4 1 1 1 1 Try.underlying58 (by kernel_rfl) rfl rfl rfl rfl (by kernel_rfl) (by kernel_rfl) (by kernel_rfl) (by kernel_rfl) open3 open3 open3 open3).as (fun x => ⟨x.1, x.2.1, x.2.2.1, x.2.2.2⟩) encT fun _ => rfl
theorem open22 : Opens Try.prog 22 (fun l : List Str => [D.sl 4 l.length (l.flatMap encT)]) := Opens.slice Try.underlying22 encT_len (by kernel_rfl) (by decide) open58
theorem open23 : Opens Try.prog 23 (fun l : List Int => [dints l]) := Opens.slice Try.underlying23 encI_len (by kernel_rfl) (by decide) open3
theorem open25 : Opens Try.prog 25 encN := (Opens.struct2 1 1 Try.underlying25 (by kernel_rfl) rfl rfl (by kernel_rfl) (by kernel_rfl) open22 open23).as (fun x => ⟨x.1, x.2⟩) encN fun _ => rfl
theorem open28 : Opens Try.prog 28 encX := (Opens.struct2 1 1 Try.underlying28 (by kernel_rfl) rfl rfl (by kernel_rfl) (by kernel_rfl) open3 open23).as (fun x => ⟨x.1, x.2⟩) encX fun _ => rfl
def dN (l : Lnd) : D := .agg (encN l)
def dX (x : Exc) : D := .agg (encX x)
theorem openN : OpenV Try.prog 25 dN := OpenV.struct Try.underlying25 open25
theorem openX : OpenV Try.prog 28 dX := OpenV.struct Try.underlying28 open28
theorem ownKn : ownKnob Try.prog.godebug = none := by kernel_rfl
theorem laidOut : laidOutB Try.prog = true := by kernel_rfl
end Go.Proofs.Ytmpjpjfkbmlmfaa

open Go.Vm
namespace Go.Proofs.Ytmpjpjfkbmlmfaa
open Go.ChangeShapes Go.WideShapes Go.ChangeAt Go.RowKit

theorem open8p : OpenAll Try.prog Try.f8.params.toList (fun x : Lnd × Exc × Unit => [dN x.1, dX x.2.1]) := by
  rw [Try.params8]
  exact OpenAll.cons openN (OpenAll.cons openX (OpenAll.nil))
set_option maxRecDepth 100000 in
theorem contract8 (H : Type) (enc : TypeId × Value → H) (W : World) (base : Nat) (args : Array Value) (ds gs : List (DataW H)) (before : List MemPlace)
    (hval : ∀ (j : Nat) t v, Try.f8.params[j]? = some t → args[j]? = some v → Value.okWide Try.prog W .any base t v)
    (hW : DataW.Whole enc Try.prog Try.f8.params.toList Rows.barterExchangesSpec.vars false W args.toList ds gs before) :
    Calls Try.prog 8 args W fun e W' => ∃ v, e = .returned v ∧ Rows.barterExchangesSpec.post enc Try.prog Try.f8 false true false false W args v W' := by
  refine contract_of_vc open8p (fun g => vc_BarterExchanges g.1 g.2.1 Hp.bare) laidOut ?_ (tb := 4) (by kernel_rfl) Try.underlying4 rfl ?_ hval hW
  · rw [Try.params8]
    intro t ht
    simp only [List.mem_cons, List.not_mem_nil, or_false] at ht
    rcases ht with rfl | rfl
    all_goals exact ⟨by kernel_rfl, of_decide_eq_true (by kernel_rfl)⟩
  · intro H dd hl
    rw [Try.params8] at hl
    match dd, hl with
    | [d0, d1], _ => rfl
set_option maxRecDepth 100000 in
theorem lifted8 (os : Os) (started : os.Started) (H : Type) (enc : TypeId × Value → H) :
    ReturnsInHanded {} Try.checked os 8 .any (Rows.barterExchangesSpec.pre6 enc Try.prog Try.f8 Rows.barterExchangesRow.domain false) (Rows.barterExchangesSpec.post enc Try.prog Try.f8 false true false false) := by
  refine returnsInHanded_of_change (C := Try.checked) ownKn started (by kernel_rfl) Try.func8
    (ChangeSpec.witness6 (enc := enc) (C := Try.checked) false ⟨#[], #[.agg #[.slice none 0 0, .slice none 0 0], .agg #[.int .i64 0, .slice none 0 0]], []⟩ 8 (by kernel_rfl) (by kernel_rfl) (by kernel_rfl) (by kernel_rfl)) ?_
  intro W base args ds gs before hval hW _ _
  exact contract8 H enc W base args ds gs before hval hW
theorem barterExchanges_said : Rows.BarterExchangesSaid :=
  OpenClaim.holds_of_wide 8 Try.f8 rfl rfl rfl rfl rfl rfl rfl ⟨rfl, rfl, rfl, rfl, rfl⟩ rfl rfl rfl rfl rfl (by kernel_rfl) Try.func8 (by kernel_rfl)
    (of_decide_eq_true (by kernel_rfl)) (by unfold Func.isWrapper; first | (rw [if_pos (by decide +kernel)]; kernel_rfl) | (rw [if_neg (by decide +kernel)]; exact ⟨rfl, rfl⟩))
    (fun os started H enc _ => lifted8 os started H enc)
end Go.Proofs.Ytmpjpjfkbmlmfaa

