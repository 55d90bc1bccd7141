/- Part 5 of the proof that SilenceFollows: rights from silence follow from dated papers alone.. No condition. -/
import Derived.Test.YtolnajnlcdacmaaFo4
set_option linter.unusedVariables false
set_option linter.unusedSimpArgs false
open Go.Vm
namespace Go.Proofs.Ytolnajnlcdacmaa
set_option maxRecDepth 20000
set_option maxHeartbeats 4000000

/-- What a deck deals, and the deck behind it. -/
def dNx (bs : List Int) (d : Nat × Int) (k : Int) : Int × (Nat × Int) :=
  if k ≤ 1 ∨ bs = [] then (0, d) else (dR bs d.1 d.2 k (bs.getD (d.1 % bs.length) 0), (d.1 + 1, dSt bs d.1 d.2 (bs.getD (d.1 % bs.length) 0)))
def deckB (bs : List Int) (d : Nat × Int) : Blk := .flat true (deckD bs d.1 d.2)
theorem dNx_bd (bs : List Int) (d : Nat × Int) (k : Int) : 0 ≤ (dNx bs d k).1 ∧ ((dNx bs d k).1 = 0 ∨ (dNx bs d k).1 < k) ∧ (dNx bs d k).2.1 ≤ d.1 + 1 := by
  unfold dNx
  split
  · exact ⟨Int.le_refl _, .inl rfl, by simp only; omega⟩
  · rename_i h
    obtain ⟨q1, q2⟩ := dR_bd bs d.1 d.2 (bs.getD (d.1 % bs.length) 0) (k := k) (by omega)
    exact ⟨q1, .inr q2, Nat.le_refl _⟩
theorem vc_draw (bs : List Int) (d : Nat × Int) (k : Int) (i : Vm.Id) (h : Hp) (hN : d.1 ≤ 4000000000) (hb : h.get i = some (deckB bs d)) : VC Try.prog 44 [.ptr i 0, I k] h (I (dNx bs d k).1) (h.set i (deckB bs (dNx bs d k).2)) := by
  unfold dNx deckB at *
  split
  · rename_i hk; exact vc_Draw0 bs d.1 d.2 k i h hb hk
  · rename_i hk
    have hlen := List.length_pos_iff.2 (fun h => hk (.inr h))
    have hc : bs[d.1 % bs.length]? = some (bs.getD (d.1 % bs.length) 0) := by simp [List.getElem?_eq_getElem (Nat.mod_lt d.1 hlen)]
    exact vc_Draw1 bs d.1 d.2 k _ i h hb (by omega) hc hN
theorem vc_between (bs : List Int) (d : Nat × Int) (a b : Int) (i : Vm.Id) (h : Hp) (hN : d.1 ≤ 4000000000) (ha : -1000000 ≤ a ∧ a ≤ 1000000) (hb : -1000000 ≤ b ∧ b ≤ 1000000) (hd : h.get i = some (deckB bs d)) : VC Try.prog 43 [.ptr i 0, I a, I b] h (I (a + (dNx bs d (b - a + 1)).1)) (h.set i (deckB bs (dNx bs d (b - a + 1)).2)) := by
  have hbd := dNx_bd bs d (b - a + 1)
  have hD := fun i h hh => vc_draw bs d (b - a + 1) i h hN hh
  generalize dNx bs d (b - a + 1) = x at hbd hD
  refine VC.body Try.func43 rfl Try.ntmps43 Try.call43 (h.grows_set _ _) rfl ?_
  conv => whnf
  repeat' (first | (refine VLd.intro rfl ?_; conv => whnf) | (refine VArith.i64 (by first | omega | (dsimp only; omega)) ?_; conv => whnf) | (refine VNeed.intro (by first | rfl | (simp; omega)) ?_; conv => whnf) | (refine VMem.store rfl rfl rfl rfl ?_; conv => whnf) | (refine VSame.intro rfl ?_; conv => whnf) | (refine VDraw.go [] (by kernel_rfl) (by kernel_rfl) ?_; conv => whnf) | (refine VIte.dec (fun _ => ?_) (fun _ => ?_) <;> conv => whnf) | (refine VIte.ndec (fun _ => ?_) (fun _ => ?_) <;> conv => whnf) | (refine VIte.beq (fun _ => ?_) (fun _ => ?_) <;> conv => whnf) | (refine VIte.bne (fun _ => ?_) (fun _ => ?_) <;> conv => whnf) | (refine VIte.intro (fun _ => ?_) (fun _ => ?_) <;> conv => whnf) | (refine VCall.intro (hD (.out i) _ (get_out hd _)) ?_; conv => whnf))
  exact VOut.setS (L := 0) rfl hd
theorem vc_coin (bs : List Int) (d : Nat × Int) (k : Int) (i : Vm.Id) (h : Hp) (hN : d.1 ≤ 4000000000) (hd : h.get i = some (deckB bs d)) : VC Try.prog 42 [.ptr i 0, I k] h (B ((dNx bs d k).1 == 0)) (h.set i (deckB bs (dNx bs d k).2)) := by
  have hD := fun i h hh => vc_draw bs d k i h hN hh
  generalize dNx bs d k = x at hD
  refine VC.body Try.func42 rfl Try.ntmps42 Try.call42 (h.grows_set _ _) rfl ?_
  conv => whnf
  repeat' (first | (refine VLd.intro rfl ?_; conv => whnf) | (refine VArith.i64 (by first | omega | (dsimp only; omega)) ?_; conv => whnf) | (refine VNeed.intro (by first | rfl | (simp; omega)) ?_; conv => whnf) | (refine VMem.store rfl rfl rfl rfl ?_; conv => whnf) | (refine VSame.intro rfl ?_; conv => whnf) | (refine VDraw.go [] (by kernel_rfl) (by kernel_rfl) ?_; conv => whnf) | (refine VIte.dec (fun _ => ?_) (fun _ => ?_) <;> conv => whnf) | (refine VIte.ndec (fun _ => ?_) (fun _ => ?_) <;> conv => whnf) | (refine VIte.beq (fun _ => ?_) (fun _ => ?_) <;> conv => whnf) | (refine VIte.bne (fun _ => ?_) (fun _ => ?_) <;> conv => whnf) | (refine VIte.intro (fun _ => ?_) (fun _ => ?_) <;> conv => whnf) | (refine VCall.intro (hD (.out i) _ (get_out hd _)) ?_; conv => whnf))
  exact VOut.setS (L := 0) rfl hd
theorem VOut.ownP {h : Hp} {loc : List Blk} {ds : List D} (j L : Nat) (hL : Nat.ble loc.length L = true) (hj : loc[j]? = some (.flat true ds)) : VOut h ⟨h.lift, loc⟩ (.ptr (.loc j) 0) (.ptr h.fresh 0) (h.push (.flat true ds)) := by
  refine VOut.upd [] [.flat true ds] [j] L hL (by intro p hp; cases hp) (by simp) rfl ?_ ?_ rfl
  · intro k b hk
    cases k with
    | zero => rw [List.getElem?_cons_zero, Option.some.injEq] at hk; subst hk; exact ⟨j, rfl, hj⟩
    | succ k => simp at hk
  · intro σ x hx
    have : (V.ptr h.fresh 0).ren (backR h.loc.length [j] L) = .ptr (.loc j) 0 := by simp [V.ren, backR, Hp.fresh]
    rw [this]; exact hx
theorem vc_Of (bs : List Int) (h : Hp) : VC Try.prog 26 [bytes bs] h (.ptr h.fresh 0) (h.push (deckB bs (0, 9))) := by
  refine VC.body Try.func26 rfl Try.ntmps26 Try.call26 (h.grows_push _) rfl ?_
  conv => whnf
  repeat (first | (refine VLd.intro rfl ?_; conv => whnf) | (refine VArith.i64 (by first | omega | (dsimp only; omega)) ?_; conv => whnf) | (refine VNeed.intro (by first | rfl | (simp; omega)) ?_; conv => whnf) | (refine VMem.store rfl rfl rfl rfl ?_; conv => whnf) | (refine VSame.intro rfl ?_; conv => whnf) | (refine VDraw.go [] (by kernel_rfl) (by kernel_rfl) ?_; conv => whnf))
  exact VOut.ownP 0 1 rfl rfl
theorem VOut.setF {h : Hp} {loc : List Blk} {i : Vm.Id} {b0 : Blk} {l : List D} {rw : Bool} {r : V} {L : Nat} (hL : Nat.ble loc.length L = true) (hb : h.get i = some b0) (hr : ∀ ρ, r.ren ρ = r) : VOut h ⟨outW h.lift i (.flat rw l), loc⟩ r r (h.set i (.flat rw l)) := by
  have hd : ∀ p ∈ [(i, Blk.flat rw l)], h.get p.1 ≠ none := by
    intro p hp
    simp only [List.mem_cons, List.not_mem_nil, or_false] at hp
    subst hp; simp only; rw [hb]; simp
  have := VOut.upd (loc := loc) (r1 := r) (r := r) [(i, .flat rw l)] [] [] L hL hd (by simp) rfl (by intro k b hk; simp at hk) (fun σ x hx => by rw [hr]; exact hx) (outer := outW h.lift i (.flat rw l)) rfl
  have he : (h.sets [(i, Blk.flat rw l)]).pushes [] = h.set i (.flat rw l) := by simp [Hp.sets, Hp.pushes]
  rw [he] at this
  exact this
/-! ### A file that is made of numbers -/

structure MS where
  d : Nat × Int
  year : Int
  side : Int
  ps : List Pap
def mStep (bs : List Int) (yrs : Int) (m : MS) : MS :=
  ⟨(dNx bs (dNx bs (dNx bs m.d 6).2 yrs).2 (14 - 1 + 1)).2,
   m.year + (dNx bs (dNx bs m.d 6).2 yrs).1 + (1 + (dNx bs (dNx bs (dNx bs m.d 6).2 yrs).2 (14 - 1 + 1)).1),
   bif (dNx bs m.d 6).1 == 0 then 1 - m.side else m.side,
   m.ps ++ [⟨bif (dNx bs m.d 6).1 == 0 then 1 - m.side else m.side, m.year, m.year + (dNx bs (dNx bs m.d 6).2 yrs).1⟩]⟩
def mIt (bs : List Int) (yrs : Int) (m : MS) : Nat → MS
  | 0 => m
  | k + 1 => mStep bs yrs (mIt bs yrs m k)
/-- What is known of it. -/
structure MOk (yrs : Int) (k : Nat) (N : Nat) (m : MS) : Prop where
  n : m.d.1 ≤ N + 3 * k
  year : 0 ≤ m.year ∧ m.year ≤ 50 + 20 * k
  side : m.side = 0 ∨ m.side = 1
  len : m.ps.length = k
  paps : ∀ p ∈ m.ps, (p.side = 0 ∨ p.side = 1) ∧ 0 ≤ p.lo ∧ p.lo ≤ p.hi ∧ p.hi < p.lo + yrs ∧ p.hi < m.year
  asc : ∀ last : Int, (∀ p ∈ m.ps, last < p.lo) → m.ps.Pairwise (fun p q => p.hi < q.lo)
theorem MOk.step {bs : List Int} {yrs : Int} {k N : Nat} {m : MS} (h : MOk yrs k N m) (hy : 1 ≤ yrs ∧ yrs ≤ 5) : MOk yrs (k + 1) N (mStep bs yrs m) := by
  obtain ⟨a1, a2, a3⟩ := dNx_bd bs m.d 6
  obtain ⟨b1, b2, b3⟩ := dNx_bd bs (dNx bs m.d 6).2 yrs
  obtain ⟨c1, c2, c3⟩ := dNx_bd bs (dNx bs (dNx bs m.d 6).2 yrs).2 (14 - 1 + 1)
  obtain ⟨n1, n2, n3, n4, n5, n6⟩ := h
  unfold mStep
  generalize dNx bs (dNx bs (dNx bs m.d 6).2 yrs).2 (14 - 1 + 1) = z at c1 c2 c3
  generalize dNx bs (dNx bs m.d 6).2 yrs = y at b1 b2 b3 c3
  generalize dNx bs m.d 6 = x at a1 a2 a3 b3
  obtain ⟨S, hS, hS2⟩ : ∃ S, S = (bif x.1 == 0 then 1 - m.side else m.side) ∧ (S = 0 ∨ S = 1) := by
    refine ⟨_, rfl, ?_⟩
    cases x.1 == 0 <;> simp only [cond_true, cond_false] <;> omega
  rw [← hS]
  refine ⟨by simp only; omega, by simp only; omega, hS2, by simp [n4], ?_, ?_⟩
  · intro p hp
    simp only [List.mem_append, List.mem_singleton] at hp ⊢
    rcases hp with hp | rfl
    · have := n5 p hp
      exact ⟨this.1, this.2.1, this.2.2.1, this.2.2.2.1, by omega⟩
    · exact ⟨hS2, by simp only; omega, by simp only; omega, by simp only; omega, by simp only; omega⟩
  · intro last _
    simp only
    rw [List.pairwise_append]
    refine ⟨n6 (-1) (fun p hp => by have := (n5 p hp).2.1; omega), by simp, fun p hp q hq => ?_⟩
    rw [List.mem_singleton] at hq
    subst hq
    exact (n5 p hp).2.2.2.2
theorem mIt_ok {bs : List Int} {yrs : Int} {N : Nat} {m : MS} (h : MOk yrs 0 N m) (hy : 1 ≤ yrs ∧ yrs ≤ 5) : ∀ k, MOk yrs k N (mIt bs yrs m k)
  | 0 => h
  | k + 1 => (mIt_ok h hy k).step hy
/-- The file. -/
def mY (bs : List Int) (d : Nat × Int) : Int := 5 + (dNx bs d (60 - 5 + 1)).1
def mG (bs : List Int) (d : Nat × Int) : Int := 4 + (dNx bs (dNx bs d (60 - 5 + 1)).2 (20 - 4 + 1)).1
def mD2 (bs : List Int) (d : Nat × Int) : Nat × Int := (dNx bs (dNx bs d (60 - 5 + 1)).2 (20 - 4 + 1)).2
def m0 (bs : List Int) (d : Nat × Int) (papers : Int) : MS :=
  ⟨(dNx bs (dNx bs (dNx bs (mD2 bs d) 50).2 2).2 (papers + 1)).2, (dNx bs (mD2 bs d) 50).1, (dNx bs (dNx bs (mD2 bs d) 50).2 2).1, []⟩
def mN (bs : List Int) (d : Nat × Int) (papers : Int) : Nat := (dNx bs (dNx bs (dNx bs (mD2 bs d) 50).2 2).2 (papers + 1)).1.toNat
def mEnd (bs : List Int) (d : Nat × Int) (papers yrs : Int) : MS := mIt bs yrs (m0 bs d papers) (mN bs d papers)
def mFile (bs : List Int) (d : Nat × Int) (papers yrs : Int) : Fil := ⟨mY bs d, mG bs d, (mEnd bs d papers yrs).ps⟩
theorem vc_Made (bs : List Int) (d : Nat × Int) (papers yrs : Int) (i : Vm.Id) (h : Hp) (hN : d.1 ≤ 1000000) (hp : 0 ≤ papers ∧ papers ≤ 16) (hy : 1 ≤ yrs ∧ yrs ≤ 4) (hd : h.get i = some (deckB bs d)) :
    VC Try.prog 25 [.ptr i 0, I papers, I yrs] h (vF (mFile bs d papers yrs)) (h.set i (deckB bs (mEnd bs d papers yrs).d)) := by
  have e1 := dNx_bd bs d (60 - 5 + 1)
  have c1 := fun (h2 : Hp) hh => vc_between bs d 5 60 (.out i) h2 (by omega) (by omega) (by omega) hh
  obtain ⟨x1, hx1⟩ : ∃ x, x = dNx bs d (60 - 5 + 1) := ⟨_, rfl⟩
  rw [← hx1] at e1 c1
  have e2 := dNx_bd bs x1.2 (20 - 4 + 1)
  have c2 := fun (h2 : Hp) hh => vc_between bs x1.2 4 20 (.out i) h2 (by omega) (by omega) (by omega) hh
  obtain ⟨x2, hx2⟩ : ∃ x, x = dNx bs x1.2 (20 - 4 + 1) := ⟨_, rfl⟩
  rw [← hx2] at e2 c2
  have e3 := dNx_bd bs x2.2 50
  have c3 := fun (h2 : Hp) hh => vc_draw bs x2.2 50 (.out i) h2 (by omega) hh
  obtain ⟨x3, hx3⟩ : ∃ x, x = dNx bs x2.2 50 := ⟨_, rfl⟩
  rw [← hx3] at e3 c3
  have e4 := dNx_bd bs x3.2 2
  have c4 := fun (h2 : Hp) hh => vc_draw bs x3.2 2 (.out i) h2 (by omega) hh
  obtain ⟨x4, hx4⟩ : ∃ x, x = dNx bs x3.2 2 := ⟨_, rfl⟩
  rw [← hx4] at e4 c4
  have e5 := dNx_bd bs x4.2 (papers + 1)
  have c5 := fun (h2 : Hp) hh => vc_draw bs x4.2 (papers + 1) (.out i) h2 (by omega) hh
  obtain ⟨x5, hx5⟩ : ∃ x, x = dNx bs x4.2 (papers + 1) := ⟨_, rfl⟩
  rw [← hx5] at e5 c5
  have hE : mEnd bs d papers yrs = mIt bs yrs ⟨x5.2, x3.1, x4.1, []⟩ x5.1.toNat := by unfold mEnd m0 mN mD2; rw [← hx1, ← hx2, ← hx3, ← hx4, ← hx5]
  have hF : mFile bs d papers yrs = ⟨5 + x1.1, 4 + x2.1, (mEnd bs d papers yrs).ps⟩ := by unfold mFile mY mG; rw [← hx1, ← hx2]
  rw [hF, hE]
  have hk0 : MOk yrs 0 x5.2.1 ⟨x5.2, x3.1, x4.1, []⟩ := ⟨by simp only; omega, by simp only; omega, by simp only; omega, rfl, by simp, by simp⟩
  have hok := fun k => mIt_ok (bs := bs) hk0 (by omega) k
  obtain ⟨n, hn⟩ : ∃ n : Nat, x5.1 = n := ⟨x5.1.toNat, by omega⟩
  have hn16 : n ≤ 16 := by omega
  rw [hn, Int.toNat_natCast]
  rw [hn] at c5
  obtain ⟨M0, hM0⟩ : ∃ m, m = MS.mk x5.2 x3.1 x4.1 [] := ⟨_, rfl⟩
  rw [← hM0] at hok ⊢
  have hM1 : M0.d = x5.2 := by rw [hM0]
  have hM2 : M0.year = x3.1 := by rw [hM0]
  have hM3 : M0.side = x4.1 := by rw [hM0]
  have hM4 : M0.ps = [] := by rw [hM0]
  clear hE hF hk0 hx1 hx2 hx3 hx4 hx5 hM0
  refine VC.body Try.func25 rfl Try.ntmps25 Try.call25 (h.grows_set _ _) rfl ?_
  conv => whnf
  repeat' (first | (refine VLd.intro rfl ?_; conv => whnf) | (refine VArith.i64 (by first | omega | (dsimp only; omega)) ?_; conv => whnf) | (refine VNeed.intro (by first | rfl | (simp; omega)) ?_; conv => whnf) | (refine VMem.store rfl rfl rfl rfl ?_; conv => whnf) | (refine VSame.intro rfl ?_; conv => whnf) | (refine VDraw.go [] (by kernel_rfl) (by kernel_rfl) ?_; conv => whnf) | (refine VIte.dec (fun _ => ?_) (fun _ => ?_) <;> conv => whnf) | (refine VIte.ndec (fun _ => ?_) (fun _ => ?_) <;> conv => whnf) | (refine VIte.beq (fun _ => ?_) (fun _ => ?_) <;> conv => whnf) | (refine VIte.bne (fun _ => ?_) (fun _ => ?_) <;> conv => whnf) | (refine VIte.intro (fun _ => ?_) (fun _ => ?_) <;> conv => whnf) | (refine VCall.intro (c1 _ (get_out hd _)) ?_; conv => whnf) | (refine VCall.intro (c2 _ (outW_get _ _ _ _)) ?_; conv => whnf) | (refine VCall.intro (c3 _ (outW_get _ _ _ _)) ?_; conv => whnf) | (refine VCall.intro (c4 _ (outW_get _ _ _ _)) ?_; conv => whnf) | (refine VCall.intro (c5 _ (outW_get _ _ _ _)) ?_; conv => whnf))
  refine VCode.lpo (fun y : Nat × MS => [(0, .ptr (.out i) 0), (2, I yrs), (6, .ptr (.loc 0) 0), (7, .ptr (.loc 1) 0), (8, I y.2.year), (9, I y.2.side), (23, I n), (24, I y.1)]) (fun y => outW h.lift i (deckB bs y.2.d))
    (fun y => [.flat true [DI 0, DI 0, .nilslice], .cells true [I (5 + x1.1), I (4 + x2.1), .gl (.loc 2) 3 y.2.ps.length], .flat true (y.2.ps.flatMap encP)]) (fun y => y.1 ≤ n ∧ y.2 = mIt bs yrs M0 y.1) (fun y => n - y.1) (0, M0) ⟨Nat.zero_le _, rfl⟩ ?_ ?_ ?_
  · rw [← hM1]; funext j; by_cases e : j = i <;> simp [outW, e, Hp.set]
  · conv => whnf
    rw [← hM2, ← hM3, hM4]
    refine Retell.turn ⟨[0,1,2], 2, [], []⟩ (TurnOk.mk' _ _ [] [] (OutOk.outW (OutOk.lift _) rfl) rfl (by decide) (by repeat' (first | exact BTos.nil | refine BTos.flat rfl rfl (by first | rfl | simp) ?_ | refine BTos.new rfl ?_ | refine BTos.dead rfl rfl ?_ | refine BTos.esE rfl rfl ?_ | refine BTos.row rfl rfl rfl (RowTo.snoc (RowTo.one rfl (by simp))) ?_ | refine BTos.cells rfl rfl rfl (by repeat' (first | exact VTo.undef | exact FrTo.leaf | refine FrTo.node ?_ ?_ ?_ | refine FrTo.none ?_ ?_ | exact VTo.sc (by first | rfl | (congr 1; omega) | (congr 1; simp; omega)) | exact VTos_dv _ _ | refine VTos.cons ?_ ?_ | exact VTos.nil | refine VTo.agg ?_ | refine VTo.tuple ?_ | refine VTo.func ?_ ?_ | exact VTo.fs | exact VTo.fp | exact VTo.nilptr | exact VTo.nilslice | exact VTo.nilfunc | exact VTo.ptr rfl | exact VTo.gl rfl | exact VTo.map rfl | exact VTo.yld rfl | exact VTo.fmMap rfl | exact VTo.fm | exact VTo.glNil' (by decide) rfl rfl | exact VTo.fsNil (by decide) | exact VTo.fsSl rfl rfl (by simp [flat_len encE_len]) | exact VTo.fpPtr rfl | exact VTo.fsGl rfl (by first | rfl | exact flat_len encI_len _ | exact flat_len encS_len _ | exact flat_len encP_len _ | exact flat_len encL_len _ | exact flat_len encE_len _ | (simp [flat_len encP_len]; done) | simp [flat_len encI_len, flat_len encS_len]))) ?_)) trivial trivial rfl) (by repeat' (first | exact VTo.undef | exact FrTo.leaf | refine FrTo.node ?_ ?_ ?_ | refine FrTo.none ?_ ?_ | exact VTo.sc (by first | rfl | (congr 1; omega) | (congr 1; simp; omega)) | exact VTos_dv _ _ | refine VTos.cons ?_ ?_ | exact VTos.nil | refine VTo.agg ?_ | refine VTo.tuple ?_ | refine VTo.func ?_ ?_ | exact VTo.fs | exact VTo.fp | exact VTo.nilptr | exact VTo.nilslice | exact VTo.nilfunc | exact VTo.ptr rfl | exact VTo.gl rfl | exact VTo.map rfl | exact VTo.yld rfl | exact VTo.fmMap rfl | exact VTo.fm | exact VTo.glNil' (by decide) rfl rfl | exact VTo.fsNil (by decide) | exact VTo.fsSl rfl rfl (by simp [flat_len encE_len]) | exact VTo.fpPtr rfl | exact VTo.fsGl rfl (by first | rfl | exact flat_len encI_len _ | exact flat_len encS_len _ | exact flat_len encP_len _ | exact flat_len encL_len _ | exact flat_len encE_len _ | (simp [flat_len encP_len]; done) | simp [flat_len encI_len, flat_len encS_len]))) (by first | rfl | (repeat' (first | exact MkTo.nil | refine MkTo.keep rfl ?_ | refine MkTo.drop (by decide) rfl ?_)))
  · rintro ⟨k, m⟩ ⟨hk, hm⟩
    dsimp only at hk hm
    have hmk := hok k
    have hnx : mIt bs yrs M0 (k + 1) = mStep bs yrs m := by rw [mIt, hm]
    rw [← hm] at hmk
    obtain ⟨n1, n2, n3, n4, n5, n6⟩ := hmk
    have hkn : k ≤ 16 := by omega
    have q1 := dNx_bd bs m.d 6
    have g1 := fun (h2 : Hp) hh => vc_coin bs m.d 6 (.out i) h2 (by omega) hh
    unfold mStep at hnx
    obtain ⟨y1, hy1⟩ : ∃ y, y = dNx bs m.d 6 := ⟨_, rfl⟩
    rw [← hy1] at q1 g1 hnx
    have q2 := dNx_bd bs y1.2 yrs
    have g2 := fun (h2 : Hp) hh => vc_draw bs y1.2 yrs (.out i) h2 (by omega) hh
    obtain ⟨y2, hy2⟩ : ∃ y, y = dNx bs y1.2 yrs := ⟨_, rfl⟩
    rw [← hy2] at q2 g2 hnx
    have q3 := dNx_bd bs y2.2 (14 - 1 + 1)
    have g3 := fun (h2 : Hp) hh => vc_between bs y2.2 1 14 (.out i) h2 (by omega) (by omega) (by omega) hh
    obtain ⟨y3, hy3⟩ : ∃ y, y = dNx bs y2.2 (14 - 1 + 1) := ⟨_, rfl⟩
    rw [← hy3] at q3 g3 hnx
    clear hy1 hy2 hy3
    conv => whnf
    refine VIte.dec (fun h3 => ?_) (fun h3 => ?_)
    · conv => whnf
      repeat' (first | (refine VLd.intro rfl ?_; conv => whnf) | (refine VArith.i64 (by first | omega | (dsimp only; omega)) ?_; conv => whnf) | (refine VNeed.intro (by first | rfl | (simp; omega)) ?_; conv => whnf) | (refine VMem.store rfl rfl rfl rfl ?_; conv => whnf) | (refine VSame.intro rfl ?_; conv => whnf) | (refine VIte.dec (fun _ => ?_) (fun _ => ?_) <;> conv => whnf) | (refine VIte.ndec (fun _ => ?_) (fun _ => ?_) <;> conv => whnf) | (refine VIte.beq (fun _ => ?_) (fun _ => ?_) <;> conv => whnf) | (refine VIte.bne (fun _ => ?_) (fun _ => ?_) <;> conv => whnf) | (refine VIte.intro (fun _ => ?_) (fun _ => ?_) <;> conv => whnf) | (refine VCall.intro (g1 _ (outW_get _ _ _ _)) ?_; conv => whnf) | (refine VCall.intro (g2 _ (outW_get _ _ _ _)) ?_; conv => whnf) | (refine VCall.intro (g3 _ (outW_get _ _ _ _)) ?_; conv => whnf))
      · rename_i hc
        have hnx : mIt bs yrs M0 (k + 1) = ⟨y3.2, m.year + y2.1 + (1 + y3.1), 1 - m.side, m.ps ++ [⟨1 - m.side, m.year, m.year + y2.1⟩]⟩ := by rw [hnx, hc]; rfl
        refine VMem.app1 (l := m.ps) (⟨1 - m.side, m.year, m.year + y2.1⟩ : Pap) encP_len rfl rfl rfl rfl rfl (by omega) ?_
        conv => whnf
        repeat' (first | (refine VLd.intro rfl ?_; conv => whnf) | (refine VArith.i64 (by first | omega | (dsimp only; omega)) ?_; conv => whnf) | (refine VNeed.intro (by first | rfl | (simp; omega)) ?_; conv => whnf) | (refine VMem.store rfl rfl rfl rfl ?_; conv => whnf) | (refine VSame.intro rfl ?_; conv => whnf) | (refine VIte.dec (fun _ => ?_) (fun _ => ?_) <;> conv => whnf) | (refine VIte.ndec (fun _ => ?_) (fun _ => ?_) <;> conv => whnf) | (refine VIte.beq (fun _ => ?_) (fun _ => ?_) <;> conv => whnf) | (refine VIte.bne (fun _ => ?_) (fun _ => ?_) <;> conv => whnf) | (refine VIte.intro (fun _ => ?_) (fun _ => ?_) <;> conv => whnf))
        refine VDraw.go [(2, 4)] (by kernel_rfl) (by kernel_rfl) ?_
        conv => whnf
        repeat' (first | (refine VLd.intro rfl ?_; conv => whnf) | (refine VArith.i64 (by first | omega | (dsimp only; omega)) ?_; conv => whnf) | (refine VNeed.intro (by first | rfl | (simp; omega)) ?_; conv => whnf) | (refine VMem.store rfl rfl rfl rfl ?_; conv => whnf) | (refine VSame.intro rfl ?_; conv => whnf) | (refine VIte.dec (fun _ => ?_) (fun _ => ?_) <;> conv => whnf) | (refine VIte.ndec (fun _ => ?_) (fun _ => ?_) <;> conv => whnf) | (refine VIte.beq (fun _ => ?_) (fun _ => ?_) <;> conv => whnf) | (refine VIte.bne (fun _ => ?_) (fun _ => ?_) <;> conv => whnf) | (refine VIte.intro (fun _ => ?_) (fun _ => ?_) <;> conv => whnf) | (refine VCall.intro (g3 _ (outW_get _ _ _ _)) ?_; conv => whnf))
        refine LEndO.intro (k + 1, _) ⟨by dsimp only; omega, hnx.symm⟩ (by dsimp only; omega) ?_ ?_
        · funext j; by_cases e : j = i <;> simp [outW, e, Hp.set]
        · conv => whnf
          rw [List.length_append]
          refine Retell.turn ⟨[0,1,5], 6, [], []⟩ (TurnOk.mk' _ _ [] [] (OutOk.outW (OutOk.lift _) rfl) rfl (by decide) (by repeat' (first | exact BTos.nil | refine BTos.flat rfl rfl (by first | rfl | simp) ?_ | refine BTos.new rfl ?_ | refine BTos.dead rfl rfl ?_ | refine BTos.esE rfl rfl ?_ | refine BTos.row rfl rfl rfl (RowTo.snoc (RowTo.one rfl (by simp))) ?_ | refine BTos.cells rfl rfl rfl (by repeat' (first | exact VTo.undef | exact FrTo.leaf | refine FrTo.node ?_ ?_ ?_ | refine FrTo.none ?_ ?_ | exact VTo.sc (by first | rfl | (congr 1; omega) | (congr 1; simp; omega)) | exact VTos_dv _ _ | refine VTos.cons ?_ ?_ | exact VTos.nil | refine VTo.agg ?_ | refine VTo.tuple ?_ | refine VTo.func ?_ ?_ | exact VTo.fs | exact VTo.fp | exact VTo.nilptr | exact VTo.nilslice | exact VTo.nilfunc | exact VTo.ptr rfl | exact VTo.gl rfl | exact VTo.map rfl | exact VTo.yld rfl | exact VTo.fmMap rfl | exact VTo.fm | exact VTo.glNil' (by decide) rfl rfl | exact VTo.fsNil (by decide) | exact VTo.fsSl rfl rfl (by simp [flat_len encE_len]) | exact VTo.fpPtr rfl | exact VTo.fsGl rfl (by first | rfl | exact flat_len encI_len _ | exact flat_len encS_len _ | exact flat_len encP_len _ | exact flat_len encL_len _ | exact flat_len encE_len _ | (simp [flat_len encP_len]; done) | simp [flat_len encI_len, flat_len encS_len]))) ?_)) trivial trivial rfl) (by repeat' (first | exact VTo.undef | exact FrTo.leaf | refine FrTo.node ?_ ?_ ?_ | refine FrTo.none ?_ ?_ | exact VTo.sc (by first | rfl | (congr 1; omega) | (congr 1; simp; omega)) | exact VTos_dv _ _ | refine VTos.cons ?_ ?_ | exact VTos.nil | refine VTo.agg ?_ | refine VTo.tuple ?_ | refine VTo.func ?_ ?_ | exact VTo.fs | exact VTo.fp | exact VTo.nilptr | exact VTo.nilslice | exact VTo.nilfunc | exact VTo.ptr rfl | exact VTo.gl rfl | exact VTo.map rfl | exact VTo.yld rfl | exact VTo.fmMap rfl | exact VTo.fm | exact VTo.glNil' (by decide) rfl rfl | exact VTo.fsNil (by decide) | exact VTo.fsSl rfl rfl (by simp [flat_len encE_len]) | exact VTo.fpPtr rfl | exact VTo.fsGl rfl (by first | rfl | exact flat_len encI_len _ | exact flat_len encS_len _ | exact flat_len encP_len _ | exact flat_len encL_len _ | exact flat_len encE_len _ | (simp [flat_len encP_len]; done) | simp [flat_len encI_len, flat_len encS_len]))) (by first | rfl | (repeat' (first | exact MkTo.nil | refine MkTo.keep rfl ?_ | refine MkTo.drop (by decide) rfl ?_)))
      · rename_i hc
        have hc2 : (y1.1 == 0) = false := by rw [beq_eq_false_iff_ne]; exact hc
        have hnx : mIt bs yrs M0 (k + 1) = ⟨y3.2, m.year + y2.1 + (1 + y3.1), m.side, m.ps ++ [⟨m.side, m.year, m.year + y2.1⟩]⟩ := by rw [hnx, hc2]; rfl
        repeat' (first | (refine VLd.intro rfl ?_; conv => whnf) | (refine VArith.i64 (by first | omega | (dsimp only; omega)) ?_; conv => whnf) | (refine VNeed.intro (by first | rfl | (simp; omega)) ?_; conv => whnf) | (refine VMem.store rfl rfl rfl rfl ?_; conv => whnf) | (refine VSame.intro rfl ?_; conv => whnf) | (refine VIte.dec (fun _ => ?_) (fun _ => ?_) <;> conv => whnf) | (refine VIte.ndec (fun _ => ?_) (fun _ => ?_) <;> conv => whnf) | (refine VIte.beq (fun _ => ?_) (fun _ => ?_) <;> conv => whnf) | (refine VIte.bne (fun _ => ?_) (fun _ => ?_) <;> conv => whnf) | (refine VIte.intro (fun _ => ?_) (fun _ => ?_) <;> conv => whnf) | (refine VCall.intro (g2 _ (outW_get _ _ _ _)) ?_; conv => whnf))
        refine VMem.app1 (l := m.ps) (⟨m.side, m.year, m.year + y2.1⟩ : Pap) encP_len rfl rfl rfl rfl rfl (by omega) ?_
        conv => whnf
        repeat' (first | (refine VLd.intro rfl ?_; conv => whnf) | (refine VArith.i64 (by first | omega | (dsimp only; omega)) ?_; conv => whnf) | (refine VNeed.intro (by first | rfl | (simp; omega)) ?_; conv => whnf) | (refine VMem.store rfl rfl rfl rfl ?_; conv => whnf) | (refine VSame.intro rfl ?_; conv => whnf) | (refine VIte.dec (fun _ => ?_) (fun _ => ?_) <;> conv => whnf) | (refine VIte.ndec (fun _ => ?_) (fun _ => ?_) <;> conv => whnf) | (refine VIte.beq (fun _ => ?_) (fun _ => ?_) <;> conv => whnf) | (refine VIte.bne (fun _ => ?_) (fun _ => ?_) <;> conv => whnf) | (refine VIte.intro (fun _ => ?_) (fun _ => ?_) <;> conv => whnf))
        refine VDraw.go [(2, 4)] (by kernel_rfl) (by kernel_rfl) ?_
        conv => whnf
        repeat' (first | (refine VLd.intro rfl ?_; conv => whnf) | (refine VArith.i64 (by first | omega | (dsimp only; omega)) ?_; conv => whnf) | (refine VNeed.intro (by first | rfl | (simp; omega)) ?_; conv => whnf) | (refine VMem.store rfl rfl rfl rfl ?_; conv => whnf) | (refine VSame.intro rfl ?_; conv => whnf) | (refine VIte.dec (fun _ => ?_) (fun _ => ?_) <;> conv => whnf) | (refine VIte.ndec (fun _ => ?_) (fun _ => ?_) <;> conv => whnf) | (refine VIte.beq (fun _ => ?_) (fun _ => ?_) <;> conv => whnf) | (refine VIte.bne (fun _ => ?_) (fun _ => ?_) <;> conv => whnf) | (refine VIte.intro (fun _ => ?_) (fun _ => ?_) <;> conv => whnf) | (refine VCall.intro (g3 _ (outW_get _ _ _ _)) ?_; conv => whnf))
        refine LEndO.intro (k + 1, _) ⟨by dsimp only; omega, hnx.symm⟩ (by dsimp only; omega) ?_ ?_
        · funext j; by_cases e : j = i <;> simp [outW, e, Hp.set]
        · conv => whnf
          rw [List.length_append]
          refine Retell.turn ⟨[0,1,5], 6, [], []⟩ (TurnOk.mk' _ _ [] [] (OutOk.outW (OutOk.lift _) rfl) rfl (by decide) (by repeat' (first | exact BTos.nil | refine BTos.flat rfl rfl (by first | rfl | simp) ?_ | refine BTos.new rfl ?_ | refine BTos.dead rfl rfl ?_ | refine BTos.esE rfl rfl ?_ | refine BTos.row rfl rfl rfl (RowTo.snoc (RowTo.one rfl (by simp))) ?_ | refine BTos.cells rfl rfl rfl (by repeat' (first | exact VTo.undef | exact FrTo.leaf | refine FrTo.node ?_ ?_ ?_ | refine FrTo.none ?_ ?_ | exact VTo.sc (by first | rfl | (congr 1; omega) | (congr 1; simp; omega)) | exact VTos_dv _ _ | refine VTos.cons ?_ ?_ | exact VTos.nil | refine VTo.agg ?_ | refine VTo.tuple ?_ | refine VTo.func ?_ ?_ | exact VTo.fs | exact VTo.fp | exact VTo.nilptr | exact VTo.nilslice | exact VTo.nilfunc | exact VTo.ptr rfl | exact VTo.gl rfl | exact VTo.map rfl | exact VTo.yld rfl | exact VTo.fmMap rfl | exact VTo.fm | exact VTo.glNil' (by decide) rfl rfl | exact VTo.fsNil (by decide) | exact VTo.fsSl rfl rfl (by simp [flat_len encE_len]) | exact VTo.fpPtr rfl | exact VTo.fsGl rfl (by first | rfl | exact flat_len encI_len _ | exact flat_len encS_len _ | exact flat_len encP_len _ | exact flat_len encL_len _ | exact flat_len encE_len _ | (simp [flat_len encP_len]; done) | simp [flat_len encI_len, flat_len encS_len]))) ?_)) trivial trivial rfl) (by repeat' (first | exact VTo.undef | exact FrTo.leaf | refine FrTo.node ?_ ?_ ?_ | refine FrTo.none ?_ ?_ | exact VTo.sc (by first | rfl | (congr 1; omega) | (congr 1; simp; omega)) | exact VTos_dv _ _ | refine VTos.cons ?_ ?_ | exact VTos.nil | refine VTo.agg ?_ | refine VTo.tuple ?_ | refine VTo.func ?_ ?_ | exact VTo.fs | exact VTo.fp | exact VTo.nilptr | exact VTo.nilslice | exact VTo.nilfunc | exact VTo.ptr rfl | exact VTo.gl rfl | exact VTo.map rfl | exact VTo.yld rfl | exact VTo.fmMap rfl | exact VTo.fm | exact VTo.glNil' (by decide) rfl rfl | exact VTo.fsNil (by decide) | exact VTo.fsSl rfl rfl (by simp [flat_len encE_len]) | exact VTo.fpPtr rfl | exact VTo.fsGl rfl (by first | rfl | exact flat_len encI_len _ | exact flat_len encS_len _ | exact flat_len encP_len _ | exact flat_len encL_len _ | exact flat_len encE_len _ | (simp [flat_len encP_len]; done) | simp [flat_len encI_len, flat_len encS_len]))) (by first | rfl | (repeat' (first | exact MkTo.nil | refine MkTo.keep rfl ?_ | refine MkTo.drop (by decide) rfl ?_)))
    · have hkn2 : k = n := by dsimp only at h3; omega
      subst hkn2
      rw [← hm]
      conv => whnf
      repeat' (first | (refine VLd.intro rfl ?_; conv => whnf) | (refine VArith.i64 (by first | omega | (dsimp only; omega)) ?_; conv => whnf) | (refine VNeed.intro (by first | rfl | (simp; omega)) ?_; conv => whnf) | (refine VMem.store rfl rfl rfl rfl ?_; conv => whnf) | (refine VSame.intro rfl ?_; conv => whnf) | (refine VIte.dec (fun _ => ?_) (fun _ => ?_) <;> conv => whnf) | (refine VIte.ndec (fun _ => ?_) (fun _ => ?_) <;> conv => whnf) | (refine VIte.beq (fun _ => ?_) (fun _ => ?_) <;> conv => whnf) | (refine VIte.bne (fun _ => ?_) (fun _ => ?_) <;> conv => whnf) | (refine VIte.intro (fun _ => ?_) (fun _ => ?_) <;> conv => whnf))
      refine VOut.turn ⟨[], 3, [(2, m.ps.flatMap encP)], []⟩ (loc' := []) (r1' := vF ⟨5 + x1.1, 4 + x2.1, m.ps⟩) (TurnOk.mk' [] 3 [(2, m.ps.flatMap encP)] [] (OutOk.outW (OutOk.lift _) rfl) rfl List.nodup_nil BTos.nil (FzAll.flat rfl FzAll.nil) trivial rfl) (by repeat' (first | exact VTo.undef | exact FrTo.leaf | refine FrTo.node ?_ ?_ ?_ | refine FrTo.none ?_ ?_ | exact VTo.sc (by first | rfl | (congr 1; omega) | (congr 1; simp; omega)) | exact VTos_dv _ _ | refine VTos.cons ?_ ?_ | exact VTos.nil | refine VTo.agg ?_ | refine VTo.tuple ?_ | refine VTo.func ?_ ?_ | exact VTo.fs | exact VTo.fp | exact VTo.nilptr | exact VTo.nilslice | exact VTo.nilfunc | exact VTo.ptr rfl | exact VTo.gl rfl | exact VTo.map rfl | exact VTo.yld rfl | exact VTo.fmMap rfl | exact VTo.fm | exact VTo.glNil' (by decide) rfl rfl | exact VTo.fsNil (by decide) | exact VTo.fsSl rfl rfl (by simp [flat_len encE_len]) | exact VTo.fpPtr rfl | exact VTo.fsGl rfl (by first | rfl | exact flat_len encI_len _ | exact flat_len encS_len _ | exact flat_len encP_len _ | exact flat_len encL_len _ | exact flat_len encE_len _ | (simp [flat_len encP_len]; done) | simp [flat_len encI_len, flat_len encS_len]))) ?_
      exact VOut.setF (L := 0) rfl hd fun _ => rfl
end Go.Proofs.Ytolnajnlcdacmaa

open Go.Vm
namespace Go.Proofs.Ytolnajnlcdacmaa
set_option maxRecDepth 20000
set_option maxHeartbeats 4000000

theorem chkGo_of : ∀ {ps : List Pap} {last : Int}, ps.Pairwise (fun p q => p.hi < q.lo) → (∀ p ∈ ps, ¬ badPap p ∧ last < p.lo) → chkGo ps last = 0
  | [], _, _, _ => rfl
  | p :: ps, last, h, hb => by
    obtain ⟨h1, h2⟩ := List.pairwise_cons.1 h
    obtain ⟨b1, b2⟩ := hb p (by simp)
    rw [chkGo, if_neg b1, if_neg (by omega)]
    exact chkGo_of h2 fun q hq => ⟨(hb q (by simp [hq])).1, h1 q hq⟩
/-- A file that is made is right, and not longer than it may be. -/
theorem mFile_ok (bs : List Int) (d : Nat × Int) {papers yrs : Int} (hp : 0 ≤ papers ∧ papers ≤ 16) (hy : 1 ≤ yrs ∧ yrs ≤ 4) :
    chk (mFile bs d papers yrs) = 0 ∧ ((mFile bs d papers yrs).ps.length : Int) ≤ papers ∧ (5 ≤ (mFile bs d papers yrs).Y ∧ (mFile bs d papers yrs).Y ≤ 60) ∧ (4 ≤ (mFile bs d papers yrs).G ∧ (mFile bs d papers yrs).G ≤ 20) ∧ (mEnd bs d papers yrs).d.1 ≤ d.1 + 60 := by
  have e1 := dNx_bd bs d (60 - 5 + 1)
  have e2 := dNx_bd bs (dNx bs d (60 - 5 + 1)).2 (20 - 4 + 1)
  have e3 := dNx_bd bs (mD2 bs d) 50
  have e4 := dNx_bd bs (dNx bs (mD2 bs d) 50).2 2
  have e5 := dNx_bd bs (dNx bs (dNx bs (mD2 bs d) 50).2 2).2 (papers + 1)
  have hk0 : MOk yrs 0 (dNx bs (dNx bs (dNx bs (mD2 bs d) 50).2 2).2 (papers + 1)).2.1 (m0 bs d papers) := by
    unfold m0
    exact ⟨by simp only; omega, by simp only; omega, by simp only; omega, rfl, by simp, by simp⟩
  have hok := mIt_ok (bs := bs) hk0 (by omega) (mN bs d papers)
  have hn : mN bs d papers ≤ 16 ∧ (mN bs d papers : Int) ≤ papers := by unfold mN; omega
  have hE : mIt bs yrs (m0 bs d papers) (mN bs d papers) = mEnd bs d papers yrs := rfl
  rw [hE] at hok
  obtain ⟨n1, n2, n3, n4, n5, n6⟩ := hok
  have hY : (mFile bs d papers yrs).Y = 5 + (dNx bs d (60 - 5 + 1)).1 := rfl
  have hG : (mFile bs d papers yrs).G = 4 + (dNx bs (dNx bs d (60 - 5 + 1)).2 (20 - 4 + 1)).1 := rfl
  have hps : (mFile bs d papers yrs).ps = (mEnd bs d papers yrs).ps := rfl
  refine ⟨?_, by rw [hps, n4]; exact hn.2, by rw [hY]; omega, by rw [hG]; omega, ?_⟩
  · unfold chk
    rw [if_neg (by rw [hY, hG]; omega), hps, if_neg (by rw [n4]; omega)]
    refine chkGo_of (n6 (-1) fun p hp => by have := (n5 p hp).2.1; omega) fun p hp => ?_
    have := n5 p hp
    refine ⟨?_, by omega⟩
    unfold badPap
    omega
  · have hd2 : (mD2 bs d).1 ≤ d.1 + 2 := by unfold mD2; omega
    omega
/-! ### A truth that is dealt -/

def tIt (bs : List Int) : List Pap → (Nat × Int) → List Int × (Nat × Int)
  | [], d => ([], d)
  | p :: r, d => ((p.lo + (dNx bs d (p.hi - p.lo + 1)).1) :: (tIt bs r (dNx bs d (p.hi - p.lo + 1)).2).1, (tIt bs r (dNx bs d (p.hi - p.lo + 1)).2).2)
theorem tIt_at {bs : List Int} {ps : List Pap} {k : Nat} {p : Pap} {d : Nat × Int} (h : ps[k]? = some p) : tIt bs (ps.drop k) d = ((p.lo + (dNx bs d (p.hi - p.lo + 1)).1) :: (tIt bs (ps.drop (k + 1)) (dNx bs d (p.hi - p.lo + 1)).2).1, (tIt bs (ps.drop (k + 1)) (dNx bs d (p.hi - p.lo + 1)).2).2) := by
  obtain ⟨hlt, rfl⟩ := List.getElem?_eq_some_iff.1 h
  rw [List.drop_eq_getElem_cons hlt, tIt]
theorem tIt_ok (bs : List Int) : ∀ (ps : List Pap) (d : Nat × Int), (∀ p ∈ ps, p.lo ≤ p.hi) → (tIt bs ps d).1.length = ps.length ∧ holdsS ps (tIt bs ps d).1 = true ∧ (tIt bs ps d).2.1 ≤ d.1 + ps.length
  | [], d, _ => ⟨rfl, by simp [holdsS], by simp [tIt]⟩
  | p :: r, d, h => by
    have e := dNx_bd bs d (p.hi - p.lo + 1)
    obtain ⟨i1, i2, i3⟩ := tIt_ok bs r (dNx bs d (p.hi - p.lo + 1)).2 (fun q hq => h q (by simp [hq]))
    have hp := h p (by simp)
    rw [tIt]
    refine ⟨by simp [i1], ?_, by simp only [List.length_cons]; omega⟩
    rw [holdsS, decide_eq_true (by omega), i2]; rfl
theorem vc_True (bs : List Int) (d : Nat × Int) (f : Fil) (i : Vm.Id) (h : Hp) (hN : d.1 ≤ 1000000) (h0 : chk f = 0) (hd : h.get i = some (deckB bs d)) :
    VC Try.prog 27 [.ptr i 0, vF f] h (ints (tIt bs f.ps d).1) (h.set i (deckB bs (tIt bs f.ps d).2)) := by
  have hn16 := (chk_zero h0).2.2.1
  have hpok := chk_pok h0
  obtain ⟨R, hR⟩ : ∃ R, R = tIt bs f.ps d := ⟨_, rfl⟩
  rw [← hR]
  refine VC.body Try.func27 rfl Try.ntmps27 Try.call27 (h.grows_set _ _) rfl ?_
  conv => whnf
  repeat' (first | (refine VLd.intro rfl ?_; conv => whnf) | (refine VArith.i64 (by first | omega | (dsimp only; omega)) ?_; conv => whnf) | (refine VNeed.intro (by first | rfl | (simp; omega)) ?_; conv => whnf) | (refine VMem.store rfl rfl rfl rfl ?_; conv => whnf) | (refine VSame.intro rfl ?_; conv => whnf) | (refine VIte.dec (fun _ => ?_) (fun _ => ?_) <;> conv => whnf) | (refine VIte.ndec (fun _ => ?_) (fun _ => ?_) <;> conv => whnf) | (refine VIte.beq (fun _ => ?_) (fun _ => ?_) <;> conv => whnf) | (refine VIte.bne (fun _ => ?_) (fun _ => ?_) <;> conv => whnf) | (refine VIte.intro (fun _ => ?_) (fun _ => ?_) <;> conv => whnf))
  refine VCode.lpo (fun y : Nat × List Int × (Nat × Int) => [(0, .ptr (.out i) 0), (5, .gl (.loc 0) 1 y.2.1.length), (9, paps f.ps), (10, I f.ps.length), (11, I y.1)]) (fun y => outW h.lift i (deckB bs y.2.2))
    (fun y => [.flat true (y.2.1.flatMap encI)]) (fun y => y.1 ≤ f.ps.length ∧ y.2.1.length = y.1 ∧ y.2.2.1 ≤ 1000000 + y.1 ∧ R = (y.2.1 ++ (tIt bs (f.ps.drop y.1) y.2.2).1, (tIt bs (f.ps.drop y.1) y.2.2).2)) (fun y => f.ps.length - y.1) (0, [], d) ⟨Nat.zero_le _, rfl, by dsimp only; omega, hR⟩ (outW_id (get_out hd [])) ?_ ?_
  · conv => whnf
    refine Retell.turn ⟨[1], 1, [], []⟩ (TurnOk.mk' _ _ [] [] (OutOk.outW (OutOk.lift _) rfl) rfl (by decide) (by repeat' (first | exact BTos.nil | refine BTos.flat rfl rfl (by first | rfl | simp) ?_ | refine BTos.new rfl ?_ | refine BTos.dead rfl rfl ?_ | refine BTos.esE rfl rfl ?_ | refine BTos.row rfl rfl rfl (RowTo.snoc (RowTo.one rfl (by simp))) ?_ | refine BTos.cells rfl rfl rfl (by repeat' (first | exact VTo.undef | exact FrTo.leaf | refine FrTo.node ?_ ?_ ?_ | refine FrTo.none ?_ ?_ | exact VTo.sc (by first | rfl | (congr 1; omega) | (congr 1; simp; omega)) | exact VTos_dv _ _ | refine VTos.cons ?_ ?_ | exact VTos.nil | refine VTo.agg ?_ | refine VTo.tuple ?_ | refine VTo.func ?_ ?_ | exact VTo.fs | exact VTo.fp | exact VTo.nilptr | exact VTo.nilslice | exact VTo.nilfunc | exact VTo.ptr rfl | exact VTo.gl rfl | exact VTo.map rfl | exact VTo.yld rfl | exact VTo.fmMap rfl | exact VTo.fm | exact VTo.glNil' (by decide) rfl rfl | exact VTo.fsNil (by decide) | exact VTo.fsSl rfl rfl (by simp [flat_len encE_len]) | exact VTo.fpPtr rfl | exact VTo.fsGl rfl (by first | rfl | exact flat_len encI_len _ | exact flat_len encS_len _ | exact flat_len encP_len _ | exact flat_len encL_len _ | exact flat_len encE_len _ | (simp [flat_len encP_len]; done) | simp [flat_len encI_len, flat_len encS_len]))) ?_)) trivial trivial rfl) (by repeat' (first | exact VTo.undef | exact FrTo.leaf | refine FrTo.node ?_ ?_ ?_ | refine FrTo.none ?_ ?_ | exact VTo.sc (by first | rfl | (congr 1; omega) | (congr 1; simp; omega)) | exact VTos_dv _ _ | refine VTos.cons ?_ ?_ | exact VTos.nil | refine VTo.agg ?_ | refine VTo.tuple ?_ | refine VTo.func ?_ ?_ | exact VTo.fs | exact VTo.fp | exact VTo.nilptr | exact VTo.nilslice | exact VTo.nilfunc | exact VTo.ptr rfl | exact VTo.gl rfl | exact VTo.map rfl | exact VTo.yld rfl | exact VTo.fmMap rfl | exact VTo.fm | exact VTo.glNil' (by decide) rfl rfl | exact VTo.fsNil (by decide) | exact VTo.fsSl rfl rfl (by simp [flat_len encE_len]) | exact VTo.fpPtr rfl | exact VTo.fsGl rfl (by first | rfl | exact flat_len encI_len _ | exact flat_len encS_len _ | exact flat_len encP_len _ | exact flat_len encL_len _ | exact flat_len encE_len _ | (simp [flat_len encP_len]; done) | simp [flat_len encI_len, flat_len encS_len]))) (by first | rfl | (repeat' (first | exact MkTo.nil | refine MkTo.keep rfl ?_ | refine MkTo.drop (by decide) rfl ?_)))
  · rintro ⟨k, l, e⟩ ⟨hk, hl, he, hRk⟩
    dsimp only at hk hl he hRk
    conv => whnf
    refine VIte.dec (fun h3 => ?_) (fun h3 => ?_)
    · have hp : f.ps[k]? = some f.ps[k] := List.getElem?_eq_getElem (by omega)
      have hpk := hpok f.ps[k] (List.getElem_mem (by omega))
      rw [tIt_at hp] at hRk
      generalize f.ps[k] = p at hp hpk hRk
      obtain ⟨p1, p2, p3, p4, p5⟩ := hpk
      have q1 := dNx_bd bs e (p.hi - p.lo + 1)
      have g1 := fun (h2 : Hp) hh => vc_between bs e p.lo p.hi (.out i) h2 (by omega) (by omega) (by omega) hh
      generalize dNx bs e (p.hi - p.lo + 1) = y1 at q1 g1 hRk
      conv => whnf
      repeat' (first | (refine VLd.intro rfl ?_; conv => whnf) | (refine VArith.i64 (by first | omega | (dsimp only; omega)) ?_; conv => whnf) | (refine VNeed.intro (by first | rfl | (simp; omega)) ?_; conv => whnf) | (refine VMem.store rfl rfl rfl rfl ?_; conv => whnf) | (refine VSame.intro rfl ?_; conv => whnf) | (refine VIte.dec (fun _ => ?_) (fun _ => ?_) <;> conv => whnf) | (refine VIte.ndec (fun _ => ?_) (fun _ => ?_) <;> conv => whnf) | (refine VIte.beq (fun _ => ?_) (fun _ => ?_) <;> conv => whnf) | (refine VIte.bne (fun _ => ?_) (fun _ => ?_) <;> conv => whnf) | (refine VIte.intro (fun _ => ?_) (fun _ => ?_) <;> conv => whnf) | (refine VAny.ix encP_len k rfl rfl hp ?_; conv => whnf) | (refine VCall.intro (g1 _ (outW_get _ _ _ _)) ?_; conv => whnf))
      refine VMem.app1 (p.lo + y1.1) encI_len rfl rfl rfl rfl rfl (by dsimp only; omega) ?_
      conv => whnf
      repeat' (first | (refine VLd.intro rfl ?_; conv => whnf) | (refine VArith.i64 (by first | omega | (dsimp only; omega)) ?_; conv => whnf) | (refine VNeed.intro (by first | rfl | (simp; omega)) ?_; conv => whnf) | (refine VMem.store rfl rfl rfl rfl ?_; conv => whnf) | (refine VSame.intro rfl ?_; conv => whnf) | (refine VIte.dec (fun _ => ?_) (fun _ => ?_) <;> conv => whnf) | (refine VIte.ndec (fun _ => ?_) (fun _ => ?_) <;> conv => whnf) | (refine VIte.beq (fun _ => ?_) (fun _ => ?_) <;> conv => whnf) | (refine VIte.bne (fun _ => ?_) (fun _ => ?_) <;> conv => whnf) | (refine VIte.intro (fun _ => ?_) (fun _ => ?_) <;> conv => whnf))
      refine LEndO.intro (k + 1, l ++ [p.lo + y1.1], y1.2) ⟨by dsimp only; omega, by simp [hl], by dsimp only; omega, by dsimp only; rw [hRk]; simp⟩ (by dsimp only; omega) ?_ ?_
      · funext j; by_cases e : j = i <;> simp [outW, e, Hp.set]
      · conv => whnf
        rw [List.length_append]
        refine Retell.turn ⟨[3], 4, [], []⟩ (TurnOk.mk' _ _ [] [] (OutOk.outW (OutOk.lift _) rfl) rfl (by decide) (by repeat' (first | exact BTos.nil | refine BTos.flat rfl rfl (by first | rfl | simp) ?_ | refine BTos.new rfl ?_ | refine BTos.dead rfl rfl ?_ | refine BTos.esE rfl rfl ?_ | refine BTos.row rfl rfl rfl (RowTo.snoc (RowTo.one rfl (by simp))) ?_ | refine BTos.cells rfl rfl rfl (by repeat' (first | exact VTo.undef | exact FrTo.leaf | refine FrTo.node ?_ ?_ ?_ | refine FrTo.none ?_ ?_ | exact VTo.sc (by first | rfl | (congr 1; omega) | (congr 1; simp; omega)) | exact VTos_dv _ _ | refine VTos.cons ?_ ?_ | exact VTos.nil | refine VTo.agg ?_ | refine VTo.tuple ?_ | refine VTo.func ?_ ?_ | exact VTo.fs | exact VTo.fp | exact VTo.nilptr | exact VTo.nilslice | exact VTo.nilfunc | exact VTo.ptr rfl | exact VTo.gl rfl | exact VTo.map rfl | exact VTo.yld rfl | exact VTo.fmMap rfl | exact VTo.fm | exact VTo.glNil' (by decide) rfl rfl | exact VTo.fsNil (by decide) | exact VTo.fsSl rfl rfl (by simp [flat_len encE_len]) | exact VTo.fpPtr rfl | exact VTo.fsGl rfl (by first | rfl | exact flat_len encI_len _ | exact flat_len encS_len _ | exact flat_len encP_len _ | exact flat_len encL_len _ | exact flat_len encE_len _ | (simp [flat_len encP_len]; done) | simp [flat_len encI_len, flat_len encS_len]))) ?_)) trivial trivial rfl) (by repeat' (first | exact VTo.undef | exact FrTo.leaf | refine FrTo.node ?_ ?_ ?_ | refine FrTo.none ?_ ?_ | exact VTo.sc (by first | rfl | (congr 1; omega) | (congr 1; simp; omega)) | exact VTos_dv _ _ | refine VTos.cons ?_ ?_ | exact VTos.nil | refine VTo.agg ?_ | refine VTo.tuple ?_ | refine VTo.func ?_ ?_ | exact VTo.fs | exact VTo.fp | exact VTo.nilptr | exact VTo.nilslice | exact VTo.nilfunc | exact VTo.ptr rfl | exact VTo.gl rfl | exact VTo.map rfl | exact VTo.yld rfl | exact VTo.fmMap rfl | exact VTo.fm | exact VTo.glNil' (by decide) rfl rfl | exact VTo.fsNil (by decide) | exact VTo.fsSl rfl rfl (by simp [flat_len encE_len]) | exact VTo.fpPtr rfl | exact VTo.fsGl rfl (by first | rfl | exact flat_len encI_len _ | exact flat_len encS_len _ | exact flat_len encP_len _ | exact flat_len encL_len _ | exact flat_len encE_len _ | (simp [flat_len encP_len]; done) | simp [flat_len encI_len, flat_len encS_len]))) (by first | rfl | (repeat' (first | exact MkTo.nil | refine MkTo.keep rfl ?_ | refine MkTo.drop (by decide) rfl ?_)))
    · have hkn2 : k = f.ps.length := by dsimp only at h3; omega
      subst hkn2
      rw [List.drop_of_length_le (Nat.le_refl _), tIt, List.append_nil] at hRk
      subst hRk
      conv => whnf
      repeat' (first | (refine VLd.intro rfl ?_; conv => whnf) | (refine VArith.i64 (by first | omega | (dsimp only; omega)) ?_; conv => whnf) | (refine VNeed.intro (by first | rfl | (simp; omega)) ?_; conv => whnf) | (refine VMem.store rfl rfl rfl rfl ?_; conv => whnf) | (refine VSame.intro rfl ?_; conv => whnf) | (refine VIte.dec (fun _ => ?_) (fun _ => ?_) <;> conv => whnf) | (refine VIte.ndec (fun _ => ?_) (fun _ => ?_) <;> conv => whnf) | (refine VIte.beq (fun _ => ?_) (fun _ => ?_) <;> conv => whnf) | (refine VIte.bne (fun _ => ?_) (fun _ => ?_) <;> conv => whnf) | (refine VIte.intro (fun _ => ?_) (fun _ => ?_) <;> conv => whnf))
      refine VOut.turn ⟨[], 1, [(0, l.flatMap encI)], []⟩ (loc' := []) (r1' := ints l) (TurnOk.mk' [] 1 [(0, l.flatMap encI)] [] (OutOk.outW (OutOk.lift _) rfl) rfl List.nodup_nil BTos.nil (FzAll.flat rfl FzAll.nil) trivial rfl) (by repeat' (first | exact VTo.undef | exact FrTo.leaf | refine FrTo.node ?_ ?_ ?_ | refine FrTo.none ?_ ?_ | exact VTo.sc (by first | rfl | (congr 1; omega) | (congr 1; simp; omega)) | exact VTos_dv _ _ | refine VTos.cons ?_ ?_ | exact VTos.nil | refine VTo.agg ?_ | refine VTo.tuple ?_ | refine VTo.func ?_ ?_ | exact VTo.fs | exact VTo.fp | exact VTo.nilptr | exact VTo.nilslice | exact VTo.nilfunc | exact VTo.ptr rfl | exact VTo.gl rfl | exact VTo.map rfl | exact VTo.yld rfl | exact VTo.fmMap rfl | exact VTo.fm | exact VTo.glNil' (by decide) rfl rfl | exact VTo.fsNil (by decide) | exact VTo.fsSl rfl rfl (by simp [flat_len encE_len]) | exact VTo.fpPtr rfl | exact VTo.fsGl rfl (by first | rfl | exact flat_len encI_len _ | exact flat_len encS_len _ | exact flat_len encP_len _ | exact flat_len encL_len _ | exact flat_len encE_len _ | (simp [flat_len encP_len]; done) | simp [flat_len encI_len, flat_len encS_len]))) ?_
      exact VOut.setF (L := 0) rfl hd fun _ => rfl
theorem tIt_tru (bs : List Int) (d : Nat × Int) {f : Fil} (h0 : chk f = 0) : (tIt bs f.ps d).1 ∈ tru f.ps ∧ (tIt bs f.ps d).2.1 ≤ d.1 + 16 := by
  have hn16 := (chk_zero h0).2.2.1
  obtain ⟨h1, h2, h3⟩ := tIt_ok bs f.ps d fun p hp => (chk_pok h0 p hp).le
  exact ⟨mem_tru.2 ⟨h1, h2⟩, by omega⟩
end Go.Proofs.Ytolnajnlcdacmaa

open Go.Vm
namespace Go.Proofs.Ytolnajnlcdacmaa
open Go.ChangeShapes Go.WideShapes Go.ChangeAt Go.RowKit

def dU (l : List Int) : D := .sl 1 l.length (l.flatMap encU)
theorem openU : OpenV Try.prog 49 dU := OpenV.slice Try.underlying49 (Opens.slice Try.underlying49 encU_len (by kernel_rfl) (by decide) (Opens.int Try.underlying5))
end Go.Proofs.Ytolnajnlcdacmaa

open Go.Vm
namespace Go.Proofs.Ytolnajnlcdacmaa
set_option maxRecDepth 20000
set_option maxHeartbeats 4000000

/-- The owner is Nobody, and no right arose, or it is the side of the paper with which the last one arose. -/
theorem own_cases {f : Fil} {t : List Int} (h0 : chk f = 0) (ht : t ∈ tru f.ps) : (arL f t = [] ∧ own f t = (2, 0)) ∨
    ∃ (j : Nat) (p : Pap) (y : Int), 0 < (arL f t).length ∧ (arL f t)[(arL f t).length - 1]? = some (j : Int) ∧ f.ps[j]? = some p ∧ t[j]? = some y ∧ own f t = (p.side, y) ∧ (p.side = 0 ∨ p.side = 1) := by
  have hl := (mem_tru.1 ht).1
  rcases ownS_sel f t t.length with h | ⟨l, j, h1, h2, h3, h4⟩
  · exact .inl h
  · right
    have hp : f.ps[j]? = some f.ps[j] := List.getElem?_eq_getElem (by omega)
    have hy : t[j]? = some t[j] := List.getElem?_eq_getElem (by omega)
    have e : arL f t = l ++ [(j : Int)] := h1
    refine ⟨j, f.ps[j], t[j], by rw [e]; simp, by rw [e]; simp, hp, hy, ?_, (chk_pok h0 _ (List.getElem_mem _)).side⟩
    rw [← sdAt_eq hp, ← tAt_eq hy]
    exact h4
theorem isOwn_of {f : Fil} {t : List Int} (ht : t ∈ tru f.ps) : isOwn f (own f t).1 = true := by
  unfold isOwn
  rw [List.any_eq_true]
  exact ⟨t, ht, decide_eq_true rfl⟩
theorem mem_osG {f : Fil} (h0 : chk f = 0) {x : Int} (hx : 0 ≤ x ∧ x ≤ 2) : x ∈ osG f ↔ isG f x = true := by
  rw [osG_eq h0, isG_eq h0]; exact mem_osL hx
theorem own_rng {f : Fil} {t : List Int} (h0 : chk f = 0) (ht : t ∈ tru f.ps) : 0 ≤ (own f t).1 ∧ (own f t).1 ≤ 2 := by
  rcases own_cases h0 ht with ⟨_, h⟩ | ⟨j, p, y, _, _, _, _, h, hs⟩ <;> rw [h] <;> dsimp only <;> omega
theorem own_osG {f : Fil} {t : List Int} (h0 : chk f = 0) (ht : t ∈ tru f.ps) : (own f t).1 ∈ osG f :=
  (mem_osG h0 (own_rng h0 ht)).2 (by rw [isG_eq h0]; exact isOwn_of ht)
/-- When the owner's right arose lies in what is told. -/
theorem since_of {f : Fil} {t : List Int} {x y : Int} (h0 : chk f = 0) (ht : t ∈ tru f.ps) (ho : own f t = (x, y)) (hx : x = 0 ∨ x = 1) :
    ∃ lo hi, sinceR f x = .tuple [.agg [I lo, I hi], I 0] ∧ lo ≤ y ∧ y ≤ hi := by
  obtain ⟨s1, s2⟩ := sn_spec f x
  have hf : (sn f x).found = true := by
    cases hf : (sn f x).found
    · exact absurd ⟨t, ht, ho⟩ (s1 hf y)
    · rfl
  have e := s2 hf
  have he : sinceE f x = 0 := by unfold sinceE; rw [if_neg (by simpa using h0), if_neg (by omega), hf]; rfl
  refine ⟨(sn f x).lo, (sn f x).hi, ?_, e.lo2 y ⟨t, ht, ho⟩, e.hi2 y ⟨t, ht, ho⟩⟩
  unfold sinceR
  rw [he]; rfl
theorem vc_SilenceFollows (ns ts : List Int) (h : Hp) : VC Try.prog 7 [bytes ns, bytes ts] h (B true) h := by
  obtain ⟨k1, k2, k3, k4, k5⟩ := mFile_ok ns (0, 9) (papers := 14) (yrs := 4) (by omega) (by omega)
  have cM := fun (i : Vm.Id) (h : Hp) hd => vc_Made ns (0, 9) 14 4 i h (by decide) (by omega) (by omega) hd
  generalize mFile ns (0, 9) 14 4 = f at k1 k2 k3 k4 cM
  generalize (mEnd ns (0, 9) 14 4).d = dE at cM
  have hn16 := (chk_zero k1).2.2.1
  have o1 := fun h => vc_Owners_ok f h k1
  have hIn := fun x hx => mem_osG (f := f) (x := x) k1 hx
  have hOl := osG_len f
  have hO0 : 0 < (osG f).length := List.length_pos_of_mem (own_osG k1 (tIt_tru ts (0, 9) k1).1)
  have hOo := fun t ht => own_osG (f := f) (t := t) k1 ht
  generalize osG f = O at o1 hIn hOl hO0 hOo
  refine VC.bodyC 3 Try.func7 rfl Try.ntmps7 Try.call7 (h.grows_refl) rfl ?_; conv => whnf
  repeat' (first | (refine VLd.intro rfl ?_; conv => whnf) | (refine VArith.i64 (by first | omega | (dsimp only; omega)) ?_; conv => whnf) | (refine VNeed.intro (by first | rfl | (simp; omega)) ?_; conv => whnf) | (refine VMem.store rfl rfl rfl rfl ?_; conv => whnf) | (refine VSame.intro rfl ?_; conv => whnf) | (refine VIte.dec (fun _ => ?_) (fun _ => ?_) <;> conv => whnf) | (refine VIte.ndec (fun _ => ?_) (fun _ => ?_) <;> conv => whnf) | (refine VIte.beq (fun _ => ?_) (fun _ => ?_) <;> conv => whnf) | (refine VIte.bne (fun _ => ?_) (fun _ => ?_) <;> conv => whnf) | (refine VIte.intro (fun _ => ?_) (fun _ => ?_) <;> conv => whnf) | (refine VCall.intro (vc_Of _ _) ?_; conv => whnf) | (refine VCall.intro (cM _ _ rfl) ?_; conv => whnf))
  refine VCut.at [(5, .fp (encF f)), (6, .ptr (.loc 0) 0)] [deckB ts (0, 9)] ?_ ?_
  · conv => whnf
    refine Retell.turn ⟨[2], 3, [(1, encF f)], []⟩ (TurnOk.mk' _ _ [(1, encF f)] [] (OutOk.lift _) rfl (by decide) (by repeat' (first | exact BTos.nil | refine BTos.flat rfl rfl (by first | rfl | simp) ?_ | refine BTos.new rfl ?_ | refine BTos.dead rfl rfl ?_ | refine BTos.esE rfl rfl ?_ | refine BTos.row rfl rfl rfl (RowTo.snoc (RowTo.one rfl (by simp))) ?_ | refine BTos.cells rfl rfl rfl (by repeat' (first | exact VTo.undef | exact FrTo.leaf | refine FrTo.node ?_ ?_ ?_ | refine FrTo.none ?_ ?_ | exact VTo.sc (by first | rfl | (congr 1; omega) | (congr 1; simp; omega)) | exact VTos_dv _ _ | refine VTos.cons ?_ ?_ | exact VTos.nil | refine VTo.agg ?_ | refine VTo.tuple ?_ | refine VTo.func ?_ ?_ | exact VTo.fs | exact VTo.fp | exact VTo.nilptr | exact VTo.nilslice | exact VTo.nilfunc | exact VTo.ptr rfl | exact VTo.gl rfl | exact VTo.map rfl | exact VTo.yld rfl | exact VTo.fmMap rfl | exact VTo.fm | exact VTo.glNil' (by decide) rfl rfl | exact VTo.fsNil (by decide) | exact VTo.fsSl rfl rfl (by simp [flat_len encE_len]) | exact VTo.fpPtr rfl | exact VTo.fsGl rfl (by first | rfl | exact flat_len encI_len _ | exact flat_len encS_len _ | exact flat_len encP_len _ | exact flat_len encL_len _ | exact flat_len encE_len _ | (simp [flat_len encP_len]; done) | simp [flat_len encI_len, flat_len encS_len]))) ?_)) (by repeat' (first | exact FzAll.nil | refine FzAll.flat rfl ?_ | refine FzAll.row rfl rfl (RowTo.one rfl (by simp)) ?_)) trivial rfl) (by repeat' (first | exact VTo.undef | exact FrTo.leaf | refine FrTo.node ?_ ?_ ?_ | refine FrTo.none ?_ ?_ | exact VTo.sc (by first | rfl | (congr 1; omega) | (congr 1; simp; omega)) | exact VTos_dv _ _ | refine VTos.cons ?_ ?_ | exact VTos.nil | refine VTo.agg ?_ | refine VTo.tuple ?_ | refine VTo.func ?_ ?_ | exact VTo.fs | exact VTo.fp | exact VTo.nilptr | exact VTo.nilslice | exact VTo.nilfunc | exact VTo.ptr rfl | exact VTo.gl rfl | exact VTo.map rfl | exact VTo.yld rfl | exact VTo.fmMap rfl | exact VTo.fm | exact VTo.glNil' (by decide) rfl rfl | exact VTo.fsNil (by decide) | exact VTo.fsSl rfl rfl (by simp [flat_len encE_len]) | exact VTo.fpPtr rfl | exact VTo.fsGl rfl (by first | rfl | exact flat_len encI_len _ | exact flat_len encS_len _ | exact flat_len encP_len _ | exact flat_len encL_len _ | exact flat_len encE_len _ | (simp [flat_len encP_len]; done) | simp [flat_len encI_len, flat_len encS_len]))) (by first | rfl | (repeat' (first | exact MkTo.nil | refine MkTo.keep rfl ?_ | refine MkTo.drop (by decide) rfl ?_)))
  · conv => whnf
    repeat' (first | (refine VLd.intro rfl ?_; conv => whnf) | (refine VArith.i64 (by first | omega | (dsimp only; omega)) ?_; conv => whnf) | (refine VNeed.intro (by first | rfl | (simp; omega)) ?_; conv => whnf) | (refine VMem.store rfl rfl rfl rfl ?_; conv => whnf) | (refine VSame.intro rfl ?_; conv => whnf) | (refine VIte.dec (fun _ => ?_) (fun _ => ?_) <;> conv => whnf) | (refine VIte.ndec (fun _ => ?_) (fun _ => ?_) <;> conv => whnf) | (refine VIte.beq (fun _ => ?_) (fun _ => ?_) <;> conv => whnf) | (refine VIte.bne (fun _ => ?_) (fun _ => ?_) <;> conv => whnf) | (refine VIte.intro (fun _ => ?_) (fun _ => ?_) <;> conv => whnf) | (refine VCall.intro (o1 _) ?_; conv => whnf))
    all_goals try (exfalso; omega)
    refine VCode.lp (fun k : Nat => [(5, .fp (encF f)), (6, .ptr (.loc 0) 0), (7, ints O), (9, I k)]) (fun _ => [deckB ts (0, 9)]) (fun k => k ≤ 3) (fun k => 3 - k) 0 (Nat.zero_le _) ?_ ?_
    · conv => whnf
      refine Retell.turn ⟨[0], 1, [], []⟩ (TurnOk.mk' _ _ [] [] (OutOk.lift _) rfl (by decide) (by repeat' (first | exact BTos.nil | refine BTos.flat rfl rfl (by first | rfl | simp) ?_ | refine BTos.new rfl ?_ | refine BTos.dead rfl rfl ?_ | refine BTos.esE rfl rfl ?_ | refine BTos.row rfl rfl rfl (RowTo.snoc (RowTo.one rfl (by simp))) ?_ | refine BTos.cells rfl rfl rfl (by repeat' (first | exact VTo.undef | exact FrTo.leaf | refine FrTo.node ?_ ?_ ?_ | refine FrTo.none ?_ ?_ | exact VTo.sc (by first | rfl | (congr 1; omega) | (congr 1; simp; omega)) | exact VTos_dv _ _ | refine VTos.cons ?_ ?_ | exact VTos.nil | refine VTo.agg ?_ | refine VTo.tuple ?_ | refine VTo.func ?_ ?_ | exact VTo.fs | exact VTo.fp | exact VTo.nilptr | exact VTo.nilslice | exact VTo.nilfunc | exact VTo.ptr rfl | exact VTo.gl rfl | exact VTo.map rfl | exact VTo.yld rfl | exact VTo.fmMap rfl | exact VTo.fm | exact VTo.glNil' (by decide) rfl rfl | exact VTo.fsNil (by decide) | exact VTo.fsSl rfl rfl (by simp [flat_len encE_len]) | exact VTo.fpPtr rfl | exact VTo.fsGl rfl (by first | rfl | exact flat_len encI_len _ | exact flat_len encS_len _ | exact flat_len encP_len _ | exact flat_len encL_len _ | exact flat_len encE_len _ | (simp [flat_len encP_len]; done) | simp [flat_len encI_len, flat_len encS_len]))) ?_)) trivial trivial rfl) (by repeat' (first | exact VTo.undef | exact FrTo.leaf | refine FrTo.node ?_ ?_ ?_ | refine FrTo.none ?_ ?_ | exact VTo.sc (by first | rfl | (congr 1; omega) | (congr 1; simp; omega)) | exact VTos_dv _ _ | refine VTos.cons ?_ ?_ | exact VTos.nil | refine VTo.agg ?_ | refine VTo.tuple ?_ | refine VTo.func ?_ ?_ | exact VTo.fs | exact VTo.fp | exact VTo.nilptr | exact VTo.nilslice | exact VTo.nilfunc | exact VTo.ptr rfl | exact VTo.gl rfl | exact VTo.map rfl | exact VTo.yld rfl | exact VTo.fmMap rfl | exact VTo.fm | exact VTo.glNil' (by decide) rfl rfl | exact VTo.fsNil (by decide) | exact VTo.fsSl rfl rfl (by simp [flat_len encE_len]) | exact VTo.fpPtr rfl | exact VTo.fsGl rfl (by first | rfl | exact flat_len encI_len _ | exact flat_len encS_len _ | exact flat_len encP_len _ | exact flat_len encL_len _ | exact flat_len encE_len _ | (simp [flat_len encP_len]; done) | simp [flat_len encI_len, flat_len encS_len]))) (by first | rfl | (repeat' (first | exact MkTo.nil | refine MkTo.keep rfl ?_ | refine MkTo.drop (by decide) rfl ?_)))
    · intro k hk
      conv => whnf
      refine VIte.dec (fun h3 => ?_) (fun h3 => ?_)
      · have hIk := hIn k (by omega)
        have hct := fun h => vc_Contains O k h (by omega)
        cases hg : isG f k
        · have hT : truE f k = 7 := by unfold truE; rw [if_neg (by simpa using k1), if_neg (by omega), hg]; rfl
          have t1 := fun h => vc_Truth_no f k h (by omega) (by rw [hT]; decide)
          rw [hT] at t1
          rw [decide_eq_false (fun hx => by rw [hIk.1 hx] at hg; cases hg)] at hct
          conv => whnf
          repeat' (first | (refine VLd.intro rfl ?_; conv => whnf) | (refine VArith.i64 (by first | omega | (dsimp only; omega)) ?_; conv => whnf) | (refine VNeed.intro (by first | rfl | (simp; omega)) ?_; conv => whnf) | (refine VMem.store rfl rfl rfl rfl ?_; conv => whnf) | (refine VSame.intro rfl ?_; conv => whnf) | (refine VIte.dec (fun _ => ?_) (fun _ => ?_) <;> conv => whnf) | (refine VIte.ndec (fun _ => ?_) (fun _ => ?_) <;> conv => whnf) | (refine VIte.beq (fun _ => ?_) (fun _ => ?_) <;> conv => whnf) | (refine VIte.bne (fun _ => ?_) (fun _ => ?_) <;> conv => whnf) | (refine VIte.intro (fun _ => ?_) (fun _ => ?_) <;> conv => whnf) | (refine VCall.intro (t1 _) ?_; conv => whnf) | (refine VCall.intro (hct _) ?_; conv => whnf))
          refine LEnd.intro (k + 1) (by omega) (by omega) ?_
          conv => whnf
          refine Retell.turn ⟨[0], 1, [], []⟩ (TurnOk.mk' _ _ [] [] (OutOk.lift _) rfl (by decide) (by repeat' (first | exact BTos.nil | refine BTos.flat rfl rfl (by first | rfl | simp) ?_ | refine BTos.new rfl ?_ | refine BTos.dead rfl rfl ?_ | refine BTos.esE rfl rfl ?_ | refine BTos.row rfl rfl rfl (RowTo.snoc (RowTo.one rfl (by simp))) ?_ | refine BTos.cells rfl rfl rfl (by repeat' (first | exact VTo.undef | exact FrTo.leaf | refine FrTo.node ?_ ?_ ?_ | refine FrTo.none ?_ ?_ | exact VTo.sc (by first | rfl | (congr 1; omega) | (congr 1; simp; omega)) | exact VTos_dv _ _ | refine VTos.cons ?_ ?_ | exact VTos.nil | refine VTo.agg ?_ | refine VTo.tuple ?_ | refine VTo.func ?_ ?_ | exact VTo.fs | exact VTo.fp | exact VTo.nilptr | exact VTo.nilslice | exact VTo.nilfunc | exact VTo.ptr rfl | exact VTo.gl rfl | exact VTo.map rfl | exact VTo.yld rfl | exact VTo.fmMap rfl | exact VTo.fm | exact VTo.glNil' (by decide) rfl rfl | exact VTo.fsNil (by decide) | exact VTo.fsSl rfl rfl (by simp [flat_len encE_len]) | exact VTo.fpPtr rfl | exact VTo.fsGl rfl (by first | rfl | exact flat_len encI_len _ | exact flat_len encS_len _ | exact flat_len encP_len _ | exact flat_len encL_len _ | exact flat_len encE_len _ | (simp [flat_len encP_len]; done) | simp [flat_len encI_len, flat_len encS_len]))) ?_)) trivial trivial rfl) (by repeat' (first | exact VTo.undef | exact FrTo.leaf | refine FrTo.node ?_ ?_ ?_ | refine FrTo.none ?_ ?_ | exact VTo.sc (by first | rfl | (congr 1; omega) | (congr 1; simp; omega)) | exact VTos_dv _ _ | refine VTos.cons ?_ ?_ | exact VTos.nil | refine VTo.agg ?_ | refine VTo.tuple ?_ | refine VTo.func ?_ ?_ | exact VTo.fs | exact VTo.fp | exact VTo.nilptr | exact VTo.nilslice | exact VTo.nilfunc | exact VTo.ptr rfl | exact VTo.gl rfl | exact VTo.map rfl | exact VTo.yld rfl | exact VTo.fmMap rfl | exact VTo.fm | exact VTo.glNil' (by decide) rfl rfl | exact VTo.fsNil (by decide) | exact VTo.fsSl rfl rfl (by simp [flat_len encE_len]) | exact VTo.fpPtr rfl | exact VTo.fsGl rfl (by first | rfl | exact flat_len encI_len _ | exact flat_len encS_len _ | exact flat_len encP_len _ | exact flat_len encL_len _ | exact flat_len encE_len _ | (simp [flat_len encP_len]; done) | simp [flat_len encI_len, flat_len encS_len]))) (by first | rfl | (repeat' (first | exact MkTo.nil | refine MkTo.keep rfl ?_ | refine MkTo.drop (by decide) rfl ?_)))
        · have hT : truE f k = 0 := by unfold truE; rw [if_neg (by simpa using k1), if_neg (by omega), hg]; rfl
          have t1 := fun h => vc_Truth_ok f k h hT
          rw [decide_eq_true (hIk.2 hg)] at hct
          obtain ⟨g1, g2⟩ := truG_ok k1 hg
          have g3 := told_tru k1 g1
          have g4 := (mem_tru.1 g1).1
          have t2 := fun h => vc_Owner f (truG f k) h (by omega) (by omega)
          rw [if_pos g3, g3, g2] at t2
          generalize truG f k = T at t1 t2
          conv => whnf
          repeat' (first | (refine VLd.intro rfl ?_; conv => whnf) | (refine VArith.i64 (by first | omega | (dsimp only; omega)) ?_; conv => whnf) | (refine VNeed.intro (by first | rfl | (simp; omega)) ?_; conv => whnf) | (refine VMem.store rfl rfl rfl rfl ?_; conv => whnf) | (refine VSame.intro rfl ?_; conv => whnf) | (refine VIte.dec (fun _ => ?_) (fun _ => ?_) <;> conv => whnf) | (refine VIte.ndec (fun _ => ?_) (fun _ => ?_) <;> conv => whnf) | (refine VIte.beq (fun _ => ?_) (fun _ => ?_) <;> conv => whnf) | (refine VIte.bne (fun _ => ?_) (fun _ => ?_) <;> conv => whnf) | (refine VIte.intro (fun _ => ?_) (fun _ => ?_) <;> conv => whnf) | (refine VCall.intro (t1 _) ?_; conv => whnf) | (refine VCall.intro (hct _) ?_; conv => whnf) | (refine VCall.intro (t2 _) ?_; conv => whnf))
          all_goals try (rename_i hz; exact absurd rfl hz)
          refine LEnd.intro (k + 1) (by omega) (by omega) ?_
          conv => whnf
          refine Retell.turn ⟨[0], 1, [], []⟩ (TurnOk.mk' _ _ [] [] (OutOk.lift _) rfl (by decide) (by repeat' (first | exact BTos.nil | refine BTos.flat rfl rfl (by first | rfl | simp) ?_ | refine BTos.new rfl ?_ | refine BTos.dead rfl rfl ?_ | refine BTos.esE rfl rfl ?_ | refine BTos.row rfl rfl rfl (RowTo.snoc (RowTo.one rfl (by simp))) ?_ | refine BTos.cells rfl rfl rfl (by repeat' (first | exact VTo.undef | exact FrTo.leaf | refine FrTo.node ?_ ?_ ?_ | refine FrTo.none ?_ ?_ | exact VTo.sc (by first | rfl | (congr 1; omega) | (congr 1; simp; omega)) | exact VTos_dv _ _ | refine VTos.cons ?_ ?_ | exact VTos.nil | refine VTo.agg ?_ | refine VTo.tuple ?_ | refine VTo.func ?_ ?_ | exact VTo.fs | exact VTo.fp | exact VTo.nilptr | exact VTo.nilslice | exact VTo.nilfunc | exact VTo.ptr rfl | exact VTo.gl rfl | exact VTo.map rfl | exact VTo.yld rfl | exact VTo.fmMap rfl | exact VTo.fm | exact VTo.glNil' (by decide) rfl rfl | exact VTo.fsNil (by decide) | exact VTo.fsSl rfl rfl (by simp [flat_len encE_len]) | exact VTo.fpPtr rfl | exact VTo.fsGl rfl (by first | rfl | exact flat_len encI_len _ | exact flat_len encS_len _ | exact flat_len encP_len _ | exact flat_len encL_len _ | exact flat_len encE_len _ | (simp [flat_len encP_len]; done) | simp [flat_len encI_len, flat_len encS_len]))) ?_)) trivial trivial rfl) (by repeat' (first | exact VTo.undef | exact FrTo.leaf | refine FrTo.node ?_ ?_ ?_ | refine FrTo.none ?_ ?_ | exact VTo.sc (by first | rfl | (congr 1; omega) | (congr 1; simp; omega)) | exact VTos_dv _ _ | refine VTos.cons ?_ ?_ | exact VTos.nil | refine VTo.agg ?_ | refine VTo.tuple ?_ | refine VTo.func ?_ ?_ | exact VTo.fs | exact VTo.fp | exact VTo.nilptr | exact VTo.nilslice | exact VTo.nilfunc | exact VTo.ptr rfl | exact VTo.gl rfl | exact VTo.map rfl | exact VTo.yld rfl | exact VTo.fmMap rfl | exact VTo.fm | exact VTo.glNil' (by decide) rfl rfl | exact VTo.fsNil (by decide) | exact VTo.fsSl rfl rfl (by simp [flat_len encE_len]) | exact VTo.fpPtr rfl | exact VTo.fsGl rfl (by first | rfl | exact flat_len encI_len _ | exact flat_len encS_len _ | exact flat_len encP_len _ | exact flat_len encL_len _ | exact flat_len encE_len _ | (simp [flat_len encP_len]; done) | simp [flat_len encI_len, flat_len encS_len]))) (by first | rfl | (repeat' (first | exact MkTo.nil | refine MkTo.keep rfl ?_ | refine MkTo.drop (by decide) rfl ?_)))
      · conv => whnf
        repeat' (first | (refine VLd.intro rfl ?_; conv => whnf) | (refine VArith.i64 (by first | omega | (dsimp only; omega)) ?_; conv => whnf) | (refine VNeed.intro (by first | rfl | (simp; omega)) ?_; conv => whnf) | (refine VMem.store rfl rfl rfl rfl ?_; conv => whnf) | (refine VSame.intro rfl ?_; conv => whnf) | (refine VIte.dec (fun _ => ?_) (fun _ => ?_) <;> conv => whnf) | (refine VIte.ndec (fun _ => ?_) (fun _ => ?_) <;> conv => whnf) | (refine VIte.beq (fun _ => ?_) (fun _ => ?_) <;> conv => whnf) | (refine VIte.bne (fun _ => ?_) (fun _ => ?_) <;> conv => whnf) | (refine VIte.intro (fun _ => ?_) (fun _ => ?_) <;> conv => whnf))
        refine VCode.lp (fun y : Nat × (Nat × Int) => [(5, .fp (encF f)), (6, .ptr (.loc 0) 0), (7, ints O), (71, I y.1)]) (fun y => [deckB ts y.2]) (fun y => y.1 ≤ 8 ∧ y.2.1 ≤ 16 * y.1) (fun y => 8 - y.1) (0, (0, 9)) ⟨by decide, by decide⟩ ?_ ?_
        · conv => whnf
          refine Retell.turn ⟨[0], 1, [], []⟩ (TurnOk.mk' _ _ [] [] (OutOk.lift _) rfl (by decide) (by repeat' (first | exact BTos.nil | refine BTos.flat rfl rfl (by first | rfl | simp) ?_ | refine BTos.new rfl ?_ | refine BTos.dead rfl rfl ?_ | refine BTos.esE rfl rfl ?_ | refine BTos.row rfl rfl rfl (RowTo.snoc (RowTo.one rfl (by simp))) ?_ | refine BTos.cells rfl rfl rfl (by repeat' (first | exact VTo.undef | exact FrTo.leaf | refine FrTo.node ?_ ?_ ?_ | refine FrTo.none ?_ ?_ | exact VTo.sc (by first | rfl | (congr 1; omega) | (congr 1; simp; omega)) | exact VTos_dv _ _ | refine VTos.cons ?_ ?_ | exact VTos.nil | refine VTo.agg ?_ | refine VTo.tuple ?_ | refine VTo.func ?_ ?_ | exact VTo.fs | exact VTo.fp | exact VTo.nilptr | exact VTo.nilslice | exact VTo.nilfunc | exact VTo.ptr rfl | exact VTo.gl rfl | exact VTo.map rfl | exact VTo.yld rfl | exact VTo.fmMap rfl | exact VTo.fm | exact VTo.glNil' (by decide) rfl rfl | exact VTo.fsNil (by decide) | exact VTo.fsSl rfl rfl (by simp [flat_len encE_len]) | exact VTo.fpPtr rfl | exact VTo.fsGl rfl (by first | rfl | exact flat_len encI_len _ | exact flat_len encS_len _ | exact flat_len encP_len _ | exact flat_len encL_len _ | exact flat_len encE_len _ | (simp [flat_len encP_len]; done) | simp [flat_len encI_len, flat_len encS_len]))) ?_)) trivial trivial rfl) (by repeat' (first | exact VTo.undef | exact FrTo.leaf | refine FrTo.node ?_ ?_ ?_ | refine FrTo.none ?_ ?_ | exact VTo.sc (by first | rfl | (congr 1; omega) | (congr 1; simp; omega)) | exact VTos_dv _ _ | refine VTos.cons ?_ ?_ | exact VTos.nil | refine VTo.agg ?_ | refine VTo.tuple ?_ | refine VTo.func ?_ ?_ | exact VTo.fs | exact VTo.fp | exact VTo.nilptr | exact VTo.nilslice | exact VTo.nilfunc | exact VTo.ptr rfl | exact VTo.gl rfl | exact VTo.map rfl | exact VTo.yld rfl | exact VTo.fmMap rfl | exact VTo.fm | exact VTo.glNil' (by decide) rfl rfl | exact VTo.fsNil (by decide) | exact VTo.fsSl rfl rfl (by simp [flat_len encE_len]) | exact VTo.fpPtr rfl | exact VTo.fsGl rfl (by first | rfl | exact flat_len encI_len _ | exact flat_len encS_len _ | exact flat_len encP_len _ | exact flat_len encL_len _ | exact flat_len encE_len _ | (simp [flat_len encP_len]; done) | simp [flat_len encI_len, flat_len encS_len]))) (by first | rfl | (repeat' (first | exact MkTo.nil | refine MkTo.keep rfl ?_ | refine MkTo.drop (by decide) rfl ?_)))
        · rintro ⟨i, d⟩ ⟨b1, b2⟩
          dsimp only at b1 b2
          conv => whnf
          refine VIte.dec (fun h4 => ?_) (fun h4 => ?_)
          · have cT := fun (i : Vm.Id) (h : Hp) hd => vc_True ts d f i h (by omega) k1 hd
            obtain ⟨t1, t2⟩ := tIt_tru ts d k1
            generalize tIt ts f.ps d = X at cT t1 t2
            obtain ⟨t, dT⟩ := X
            dsimp only at cT t1 t2
            have hl := (mem_tru.1 t1).1
            have ht := told_tru k1 t1
            have c1 := fun h => vc_Owner f t h (by omega) (by omega)
            have c2 := fun h => vc_Arises f t h (by omega) (by omega)
            have c3 := fun h => vc_Contains O (own f t).1 h (by omega)
            rw [if_pos ht, ht] at c1 c2
            rw [decide_eq_true (hOo t t1)] at c3
            rcases own_cases k1 t1 with ⟨q1, q2⟩ | ⟨j, p, y, q1, q2, q3, q4, q5, q6⟩
            · rw [q1] at c2
              rw [q2] at c1 c3
              conv => whnf
              repeat' (first | (refine VLd.intro rfl ?_; conv => whnf) | (refine VArith.i64 (by first | omega | (dsimp only; omega)) ?_; conv => whnf) | (refine VNeed.intro (by first | rfl | (simp; omega)) ?_; conv => whnf) | (refine VMem.store rfl rfl rfl rfl ?_; conv => whnf) | (refine VSame.intro rfl ?_; conv => whnf) | (refine VIte.dec (fun _ => ?_) (fun _ => ?_) <;> conv => whnf) | (refine VIte.ndec (fun _ => ?_) (fun _ => ?_) <;> conv => whnf) | (refine VIte.beq (fun _ => ?_) (fun _ => ?_) <;> conv => whnf) | (refine VIte.bne (fun _ => ?_) (fun _ => ?_) <;> conv => whnf) | (refine VIte.intro (fun _ => ?_) (fun _ => ?_) <;> conv => whnf) | (refine VCall.intro (cT _ _ rfl) ?_; conv => whnf) | (refine VCall.intro (c1 _) ?_; conv => whnf) | (refine VCall.intro (c2 _) ?_; conv => whnf) | (refine VCall.intro (c3 _) ?_; conv => whnf))
              all_goals try (rename_i hz; exact absurd rfl hz)
              all_goals try (exfalso; dsimp only at *; omega)
              all_goals (
                refine LEnd.intro (i + 1, dT) ⟨by dsimp only; omega, by dsimp only; omega⟩ (by dsimp only; omega) ?_
                conv => whnf
                refine Retell.turn ⟨[0], 1, [], []⟩ (TurnOk.mk' _ _ [] [] (OutOk.lift _) rfl (by decide) (by repeat' (first | exact BTos.nil | refine BTos.flat rfl rfl (by first | rfl | simp) ?_ | refine BTos.new rfl ?_ | refine BTos.dead rfl rfl ?_ | refine BTos.esE rfl rfl ?_ | refine BTos.row rfl rfl rfl (RowTo.snoc (RowTo.one rfl (by simp))) ?_ | refine BTos.cells rfl rfl rfl (by repeat' (first | exact VTo.undef | exact FrTo.leaf | refine FrTo.node ?_ ?_ ?_ | refine FrTo.none ?_ ?_ | exact VTo.sc (by first | rfl | (congr 1; omega) | (congr 1; simp; omega)) | exact VTos_dv _ _ | refine VTos.cons ?_ ?_ | exact VTos.nil | refine VTo.agg ?_ | refine VTo.tuple ?_ | refine VTo.func ?_ ?_ | exact VTo.fs | exact VTo.fp | exact VTo.nilptr | exact VTo.nilslice | exact VTo.nilfunc | exact VTo.ptr rfl | exact VTo.gl rfl | exact VTo.map rfl | exact VTo.yld rfl | exact VTo.fmMap rfl | exact VTo.fm | exact VTo.glNil' (by decide) rfl rfl | exact VTo.fsNil (by decide) | exact VTo.fsSl rfl rfl (by simp [flat_len encE_len]) | exact VTo.fpPtr rfl | exact VTo.fsGl rfl (by first | rfl | exact flat_len encI_len _ | exact flat_len encS_len _ | exact flat_len encP_len _ | exact flat_len encL_len _ | exact flat_len encE_len _ | (simp [flat_len encP_len]; done) | simp [flat_len encI_len, flat_len encS_len]))) ?_)) trivial trivial rfl) (by repeat' (first | exact VTo.undef | exact FrTo.leaf | refine FrTo.node ?_ ?_ ?_ | refine FrTo.none ?_ ?_ | exact VTo.sc (by first | rfl | (congr 1; omega) | (congr 1; simp; omega)) | exact VTos_dv _ _ | refine VTos.cons ?_ ?_ | exact VTos.nil | refine VTo.agg ?_ | refine VTo.tuple ?_ | refine VTo.func ?_ ?_ | exact VTo.fs | exact VTo.fp | exact VTo.nilptr | exact VTo.nilslice | exact VTo.nilfunc | exact VTo.ptr rfl | exact VTo.gl rfl | exact VTo.map rfl | exact VTo.yld rfl | exact VTo.fmMap rfl | exact VTo.fm | exact VTo.glNil' (by decide) rfl rfl | exact VTo.fsNil (by decide) | exact VTo.fsSl rfl rfl (by simp [flat_len encE_len]) | exact VTo.fpPtr rfl | exact VTo.fsGl rfl (by first | rfl | exact flat_len encI_len _ | exact flat_len encS_len _ | exact flat_len encP_len _ | exact flat_len encL_len _ | exact flat_len encE_len _ | (simp [flat_len encP_len]; done) | simp [flat_len encI_len, flat_len encS_len]))) (by first | rfl | (repeat' (first | exact MkTo.nil | refine MkTo.keep rfl ?_ | refine MkTo.drop (by decide) rfl ?_))))
            · obtain ⟨lo, hi, w1, w2, w3⟩ := since_of k1 t1 q5 q6
              have c4 := fun h => vc_Since f p.side h (by omega)
              rw [w1] at c4
              rw [q5] at c1 c3
              have hal := selS_len (arB f t) t.length
              have hjl : j < t.length := (List.getElem?_eq_some_iff.1 q4).1
              have e : arL f t = selS (arB f t) t.length := rfl
              rw [← e] at hal
              generalize arL f t = A at q1 q2 c2 hal e
              have hB : ((p.side, y).1 == 2) = ((A.length : Int) == 0) := by
                rw [beq_eq_false_iff_ne.2 (by dsimp only; omega), beq_eq_false_iff_ne.2 (by omega)]
              conv => whnf
              repeat' (first | (refine VLd.intro rfl ?_; conv => whnf) | (refine VArith.i64 (by first | omega | (dsimp only; omega)) ?_; conv => whnf) | (refine VNeed.intro (by first | rfl | (simp; omega)) ?_; conv => whnf) | (refine VMem.store rfl rfl rfl rfl ?_; conv => whnf) | (refine VSame.intro rfl ?_; conv => whnf) | (refine VDraw.go [] (by kernel_rfl) (by kernel_rfl) ?_; conv => whnf) | (refine VIte.dec (fun _ => ?_) (fun _ => ?_) <;> conv => whnf) | (refine VIte.ndec (fun _ => ?_) (fun _ => ?_) <;> conv => whnf) | (refine VIte.beq (fun _ => ?_) (fun _ => ?_) <;> conv => whnf) | (refine VIte.bne (fun _ => ?_) (fun _ => ?_) <;> conv => whnf) | (refine VIte.intro (fun _ => ?_) (fun _ => ?_) <;> conv => whnf) | (refine VCall.intro (cT _ _ rfl) ?_; conv => whnf) | (refine VCall.intro (c1 _) ?_; conv => whnf) | (refine VCall.intro (c2 _) ?_; conv => whnf) | (refine VCall.intro (c3 _) ?_; conv => whnf) | (refine VCall.intro (c4 _) ?_; conv => whnf) | (refine VAny.ix encI_len (A.length - 1) (by omega) rfl q2 ?_; conv => whnf) | (refine VAny.ix encP_len j rfl rfl q3 ?_; conv => whnf) | (refine VAny.ix encI_len j rfl rfl q4 ?_; conv => whnf))
              · rename_i hz; exact absurd hB hz
              all_goals try (exfalso; dsimp only at *; omega)
              all_goals (
                refine LEnd.intro (i + 1, dT) ⟨by dsimp only; omega, by dsimp only; omega⟩ (by dsimp only; omega) ?_
                conv => whnf
                refine Retell.turn ⟨[0], 2, [], []⟩ (TurnOk.mk' _ _ [] [] (OutOk.lift _) rfl (by decide) (by repeat' (first | exact BTos.nil | refine BTos.flat rfl rfl (by first | rfl | simp) ?_ | refine BTos.new rfl ?_ | refine BTos.dead rfl rfl ?_ | refine BTos.esE rfl rfl ?_ | refine BTos.row rfl rfl rfl (RowTo.snoc (RowTo.one rfl (by simp))) ?_ | refine BTos.cells rfl rfl rfl (by repeat' (first | exact VTo.undef | exact FrTo.leaf | refine FrTo.node ?_ ?_ ?_ | refine FrTo.none ?_ ?_ | exact VTo.sc (by first | rfl | (congr 1; omega) | (congr 1; simp; omega)) | exact VTos_dv _ _ | refine VTos.cons ?_ ?_ | exact VTos.nil | refine VTo.agg ?_ | refine VTo.tuple ?_ | refine VTo.func ?_ ?_ | exact VTo.fs | exact VTo.fp | exact VTo.nilptr | exact VTo.nilslice | exact VTo.nilfunc | exact VTo.ptr rfl | exact VTo.gl rfl | exact VTo.map rfl | exact VTo.yld rfl | exact VTo.fmMap rfl | exact VTo.fm | exact VTo.glNil' (by decide) rfl rfl | exact VTo.fsNil (by decide) | exact VTo.fsSl rfl rfl (by simp [flat_len encE_len]) | exact VTo.fpPtr rfl | exact VTo.fsGl rfl (by first | rfl | exact flat_len encI_len _ | exact flat_len encS_len _ | exact flat_len encP_len _ | exact flat_len encL_len _ | exact flat_len encE_len _ | (simp [flat_len encP_len]; done) | simp [flat_len encI_len, flat_len encS_len]))) ?_)) trivial trivial rfl) (by repeat' (first | exact VTo.undef | exact FrTo.leaf | refine FrTo.node ?_ ?_ ?_ | refine FrTo.none ?_ ?_ | exact VTo.sc (by first | rfl | (congr 1; omega) | (congr 1; simp; omega)) | exact VTos_dv _ _ | refine VTos.cons ?_ ?_ | exact VTos.nil | refine VTo.agg ?_ | refine VTo.tuple ?_ | refine VTo.func ?_ ?_ | exact VTo.fs | exact VTo.fp | exact VTo.nilptr | exact VTo.nilslice | exact VTo.nilfunc | exact VTo.ptr rfl | exact VTo.gl rfl | exact VTo.map rfl | exact VTo.yld rfl | exact VTo.fmMap rfl | exact VTo.fm | exact VTo.glNil' (by decide) rfl rfl | exact VTo.fsNil (by decide) | exact VTo.fsSl rfl rfl (by simp [flat_len encE_len]) | exact VTo.fpPtr rfl | exact VTo.fsGl rfl (by first | rfl | exact flat_len encI_len _ | exact flat_len encS_len _ | exact flat_len encP_len _ | exact flat_len encL_len _ | exact flat_len encE_len _ | (simp [flat_len encP_len]; done) | simp [flat_len encI_len, flat_len encS_len]))) (by first | rfl | (repeat' (first | exact MkTo.nil | refine MkTo.keep rfl ?_ | refine MkTo.drop (by decide) rfl ?_))))
          · conv => whnf
            repeat' (first | (refine VLd.intro rfl ?_; conv => whnf) | (refine VArith.i64 (by first | omega | (dsimp only; omega)) ?_; conv => whnf) | (refine VNeed.intro (by first | rfl | (simp; omega)) ?_; conv => whnf) | (refine VMem.store rfl rfl rfl rfl ?_; conv => whnf) | (refine VSame.intro rfl ?_; conv => whnf) | (refine VIte.dec (fun _ => ?_) (fun _ => ?_) <;> conv => whnf) | (refine VIte.ndec (fun _ => ?_) (fun _ => ?_) <;> conv => whnf) | (refine VIte.beq (fun _ => ?_) (fun _ => ?_) <;> conv => whnf) | (refine VIte.bne (fun _ => ?_) (fun _ => ?_) <;> conv => whnf) | (refine VIte.intro (fun _ => ?_) (fun _ => ?_) <;> conv => whnf) | (refine VCall.intro (vc_awake _) ?_; conv => whnf))
            exact VOut.same rfl
end Go.Proofs.Ytolnajnlcdacmaa

open Go.Vm
namespace Go.Proofs.Ytolnajnlcdacmaa
open Go.ChangeShapes Go.WideShapes Go.ChangeAt Go.RowKit

theorem open7p : OpenAll Try.prog Try.f7.params.toList (fun x : List Int × List Int × Unit => [dU x.1, dU x.2.1]) := by
  rw [Try.params7]
  exact OpenAll.cons openU (OpenAll.cons openU (OpenAll.nil))
set_option maxRecDepth 100000 in
theorem contract7 (H : Type) (enc : TypeId × Value → H) (W : World) (base : Nat) (args : Array Value) (ds gs : List (DataW H)) (before : List MemPlace)
    (hval : ∀ (j : Nat) t v, Try.f7.params[j]? = some t → args[j]? = some v → Value.okWide Try.prog W .any base t v)
    (hW : DataW.Whole enc Try.prog Try.f7.params.toList Rows.silenceFollowsSpec.vars false W args.toList ds gs before) :
    Calls Try.prog 7 args W fun e W' => ∃ v, e = .returned v ∧ Rows.silenceFollowsSpec.post enc Try.prog Try.f7 false true false false W args v W' := by
  refine contract_of_vc open7p (fun g => vc_SilenceFollows g.1 g.2.1 Hp.bare) laidOut ?_ (tb := 4) (by kernel_rfl) Try.underlying4 rfl ?_ hval hW
  · rw [Try.params7]
    intro t ht
    simp only [List.mem_cons, List.not_mem_nil, or_false] at ht
    rcases ht with rfl | rfl
    all_goals exact ⟨by kernel_rfl, of_decide_eq_true (by kernel_rfl)⟩
  · intro H dd hl
    rw [Try.params7] at hl
    match dd, hl with
    | [d0, d1], _ => rfl
set_option maxRecDepth 100000 in
theorem lifted7 (os : Os) (started : os.Started) (H : Type) (enc : TypeId × Value → H) :
    ReturnsInHanded {} Try.checked os 7 .any (Rows.silenceFollowsSpec.pre6 enc Try.prog Try.f7 Rows.silenceFollowsRow.domain false) (Rows.silenceFollowsSpec.post enc Try.prog Try.f7 false true false false) := by
  refine returnsInHanded_of_change (C := Try.checked) ownKn started (by kernel_rfl) Try.func7
    (ChangeSpec.witness6 (enc := enc) (C := Try.checked) false ⟨#[], #[.slice none 0 0, .slice none 0 0], []⟩ 8 (by kernel_rfl) (by kernel_rfl) (by kernel_rfl) (by kernel_rfl)) ?_
  intro W base args ds gs before hval hW _ _
  exact contract7 H enc W base args ds gs before hval hW
theorem silenceFollows_said : Rows.SilenceFollowsSaid :=
  OpenClaim.holds_of_wide 7 Try.f7 rfl rfl rfl rfl rfl rfl rfl ⟨rfl, rfl, rfl, rfl, rfl⟩ rfl rfl rfl rfl rfl (by kernel_rfl) Try.func7 (by kernel_rfl)
    (of_decide_eq_true (by kernel_rfl)) (by unfold Func.isWrapper; first | (rw [if_pos (by decide +kernel)]; kernel_rfl) | (rw [if_neg (by decide +kernel)]; exact ⟨rfl, rfl⟩))
    (fun os started H enc _ => lifted7 os started H enc)
end Go.Proofs.Ytolnajnlcdacmaa

