/- Part 5 of the proof that a paper that is dated more narrowly adds no owner and no year, a greater gap or fewer years leave no side without its right, and rights do not depend on papers behind. No condition. -/
import Derived.Test.YtolnajnlcdacmaaMo4
set_option linter.unusedVariables false
set_option linter.unusedSimpArgs false
open Go.Vm
namespace Go.Proofs.Ytolnajnlcdacmaa
set_option maxRecDepth 20000
set_option maxHeartbeats 4000000

/-- What a deck deals, and the deck behind it. -/
def dNx (bs : List Int) (d : Nat × Int) (k : Int) : Int × (Nat × Int) :=
  if k ≤ 1 ∨ bs = [] then (0, d) else (dR bs d.1 d.2 k (bs.getD (d.1 % bs.length) 0), (d.1 + 1, dSt bs d.1 d.2 (bs.getD (d.1 % bs.length) 0)))
def deckB (bs : List Int) (d : Nat × Int) : Blk := .flat true (deckD bs d.1 d.2)
theorem dNx_bd (bs : List Int) (d : Nat × Int) (k : Int) : 0 ≤ (dNx bs d k).1 ∧ ((dNx bs d k).1 = 0 ∨ (dNx bs d k).1 < k) ∧ (dNx bs d k).2.1 ≤ d.1 + 1 := by
  unfold dNx
  split
  · exact ⟨Int.le_refl _, .inl rfl, by simp only; omega⟩
  · rename_i h
    obtain ⟨q1, q2⟩ := dR_bd bs d.1 d.2 (bs.getD (d.1 % bs.length) 0) (k := k) (by omega)
    exact ⟨q1, .inr q2, Nat.le_refl _⟩
theorem vc_draw (bs : List Int) (d : Nat × Int) (k : Int) (i : Vm.Id) (h : Hp) (hN : d.1 ≤ 4000000000) (hb : h.get i = some (deckB bs d)) : VC Try.prog 44 [.ptr i 0, I k] h (I (dNx bs d k).1) (h.set i (deckB bs (dNx bs d k).2)) := by
  unfold dNx deckB at *
  split
  · rename_i hk; exact vc_Draw0 bs d.1 d.2 k i h hb hk
  · rename_i hk
    have hlen := List.length_pos_iff.2 (fun h => hk (.inr h))
    have hc : bs[d.1 % bs.length]? = some (bs.getD (d.1 % bs.length) 0) := by simp [List.getElem?_eq_getElem (Nat.mod_lt d.1 hlen)]
    exact vc_Draw1 bs d.1 d.2 k _ i h hb (by omega) hc hN
theorem vc_between (bs : List Int) (d : Nat × Int) (a b : Int) (i : Vm.Id) (h : Hp) (hN : d.1 ≤ 4000000000) (ha : -1000000 ≤ a ∧ a ≤ 1000000) (hb : -1000000 ≤ b ∧ b ≤ 1000000) (hd : h.get i = some (deckB bs d)) : VC Try.prog 43 [.ptr i 0, I a, I b] h (I (a + (dNx bs d (b - a + 1)).1)) (h.set i (deckB bs (dNx bs d (b - a + 1)).2)) := by
  have hbd := dNx_bd bs d (b - a + 1)
  have hD := fun i h hh => vc_draw bs d (b - a + 1) i h hN hh
  generalize dNx bs d (b - a + 1) = x at hbd hD
  refine VC.body Try.func43 rfl Try.ntmps43 Try.call43 (h.grows_set _ _) rfl ?_
  conv => whnf
  repeat' (first | (refine VLd.intro rfl ?_; conv => whnf) | (refine VArith.i64 (by first | omega | (dsimp only; omega)) ?_; conv => whnf) | (refine VNeed.intro (by first | rfl | (simp; omega)) ?_; conv => whnf) | (refine VMem.store rfl rfl rfl rfl ?_; conv => whnf) | (refine VSame.intro rfl ?_; conv => whnf) | (refine VDraw.go [] (by kernel_rfl) (by kernel_rfl) ?_; conv => whnf) | (refine VIte.dec (fun _ => ?_) (fun _ => ?_) <;> conv => whnf) | (refine VIte.ndec (fun _ => ?_) (fun _ => ?_) <;> conv => whnf) | (refine VIte.beq (fun _ => ?_) (fun _ => ?_) <;> conv => whnf) | (refine VIte.bne (fun _ => ?_) (fun _ => ?_) <;> conv => whnf) | (refine VIte.intro (fun _ => ?_) (fun _ => ?_) <;> conv => whnf) | (refine VCall.intro (hD (.out i) _ (get_out hd _)) ?_; conv => whnf))
  exact VOut.setS (L := 0) rfl hd
theorem vc_coin (bs : List Int) (d : Nat × Int) (k : Int) (i : Vm.Id) (h : Hp) (hN : d.1 ≤ 4000000000) (hd : h.get i = some (deckB bs d)) : VC Try.prog 42 [.ptr i 0, I k] h (B ((dNx bs d k).1 == 0)) (h.set i (deckB bs (dNx bs d k).2)) := by
  have hD := fun i h hh => vc_draw bs d k i h hN hh
  generalize dNx bs d k = x at hD
  refine VC.body Try.func42 rfl Try.ntmps42 Try.call42 (h.grows_set _ _) rfl ?_
  conv => whnf
  repeat' (first | (refine VLd.intro rfl ?_; conv => whnf) | (refine VArith.i64 (by first | omega | (dsimp only; omega)) ?_; conv => whnf) | (refine VNeed.intro (by first | rfl | (simp; omega)) ?_; conv => whnf) | (refine VMem.store rfl rfl rfl rfl ?_; conv => whnf) | (refine VSame.intro rfl ?_; conv => whnf) | (refine VDraw.go [] (by kernel_rfl) (by kernel_rfl) ?_; conv => whnf) | (refine VIte.dec (fun _ => ?_) (fun _ => ?_) <;> conv => whnf) | (refine VIte.ndec (fun _ => ?_) (fun _ => ?_) <;> conv => whnf) | (refine VIte.beq (fun _ => ?_) (fun _ => ?_) <;> conv => whnf) | (refine VIte.bne (fun _ => ?_) (fun _ => ?_) <;> conv => whnf) | (refine VIte.intro (fun _ => ?_) (fun _ => ?_) <;> conv => whnf) | (refine VCall.intro (hD (.out i) _ (get_out hd _)) ?_; conv => whnf))
  exact VOut.setS (L := 0) rfl hd
theorem VOut.ownP {h : Hp} {loc : List Blk} {ds : List D} (j L : Nat) (hL : Nat.ble loc.length L = true) (hj : loc[j]? = some (.flat true ds)) : VOut h ⟨h.lift, loc⟩ (.ptr (.loc j) 0) (.ptr h.fresh 0) (h.push (.flat true ds)) := by
  refine VOut.upd [] [.flat true ds] [j] L hL (by intro p hp; cases hp) (by simp) rfl ?_ ?_ rfl
  · intro k b hk
    cases k with
    | zero => rw [List.getElem?_cons_zero, Option.some.injEq] at hk; subst hk; exact ⟨j, rfl, hj⟩
    | succ k => simp at hk
  · intro σ x hx
    have : (V.ptr h.fresh 0).ren (backR h.loc.length [j] L) = .ptr (.loc j) 0 := by simp [V.ren, backR, Hp.fresh]
    rw [this]; exact hx
theorem vc_Of (bs : List Int) (h : Hp) : VC Try.prog 26 [bytes bs] h (.ptr h.fresh 0) (h.push (deckB bs (0, 9))) := by
  refine VC.body Try.func26 rfl Try.ntmps26 Try.call26 (h.grows_push _) rfl ?_
  conv => whnf
  repeat (first | (refine VLd.intro rfl ?_; conv => whnf) | (refine VArith.i64 (by first | omega | (dsimp only; omega)) ?_; conv => whnf) | (refine VNeed.intro (by first | rfl | (simp; omega)) ?_; conv => whnf) | (refine VMem.store rfl rfl rfl rfl ?_; conv => whnf) | (refine VSame.intro rfl ?_; conv => whnf) | (refine VDraw.go [] (by kernel_rfl) (by kernel_rfl) ?_; conv => whnf))
  exact VOut.ownP 0 1 rfl rfl
theorem VOut.setF {h : Hp} {loc : List Blk} {i : Vm.Id} {b0 : Blk} {l : List D} {rw : Bool} {r : V} {L : Nat} (hL : Nat.ble loc.length L = true) (hb : h.get i = some b0) (hr : ∀ ρ, r.ren ρ = r) : VOut h ⟨outW h.lift i (.flat rw l), loc⟩ r r (h.set i (.flat rw l)) := by
  have hd : ∀ p ∈ [(i, Blk.flat rw l)], h.get p.1 ≠ none := by
    intro p hp
    simp only [List.mem_cons, List.not_mem_nil, or_false] at hp
    subst hp; simp only; rw [hb]; simp
  have := VOut.upd (loc := loc) (r1 := r) (r := r) [(i, .flat rw l)] [] [] L hL hd (by simp) rfl (by intro k b hk; simp at hk) (fun σ x hx => by rw [hr]; exact hx) (outer := outW h.lift i (.flat rw l)) rfl
  have he : (h.sets [(i, Blk.flat rw l)]).pushes [] = h.set i (.flat rw l) := by simp [Hp.sets, Hp.pushes]
  rw [he] at this
  exact this
/-! ### A file that is made of numbers -/

structure MS where
  d : Nat × Int
  year : Int
  side : Int
  ps : List Pap
def mStep (bs : List Int) (yrs : Int) (m : MS) : MS :=
  ⟨(dNx bs (dNx bs (dNx bs m.d 6).2 yrs).2 (14 - 1 + 1)).2,
   m.year + (dNx bs (dNx bs m.d 6).2 yrs).1 + (1 + (dNx bs (dNx bs (dNx bs m.d 6).2 yrs).2 (14 - 1 + 1)).1),
   bif (dNx bs m.d 6).1 == 0 then 1 - m.side else m.side,
   m.ps ++ [⟨bif (dNx bs m.d 6).1 == 0 then 1 - m.side else m.side, m.year, m.year + (dNx bs (dNx bs m.d 6).2 yrs).1⟩]⟩
def mIt (bs : List Int) (yrs : Int) (m : MS) : Nat → MS
  | 0 => m
  | k + 1 => mStep bs yrs (mIt bs yrs m k)
/-- What is known of it. -/
structure MOk (yrs : Int) (k : Nat) (N : Nat) (m : MS) : Prop where
  n : m.d.1 ≤ N + 3 * k
  year : 0 ≤ m.year ∧ m.year ≤ 50 + 20 * k
  side : m.side = 0 ∨ m.side = 1
  len : m.ps.length = k
  paps : ∀ p ∈ m.ps, (p.side = 0 ∨ p.side = 1) ∧ 0 ≤ p.lo ∧ p.lo ≤ p.hi ∧ p.hi < p.lo + yrs ∧ p.hi < m.year
  asc : ∀ last : Int, (∀ p ∈ m.ps, last < p.lo) → m.ps.Pairwise (fun p q => p.hi < q.lo)
theorem MOk.step {bs : List Int} {yrs : Int} {k N : Nat} {m : MS} (h : MOk yrs k N m) (hy : 1 ≤ yrs ∧ yrs ≤ 5) : MOk yrs (k + 1) N (mStep bs yrs m) := by
  obtain ⟨a1, a2, a3⟩ := dNx_bd bs m.d 6
  obtain ⟨b1, b2, b3⟩ := dNx_bd bs (dNx bs m.d 6).2 yrs
  obtain ⟨c1, c2, c3⟩ := dNx_bd bs (dNx bs (dNx bs m.d 6).2 yrs).2 (14 - 1 + 1)
  obtain ⟨n1, n2, n3, n4, n5, n6⟩ := h
  unfold mStep
  generalize dNx bs (dNx bs (dNx bs m.d 6).2 yrs).2 (14 - 1 + 1) = z at c1 c2 c3
  generalize dNx bs (dNx bs m.d 6).2 yrs = y at b1 b2 b3 c3
  generalize dNx bs m.d 6 = x at a1 a2 a3 b3
  obtain ⟨S, hS, hS2⟩ : ∃ S, S = (bif x.1 == 0 then 1 - m.side else m.side) ∧ (S = 0 ∨ S = 1) := by
    refine ⟨_, rfl, ?_⟩
    cases x.1 == 0 <;> simp only [cond_true, cond_false] <;> omega
  rw [← hS]
  refine ⟨by simp only; omega, by simp only; omega, hS2, by simp [n4], ?_, ?_⟩
  · intro p hp
    simp only [List.mem_append, List.mem_singleton] at hp ⊢
    rcases hp with hp | rfl
    · have := n5 p hp
      exact ⟨this.1, this.2.1, this.2.2.1, this.2.2.2.1, by omega⟩
    · exact ⟨hS2, by simp only; omega, by simp only; omega, by simp only; omega, by simp only; omega⟩
  · intro last _
    simp only
    rw [List.pairwise_append]
    refine ⟨n6 (-1) (fun p hp => by have := (n5 p hp).2.1; omega), by simp, fun p hp q hq => ?_⟩
    rw [List.mem_singleton] at hq
    subst hq
    exact (n5 p hp).2.2.2.2
theorem mIt_ok {bs : List Int} {yrs : Int} {N : Nat} {m : MS} (h : MOk yrs 0 N m) (hy : 1 ≤ yrs ∧ yrs ≤ 5) : ∀ k, MOk yrs k N (mIt bs yrs m k)
  | 0 => h
  | k + 1 => (mIt_ok h hy k).step hy
/-- The file. -/
def mY (bs : List Int) (d : Nat × Int) : Int := 5 + (dNx bs d (60 - 5 + 1)).1
def mG (bs : List Int) (d : Nat × Int) : Int := 4 + (dNx bs (dNx bs d (60 - 5 + 1)).2 (20 - 4 + 1)).1
def mD2 (bs : List Int) (d : Nat × Int) : Nat × Int := (dNx bs (dNx bs d (60 - 5 + 1)).2 (20 - 4 + 1)).2
def m0 (bs : List Int) (d : Nat × Int) (papers : Int) : MS :=
  ⟨(dNx bs (dNx bs (dNx bs (mD2 bs d) 50).2 2).2 (papers + 1)).2, (dNx bs (mD2 bs d) 50).1, (dNx bs (dNx bs (mD2 bs d) 50).2 2).1, []⟩
def mN (bs : List Int) (d : Nat × Int) (papers : Int) : Nat := (dNx bs (dNx bs (dNx bs (mD2 bs d) 50).2 2).2 (papers + 1)).1.toNat
def mEnd (bs : List Int) (d : Nat × Int) (papers yrs : Int) : MS := mIt bs yrs (m0 bs d papers) (mN bs d papers)
def mFile (bs : List Int) (d : Nat × Int) (papers yrs : Int) : Fil := ⟨mY bs d, mG bs d, (mEnd bs d papers yrs).ps⟩
theorem vc_Made (bs : List Int) (d : Nat × Int) (papers yrs : Int) (i : Vm.Id) (h : Hp) (hN : d.1 ≤ 1000000) (hp : 0 ≤ papers ∧ papers ≤ 16) (hy : 1 ≤ yrs ∧ yrs ≤ 4) (hd : h.get i = some (deckB bs d)) :
    VC Try.prog 25 [.ptr i 0, I papers, I yrs] h (vF (mFile bs d papers yrs)) (h.set i (deckB bs (mEnd bs d papers yrs).d)) := by
  have e1 := dNx_bd bs d (60 - 5 + 1)
  have c1 := fun (h2 : Hp) hh => vc_between bs d 5 60 (.out i) h2 (by omega) (by omega) (by omega) hh
  obtain ⟨x1, hx1⟩ : ∃ x, x = dNx bs d (60 - 5 + 1) := ⟨_, rfl⟩
  rw [← hx1] at e1 c1
  have e2 := dNx_bd bs x1.2 (20 - 4 + 1)
  have c2 := fun (h2 : Hp) hh => vc_between bs x1.2 4 20 (.out i) h2 (by omega) (by omega) (by omega) hh
  obtain ⟨x2, hx2⟩ : ∃ x, x = dNx bs x1.2 (20 - 4 + 1) := ⟨_, rfl⟩
  rw [← hx2] at e2 c2
  have e3 := dNx_bd bs x2.2 50
  have c3 := fun (h2 : Hp) hh => vc_draw bs x2.2 50 (.out i) h2 (by omega) hh
  obtain ⟨x3, hx3⟩ : ∃ x, x = dNx bs x2.2 50 := ⟨_, rfl⟩
  rw [← hx3] at e3 c3
  have e4 := dNx_bd bs x3.2 2
  have c4 := fun (h2 : Hp) hh => vc_draw bs x3.2 2 (.out i) h2 (by omega) hh
  obtain ⟨x4, hx4⟩ : ∃ x, x = dNx bs x3.2 2 := ⟨_, rfl⟩
  rw [← hx4] at e4 c4
  have e5 := dNx_bd bs x4.2 (papers + 1)
  have c5 := fun (h2 : Hp) hh => vc_draw bs x4.2 (papers + 1) (.out i) h2 (by omega) hh
  obtain ⟨x5, hx5⟩ : ∃ x, x = dNx bs x4.2 (papers + 1) := ⟨_, rfl⟩
  rw [← hx5] at e5 c5
  have hE : mEnd bs d papers yrs = mIt bs yrs ⟨x5.2, x3.1, x4.1, []⟩ x5.1.toNat := by unfold mEnd m0 mN mD2; rw [← hx1, ← hx2, ← hx3, ← hx4, ← hx5]
  have hF : mFile bs d papers yrs = ⟨5 + x1.1, 4 + x2.1, (mEnd bs d papers yrs).ps⟩ := by unfold mFile mY mG; rw [← hx1, ← hx2]
  rw [hF, hE]
  have hk0 : MOk yrs 0 x5.2.1 ⟨x5.2, x3.1, x4.1, []⟩ := ⟨by simp only; omega, by simp only; omega, by simp only; omega, rfl, by simp, by simp⟩
  have hok := fun k => mIt_ok (bs := bs) hk0 (by omega) k
  obtain ⟨n, hn⟩ : ∃ n : Nat, x5.1 = n := ⟨x5.1.toNat, by omega⟩
  have hn16 : n ≤ 16 := by omega
  rw [hn, Int.toNat_natCast]
  rw [hn] at c5
  obtain ⟨M0, hM0⟩ : ∃ m, m = MS.mk x5.2 x3.1 x4.1 [] := ⟨_, rfl⟩
  rw [← hM0] at hok ⊢
  have hM1 : M0.d = x5.2 := by rw [hM0]
  have hM2 : M0.year = x3.1 := by rw [hM0]
  have hM3 : M0.side = x4.1 := by rw [hM0]
  have hM4 : M0.ps = [] := by rw [hM0]
  clear hE hF hk0 hx1 hx2 hx3 hx4 hx5 hM0
  refine VC.body Try.func25 rfl Try.ntmps25 Try.call25 (h.grows_set _ _) rfl ?_
  conv => whnf
  repeat' (first | (refine VLd.intro rfl ?_; conv => whnf) | (refine VArith.i64 (by first | omega | (dsimp only; omega)) ?_; conv => whnf) | (refine VNeed.intro (by first | rfl | (simp; omega)) ?_; conv => whnf) | (refine VMem.store rfl rfl rfl rfl ?_; conv => whnf) | (refine VSame.intro rfl ?_; conv => whnf) | (refine VDraw.go [] (by kernel_rfl) (by kernel_rfl) ?_; conv => whnf) | (refine VIte.dec (fun _ => ?_) (fun _ => ?_) <;> conv => whnf) | (refine VIte.ndec (fun _ => ?_) (fun _ => ?_) <;> conv => whnf) | (refine VIte.beq (fun _ => ?_) (fun _ => ?_) <;> conv => whnf) | (refine VIte.bne (fun _ => ?_) (fun _ => ?_) <;> conv => whnf) | (refine VIte.intro (fun _ => ?_) (fun _ => ?_) <;> conv => whnf) | (refine VCall.intro (c1 _ (get_out hd _)) ?_; conv => whnf) | (refine VCall.intro (c2 _ (outW_get _ _ _ _)) ?_; conv => whnf) | (refine VCall.intro (c3 _ (outW_get _ _ _ _)) ?_; conv => whnf) | (refine VCall.intro (c4 _ (outW_get _ _ _ _)) ?_; conv => whnf) | (refine VCall.intro (c5 _ (outW_get _ _ _ _)) ?_; conv => whnf))
  refine VCode.lpo (fun y : Nat × MS => [(0, .ptr (.out i) 0), (2, I yrs), (6, .ptr (.loc 0) 0), (7, .ptr (.loc 1) 0), (8, I y.2.year), (9, I y.2.side), (23, I n), (24, I y.1)]) (fun y => outW h.lift i (deckB bs y.2.d))
    (fun y => [.flat true [DI 0, DI 0, .nilslice], .cells true [I (5 + x1.1), I (4 + x2.1), .gl (.loc 2) 3 y.2.ps.length], .flat true (y.2.ps.flatMap encP)]) (fun y => y.1 ≤ n ∧ y.2 = mIt bs yrs M0 y.1) (fun y => n - y.1) (0, M0) ⟨Nat.zero_le _, rfl⟩ ?_ ?_ ?_
  · rw [← hM1]; funext j; by_cases e : j = i <;> simp [outW, e, Hp.set]
  · conv => whnf
    rw [← hM2, ← hM3, hM4]
    refine Retell.turn ⟨[0,1,2], 2, [], []⟩ (TurnOk.mk' _ _ [] [] (OutOk.outW (OutOk.lift _) rfl) rfl (by decide) (by repeat' (first | exact BTos.nil | refine BTos.flat rfl rfl (by first | rfl | simp) ?_ | refine BTos.new rfl ?_ | refine BTos.dead rfl rfl ?_ | refine BTos.esE rfl rfl ?_ | refine BTos.row rfl rfl rfl (RowTo.snoc (RowTo.one rfl (by simp))) ?_ | refine BTos.cells rfl rfl rfl (by repeat' (first | exact VTo.undef | exact FrTo.leaf | refine FrTo.node ?_ ?_ ?_ | refine FrTo.none ?_ ?_ | exact VTo.sc (by first | rfl | (congr 1; omega) | (congr 1; simp; omega)) | exact VTos_dv _ _ | refine VTos.cons ?_ ?_ | exact VTos.nil | refine VTo.agg ?_ | refine VTo.tuple ?_ | refine VTo.func ?_ ?_ | exact VTo.fs | exact VTo.fp | exact VTo.nilptr | exact VTo.nilslice | exact VTo.nilfunc | exact VTo.ptr rfl | exact VTo.gl rfl | exact VTo.map rfl | exact VTo.yld rfl | exact VTo.fmMap rfl | exact VTo.fm | exact VTo.glNil' (by decide) rfl rfl | exact VTo.fsNil (by decide) | exact VTo.fsSl rfl rfl (by simp [flat_len encE_len]) | exact VTo.fpPtr rfl | exact VTo.fsGl rfl (by first | rfl | exact flat_len encI_len _ | exact flat_len encS_len _ | exact flat_len encP_len _ | exact flat_len encL_len _ | exact flat_len encE_len _ | (simp [flat_len encP_len]; done) | simp [flat_len encI_len, flat_len encS_len]))) ?_)) trivial trivial rfl) (by repeat' (first | exact VTo.undef | exact FrTo.leaf | refine FrTo.node ?_ ?_ ?_ | refine FrTo.none ?_ ?_ | exact VTo.sc (by first | rfl | (congr 1; omega) | (congr 1; simp; omega)) | exact VTos_dv _ _ | refine VTos.cons ?_ ?_ | exact VTos.nil | refine VTo.agg ?_ | refine VTo.tuple ?_ | refine VTo.func ?_ ?_ | exact VTo.fs | exact VTo.fp | exact VTo.nilptr | exact VTo.nilslice | exact VTo.nilfunc | exact VTo.ptr rfl | exact VTo.gl rfl | exact VTo.map rfl | exact VTo.yld rfl | exact VTo.fmMap rfl | exact VTo.fm | exact VTo.glNil' (by decide) rfl rfl | exact VTo.fsNil (by decide) | exact VTo.fsSl rfl rfl (by simp [flat_len encE_len]) | exact VTo.fpPtr rfl | exact VTo.fsGl rfl (by first | rfl | exact flat_len encI_len _ | exact flat_len encS_len _ | exact flat_len encP_len _ | exact flat_len encL_len _ | exact flat_len encE_len _ | (simp [flat_len encP_len]; done) | simp [flat_len encI_len, flat_len encS_len]))) (by first | rfl | (repeat' (first | exact MkTo.nil | refine MkTo.keep rfl ?_ | refine MkTo.drop (by decide) rfl ?_)))
  · rintro ⟨k, m⟩ ⟨hk, hm⟩
    dsimp only at hk hm
    have hmk := hok k
    have hnx : mIt bs yrs M0 (k + 1) = mStep bs yrs m := by rw [mIt, hm]
    rw [← hm] at hmk
    obtain ⟨n1, n2, n3, n4, n5, n6⟩ := hmk
    have hkn : k ≤ 16 := by omega
    have q1 := dNx_bd bs m.d 6
    have g1 := fun (h2 : Hp) hh => vc_coin bs m.d 6 (.out i) h2 (by omega) hh
    unfold mStep at hnx
    obtain ⟨y1, hy1⟩ : ∃ y, y = dNx bs m.d 6 := ⟨_, rfl⟩
    rw [← hy1] at q1 g1 hnx
    have q2 := dNx_bd bs y1.2 yrs
    have g2 := fun (h2 : Hp) hh => vc_draw bs y1.2 yrs (.out i) h2 (by omega) hh
    obtain ⟨y2, hy2⟩ : ∃ y, y = dNx bs y1.2 yrs := ⟨_, rfl⟩
    rw [← hy2] at q2 g2 hnx
    have q3 := dNx_bd bs y2.2 (14 - 1 + 1)
    have g3 := fun (h2 : Hp) hh => vc_between bs y2.2 1 14 (.out i) h2 (by omega) (by omega) (by omega) hh
    obtain ⟨y3, hy3⟩ : ∃ y, y = dNx bs y2.2 (14 - 1 + 1) := ⟨_, rfl⟩
    rw [← hy3] at q3 g3 hnx
    clear hy1 hy2 hy3
    conv => whnf
    refine VIte.dec (fun h3 => ?_) (fun h3 => ?_)
    · conv => whnf
      repeat' (first | (refine VLd.intro rfl ?_; conv => whnf) | (refine VArith.i64 (by first | omega | (dsimp only; omega)) ?_; conv => whnf) | (refine VNeed.intro (by first | rfl | (simp; omega)) ?_; conv => whnf) | (refine VMem.store rfl rfl rfl rfl ?_; conv => whnf) | (refine VSame.intro rfl ?_; conv => whnf) | (refine VIte.dec (fun _ => ?_) (fun _ => ?_) <;> conv => whnf) | (refine VIte.ndec (fun _ => ?_) (fun _ => ?_) <;> conv => whnf) | (refine VIte.beq (fun _ => ?_) (fun _ => ?_) <;> conv => whnf) | (refine VIte.bne (fun _ => ?_) (fun _ => ?_) <;> conv => whnf) | (refine VIte.intro (fun _ => ?_) (fun _ => ?_) <;> conv => whnf) | (refine VCall.intro (g1 _ (outW_get _ _ _ _)) ?_; conv => whnf) | (refine VCall.intro (g2 _ (outW_get _ _ _ _)) ?_; conv => whnf) | (refine VCall.intro (g3 _ (outW_get _ _ _ _)) ?_; conv => whnf))
      · rename_i hc
        have hnx : mIt bs yrs M0 (k + 1) = ⟨y3.2, m.year + y2.1 + (1 + y3.1), 1 - m.side, m.ps ++ [⟨1 - m.side, m.year, m.year + y2.1⟩]⟩ := by rw [hnx, hc]; rfl
        refine VMem.app1 (l := m.ps) (⟨1 - m.side, m.year, m.year + y2.1⟩ : Pap) encP_len rfl rfl rfl rfl rfl (by omega) ?_
        conv => whnf
        repeat' (first | (refine VLd.intro rfl ?_; conv => whnf) | (refine VArith.i64 (by first | omega | (dsimp only; omega)) ?_; conv => whnf) | (refine VNeed.intro (by first | rfl | (simp; omega)) ?_; conv => whnf) | (refine VMem.store rfl rfl rfl rfl ?_; conv => whnf) | (refine VSame.intro rfl ?_; conv => whnf) | (refine VIte.dec (fun _ => ?_) (fun _ => ?_) <;> conv => whnf) | (refine VIte.ndec (fun _ => ?_) (fun _ => ?_) <;> conv => whnf) | (refine VIte.beq (fun _ => ?_) (fun _ => ?_) <;> conv => whnf) | (refine VIte.bne (fun _ => ?_) (fun _ => ?_) <;> conv => whnf) | (refine VIte.intro (fun _ => ?_) (fun _ => ?_) <;> conv => whnf))
        refine VDraw.go [(2, 4)] (by kernel_rfl) (by kernel_rfl) ?_
        conv => whnf
        repeat' (first | (refine VLd.intro rfl ?_; conv => whnf) | (refine VArith.i64 (by first | omega | (dsimp only; omega)) ?_; conv => whnf) | (refine VNeed.intro (by first | rfl | (simp; omega)) ?_; conv => whnf) | (refine VMem.store rfl rfl rfl rfl ?_; conv => whnf) | (refine VSame.intro rfl ?_; conv => whnf) | (refine VIte.dec (fun _ => ?_) (fun _ => ?_) <;> conv => whnf) | (refine VIte.ndec (fun _ => ?_) (fun _ => ?_) <;> conv => whnf) | (refine VIte.beq (fun _ => ?_) (fun _ => ?_) <;> conv => whnf) | (refine VIte.bne (fun _ => ?_) (fun _ => ?_) <;> conv => whnf) | (refine VIte.intro (fun _ => ?_) (fun _ => ?_) <;> conv => whnf) | (refine VCall.intro (g3 _ (outW_get _ _ _ _)) ?_; conv => whnf))
        refine LEndO.intro (k + 1, _) ⟨by dsimp only; omega, hnx.symm⟩ (by dsimp only; omega) ?_ ?_
        · funext j; by_cases e : j = i <;> simp [outW, e, Hp.set]
        · conv => whnf
          rw [List.length_append]
          refine Retell.turn ⟨[0,1,5], 6, [], []⟩ (TurnOk.mk' _ _ [] [] (OutOk.outW (OutOk.lift _) rfl) rfl (by decide) (by repeat' (first | exact BTos.nil | refine BTos.flat rfl rfl (by first | rfl | simp) ?_ | refine BTos.new rfl ?_ | refine BTos.dead rfl rfl ?_ | refine BTos.esE rfl rfl ?_ | refine BTos.row rfl rfl rfl (RowTo.snoc (RowTo.one rfl (by simp))) ?_ | refine BTos.cells rfl rfl rfl (by repeat' (first | exact VTo.undef | exact FrTo.leaf | refine FrTo.node ?_ ?_ ?_ | refine FrTo.none ?_ ?_ | exact VTo.sc (by first | rfl | (congr 1; omega) | (congr 1; simp; omega)) | exact VTos_dv _ _ | refine VTos.cons ?_ ?_ | exact VTos.nil | refine VTo.agg ?_ | refine VTo.tuple ?_ | refine VTo.func ?_ ?_ | exact VTo.fs | exact VTo.fp | exact VTo.nilptr | exact VTo.nilslice | exact VTo.nilfunc | exact VTo.ptr rfl | exact VTo.gl rfl | exact VTo.map rfl | exact VTo.yld rfl | exact VTo.fmMap rfl | exact VTo.fm | exact VTo.glNil' (by decide) rfl rfl | exact VTo.fsNil (by decide) | exact VTo.fsSl rfl rfl (by simp [flat_len encE_len]) | exact VTo.fpPtr rfl | exact VTo.fsGl rfl (by first | rfl | exact flat_len encI_len _ | exact flat_len encS_len _ | exact flat_len encP_len _ | exact flat_len encL_len _ | exact flat_len encE_len _ | (simp [flat_len encP_len]; done) | simp [flat_len encI_len, flat_len encS_len]))) ?_)) trivial trivial rfl) (by repeat' (first | exact VTo.undef | exact FrTo.leaf | refine FrTo.node ?_ ?_ ?_ | refine FrTo.none ?_ ?_ | exact VTo.sc (by first | rfl | (congr 1; omega) | (congr 1; simp; omega)) | exact VTos_dv _ _ | refine VTos.cons ?_ ?_ | exact VTos.nil | refine VTo.agg ?_ | refine VTo.tuple ?_ | refine VTo.func ?_ ?_ | exact VTo.fs | exact VTo.fp | exact VTo.nilptr | exact VTo.nilslice | exact VTo.nilfunc | exact VTo.ptr rfl | exact VTo.gl rfl | exact VTo.map rfl | exact VTo.yld rfl | exact VTo.fmMap rfl | exact VTo.fm | exact VTo.glNil' (by decide) rfl rfl | exact VTo.fsNil (by decide) | exact VTo.fsSl rfl rfl (by simp [flat_len encE_len]) | exact VTo.fpPtr rfl | exact VTo.fsGl rfl (by first | rfl | exact flat_len encI_len _ | exact flat_len encS_len _ | exact flat_len encP_len _ | exact flat_len encL_len _ | exact flat_len encE_len _ | (simp [flat_len encP_len]; done) | simp [flat_len encI_len, flat_len encS_len]))) (by first | rfl | (repeat' (first | exact MkTo.nil | refine MkTo.keep rfl ?_ | refine MkTo.drop (by decide) rfl ?_)))
      · rename_i hc
        have hc2 : (y1.1 == 0) = false := by rw [beq_eq_false_iff_ne]; exact hc
        have hnx : mIt bs yrs M0 (k + 1) = ⟨y3.2, m.year + y2.1 + (1 + y3.1), m.side, m.ps ++ [⟨m.side, m.year, m.year + y2.1⟩]⟩ := by rw [hnx, hc2]; rfl
        repeat' (first | (refine VLd.intro rfl ?_; conv => whnf) | (refine VArith.i64 (by first | omega | (dsimp only; omega)) ?_; conv => whnf) | (refine VNeed.intro (by first | rfl | (simp; omega)) ?_; conv => whnf) | (refine VMem.store rfl rfl rfl rfl ?_; conv => whnf) | (refine VSame.intro rfl ?_; conv => whnf) | (refine VIte.dec (fun _ => ?_) (fun _ => ?_) <;> conv => whnf) | (refine VIte.ndec (fun _ => ?_) (fun _ => ?_) <;> conv => whnf) | (refine VIte.beq (fun _ => ?_) (fun _ => ?_) <;> conv => whnf) | (refine VIte.bne (fun _ => ?_) (fun _ => ?_) <;> conv => whnf) | (refine VIte.intro (fun _ => ?_) (fun _ => ?_) <;> conv => whnf) | (refine VCall.intro (g2 _ (outW_get _ _ _ _)) ?_; conv => whnf))
        refine VMem.app1 (l := m.ps) (⟨m.side, m.year, m.year + y2.1⟩ : Pap) encP_len rfl rfl rfl rfl rfl (by omega) ?_
        conv => whnf
        repeat' (first | (refine VLd.intro rfl ?_; conv => whnf) | (refine VArith.i64 (by first | omega | (dsimp only; omega)) ?_; conv => whnf) | (refine VNeed.intro (by first | rfl | (simp; omega)) ?_; conv => whnf) | (refine VMem.store rfl rfl rfl rfl ?_; conv => whnf) | (refine VSame.intro rfl ?_; conv => whnf) | (refine VIte.dec (fun _ => ?_) (fun _ => ?_) <;> conv => whnf) | (refine VIte.ndec (fun _ => ?_) (fun _ => ?_) <;> conv => whnf) | (refine VIte.beq (fun _ => ?_) (fun _ => ?_) <;> conv => whnf) | (refine VIte.bne (fun _ => ?_) (fun _ => ?_) <;> conv => whnf) | (refine VIte.intro (fun _ => ?_) (fun _ => ?_) <;> conv => whnf))
        refine VDraw.go [(2, 4)] (by kernel_rfl) (by kernel_rfl) ?_
        conv => whnf
        repeat' (first | (refine VLd.intro rfl ?_; conv => whnf) | (refine VArith.i64 (by first | omega | (dsimp only; omega)) ?_; conv => whnf) | (refine VNeed.intro (by first | rfl | (simp; omega)) ?_; conv => whnf) | (refine VMem.store rfl rfl rfl rfl ?_; conv => whnf) | (refine VSame.intro rfl ?_; conv => whnf) | (refine VIte.dec (fun _ => ?_) (fun _ => ?_) <;> conv => whnf) | (refine VIte.ndec (fun _ => ?_) (fun _ => ?_) <;> conv => whnf) | (refine VIte.beq (fun _ => ?_) (fun _ => ?_) <;> conv => whnf) | (refine VIte.bne (fun _ => ?_) (fun _ => ?_) <;> conv => whnf) | (refine VIte.intro (fun _ => ?_) (fun _ => ?_) <;> conv => whnf) | (refine VCall.intro (g3 _ (outW_get _ _ _ _)) ?_; conv => whnf))
        refine LEndO.intro (k + 1, _) ⟨by dsimp only; omega, hnx.symm⟩ (by dsimp only; omega) ?_ ?_
        · funext j; by_cases e : j = i <;> simp [outW, e, Hp.set]
        · conv => whnf
          rw [List.length_append]
          refine Retell.turn ⟨[0,1,5], 6, [], []⟩ (TurnOk.mk' _ _ [] [] (OutOk.outW (OutOk.lift _) rfl) rfl (by decide) (by repeat' (first | exact BTos.nil | refine BTos.flat rfl rfl (by first | rfl | simp) ?_ | refine BTos.new rfl ?_ | refine BTos.dead rfl rfl ?_ | refine BTos.esE rfl rfl ?_ | refine BTos.row rfl rfl rfl (RowTo.snoc (RowTo.one rfl (by simp))) ?_ | refine BTos.cells rfl rfl rfl (by repeat' (first | exact VTo.undef | exact FrTo.leaf | refine FrTo.node ?_ ?_ ?_ | refine FrTo.none ?_ ?_ | exact VTo.sc (by first | rfl | (congr 1; omega) | (congr 1; simp; omega)) | exact VTos_dv _ _ | refine VTos.cons ?_ ?_ | exact VTos.nil | refine VTo.agg ?_ | refine VTo.tuple ?_ | refine VTo.func ?_ ?_ | exact VTo.fs | exact VTo.fp | exact VTo.nilptr | exact VTo.nilslice | exact VTo.nilfunc | exact VTo.ptr rfl | exact VTo.gl rfl | exact VTo.map rfl | exact VTo.yld rfl | exact VTo.fmMap rfl | exact VTo.fm | exact VTo.glNil' (by decide) rfl rfl | exact VTo.fsNil (by decide) | exact VTo.fsSl rfl rfl (by simp [flat_len encE_len]) | exact VTo.fpPtr rfl | exact VTo.fsGl rfl (by first | rfl | exact flat_len encI_len _ | exact flat_len encS_len _ | exact flat_len encP_len _ | exact flat_len encL_len _ | exact flat_len encE_len _ | (simp [flat_len encP_len]; done) | simp [flat_len encI_len, flat_len encS_len]))) ?_)) trivial trivial rfl) (by repeat' (first | exact VTo.undef | exact FrTo.leaf | refine FrTo.node ?_ ?_ ?_ | refine FrTo.none ?_ ?_ | exact VTo.sc (by first | rfl | (congr 1; omega) | (congr 1; simp; omega)) | exact VTos_dv _ _ | refine VTos.cons ?_ ?_ | exact VTos.nil | refine VTo.agg ?_ | refine VTo.tuple ?_ | refine VTo.func ?_ ?_ | exact VTo.fs | exact VTo.fp | exact VTo.nilptr | exact VTo.nilslice | exact VTo.nilfunc | exact VTo.ptr rfl | exact VTo.gl rfl | exact VTo.map rfl | exact VTo.yld rfl | exact VTo.fmMap rfl | exact VTo.fm | exact VTo.glNil' (by decide) rfl rfl | exact VTo.fsNil (by decide) | exact VTo.fsSl rfl rfl (by simp [flat_len encE_len]) | exact VTo.fpPtr rfl | exact VTo.fsGl rfl (by first | rfl | exact flat_len encI_len _ | exact flat_len encS_len _ | exact flat_len encP_len _ | exact flat_len encL_len _ | exact flat_len encE_len _ | (simp [flat_len encP_len]; done) | simp [flat_len encI_len, flat_len encS_len]))) (by first | rfl | (repeat' (first | exact MkTo.nil | refine MkTo.keep rfl ?_ | refine MkTo.drop (by decide) rfl ?_)))
    · have hkn2 : k = n := by dsimp only at h3; omega
      subst hkn2
      rw [← hm]
      conv => whnf
      repeat' (first | (refine VLd.intro rfl ?_; conv => whnf) | (refine VArith.i64 (by first | omega | (dsimp only; omega)) ?_; conv => whnf) | (refine VNeed.intro (by first | rfl | (simp; omega)) ?_; conv => whnf) | (refine VMem.store rfl rfl rfl rfl ?_; conv => whnf) | (refine VSame.intro rfl ?_; conv => whnf) | (refine VIte.dec (fun _ => ?_) (fun _ => ?_) <;> conv => whnf) | (refine VIte.ndec (fun _ => ?_) (fun _ => ?_) <;> conv => whnf) | (refine VIte.beq (fun _ => ?_) (fun _ => ?_) <;> conv => whnf) | (refine VIte.bne (fun _ => ?_) (fun _ => ?_) <;> conv => whnf) | (refine VIte.intro (fun _ => ?_) (fun _ => ?_) <;> conv => whnf))
      refine VOut.turn ⟨[], 3, [(2, m.ps.flatMap encP)], []⟩ (loc' := []) (r1' := vF ⟨5 + x1.1, 4 + x2.1, m.ps⟩) (TurnOk.mk' [] 3 [(2, m.ps.flatMap encP)] [] (OutOk.outW (OutOk.lift _) rfl) rfl List.nodup_nil BTos.nil (FzAll.flat rfl FzAll.nil) trivial rfl) (by repeat' (first | exact VTo.undef | exact FrTo.leaf | refine FrTo.node ?_ ?_ ?_ | refine FrTo.none ?_ ?_ | exact VTo.sc (by first | rfl | (congr 1; omega) | (congr 1; simp; omega)) | exact VTos_dv _ _ | refine VTos.cons ?_ ?_ | exact VTos.nil | refine VTo.agg ?_ | refine VTo.tuple ?_ | refine VTo.func ?_ ?_ | exact VTo.fs | exact VTo.fp | exact VTo.nilptr | exact VTo.nilslice | exact VTo.nilfunc | exact VTo.ptr rfl | exact VTo.gl rfl | exact VTo.map rfl | exact VTo.yld rfl | exact VTo.fmMap rfl | exact VTo.fm | exact VTo.glNil' (by decide) rfl rfl | exact VTo.fsNil (by decide) | exact VTo.fsSl rfl rfl (by simp [flat_len encE_len]) | exact VTo.fpPtr rfl | exact VTo.fsGl rfl (by first | rfl | exact flat_len encI_len _ | exact flat_len encS_len _ | exact flat_len encP_len _ | exact flat_len encL_len _ | exact flat_len encE_len _ | (simp [flat_len encP_len]; done) | simp [flat_len encI_len, flat_len encS_len]))) ?_
      exact VOut.setF (L := 0) rfl hd fun _ => rfl
end Go.Proofs.Ytolnajnlcdacmaa

open Go.Vm
namespace Go.Proofs.Ytolnajnlcdacmaa
set_option maxRecDepth 20000
set_option maxHeartbeats 4000000

theorem chkGo_of : ∀ {ps : List Pap} {last : Int}, ps.Pairwise (fun p q => p.hi < q.lo) → (∀ p ∈ ps, ¬ badPap p ∧ last < p.lo) → chkGo ps last = 0
  | [], _, _, _ => rfl
  | p :: ps, last, h, hb => by
    obtain ⟨h1, h2⟩ := List.pairwise_cons.1 h
    obtain ⟨b1, b2⟩ := hb p (by simp)
    rw [chkGo, if_neg b1, if_neg (by omega)]
    exact chkGo_of h2 fun q hq => ⟨(hb q (by simp [hq])).1, h1 q hq⟩
/-- A file that is made is right, and not longer than it may be. -/
theorem mFile_ok (bs : List Int) (d : Nat × Int) {papers yrs : Int} (hp : 0 ≤ papers ∧ papers ≤ 16) (hy : 1 ≤ yrs ∧ yrs ≤ 4) :
    chk (mFile bs d papers yrs) = 0 ∧ ((mFile bs d papers yrs).ps.length : Int) ≤ papers ∧ (5 ≤ (mFile bs d papers yrs).Y ∧ (mFile bs d papers yrs).Y ≤ 60) ∧ (4 ≤ (mFile bs d papers yrs).G ∧ (mFile bs d papers yrs).G ≤ 20) ∧ (mEnd bs d papers yrs).d.1 ≤ d.1 + 60 := by
  have e1 := dNx_bd bs d (60 - 5 + 1)
  have e2 := dNx_bd bs (dNx bs d (60 - 5 + 1)).2 (20 - 4 + 1)
  have e3 := dNx_bd bs (mD2 bs d) 50
  have e4 := dNx_bd bs (dNx bs (mD2 bs d) 50).2 2
  have e5 := dNx_bd bs (dNx bs (dNx bs (mD2 bs d) 50).2 2).2 (papers + 1)
  have hk0 : MOk yrs 0 (dNx bs (dNx bs (dNx bs (mD2 bs d) 50).2 2).2 (papers + 1)).2.1 (m0 bs d papers) := by
    unfold m0
    exact ⟨by simp only; omega, by simp only; omega, by simp only; omega, rfl, by simp, by simp⟩
  have hok := mIt_ok (bs := bs) hk0 (by omega) (mN bs d papers)
  have hn : mN bs d papers ≤ 16 ∧ (mN bs d papers : Int) ≤ papers := by unfold mN; omega
  have hE : mIt bs yrs (m0 bs d papers) (mN bs d papers) = mEnd bs d papers yrs := rfl
  rw [hE] at hok
  obtain ⟨n1, n2, n3, n4, n5, n6⟩ := hok
  have hY : (mFile bs d papers yrs).Y = 5 + (dNx bs d (60 - 5 + 1)).1 := rfl
  have hG : (mFile bs d papers yrs).G = 4 + (dNx bs (dNx bs d (60 - 5 + 1)).2 (20 - 4 + 1)).1 := rfl
  have hps : (mFile bs d papers yrs).ps = (mEnd bs d papers yrs).ps := rfl
  refine ⟨?_, by rw [hps, n4]; exact hn.2, by rw [hY]; omega, by rw [hG]; omega, ?_⟩
  · unfold chk
    rw [if_neg (by rw [hY, hG]; omega), hps, if_neg (by rw [n4]; omega)]
    refine chkGo_of (n6 (-1) fun p hp => by have := (n5 p hp).2.1; omega) fun p hp => ?_
    have := n5 p hp
    refine ⟨?_, by omega⟩
    unfold badPap
    omega
  · have hd2 : (mD2 bs d).1 ≤ d.1 + 2 := by unfold mD2; omega
    omega
/-! ### A truth that is dealt -/

def tIt (bs : List Int) : List Pap → (Nat × Int) → List Int × (Nat × Int)
  | [], d => ([], d)
  | p :: r, d => ((p.lo + (dNx bs d (p.hi - p.lo + 1)).1) :: (tIt bs r (dNx bs d (p.hi - p.lo + 1)).2).1, (tIt bs r (dNx bs d (p.hi - p.lo + 1)).2).2)
theorem tIt_at {bs : List Int} {ps : List Pap} {k : Nat} {p : Pap} {d : Nat × Int} (h : ps[k]? = some p) : tIt bs (ps.drop k) d = ((p.lo + (dNx bs d (p.hi - p.lo + 1)).1) :: (tIt bs (ps.drop (k + 1)) (dNx bs d (p.hi - p.lo + 1)).2).1, (tIt bs (ps.drop (k + 1)) (dNx bs d (p.hi - p.lo + 1)).2).2) := by
  obtain ⟨hlt, rfl⟩ := List.getElem?_eq_some_iff.1 h
  rw [List.drop_eq_getElem_cons hlt, tIt]
theorem tIt_ok (bs : List Int) : ∀ (ps : List Pap) (d : Nat × Int), (∀ p ∈ ps, p.lo ≤ p.hi) → (tIt bs ps d).1.length = ps.length ∧ holdsS ps (tIt bs ps d).1 = true ∧ (tIt bs ps d).2.1 ≤ d.1 + ps.length
  | [], d, _ => ⟨rfl, by simp [holdsS], by simp [tIt]⟩
  | p :: r, d, h => by
    have e := dNx_bd bs d (p.hi - p.lo + 1)
    obtain ⟨i1, i2, i3⟩ := tIt_ok bs r (dNx bs d (p.hi - p.lo + 1)).2 (fun q hq => h q (by simp [hq]))
    have hp := h p (by simp)
    rw [tIt]
    refine ⟨by simp [i1], ?_, by simp only [List.length_cons]; omega⟩
    rw [holdsS, decide_eq_true (by omega), i2]; rfl
theorem vc_True (bs : List Int) (d : Nat × Int) (f : Fil) (i : Vm.Id) (h : Hp) (hN : d.1 ≤ 1000000) (h0 : chk f = 0) (hd : h.get i = some (deckB bs d)) :
    VC Try.prog 27 [.ptr i 0, vF f] h (ints (tIt bs f.ps d).1) (h.set i (deckB bs (tIt bs f.ps d).2)) := by
  have hn16 := (chk_zero h0).2.2.1
  have hpok := chk_pok h0
  obtain ⟨R, hR⟩ : ∃ R, R = tIt bs f.ps d := ⟨_, rfl⟩
  rw [← hR]
  refine VC.body Try.func27 rfl Try.ntmps27 Try.call27 (h.grows_set _ _) rfl ?_
  conv => whnf
  repeat' (first | (refine VLd.intro rfl ?_; conv => whnf) | (refine VArith.i64 (by first | omega | (dsimp only; omega)) ?_; conv => whnf) | (refine VNeed.intro (by first | rfl | (simp; omega)) ?_; conv => whnf) | (refine VMem.store rfl rfl rfl rfl ?_; conv => whnf) | (refine VSame.intro rfl ?_; conv => whnf) | (refine VIte.dec (fun _ => ?_) (fun _ => ?_) <;> conv => whnf) | (refine VIte.ndec (fun _ => ?_) (fun _ => ?_) <;> conv => whnf) | (refine VIte.beq (fun _ => ?_) (fun _ => ?_) <;> conv => whnf) | (refine VIte.bne (fun _ => ?_) (fun _ => ?_) <;> conv => whnf) | (refine VIte.intro (fun _ => ?_) (fun _ => ?_) <;> conv => whnf))
  refine VCode.lpo (fun y : Nat × List Int × (Nat × Int) => [(0, .ptr (.out i) 0), (5, .gl (.loc 0) 1 y.2.1.length), (9, paps f.ps), (10, I f.ps.length), (11, I y.1)]) (fun y => outW h.lift i (deckB bs y.2.2))
    (fun y => [.flat true (y.2.1.flatMap encI)]) (fun y => y.1 ≤ f.ps.length ∧ y.2.1.length = y.1 ∧ y.2.2.1 ≤ 1000000 + y.1 ∧ R = (y.2.1 ++ (tIt bs (f.ps.drop y.1) y.2.2).1, (tIt bs (f.ps.drop y.1) y.2.2).2)) (fun y => f.ps.length - y.1) (0, [], d) ⟨Nat.zero_le _, rfl, by dsimp only; omega, hR⟩ (outW_id (get_out hd [])) ?_ ?_
  · conv => whnf
    refine Retell.turn ⟨[1], 1, [], []⟩ (TurnOk.mk' _ _ [] [] (OutOk.outW (OutOk.lift _) rfl) rfl (by decide) (by repeat' (first | exact BTos.nil | refine BTos.flat rfl rfl (by first | rfl | simp) ?_ | refine BTos.new rfl ?_ | refine BTos.dead rfl rfl ?_ | refine BTos.esE rfl rfl ?_ | refine BTos.row rfl rfl rfl (RowTo.snoc (RowTo.one rfl (by simp))) ?_ | refine BTos.cells rfl rfl rfl (by repeat' (first | exact VTo.undef | exact FrTo.leaf | refine FrTo.node ?_ ?_ ?_ | refine FrTo.none ?_ ?_ | exact VTo.sc (by first | rfl | (congr 1; omega) | (congr 1; simp; omega)) | exact VTos_dv _ _ | refine VTos.cons ?_ ?_ | exact VTos.nil | refine VTo.agg ?_ | refine VTo.tuple ?_ | refine VTo.func ?_ ?_ | exact VTo.fs | exact VTo.fp | exact VTo.nilptr | exact VTo.nilslice | exact VTo.nilfunc | exact VTo.ptr rfl | exact VTo.gl rfl | exact VTo.map rfl | exact VTo.yld rfl | exact VTo.fmMap rfl | exact VTo.fm | exact VTo.glNil' (by decide) rfl rfl | exact VTo.fsNil (by decide) | exact VTo.fsSl rfl rfl (by simp [flat_len encE_len]) | exact VTo.fpPtr rfl | exact VTo.fsGl rfl (by first | rfl | exact flat_len encI_len _ | exact flat_len encS_len _ | exact flat_len encP_len _ | exact flat_len encL_len _ | exact flat_len encE_len _ | (simp [flat_len encP_len]; done) | simp [flat_len encI_len, flat_len encS_len]))) ?_)) trivial trivial rfl) (by repeat' (first | exact VTo.undef | exact FrTo.leaf | refine FrTo.node ?_ ?_ ?_ | refine FrTo.none ?_ ?_ | exact VTo.sc (by first | rfl | (congr 1; omega) | (congr 1; simp; omega)) | exact VTos_dv _ _ | refine VTos.cons ?_ ?_ | exact VTos.nil | refine VTo.agg ?_ | refine VTo.tuple ?_ | refine VTo.func ?_ ?_ | exact VTo.fs | exact VTo.fp | exact VTo.nilptr | exact VTo.nilslice | exact VTo.nilfunc | exact VTo.ptr rfl | exact VTo.gl rfl | exact VTo.map rfl | exact VTo.yld rfl | exact VTo.fmMap rfl | exact VTo.fm | exact VTo.glNil' (by decide) rfl rfl | exact VTo.fsNil (by decide) | exact VTo.fsSl rfl rfl (by simp [flat_len encE_len]) | exact VTo.fpPtr rfl | exact VTo.fsGl rfl (by first | rfl | exact flat_len encI_len _ | exact flat_len encS_len _ | exact flat_len encP_len _ | exact flat_len encL_len _ | exact flat_len encE_len _ | (simp [flat_len encP_len]; done) | simp [flat_len encI_len, flat_len encS_len]))) (by first | rfl | (repeat' (first | exact MkTo.nil | refine MkTo.keep rfl ?_ | refine MkTo.drop (by decide) rfl ?_)))
  · rintro ⟨k, l, e⟩ ⟨hk, hl, he, hRk⟩
    dsimp only at hk hl he hRk
    conv => whnf
    refine VIte.dec (fun h3 => ?_) (fun h3 => ?_)
    · have hp : f.ps[k]? = some f.ps[k] := List.getElem?_eq_getElem (by omega)
      have hpk := hpok f.ps[k] (List.getElem_mem (by omega))
      rw [tIt_at hp] at hRk
      generalize f.ps[k] = p at hp hpk hRk
      obtain ⟨p1, p2, p3, p4, p5⟩ := hpk
      have q1 := dNx_bd bs e (p.hi - p.lo + 1)
      have g1 := fun (h2 : Hp) hh => vc_between bs e p.lo p.hi (.out i) h2 (by omega) (by omega) (by omega) hh
      generalize dNx bs e (p.hi - p.lo + 1) = y1 at q1 g1 hRk
      conv => whnf
      repeat' (first | (refine VLd.intro rfl ?_; conv => whnf) | (refine VArith.i64 (by first | omega | (dsimp only; omega)) ?_; conv => whnf) | (refine VNeed.intro (by first | rfl | (simp; omega)) ?_; conv => whnf) | (refine VMem.store rfl rfl rfl rfl ?_; conv => whnf) | (refine VSame.intro rfl ?_; conv => whnf) | (refine VIte.dec (fun _ => ?_) (fun _ => ?_) <;> conv => whnf) | (refine VIte.ndec (fun _ => ?_) (fun _ => ?_) <;> conv => whnf) | (refine VIte.beq (fun _ => ?_) (fun _ => ?_) <;> conv => whnf) | (refine VIte.bne (fun _ => ?_) (fun _ => ?_) <;> conv => whnf) | (refine VIte.intro (fun _ => ?_) (fun _ => ?_) <;> conv => whnf) | (refine VAny.ix encP_len k rfl rfl hp ?_; conv => whnf) | (refine VCall.intro (g1 _ (outW_get _ _ _ _)) ?_; conv => whnf))
      refine VMem.app1 (p.lo + y1.1) encI_len rfl rfl rfl rfl rfl (by dsimp only; omega) ?_
      conv => whnf
      repeat' (first | (refine VLd.intro rfl ?_; conv => whnf) | (refine VArith.i64 (by first | omega | (dsimp only; omega)) ?_; conv => whnf) | (refine VNeed.intro (by first | rfl | (simp; omega)) ?_; conv => whnf) | (refine VMem.store rfl rfl rfl rfl ?_; conv => whnf) | (refine VSame.intro rfl ?_; conv => whnf) | (refine VIte.dec (fun _ => ?_) (fun _ => ?_) <;> conv => whnf) | (refine VIte.ndec (fun _ => ?_) (fun _ => ?_) <;> conv => whnf) | (refine VIte.beq (fun _ => ?_) (fun _ => ?_) <;> conv => whnf) | (refine VIte.bne (fun _ => ?_) (fun _ => ?_) <;> conv => whnf) | (refine VIte.intro (fun _ => ?_) (fun _ => ?_) <;> conv => whnf))
      refine LEndO.intro (k + 1, l ++ [p.lo + y1.1], y1.2) ⟨by dsimp only; omega, by simp [hl], by dsimp only; omega, by dsimp only; rw [hRk]; simp⟩ (by dsimp only; omega) ?_ ?_
      · funext j; by_cases e : j = i <;> simp [outW, e, Hp.set]
      · conv => whnf
        rw [List.length_append]
        refine Retell.turn ⟨[3], 4, [], []⟩ (TurnOk.mk' _ _ [] [] (OutOk.outW (OutOk.lift _) rfl) rfl (by decide) (by repeat' (first | exact BTos.nil | refine BTos.flat rfl rfl (by first | rfl | simp) ?_ | refine BTos.new rfl ?_ | refine BTos.dead rfl rfl ?_ | refine BTos.esE rfl rfl ?_ | refine BTos.row rfl rfl rfl (RowTo.snoc (RowTo.one rfl (by simp))) ?_ | refine BTos.cells rfl rfl rfl (by repeat' (first | exact VTo.undef | exact FrTo.leaf | refine FrTo.node ?_ ?_ ?_ | refine FrTo.none ?_ ?_ | exact VTo.sc (by first | rfl | (congr 1; omega) | (congr 1; simp; omega)) | exact VTos_dv _ _ | refine VTos.cons ?_ ?_ | exact VTos.nil | refine VTo.agg ?_ | refine VTo.tuple ?_ | refine VTo.func ?_ ?_ | exact VTo.fs | exact VTo.fp | exact VTo.nilptr | exact VTo.nilslice | exact VTo.nilfunc | exact VTo.ptr rfl | exact VTo.gl rfl | exact VTo.map rfl | exact VTo.yld rfl | exact VTo.fmMap rfl | exact VTo.fm | exact VTo.glNil' (by decide) rfl rfl | exact VTo.fsNil (by decide) | exact VTo.fsSl rfl rfl (by simp [flat_len encE_len]) | exact VTo.fpPtr rfl | exact VTo.fsGl rfl (by first | rfl | exact flat_len encI_len _ | exact flat_len encS_len _ | exact flat_len encP_len _ | exact flat_len encL_len _ | exact flat_len encE_len _ | (simp [flat_len encP_len]; done) | simp [flat_len encI_len, flat_len encS_len]))) ?_)) trivial trivial rfl) (by repeat' (first | exact VTo.undef | exact FrTo.leaf | refine FrTo.node ?_ ?_ ?_ | refine FrTo.none ?_ ?_ | exact VTo.sc (by first | rfl | (congr 1; omega) | (congr 1; simp; omega)) | exact VTos_dv _ _ | refine VTos.cons ?_ ?_ | exact VTos.nil | refine VTo.agg ?_ | refine VTo.tuple ?_ | refine VTo.func ?_ ?_ | exact VTo.fs | exact VTo.fp | exact VTo.nilptr | exact VTo.nilslice | exact VTo.nilfunc | exact VTo.ptr rfl | exact VTo.gl rfl | exact VTo.map rfl | exact VTo.yld rfl | exact VTo.fmMap rfl | exact VTo.fm | exact VTo.glNil' (by decide) rfl rfl | exact VTo.fsNil (by decide) | exact VTo.fsSl rfl rfl (by simp [flat_len encE_len]) | exact VTo.fpPtr rfl | exact VTo.fsGl rfl (by first | rfl | exact flat_len encI_len _ | exact flat_len encS_len _ | exact flat_len encP_len _ | exact flat_len encL_len _ | exact flat_len encE_len _ | (simp [flat_len encP_len]; done) | simp [flat_len encI_len, flat_len encS_len]))) (by first | rfl | (repeat' (first | exact MkTo.nil | refine MkTo.keep rfl ?_ | refine MkTo.drop (by decide) rfl ?_)))
    · have hkn2 : k = f.ps.length := by dsimp only at h3; omega
      subst hkn2
      rw [List.drop_of_length_le (Nat.le_refl _), tIt, List.append_nil] at hRk
      subst hRk
      conv => whnf
      repeat' (first | (refine VLd.intro rfl ?_; conv => whnf) | (refine VArith.i64 (by first | omega | (dsimp only; omega)) ?_; conv => whnf) | (refine VNeed.intro (by first | rfl | (simp; omega)) ?_; conv => whnf) | (refine VMem.store rfl rfl rfl rfl ?_; conv => whnf) | (refine VSame.intro rfl ?_; conv => whnf) | (refine VIte.dec (fun _ => ?_) (fun _ => ?_) <;> conv => whnf) | (refine VIte.ndec (fun _ => ?_) (fun _ => ?_) <;> conv => whnf) | (refine VIte.beq (fun _ => ?_) (fun _ => ?_) <;> conv => whnf) | (refine VIte.bne (fun _ => ?_) (fun _ => ?_) <;> conv => whnf) | (refine VIte.intro (fun _ => ?_) (fun _ => ?_) <;> conv => whnf))
      refine VOut.turn ⟨[], 1, [(0, l.flatMap encI)], []⟩ (loc' := []) (r1' := ints l) (TurnOk.mk' [] 1 [(0, l.flatMap encI)] [] (OutOk.outW (OutOk.lift _) rfl) rfl List.nodup_nil BTos.nil (FzAll.flat rfl FzAll.nil) trivial rfl) (by repeat' (first | exact VTo.undef | exact FrTo.leaf | refine FrTo.node ?_ ?_ ?_ | refine FrTo.none ?_ ?_ | exact VTo.sc (by first | rfl | (congr 1; omega) | (congr 1; simp; omega)) | exact VTos_dv _ _ | refine VTos.cons ?_ ?_ | exact VTos.nil | refine VTo.agg ?_ | refine VTo.tuple ?_ | refine VTo.func ?_ ?_ | exact VTo.fs | exact VTo.fp | exact VTo.nilptr | exact VTo.nilslice | exact VTo.nilfunc | exact VTo.ptr rfl | exact VTo.gl rfl | exact VTo.map rfl | exact VTo.yld rfl | exact VTo.fmMap rfl | exact VTo.fm | exact VTo.glNil' (by decide) rfl rfl | exact VTo.fsNil (by decide) | exact VTo.fsSl rfl rfl (by simp [flat_len encE_len]) | exact VTo.fpPtr rfl | exact VTo.fsGl rfl (by first | rfl | exact flat_len encI_len _ | exact flat_len encS_len _ | exact flat_len encP_len _ | exact flat_len encL_len _ | exact flat_len encE_len _ | (simp [flat_len encP_len]; done) | simp [flat_len encI_len, flat_len encS_len]))) ?_
      exact VOut.setF (L := 0) rfl hd fun _ => rfl
theorem tIt_tru (bs : List Int) (d : Nat × Int) {f : Fil} (h0 : chk f = 0) : (tIt bs f.ps d).1 ∈ tru f.ps ∧ (tIt bs f.ps d).2.1 ≤ d.1 + 16 := by
  have hn16 := (chk_zero h0).2.2.1
  obtain ⟨h1, h2, h3⟩ := tIt_ok bs f.ps d fun p hp => (chk_pok h0 p hp).le
  exact ⟨mem_tru.2 ⟨h1, h2⟩, by omega⟩
end Go.Proofs.Ytolnajnlcdacmaa

open Go.Vm
namespace Go.Proofs.Ytolnajnlcdacmaa
set_option maxRecDepth 20000
set_option maxHeartbeats 4000000

theorem arL_mem {f : Fil} {t : List Int} {x : Int} : x ∈ arL f t ↔ ∃ p : Nat, p < t.length ∧ x = p ∧ arB f t p = true := mem_selS
/-- A chain. -/
structure Seg (f : Fil) (t : List Int) (lo hi : Nat) : Prop where
  le : lo ≤ hi
  lt : hi < t.length
  hb : bgB f t lo = true
  hn : ∀ j, lo < j → j ≤ hi → bgB f t j = false
theorem Seg.ar {f : Fil} {t : List Int} {lo hi p : Nat} (s : Seg f t lo hi) (h1 : lo ≤ p) (h2 : p ≤ hi) : arB f t p = true ↔ f.Y ≤ tAt t p - tAt t lo ∧ tAt t (p - 1) - tAt t lo < f.Y := by
  unfold arB
  rw [fst_seg s.hb s.hn p h1 h2, decide_eq_true_eq]
theorem Seg.find {f : Fil} {t : List Int} {lo : Nat} (hY : 1 ≤ f.Y) : ∀ d, f.Y ≤ tAt t (lo + d) - tAt t lo → ∃ p, lo < p ∧ p ≤ lo + d ∧ f.Y ≤ tAt t p - tAt t lo ∧ tAt t (p - 1) - tAt t lo < f.Y
  | 0, h => by rw [Nat.add_zero] at h; omega
  | d + 1, h => by
    by_cases h1 : f.Y ≤ tAt t (lo + d) - tAt t lo
    · obtain ⟨p, q1, q2, q3, q4⟩ := Seg.find hY d h1
      exact ⟨p, q1, by omega, q3, q4⟩
    · exact ⟨lo + (d + 1), by omega, Nat.le_refl _, h, by rw [show lo + (d + 1) - 1 = lo + d by omega]; omega⟩
structure Hold (R : Prop) : Prop where
  out : R
theorem suffices_ {R G : Prop} (main : Hold R → G) (rest : R) : G := main ⟨rest⟩
end Go.Proofs.Ytolnajnlcdacmaa

open Go.Vm
namespace Go.Proofs.Ytolnajnlcdacmaa
open Go.ChangeShapes Go.WideShapes Go.ChangeAt Go.RowKit

def dU (l : List Int) : D := .sl 1 l.length (l.flatMap encU)
theorem openU : OpenV Try.prog 49 dU := OpenV.slice Try.underlying49 (Opens.slice Try.underlying49 encU_len (by kernel_rfl) (by decide) (Opens.int Try.underlying5))
end Go.Proofs.Ytolnajnlcdacmaa

open Go.Vm
namespace Go.Proofs.Ytolnajnlcdacmaa
set_option maxRecDepth 20000
set_option maxHeartbeats 4000000

/-- The owner is Nobody, and no right arose, or it is the side of the paper with which the last one arose. -/
theorem own_cases {f : Fil} {t : List Int} (h0 : chk f = 0) (ht : t ∈ tru f.ps) : (arL f t = [] ∧ own f t = (2, 0)) ∨
    ∃ (j : Nat) (p : Pap) (y : Int), 0 < (arL f t).length ∧ (arL f t)[(arL f t).length - 1]? = some (j : Int) ∧ f.ps[j]? = some p ∧ t[j]? = some y ∧ own f t = (p.side, y) ∧ (p.side = 0 ∨ p.side = 1) := by
  have hl := (mem_tru.1 ht).1
  rcases ownS_sel f t t.length with h | ⟨l, j, h1, h2, h3, h4⟩
  · exact .inl h
  · right
    have hp : f.ps[j]? = some f.ps[j] := List.getElem?_eq_getElem (by omega)
    have hy : t[j]? = some t[j] := List.getElem?_eq_getElem (by omega)
    have e : arL f t = l ++ [(j : Int)] := h1
    refine ⟨j, f.ps[j], t[j], by rw [e]; simp, by rw [e]; simp, hp, hy, ?_, (chk_pok h0 _ (List.getElem_mem _)).side⟩
    rw [← sdAt_eq hp, ← tAt_eq hy]
    exact h4
theorem mem_osG {f : Fil} (h0 : chk f = 0) {x : Int} (hx : 0 ≤ x ∧ x ≤ 2) : x ∈ osG f ↔ isG f x = true := by
  rw [osG_eq h0, isG_eq h0]; exact mem_osL hx
/-- When the owner's right arose lies in what is told. -/
theorem since_of {f : Fil} {t : List Int} {x y : Int} (h0 : chk f = 0) (ht : t ∈ tru f.ps) (ho : own f t = (x, y)) (hx : x = 0 ∨ x = 1) :
    ∃ lo hi, sinceR f x = .tuple [.agg [I lo, I hi], I 0] ∧ lo ≤ y ∧ y ≤ hi := by
  obtain ⟨s1, s2⟩ := sn_spec f x
  have hf : (sn f x).found = true := by
    cases hf : (sn f x).found
    · exact absurd ⟨t, ht, ho⟩ (s1 hf y)
    · rfl
  have e := s2 hf
  have he : sinceE f x = 0 := by unfold sinceE; rw [if_neg (by simpa using h0), if_neg (by omega), hf]; rfl
  refine ⟨(sn f x).lo, (sn f x).hi, ?_, e.lo2 y ⟨t, ht, ho⟩, e.hi2 y ⟨t, ht, ho⟩⟩
  unfold sinceR
  rw [he]; rfl
end Go.Proofs.Ytolnajnlcdacmaa

open Go.Vm
namespace Go.Proofs.Ytolnajnlcdacmaa
set_option maxRecDepth 20000
set_option maxHeartbeats 1000000

/-- Papers that are made: their order, and where they lie. -/
theorem mFile_paps (bs : List Int) (d : Nat × Int) {papers yrs : Int} (hp : 0 ≤ papers ∧ papers ≤ 16) (hy : 1 ≤ yrs ∧ yrs ≤ 4) :
    (mFile bs d papers yrs).ps.Pairwise (fun p q => p.hi < q.lo) ∧ ∀ p ∈ (mFile bs d papers yrs).ps, (p.side = 0 ∨ p.side = 1) ∧ 0 ≤ p.lo ∧ p.lo ≤ p.hi ∧ p.hi ≤ p.lo + 3 ∧ p.hi ≤ 370 := by
  have e3 := dNx_bd bs (mD2 bs d) 50
  have e4 := dNx_bd bs (dNx bs (mD2 bs d) 50).2 2
  have e5 := dNx_bd bs (dNx bs (dNx bs (mD2 bs d) 50).2 2).2 (papers + 1)
  have hk0 : MOk yrs 0 (dNx bs (dNx bs (dNx bs (mD2 bs d) 50).2 2).2 (papers + 1)).2.1 (m0 bs d papers) := by
    unfold m0
    exact ⟨by simp only; omega, by simp only; omega, by simp only; omega, rfl, by simp, by simp⟩
  have hok := mIt_ok (bs := bs) hk0 (by omega) (mN bs d papers)
  have hn : mN bs d papers ≤ 16 ∧ (mN bs d papers : Int) ≤ papers := by unfold mN; omega
  have hE : mIt bs yrs (m0 bs d papers) (mN bs d papers) = mEnd bs d papers yrs := rfl
  rw [hE] at hok
  obtain ⟨n1, n2, n3, n4, n5, n6⟩ := hok
  have hps : (mFile bs d papers yrs).ps = (mEnd bs d papers yrs).ps := rfl
  rw [hps]
  refine ⟨n6 (-1) fun p hp => by have := (n5 p hp).2.1; omega, fun p hp => ?_⟩
  have := n5 p hp
  omega
/-- A file and its years, told otherwise. -/
structure Aff (f : Fil) (t : List Int) (g : Fil) (u : List Int) (a b : Int) : Prop where
  ha : a = 1 ∨ a = 3
  Y : g.Y = a * f.Y
  G : g.G = a * f.G
  len : u.length = t.length
  at_ : ∀ i, i < t.length → tAt u i = a * tAt t i + b
  sd : ∀ i, i < t.length → (sdAt g i = sdAt g (i - 1) ↔ sdAt f i = sdAt f (i - 1))
variable {f g : Fil} {t u : List Int} {a b : Int}
theorem Aff.bg (A : Aff f t g u a b) {i : Nat} (hi : i < t.length) : bgB g u i = bgB f t i := by
  unfold bgB
  rw [A.at_ i hi, A.at_ (i - 1) (by omega), A.G]
  have := A.sd i hi
  have e : (i = 0 ∨ sdAt g i ≠ sdAt g (i - 1) ∨ a * f.G < a * tAt t i + b - (a * tAt t (i - 1) + b)) ↔ (i = 0 ∨ sdAt f i ≠ sdAt f (i - 1) ∨ f.G < tAt t i - tAt t (i - 1)) := by
    rw [Ne, Ne, this]
    rcases A.ha with rfl | rfl <;> omega
  rw [decide_eq_decide]
  exact e
theorem Aff.fst (A : Aff f t g u a b) : ∀ {i : Nat}, i < t.length → fst g u i = fst f t i
  | 0, _ => rfl
  | i + 1, hi => by
    rw [Proofs.Ytolnajnlcdacmaa.fst, Proofs.Ytolnajnlcdacmaa.fst, A.bg hi, A.fst (by omega)]
theorem Aff.ar (A : Aff f t g u a b) {i : Nat} (hi : i < t.length) : arB g u i = arB f t i := by
  unfold arB
  have hf := fst_le f t i
  rw [A.fst hi, A.at_ i hi, A.at_ (i - 1) (by omega), A.at_ (Proofs.Ytolnajnlcdacmaa.fst f t i) (by omega), A.Y, decide_eq_decide]
  rcases A.ha with rfl | rfl <;> omega
theorem selS_congr {q r : Nat → Bool} : ∀ {k : Nat}, (∀ i, i < k → q i = r i) → selS q k = selS r k
  | 0, _ => rfl
  | k + 1, h => by rw [selS, selS, h k (by omega), selS_congr fun i hi => h i (by omega)]
theorem Aff.arL (A : Aff f t g u a b) : arL g u = arL f t := by
  unfold Proofs.Ytolnajnlcdacmaa.arL
  rw [A.len]
  exact selS_congr fun i hi => A.ar hi
theorem Aff.own (A : Aff f t g u a b) (σ : Int → Int) (h2 : σ 2 = 2) (hs : ∀ i, i < t.length → sdAt g i = σ (sdAt f i)) : (own g u).1 = σ (own f t).1 := by
  unfold Proofs.Ytolnajnlcdacmaa.own
  rw [A.len]
  have : ∀ k, k ≤ t.length → (ownS g u k).1 = σ (ownS f t k).1 := by
    intro k
    induction k with
    | zero => intro _; exact h2.symm
    | succ k ih =>
      intro hk
      rw [ownS, ownS, A.ar (by omega)]
      split
      · exact hs k (by omega)
      · exact ih (by omega)
  exact this _ (Nat.le_refl _)
end Go.Proofs.Ytolnajnlcdacmaa

open Go.Vm
namespace Go.Vm

theorem flat_set2 {α : Type} {enc : α → List D} {m : Nat} (hm : ∀ a, (enc a).length = m) {a' : α} {c : Nat} {d e : D} : ∀ {l : List α} {j : Nat} {a : α}, l[j]? = some a → c + 1 < m → ((enc a).set c d).set (c + 1) e = enc a' →
    ((l.flatMap enc).set (j * m + c) d).set (j * m + c + 1) e = (l.set j a').flatMap enc
  | [], j, a, h, _, _ => by simp at h
  | x :: l, 0, a, h, hc, hs => by
    simp at h; subst h
    rw [Nat.zero_mul, Nat.zero_add, List.flatMap_cons, List.set_append_left _ _ (by rw [hm]; omega), List.set_append_left _ _ (by rw [List.length_set, hm]; omega), hs, List.set_cons_zero, List.flatMap_cons]
  | x :: l, j + 1, a, h, hc, hs => by
    rw [List.flatMap_cons, List.set_append_right _ _ (by rw [hm, Nat.add_mul]; omega), List.set_append_right _ _ (by rw [hm, Nat.add_mul]; omega), List.set_cons_succ, List.flatMap_cons, hm]
    congr 1
    rw [show (j + 1) * m + c - m = j * m + c by rw [Nat.add_mul]; omega, show (j + 1) * m + c + 1 - m = j * m + c + 1 by rw [Nat.add_mul]; omega]
    exact flat_set2 hm (by simpa using h) hc hs
/-- A store of two cells into a record of a list of one's own. -/
theorem VMem.setRec2 {P : Program} {α : Type} {enc : α → List D} {m : Nat} (hm : ∀ a, (enc a).length = m) {t : TypeId} {i : Id} {off : Nat} {x y : S} {ti : TI} {h : Hp} {l : List α} {a : α} {K : V → Hp → Prop} (j c : Nat) (a' : α) (hTt : tiOf P t = some ti) (hl : Nat.beq 2 ti.size = true) (hb : h.get i = some (.flat true (l.flatMap enc)))
    (hj : l[j]? = some a) (hc : c + 1 < m) (hs : ((enc a).set c (.s x)).set (c + 1) (.s y) = enc a') (ho : off = j * m + c) (hK : K .undef ((h.set i (.flat true ((l.flatMap enc).set off (.s x)))).set i (.flat true ((l.set j a').flatMap enc)))) : VMem P (opStore t) [.ptr i off, .agg [.s x, .s y]] h K := by
  have hlt : off + 1 < (l.flatMap enc).length := by
    obtain ⟨hlt, _⟩ := List.getElem?_eq_some_iff.1 hj
    rw [flat_len hm, ho]
    have : (j + 1) * m ≤ l.length * m := Nat.mul_le_mul_right _ hlt
    rw [Nat.add_mul] at this; omega
  have h1 : off < (l.flatMap enc).length := by omega
  refine VMem.store (cs := [.s x, .s y]) hTt rfl hl ?_ hK
  simp only [Hp.wrN, Hp.wr1, hb, Blk.wr1, if_pos h1]
  rw [Hp.get_set _ _ _ _ (by rw [hb]; simp), if_pos rfl]
  simp only [List.length_set, if_pos hlt]
  rw [ho, flat_set2 hm hj hc hs]
end Go.Vm
namespace Go.Proofs.Ytolnajnlcdacmaa
set_option maxRecDepth 20000
set_option maxHeartbeats 4000000
theorem vc_clonePO (l : List Pap) (h : Hp) (hl : l.length ≤ 4000000) : VC Try.prog 53 [paps l] h (.gl h.fresh 3 l.length) (h.push (.flat true (l.flatMap encP))) := by
  refine VC.body Try.func53 rfl Try.ntmps53 Try.call53 (h.grows_push _) rfl ?_
  conv => whnf
  repeat (first | (refine VLd.intro rfl ?_; conv => whnf) | (refine VArith.i64 (by first | omega | (dsimp only; omega)) ?_; conv => whnf) | (refine VNeed.intro (by first | rfl | (simp; omega)) ?_; conv => whnf) | (refine VMem.store rfl rfl rfl rfl ?_; conv => whnf) | (refine VSame.intro rfl ?_; conv => whnf) | (refine VDraw.go [] (by kernel_rfl) (by kernel_rfl) ?_; conv => whnf))
  refine VMem.appNil encP_len rfl rfl rfl (by omega) ?_
  conv => whnf
  repeat (first | (refine VLd.intro rfl ?_; conv => whnf) | (refine VArith.i64 (by first | omega | (dsimp only; omega)) ?_; conv => whnf) | (refine VNeed.intro (by first | rfl | (simp; omega)) ?_; conv => whnf) | (refine VMem.store rfl rfl rfl rfl ?_; conv => whnf) | (refine VSame.intro rfl ?_; conv => whnf) | (refine VDraw.go [] (by kernel_rfl) (by kernel_rfl) ?_; conv => whnf))
  exact VOut.own1 0 1 rfl rfl
theorem vc_CloneFileO (f : Fil) (h : Hp) (hl : f.ps.length ≤ 4000000) : VC Try.prog 14 [vF f] h (.agg [I f.Y, I f.G, .gl h.fresh 3 f.ps.length]) (h.push (.flat true (f.ps.flatMap encP))) := by
  refine VC.body Try.func14 rfl Try.ntmps14 Try.call14 (h.grows_push _) rfl ?_
  conv => whnf
  repeat' (first | (refine VLd.intro rfl ?_; conv => whnf) | (refine VArith.i64 (by first | omega | (dsimp only; omega)) ?_; conv => whnf) | (refine VNeed.intro (by first | rfl | (simp; omega)) ?_; conv => whnf) | (refine VMem.store rfl rfl rfl rfl ?_; conv => whnf) | (refine VSame.intro rfl ?_; conv => whnf) | (refine VDraw.go [(1, 6), (3, 6)] (by kernel_rfl) (by kernel_rfl) ?_; conv => whnf) | (refine VIte.dec (fun _ => ?_) (fun _ => ?_) <;> conv => whnf) | (refine VIte.ndec (fun _ => ?_) (fun _ => ?_) <;> conv => whnf) | (refine VIte.beq (fun _ => ?_) (fun _ => ?_) <;> conv => whnf) | (refine VIte.bne (fun _ => ?_) (fun _ => ?_) <;> conv => whnf) | (refine VIte.intro (fun _ => ?_) (fun _ => ?_) <;> conv => whnf) | (refine VCall.intro (vc_clonePO f.ps _ hl) ?_; conv => whnf))
  exact VOut.own3 2 3 rfl rfl
end Go.Proofs.Ytolnajnlcdacmaa

open Go.Vm
namespace Go.Proofs.Ytolnajnlcdacmaa
open Go.ChangeShapes Go.WideShapes Go.ChangeAt Go.RowKit

def d8b (n : {n : Int // 0 ≤ n ∧ n ≤ 255}) : D := .s (.int .u8 n.1)
theorem openV_u8 {P : Program} {t : TypeId} (ht : P.underlying t = some (.int .u8)) : OpenV P t d8b := by
  intro W base H en v dd ps hok ⟨fuel, ht2⟩
  obtain ⟨n, h2, _, hw⟩ := DataW.trod_int ht ht2
  have hb : 0 ≤ n ∧ n ≤ 255 := by
    have hw2 : (decide ((0 : Int) ≤ n) && decide (n ≤ (255 : Int))) = true := hw
    simpa using hw2
  unfold Value.okWide at hok
  rw [ht] at hok
  simp only [Cell.okWide, ht] at hok
  refine ⟨⟨n, hb⟩, ?_⟩
  cases v <;> simp [Cell.ok, ht] at hok
  simp [Value.cells] at h2
  simp only [d8b, DR, S.val]
  rw [h2.1, h2.2]
theorem open8b : OpenV Try.prog 5 d8b := openV_u8 Try.underlying5
end Go.Proofs.Ytolnajnlcdacmaa

open Go.Vm
namespace Go.Proofs.Ytolnajnlcdacmaa
set_option maxRecDepth 20000
set_option maxHeartbeats 1000000

/-- A file that is dated more narrowly. -/
structure Nar (f g : Fil) : Prop where
  Y : g.Y = f.Y
  G : g.G = f.G
  len : g.ps.length = f.ps.length
  at_ : ∀ (i : Nat) p q, f.ps[i]? = some p → g.ps[i]? = some q → q.side = p.side ∧ p.lo ≤ q.lo ∧ q.lo ≤ q.hi ∧ q.hi ≤ p.hi
variable {f g : Fil} {t : List Int}
theorem Nar.chk (N : Nar f g) (h0 : chk f = 0) (hp : f.ps.Pairwise (fun p q => p.hi < q.lo)) : Proofs.Ytolnajnlcdacmaa.chk g = 0 := by
  obtain ⟨c1, c2, c3, c4⟩ := chk_zero h0
  have hat : ∀ (i : Nat) (q : Pap), g.ps[i]? = some q → ∃ p, f.ps[i]? = some p ∧ q.side = p.side ∧ p.lo ≤ q.lo ∧ q.lo ≤ q.hi ∧ q.hi ≤ p.hi := by
    intro i q hq
    have hi : i < f.ps.length := by rw [← N.len]; exact (List.getElem?_eq_some_iff.1 hq).1
    have hp : f.ps[i]? = some f.ps[i] := List.getElem?_eq_getElem hi
    exact ⟨_, hp, N.at_ i _ _ hp hq⟩
  unfold Proofs.Ytolnajnlcdacmaa.chk
  rw [if_neg (by rw [N.Y, N.G]; omega), if_neg (by rw [N.len]; omega)]
  refine chkGo_of ?_ ?_
  · rw [List.pairwise_iff_getElem] at hp ⊢
    intro i j hi hj hij
    obtain ⟨p, p1, p2⟩ := hat i _ (List.getElem?_eq_getElem hi)
    obtain ⟨q, q1, q2⟩ := hat j _ (List.getElem?_eq_getElem hj)
    have := hp i j (by rw [← N.len]; exact hi) (by rw [← N.len]; exact hj) hij
    obtain ⟨_, e1⟩ := List.getElem?_eq_some_iff.1 p1
    obtain ⟨_, e2⟩ := List.getElem?_eq_some_iff.1 q1
    rw [e1, e2] at this
    omega
  · intro q hq
    obtain ⟨i, hi⟩ := List.mem_iff_getElem?.1 hq
    obtain ⟨p, p1, p2⟩ := hat i q hi
    have := chk_pok h0 p (List.mem_of_getElem? p1)
    have b1 := this.side
    have b2 := this.lo
    have b3 := this.hi
    have b4 := this.le
    have b5 := this.near
    refine ⟨?_, by omega⟩
    unfold badPap
    omega
theorem Nar.tru (N : Nar f g) (h : t ∈ tru g.ps) : t ∈ Proofs.Ytolnajnlcdacmaa.tru f.ps := by
  obtain ⟨h1, h2⟩ := mem_tru.1 h
  have hl := N.len
  refine mem_tru.2 ⟨by omega, holdsS_of ?_⟩
  intro i p y hp hy
  have hi := (List.getElem?_eq_some_iff.1 hp).1
  have hq : g.ps[i]? = some g.ps[i] := List.getElem?_eq_getElem (by omega)
  have := N.at_ i p _ hp hq
  have := holdsS_get h2 hq hy
  omega
theorem Nar.sd (N : Nar f g) {i : Nat} (hi : i < f.ps.length) : sdAt g i = sdAt f i := by
  have hl := N.len
  have hp : f.ps[i]? = some f.ps[i] := List.getElem?_eq_getElem hi
  have hq : g.ps[i]? = some g.ps[i] := List.getElem?_eq_getElem (by omega)
  rw [sdAt_eq hp, sdAt_eq hq]
  exact (N.at_ i _ _ hp hq).1
theorem Nar.own (N : Nar f g) (hl : t.length = f.ps.length) : own g t = own f t := by
  have A : Aff f t g t 1 0 :=
    { ha := .inl rfl, Y := by rw [N.Y]; omega, G := by rw [N.G]; omega, len := rfl, at_ := fun i _ => by omega, sd := fun i hi => by rw [N.sd (by omega), N.sd (by omega)] }
  unfold Proofs.Ytolnajnlcdacmaa.own
  have : ∀ k, k ≤ t.length → ownS g t k = ownS f t k := by
    intro k
    induction k with
    | zero => intro _; rfl
    | succ k ih =>
      intro hk
      rw [ownS, ownS, A.ar (by omega), N.sd (by omega), ih (by omega)]
  exact this _ (Nat.le_refl _)
theorem Nar.osG (N : Nar f g) (h0 : Proofs.Ytolnajnlcdacmaa.chk f = 0) (h1 : Proofs.Ytolnajnlcdacmaa.chk g = 0) {x : Int} (hx : x ∈ osG g) : x ∈ Proofs.Ytolnajnlcdacmaa.osG f ∧ (0 ≤ x ∧ x ≤ 2) := by
  have hr : 0 ≤ x ∧ x ≤ 2 := by
    obtain ⟨j, j1, j2, _⟩ := mem_selS.1 hx
    omega
  have hi := (mem_osG h1 hr).1 hx
  rw [isG_eq h1] at hi
  refine ⟨(mem_osG h0 hr).2 ?_, hr⟩
  rw [isG_eq h0]
  unfold isOwn at hi ⊢
  rw [List.any_eq_true] at hi ⊢
  obtain ⟨t, t1, t2⟩ := hi
  rw [decide_eq_true_eq] at t2
  refine ⟨t, N.tru t1, ?_⟩
  rw [decide_eq_true_eq, ← N.own (mem_tru.1 (N.tru t1)).1]
  exact t2
theorem Nar.since (N : Nar f g) (h0 : Proofs.Ytolnajnlcdacmaa.chk f = 0) (h1 : Proofs.Ytolnajnlcdacmaa.chk g = 0) {x : Int} (hx : x ∈ Proofs.Ytolnajnlcdacmaa.osG g) (h01 : x = 0 ∨ x = 1) :
    ∃ a b c d, sinceR f x = .tuple [.agg [I a, I b], I 0] ∧ sinceR g x = .tuple [.agg [I c, I d], I 0] ∧ a ≤ c ∧ c ≤ d ∧ d ≤ b := by
  have hi := (mem_osG h1 (by omega)).1 hx
  rw [isG_eq h1] at hi
  unfold isOwn at hi
  rw [List.any_eq_true] at hi
  obtain ⟨t, t1, t2⟩ := hi
  rw [decide_eq_true_eq] at t2
  obtain ⟨lo, hi, w1, w2, w3⟩ := since_of h1 t1 (y := (Proofs.Ytolnajnlcdacmaa.own g t).2) (by rw [← t2]) h01
  have e := N.own (mem_tru.1 (N.tru t1)).1
  obtain ⟨s1, s2⟩ := sn_spec g x
  obtain ⟨s3, s4⟩ := sn_spec f x
  have hf : (sn g x).found = true := by
    cases hf : (sn g x).found
    · exact absurd ⟨t, t1, by rw [← t2]⟩ (s1 hf (Proofs.Ytolnajnlcdacmaa.own g t).2)
    · rfl
  have hf2 : (sn f x).found = true := by
    cases hf : (sn f x).found
    · exact absurd ⟨t, N.tru t1, by rw [← e, ← t2]⟩ (s3 hf (Proofs.Ytolnajnlcdacmaa.own g t).2)
    · rfl
  have E1 := s2 hf
  have E2 := s4 hf2
  have k1 : sinceE f x = 0 := by unfold sinceE; rw [if_neg (by simpa using h0), if_neg (by omega), hf2]; rfl
  have k2 : sinceE g x = 0 := by unfold sinceE; rw [if_neg (by simpa using h1), if_neg (by omega), hf]; rfl
  refine ⟨(sn f x).lo, (sn f x).hi, (sn g x).lo, (sn g x).hi, by unfold sinceR; rw [k1]; rfl, by unfold sinceR; rw [k2]; rfl, ?_, ?_, ?_⟩
  · obtain ⟨u, u1, u2⟩ := E1.lo1
    exact E2.lo2 _ ⟨u, N.tru u1, by rw [← N.own (mem_tru.1 (N.tru u1)).1]; exact u2⟩
  · exact E1.lo2 _ E1.hi1
  · obtain ⟨u, u1, u2⟩ := E1.hi1
    exact E2.hi2 _ ⟨u, N.tru u1, by rw [← N.own (mem_tru.1 (N.tru u1)).1]; exact u2⟩
/-! ### A greater gap, and fewer years -/
theorem fst_bg (f : Fil) (t : List Int) : ∀ i, bgB f t (fst f t i) = true
  | 0 => by simp [fst, bgB]
  | i + 1 => by
    rw [fst]
    by_cases h : bgB f t (i + 1) = true
    · rw [if_pos h]; exact h
    · rw [if_neg h]; exact fst_bg f t i
theorem fst_no (f : Fil) (t : List Int) : ∀ i j, fst f t i < j → j ≤ i → bgB f t j = false
  | 0, j, h1, h2 => by omega
  | i + 1, j, h1, h2 => by
    rw [fst] at h1
    by_cases h : bgB f t (i + 1) = true
    · rw [if_pos h] at h1; omega
    · rw [if_neg h] at h1
      rcases Nat.lt_or_ge i j with h3 | h3
      · rw [show j = i + 1 by omega]; simpa using h
      · exact fst_no f t i j h1 h3
theorem fst_wide {f g : Fil} (hp : g.ps = f.ps) (hG : f.G ≤ g.G) (t : List Int) : ∀ i, fst g t i ≤ fst f t i
  | 0 => Nat.le_refl _
  | i + 1 => by
    have hs : ∀ i, sdAt g i = sdAt f i := fun i => by unfold sdAt; rw [hp]
    have hb : bgB g t (i + 1) = true → bgB f t (i + 1) = true := by
      unfold bgB
      simp only [decide_eq_true_eq, hs]
      omega
    have := fst_wide hp hG t i
    have := fst_le g t i
    rw [fst, fst]
    by_cases h1 : bgB g t (i + 1) = true
    · rw [if_pos h1, if_pos (hb h1)]; exact Nat.le_refl _
    · rw [if_neg h1]
      split <;> omega
theorem arL_open {f g : Fil} {t : List Int} (o : Okt f t) (hp : g.ps = f.ps) (hG : f.G ≤ g.G) (hY : g.Y ≤ f.Y ∧ 1 ≤ g.Y) (h : arL f t ≠ []) : arL g t ≠ [] := by
  obtain ⟨x, hx⟩ := List.exists_mem_of_ne_nil _ h
  obtain ⟨i, i1, rfl, i2⟩ := arL_mem.1 hx
  unfold arB at i2
  rw [decide_eq_true_eq] at i2
  have h1 := fst_wide hp hG t i
  have h2 := fst_le f t i
  have h3 : tAt t (fst g t i) ≤ tAt t (fst f t i) := o.wide h1 (by omega)
  obtain ⟨d, hd⟩ : ∃ d, i = fst g t i + d := ⟨i - fst g t i, by omega⟩
  obtain ⟨p, p1, p2, p3, p4⟩ := Seg.find (f := g) (t := t) (lo := fst g t i) hY.2 d (by rw [← hd]; omega)
  have hfp : fst g t p = fst g t i := fst_seg (hi := i) (fst_bg g t i) (fst_no g t i) p (by omega) (by omega)
  refine List.ne_nil_of_mem (a := (p : Int)) (arL_mem.2 ⟨p, by omega, rfl, ?_⟩)
  unfold arB
  rw [decide_eq_true_eq, hfp]
  exact ⟨p3, p4⟩
theorem own_open {f g : Fil} {t : List Int} (h0 : chk f = 0) (h1 : chk g = 0) (ht : t ∈ tru f.ps) (hp : g.ps = f.ps) (hG : f.G ≤ g.G) (hY : g.Y ≤ f.Y ∧ 1 ≤ g.Y) (h : (own f t).1 ≠ 2) : (own g t).1 ≠ 2 := by
  have ht2 : t ∈ tru g.ps := by rw [hp]; exact ht
  rcases own_cases h0 ht with ⟨a, b⟩ | ⟨j, p, y, q1, _⟩
  · rw [b] at h; exact absurd rfl h
  · have := arL_open (tru_okt h0 ht) hp hG hY (List.ne_nil_of_length_pos q1)
    rcases own_cases h1 ht2 with ⟨a, b⟩ | ⟨j, p, y, _, _, _, _, e, hs⟩
    · exact absurd a this
    · rw [e]; dsimp only; omega
/-! ### The papers ahead -/
def cutF (f : Fil) (k : Nat) : Fil := ⟨f.Y, f.G, f.ps.take k⟩
theorem sdAt_cut {f : Fil} {k i : Nat} (h : i < k) : sdAt (cutF f k) i = sdAt f i := by
  unfold sdAt cutF
  simp only [List.getElem?_take, if_pos h]
theorem tAt_cut {t : List Int} {k i : Nat} (h : i < k) : tAt (t.take k) i = tAt t i := by
  unfold tAt
  simp only [List.getD_eq_getElem?_getD, List.getElem?_take, if_pos h]
theorem bg_cut {f : Fil} {t : List Int} {k i : Nat} (h : i < k) : bgB (cutF f k) (t.take k) i = bgB f t i := by
  unfold bgB
  rw [sdAt_cut h, sdAt_cut (by omega : i - 1 < k), tAt_cut h, tAt_cut (by omega : i - 1 < k)]; rfl
theorem fst_cut {f : Fil} {t : List Int} {k : Nat} : ∀ {i : Nat}, i < k → fst (cutF f k) (t.take k) i = fst f t i
  | 0, _ => rfl
  | i + 1, h => by rw [fst, fst, bg_cut h, fst_cut (by omega)]
theorem ar_cut {f : Fil} {t : List Int} {k i : Nat} (h : i < k) : arB (cutF f k) (t.take k) i = arB f t i := by
  have := fst_le f t i
  unfold arB
  rw [fst_cut h, tAt_cut h, tAt_cut (by omega : i - 1 < k), tAt_cut (by omega : fst f t i < k)]; rfl
theorem arL_cut {f : Fil} {t : List Int} {k : Nat} (hk : k ≤ t.length) : arL (cutF f k) (t.take k) = selS (arB f t) k := by
  unfold arL
  rw [List.length_take, Nat.min_eq_left hk]
  exact selS_congr fun i hi => ar_cut hi
theorem chk_cut {f : Fil} {k : Nat} (h0 : chk f = 0) (hp : f.ps.Pairwise (fun p q => p.hi < q.lo)) : chk (cutF f k) = 0 := by
  obtain ⟨c1, c2, c3, c4⟩ := chk_zero h0
  unfold chk cutF
  dsimp only
  rw [if_neg (by omega), if_neg (by rw [List.length_take]; omega)]
  refine chkGo_of (hp.sublist (List.take_sublist _ _)) fun p hq => ?_
  have hm := List.mem_of_mem_take hq
  have := (chk_pok h0 p hm).lo
  exact ⟨chkGo_zero c4 p hm, by omega⟩
theorem tru_cut {f : Fil} {t : List Int} {k : Nat} (hk : k ≤ f.ps.length) (ht : t ∈ tru f.ps) : t.take k ∈ tru (cutF f k).ps := by
  obtain ⟨h1, h2⟩ := mem_tru.1 ht
  unfold cutF
  refine mem_tru.2 ⟨by simp only [List.length_take]; omega, holdsS_of fun i p y hp hy => ?_⟩
  dsimp only at hp
  rw [List.getElem?_take] at hp hy
  split at hp
  · rw [if_pos (by assumption)] at hy
    exact holdsS_get h2 hp hy
  · cases hp
/-- Those that are below a number. -/
def blw (k : Nat) (l : List Int) : List Int := l.filter fun x => decide (x < (k : Int))
theorem blw_sel {q : Nat → Bool} {k : Nat} : ∀ {n : Nat}, k ≤ n → blw k (selS q n) = selS q k
  | 0, h => by rw [show k = 0 by omega]; rfl
  | n + 1, h => by
    rcases Nat.lt_or_ge n k with h1 | h1
    · rw [show k = n + 1 by omega]
      unfold blw
      rw [List.filter_eq_self]
      intro x hx
      obtain ⟨j, j1, j2, _⟩ := mem_selS.1 hx
      rw [decide_eq_true_eq]; omega
    · have ih := blw_sel (q := q) h1
      rw [selS]
      split
      · unfold blw at ih ⊢
        rw [List.filter_append, ih, List.filter_cons, decide_eq_false (by omega)]; simp
      · exact ih
theorem blw_at {k : Nat} {l : List Int} {j : Nat} {x : Int} (h : l[j]? = some x) : blw k (l.take (j + 1)) = blw k (l.take j) ++ (bif decide (x < (k : Int)) then [x] else []) := by
  unfold blw
  rw [List.take_add_one, h, List.filter_append]
  refine congrArg _ ?_
  simp only [Option.toList, List.filter_cons, List.filter_nil]
  cases decide (x < (k : Int)) <;> rfl
theorem blw_len (k : Nat) (l : List Int) : (blw k l).length ≤ l.length := List.length_filter_le _ _
end Go.Proofs.Ytolnajnlcdacmaa

open Go.Vm
namespace Go.Proofs.Ytolnajnlcdacmaa
set_option maxRecDepth 20000
set_option maxHeartbeats 4000000

theorem Nar.refl {f : Fil} (h0 : Proofs.Ytolnajnlcdacmaa.chk f = 0) : Nar f f := ⟨rfl, rfl, rfl, fun i p q h1 h2 => by
  rw [h1] at h2; cases h2
  have := (chk_pok h0 p (List.mem_of_getElem? h1)).le
  omega⟩
theorem Nar.set {f : Fil} {l : List Pap} (N : Nar f ⟨f.Y, f.G, l⟩) {k : Nat} {p a : Pap} {y z : Int} (hp : f.ps[k]? = some p) (ha : l[k]? = some a) (h : p.lo ≤ y ∧ y ≤ z ∧ z ≤ p.hi) : Nar f ⟨f.Y, f.G, l.set k ⟨a.side, y, z⟩⟩ :=
  ⟨rfl, rfl, by simpa using N.len, fun i p' q h1 h2 => by
    dsimp only at h2
    have hs := (N.at_ k p a hp ha).1
    by_cases e : k = i
    · subst e
      rw [hp] at h1; cases h1
      have hl := (List.getElem?_eq_some_iff.1 ha).1
      rw [List.getElem?_set_self hl] at h2
      cases h2
      exact ⟨hs, h⟩
    · rw [List.getElem?_set_ne e] at h2
      exact N.at_ i p' q h1 h2⟩
theorem fsTake {c : TCtx} {p off m k b : Nat} {q : Option Nat} {α : Type} {enc : α → List D} {l : List α} (hm : ∀ a, (enc a).length = m) (h : c.frz p (l.flatMap enc)) (ho : off = 0) (hk : k ≤ l.length) (hb : b = k) :
    VTo c (.slice (.loc p) off m k q) (.fs m b ((l.take k).flatMap enc)) := by
  subst ho hb
  simp only [VTo, VToFs]
  refine ⟨trivial, trivial, ?_, _, h, ?_, ?_⟩
  · rw [flat_len hm, List.length_take, Nat.min_eq_left hk]
  · rw [flat_len hm, Nat.zero_add]; exact Nat.mul_le_mul_right _ hk
  · rw [List.drop_zero, flat_takeD hm]
theorem vc_SilenceMore (ns ts : List Int) (mo : Int) (hmo : 0 ≤ mo ∧ mo ≤ 255) (fe : Int) (hfe : 0 ≤ fe ∧ fe ≤ 255) (h : Hp) : VC Try.prog 8 [bytes ns, bytes ts, .s (.int .u8 mo), .s (.int .u8 fe)] h (B true) h := by
  obtain ⟨k1, k2, k3, k4, k5⟩ := mFile_ok ns (0, 9) (papers := 10) (yrs := 4) (by omega) (by omega)
  have hpp := mFile_paps ns (0, 9) (papers := 10) (yrs := 4) (by omega) (by omega)
  have cM := fun (i : Vm.Id) (h : Hp) hd => vc_Made ns (0, 9) 10 4 i h (by decide) (by omega) (by omega) hd
  generalize mFile ns (0, 9) 10 4 = f at k1 k2 k3 k4 cM hpp
  generalize (mEnd ns (0, 9) 10 4).d = dE at cM
  have cT := fun (i : Vm.Id) (h : Hp) hd => vc_True ts (0, 9) f i h (by decide) k1 hd
  obtain ⟨t1, t2⟩ := tIt_tru ts (0, 9) k1
  generalize tIt ts f.ps (0, 9) = X at cT t1 t2
  obtain ⟨t, dT⟩ := X
  dsimp only at cT t1 t2
  have o := tru_okt k1 t1
  have ht := told_tru k1 t1
  have hn := o.n
  have hlen := o.len
  have cC := fun h => vc_CloneFileO f h (by omega)
  have hN0 := Nar.refl k1
  have hM : 0 ≤ mo.tmod 30 ∧ mo.tmod 30 < 30 := ⟨Int.tmod_nonneg _ hmo.1, Int.tmod_lt_of_pos _ (by decide)⟩
  have hF : 0 ≤ fe.tmod f.Y ∧ fe.tmod f.Y < f.Y := ⟨Int.tmod_nonneg _ hfe.1, Int.tmod_lt_of_pos _ (by omega)⟩
  refine VC.bodyC 3 Try.func8 rfl Try.ntmps8 Try.call8 (h.grows_refl) rfl ?_; conv => whnf
  repeat' (first | (refine VLd.intro rfl ?_; conv => whnf) | (refine VArith.i64 (by first | omega | (dsimp only; omega)) ?_; conv => whnf) | (refine VNeed.intro (by first | rfl | (simp; omega)) ?_; conv => whnf) | (refine VMem.store rfl rfl rfl rfl ?_; conv => whnf) | (refine VSame.intro rfl ?_; conv => whnf) | (refine VIte.dec (fun _ => ?_) (fun _ => ?_) <;> conv => whnf) | (refine VIte.ndec (fun _ => ?_) (fun _ => ?_) <;> conv => whnf) | (refine VIte.beq (fun _ => ?_) (fun _ => ?_) <;> conv => whnf) | (refine VIte.bne (fun _ => ?_) (fun _ => ?_) <;> conv => whnf) | (refine VIte.intro (fun _ => ?_) (fun _ => ?_) <;> conv => whnf) | (refine VCall.intro (vc_Of _ _) ?_; conv => whnf) | (refine VCall.intro (cM _ _ rfl) ?_; conv => whnf))
  refine VCut.at' 1 [(2, .s (.int .u8 mo)), (3, .s (.int .u8 fe)), (9, .fp (encF f)), (10, .ptr (.loc 0) 0)] [deckB ts (0, 9)] ?_ ?_
  · conv => whnf
    refine Retell.turn ⟨[2], 3, [(1, encF f)], []⟩ (TurnOk.mk' _ _ [(1, encF f)] [] (OutOk.lift _) rfl (by decide) (by repeat' (first | exact BTos.nil | refine BTos.flat rfl rfl (by first | rfl | simp) ?_ | refine BTos.new rfl ?_ | refine BTos.dead rfl rfl ?_ | refine BTos.esE rfl rfl ?_ | refine BTos.row rfl rfl rfl (RowTo.snoc (RowTo.one rfl (by simp))) ?_ | refine BTos.cells rfl rfl rfl (by repeat' (first | exact VTo.undef | exact FrTo.leaf | refine FrTo.node ?_ ?_ ?_ | refine FrTo.none ?_ ?_ | exact VTo.sc (by first | rfl | (congr 1; omega) | (congr 1; simp; omega)) | exact VTos_dv _ _ | refine VTos.cons ?_ ?_ | exact VTos.nil | refine VTo.agg ?_ | refine VTo.tuple ?_ | refine VTo.func ?_ ?_ | exact VTo.fs | exact VTo.fp | exact VTo.nilptr | exact VTo.nilslice | exact VTo.nilfunc | exact VTo.ptr rfl | exact VTo.gl rfl | exact VTo.map rfl | exact VTo.yld rfl | exact VTo.fmMap rfl | exact VTo.fm | exact VTo.glNil' (by decide) rfl rfl | exact VTo.fsNil (by decide) | exact VTo.fsSl rfl rfl (by simp [flat_len encE_len]) | exact VTo.fpPtr rfl | exact VTo.fsGl rfl (by first | rfl | exact flat_len encI_len _ | exact flat_len encS_len _ | exact flat_len encP_len _ | exact flat_len encL_len _ | exact flat_len encE_len _ | (simp [flat_len encP_len]; done) | simp [flat_len encI_len, flat_len encS_len]))) ?_)) (by repeat' (first | exact FzAll.nil | refine FzAll.flat rfl ?_ | refine FzAll.row rfl rfl (RowTo.one rfl (by simp)) ?_)) trivial rfl) (by repeat' (first | exact VTo.undef | exact FrTo.leaf | refine FrTo.node ?_ ?_ ?_ | refine FrTo.none ?_ ?_ | exact VTo.sc (by first | rfl | (congr 1; omega) | (congr 1; simp; omega)) | exact VTos_dv _ _ | refine VTos.cons ?_ ?_ | exact VTos.nil | refine VTo.agg ?_ | refine VTo.tuple ?_ | refine VTo.func ?_ ?_ | exact VTo.fs | exact VTo.fp | exact VTo.nilptr | exact VTo.nilslice | exact VTo.nilfunc | exact VTo.ptr rfl | exact VTo.gl rfl | exact VTo.map rfl | exact VTo.yld rfl | exact VTo.fmMap rfl | exact VTo.fm | exact VTo.glNil' (by decide) rfl rfl | exact VTo.fsNil (by decide) | exact VTo.fsSl rfl rfl (by simp [flat_len encE_len]) | exact VTo.fpPtr rfl | exact VTo.fsGl rfl (by first | rfl | exact flat_len encI_len _ | exact flat_len encS_len _ | exact flat_len encP_len _ | exact flat_len encL_len _ | exact flat_len encE_len _ | (simp [flat_len encP_len]; done) | simp [flat_len encI_len, flat_len encS_len]))) (by first | rfl | (repeat' (first | exact MkTo.nil | refine MkTo.keep rfl ?_ | refine MkTo.drop (by decide) rfl ?_)))
  · conv => whnf
    repeat' (first | (refine VLd.intro rfl ?_; conv => whnf) | (refine VArith.i64 (by first | omega | (dsimp only; omega)) ?_; conv => whnf) | (refine VNeed.intro (by first | rfl | (simp; omega)) ?_; conv => whnf) | (refine VMem.store rfl rfl rfl rfl ?_; conv => whnf) | (refine VSame.intro rfl ?_; conv => whnf) | (refine VIte.dec (fun _ => ?_) (fun _ => ?_) <;> conv => whnf) | (refine VIte.ndec (fun _ => ?_) (fun _ => ?_) <;> conv => whnf) | (refine VIte.beq (fun _ => ?_) (fun _ => ?_) <;> conv => whnf) | (refine VIte.bne (fun _ => ?_) (fun _ => ?_) <;> conv => whnf) | (refine VIte.intro (fun _ => ?_) (fun _ => ?_) <;> conv => whnf) | (refine VCall.intro (cT _ _ rfl) ?_; conv => whnf))
    refine VCut.at' 3 [(2, .s (.int .u8 mo)), (3, .s (.int .u8 fe)), (9, .fp (encF f)), (10, .ptr (.loc 0) 0), (11, ints t)] [deckB ts dT] ?_ ?_
    · conv => whnf
      refine Retell.turn ⟨[0], 1, [], []⟩ (TurnOk.mk' _ _ [] [] (OutOk.lift _) rfl (by decide) (by repeat' (first | exact BTos.nil | refine BTos.flat rfl rfl (by first | rfl | simp) ?_ | refine BTos.new rfl ?_ | refine BTos.dead rfl rfl ?_ | refine BTos.esE rfl rfl ?_ | refine BTos.row rfl rfl rfl (RowTo.snoc (RowTo.one rfl (by simp))) ?_ | refine BTos.cells rfl rfl rfl (by repeat' (first | exact VTo.undef | exact FrTo.leaf | refine FrTo.node ?_ ?_ ?_ | refine FrTo.none ?_ ?_ | exact VTo.sc (by first | rfl | (congr 1; omega) | (congr 1; simp; omega)) | exact VTos_dv _ _ | refine VTos.cons ?_ ?_ | exact VTos.nil | refine VTo.agg ?_ | refine VTo.tuple ?_ | refine VTo.func ?_ ?_ | exact VTo.fs | exact VTo.fp | exact VTo.nilptr | exact VTo.nilslice | exact VTo.nilfunc | exact VTo.ptr rfl | exact VTo.gl rfl | exact VTo.map rfl | exact VTo.yld rfl | exact VTo.fmMap rfl | exact VTo.fm | exact VTo.glNil' (by decide) rfl rfl | exact VTo.fsNil (by decide) | exact VTo.fsSl rfl rfl (by simp [flat_len encE_len]) | exact VTo.fpPtr rfl | exact VTo.fsGl rfl (by first | rfl | exact flat_len encI_len _ | exact flat_len encS_len _ | exact flat_len encP_len _ | exact flat_len encL_len _ | exact flat_len encE_len _ | (simp [flat_len encP_len]; done) | simp [flat_len encI_len, flat_len encS_len]))) ?_)) trivial trivial rfl) (by repeat' (first | exact VTo.undef | exact FrTo.leaf | refine FrTo.node ?_ ?_ ?_ | refine FrTo.none ?_ ?_ | exact VTo.sc (by first | rfl | (congr 1; omega) | (congr 1; simp; omega)) | exact VTos_dv _ _ | refine VTos.cons ?_ ?_ | exact VTos.nil | refine VTo.agg ?_ | refine VTo.tuple ?_ | refine VTo.func ?_ ?_ | exact VTo.fs | exact VTo.fp | exact VTo.nilptr | exact VTo.nilslice | exact VTo.nilfunc | exact VTo.ptr rfl | exact VTo.gl rfl | exact VTo.map rfl | exact VTo.yld rfl | exact VTo.fmMap rfl | exact VTo.fm | exact VTo.glNil' (by decide) rfl rfl | exact VTo.fsNil (by decide) | exact VTo.fsSl rfl rfl (by simp [flat_len encE_len]) | exact VTo.fpPtr rfl | exact VTo.fsGl rfl (by first | rfl | exact flat_len encI_len _ | exact flat_len encS_len _ | exact flat_len encP_len _ | exact flat_len encL_len _ | exact flat_len encE_len _ | (simp [flat_len encP_len]; done) | simp [flat_len encI_len, flat_len encS_len]))) (by first | rfl | (repeat' (first | exact MkTo.nil | refine MkTo.keep rfl ?_ | refine MkTo.drop (by decide) rfl ?_)))
    · conv => whnf
      refine VDraw.go [(1, 2)] (by kernel_rfl) (by kernel_rfl) ?_
      conv => whnf
      repeat' (first | (refine VLd.intro rfl ?_; conv => whnf) | (refine VArith.i64 (by first | omega | (dsimp only; omega)) ?_; conv => whnf) | (refine VNeed.intro (by first | rfl | (simp; omega)) ?_; conv => whnf) | (refine VMem.store rfl rfl rfl rfl ?_; conv => whnf) | (refine VSame.intro rfl ?_; conv => whnf) | (refine VDraw.go [] (by kernel_rfl) (by kernel_rfl) ?_; conv => whnf) | (refine VIte.dec (fun _ => ?_) (fun _ => ?_) <;> conv => whnf) | (refine VIte.ndec (fun _ => ?_) (fun _ => ?_) <;> conv => whnf) | (refine VIte.beq (fun _ => ?_) (fun _ => ?_) <;> conv => whnf) | (refine VIte.bne (fun _ => ?_) (fun _ => ?_) <;> conv => whnf) | (refine VIte.intro (fun _ => ?_) (fun _ => ?_) <;> conv => whnf) | (refine VCall.intro (cC _) ?_; conv => whnf))
      refine VCode.lp (fun x : Nat × List Pap × (Nat × Int) => [(2, .s (.int .u8 mo)), (3, .s (.int .u8 fe)), (9, .fp (encF f)), (10, .ptr (.loc 0) 0), (11, ints t), (12, .ptr (.loc 3) 0), (13, .ptr (.loc 4) 0), (49, I f.ps.length), (50, I x.1)])
        (fun x => [deckB ts x.2.2, .flat true (x.2.1.flatMap encP), .flat true (f.ps.flatMap encP), .cells true [I f.Y, I f.G, .gl (.loc 1) 3 f.ps.length], .cells true [I f.Y, I f.G, .gl (.loc 2) 3 f.ps.length]])
        (fun x => x.1 ≤ f.ps.length ∧ Nar f ⟨f.Y, f.G, x.2.1⟩ ∧ x.2.2.1 ≤ 20 + 2 * x.1) (fun x => f.ps.length - x.1) (0, f.ps, dT) ⟨Nat.zero_le _, hN0, by dsimp only; omega⟩ ?_ ?_
      · conv => whnf
        refine Retell.turn ⟨[0,1,2,3,4], 5, [], []⟩ (TurnOk.mk' _ _ [] [] (OutOk.lift _) rfl (by decide) (by repeat' (first | exact BTos.nil | refine BTos.flat rfl rfl (by first | rfl | simp) ?_ | refine BTos.new rfl ?_ | refine BTos.dead rfl rfl ?_ | refine BTos.esE rfl rfl ?_ | refine BTos.row rfl rfl rfl (RowTo.snoc (RowTo.one rfl (by simp))) ?_ | refine BTos.cells rfl rfl rfl (by repeat' (first | exact VTo.undef | exact FrTo.leaf | refine FrTo.node ?_ ?_ ?_ | refine FrTo.none ?_ ?_ | exact VTo.sc (by first | rfl | (congr 1; omega) | (congr 1; simp; omega)) | exact VTos_dv _ _ | refine VTos.cons ?_ ?_ | exact VTos.nil | refine VTo.agg ?_ | refine VTo.tuple ?_ | refine VTo.func ?_ ?_ | exact VTo.fs | exact VTo.fp | exact VTo.nilptr | exact VTo.nilslice | exact VTo.nilfunc | exact VTo.ptr rfl | exact VTo.gl rfl | exact VTo.map rfl | exact VTo.yld rfl | exact VTo.fmMap rfl | exact VTo.fm | exact VTo.glNil' (by decide) rfl rfl | exact VTo.fsNil (by decide) | exact VTo.fsSl rfl rfl (by simp [flat_len encE_len]) | exact VTo.fpPtr rfl | exact VTo.fsGl rfl (by first | rfl | exact flat_len encI_len _ | exact flat_len encS_len _ | exact flat_len encP_len _ | exact flat_len encL_len _ | exact flat_len encE_len _ | (simp [flat_len encP_len]; done) | simp [flat_len encI_len, flat_len encS_len]))) ?_)) trivial trivial rfl) (by repeat' (first | exact VTo.undef | exact FrTo.leaf | refine FrTo.node ?_ ?_ ?_ | refine FrTo.none ?_ ?_ | exact VTo.sc (by first | rfl | (congr 1; omega) | (congr 1; simp; omega)) | exact VTos_dv _ _ | refine VTos.cons ?_ ?_ | exact VTos.nil | refine VTo.agg ?_ | refine VTo.tuple ?_ | refine VTo.func ?_ ?_ | exact VTo.fs | exact VTo.fp | exact VTo.nilptr | exact VTo.nilslice | exact VTo.nilfunc | exact VTo.ptr rfl | exact VTo.gl rfl | exact VTo.map rfl | exact VTo.yld rfl | exact VTo.fmMap rfl | exact VTo.fm | exact VTo.glNil' (by decide) rfl rfl | exact VTo.fsNil (by decide) | exact VTo.fsSl rfl rfl (by simp [flat_len encE_len]) | exact VTo.fpPtr rfl | exact VTo.fsGl rfl (by first | rfl | exact flat_len encI_len _ | exact flat_len encS_len _ | exact flat_len encP_len _ | exact flat_len encL_len _ | exact flat_len encE_len _ | (simp [flat_len encP_len]; done) | simp [flat_len encI_len, flat_len encS_len]))) (by first | rfl | (repeat' (first | exact MkTo.nil | refine MkTo.keep rfl ?_ | refine MkTo.drop (by decide) rfl ?_)))
      · rintro ⟨k, l, d⟩ ⟨hk, hN, hd⟩
        dsimp only at hk hN hd
        have hll : l.length = f.ps.length := hN.len
        conv => whnf
        refine VIte.dec (fun h3 => ?_) (fun h3 => ?_)
        · have hp : f.ps[k]? = some f.ps[k] := List.getElem?_eq_getElem (by omega)
          have hy : t[k]? = some t[k] := List.getElem?_eq_getElem (by omega)
          have ha : l[k]? = some l[k] := List.getElem?_eq_getElem (by omega)
          have hr := hpp.2 f.ps[k] (List.getElem_mem _)
          have hyr := (tru_take (Nat.le_refl _) t).1 (by rw [List.take_length]; exact t1)
          have hyr := hyr.2 k _ _ hp hy
          generalize f.ps[k] = p at hp hr hyr
          generalize t[k] = y at hy hyr
          generalize l[k] = a at ha
          have q1 := dNx_bd ts d 2
          have g1 := fun (h2 : Hp) hh => vc_coin ts d 2 (.loc 0) h2 (by omega) hh
          generalize dNx ts d 2 = y1 at q1 g1
          obtain ⟨r1, d1⟩ := y1
          dsimp only at q1 g1
          have q2 := dNx_bd ts d1 (p.hi - y + 1)
          have g2 := fun (h2 : Hp) hh => vc_between ts d1 y p.hi (.loc 0) h2 (by omega) (by omega) (by omega) hh
          generalize dNx ts d1 (p.hi - y + 1) = y2 at q2 g2
          obtain ⟨r2, d2⟩ := y2
          dsimp only at q2 g2
          have hS := hN.set hp ha (y := y) (z := y + r2) (by omega)
          conv => whnf
          repeat' (first | (refine VLd.intro rfl ?_; conv => whnf) | (refine VArith.i64 (by first | omega | (dsimp only; omega)) ?_; conv => whnf) | (refine VNeed.intro (by first | rfl | (simp; omega)) ?_; conv => whnf) | (refine VMem.store rfl rfl rfl rfl ?_; conv => whnf) | (refine VSame.intro rfl ?_; conv => whnf) | (refine VIte.dec (fun _ => ?_) (fun _ => ?_) <;> conv => whnf) | (refine VIte.ndec (fun _ => ?_) (fun _ => ?_) <;> conv => whnf) | (refine VIte.beq (fun _ => ?_) (fun _ => ?_) <;> conv => whnf) | (refine VIte.bne (fun _ => ?_) (fun _ => ?_) <;> conv => whnf) | (refine VIte.intro (fun _ => ?_) (fun _ => ?_) <;> conv => whnf) | (refine VCall.intro (g1 _ rfl) ?_; conv => whnf))
          · refine VDraw.go [(1, 19), (6, 19)] (by kernel_rfl) (by kernel_rfl) ?_
            conv => whnf
            repeat' (first | (refine VLd.intro rfl ?_; conv => whnf) | (refine VArith.i64 (by first | omega | (dsimp only; omega)) ?_; conv => whnf) | (refine VNeed.intro (by first | rfl | (simp; omega)) ?_; conv => whnf) | (refine VMem.store rfl rfl rfl rfl ?_; conv => whnf) | (refine VSame.intro rfl ?_; conv => whnf) | (refine VIte.dec (fun _ => ?_) (fun _ => ?_) <;> conv => whnf) | (refine VIte.ndec (fun _ => ?_) (fun _ => ?_) <;> conv => whnf) | (refine VIte.beq (fun _ => ?_) (fun _ => ?_) <;> conv => whnf) | (refine VIte.bne (fun _ => ?_) (fun _ => ?_) <;> conv => whnf) | (refine VIte.intro (fun _ => ?_) (fun _ => ?_) <;> conv => whnf) | (refine VAny.ix encI_len k rfl rfl hy ?_; conv => whnf) | (refine VAny.ix encP_len k rfl rfl hp ?_; conv => whnf) | (refine VCall.intro (g2 _ rfl) ?_; conv => whnf))
            refine VMem.setRec2 encP_len k 1 ⟨a.side, y, y + r2⟩ rfl rfl rfl ha (by decide) rfl (by simp only [Nat.zero_add]; omega) ?_
            conv => whnf
            repeat' (first | (refine VLd.intro rfl ?_; conv => whnf) | (refine VArith.i64 (by first | omega | (dsimp only; omega)) ?_; conv => whnf) | (refine VNeed.intro (by first | rfl | (simp; omega)) ?_; conv => whnf) | (refine VMem.store rfl rfl rfl rfl ?_; conv => whnf) | (refine VSame.intro rfl ?_; conv => whnf) | (refine VIte.dec (fun _ => ?_) (fun _ => ?_) <;> conv => whnf) | (refine VIte.ndec (fun _ => ?_) (fun _ => ?_) <;> conv => whnf) | (refine VIte.beq (fun _ => ?_) (fun _ => ?_) <;> conv => whnf) | (refine VIte.bne (fun _ => ?_) (fun _ => ?_) <;> conv => whnf) | (refine VIte.intro (fun _ => ?_) (fun _ => ?_) <;> conv => whnf))
            refine LEnd.intro (k + 1, l.set k ⟨a.side, y, y + r2⟩, d2) ⟨by dsimp only; omega, hS, by dsimp only; omega⟩ (by dsimp only; omega) ?_
            conv => whnf
            refine Retell.turn ⟨[0,1,2,3,4], 5, [], []⟩ (TurnOk.mk' _ _ [] [] (OutOk.lift _) rfl (by decide) (by repeat' (first | exact BTos.nil | refine BTos.flat rfl rfl (by first | rfl | simp) ?_ | refine BTos.new rfl ?_ | refine BTos.dead rfl rfl ?_ | refine BTos.esE rfl rfl ?_ | refine BTos.row rfl rfl rfl (RowTo.snoc (RowTo.one rfl (by simp))) ?_ | refine BTos.cells rfl rfl rfl (by repeat' (first | exact VTo.undef | exact FrTo.leaf | refine FrTo.node ?_ ?_ ?_ | refine FrTo.none ?_ ?_ | exact VTo.sc (by first | rfl | (congr 1; omega) | (congr 1; simp; omega)) | exact VTos_dv _ _ | refine VTos.cons ?_ ?_ | exact VTos.nil | refine VTo.agg ?_ | refine VTo.tuple ?_ | refine VTo.func ?_ ?_ | exact VTo.fs | exact VTo.fp | exact VTo.nilptr | exact VTo.nilslice | exact VTo.nilfunc | exact VTo.ptr rfl | exact VTo.gl rfl | exact VTo.map rfl | exact VTo.yld rfl | exact VTo.fmMap rfl | exact VTo.fm | exact VTo.glNil' (by decide) rfl rfl | exact VTo.fsNil (by decide) | exact VTo.fsSl rfl rfl (by simp [flat_len encE_len]) | exact VTo.fpPtr rfl | exact VTo.fsGl rfl (by first | rfl | exact flat_len encI_len _ | exact flat_len encS_len _ | exact flat_len encP_len _ | exact flat_len encL_len _ | exact flat_len encE_len _ | (simp [flat_len encP_len]; done) | simp [flat_len encI_len, flat_len encS_len]))) ?_)) trivial trivial rfl) (by repeat' (first | exact VTo.undef | exact FrTo.leaf | refine FrTo.node ?_ ?_ ?_ | refine FrTo.none ?_ ?_ | exact VTo.sc (by first | rfl | (congr 1; omega) | (congr 1; simp; omega)) | exact VTos_dv _ _ | refine VTos.cons ?_ ?_ | exact VTos.nil | refine VTo.agg ?_ | refine VTo.tuple ?_ | refine VTo.func ?_ ?_ | exact VTo.fs | exact VTo.fp | exact VTo.nilptr | exact VTo.nilslice | exact VTo.nilfunc | exact VTo.ptr rfl | exact VTo.gl rfl | exact VTo.map rfl | exact VTo.yld rfl | exact VTo.fmMap rfl | exact VTo.fm | exact VTo.glNil' (by decide) rfl rfl | exact VTo.fsNil (by decide) | exact VTo.fsSl rfl rfl (by simp [flat_len encE_len]) | exact VTo.fpPtr rfl | exact VTo.fsGl rfl (by first | rfl | exact flat_len encI_len _ | exact flat_len encS_len _ | exact flat_len encP_len _ | exact flat_len encL_len _ | exact flat_len encE_len _ | (simp [flat_len encP_len]; done) | simp [flat_len encI_len, flat_len encS_len]))) (by first | rfl | (repeat' (first | exact MkTo.nil | refine MkTo.keep rfl ?_ | refine MkTo.drop (by decide) rfl ?_)))
          · refine LEnd.intro (k + 1, l, d1) ⟨by dsimp only; omega, hN, by dsimp only; omega⟩ (by dsimp only; omega) ?_
            conv => whnf
            refine Retell.turn ⟨[0,1,2,3,4], 5, [], []⟩ (TurnOk.mk' _ _ [] [] (OutOk.lift _) rfl (by decide) (by repeat' (first | exact BTos.nil | refine BTos.flat rfl rfl (by first | rfl | simp) ?_ | refine BTos.new rfl ?_ | refine BTos.dead rfl rfl ?_ | refine BTos.esE rfl rfl ?_ | refine BTos.row rfl rfl rfl (RowTo.snoc (RowTo.one rfl (by simp))) ?_ | refine BTos.cells rfl rfl rfl (by repeat' (first | exact VTo.undef | exact FrTo.leaf | refine FrTo.node ?_ ?_ ?_ | refine FrTo.none ?_ ?_ | exact VTo.sc (by first | rfl | (congr 1; omega) | (congr 1; simp; omega)) | exact VTos_dv _ _ | refine VTos.cons ?_ ?_ | exact VTos.nil | refine VTo.agg ?_ | refine VTo.tuple ?_ | refine VTo.func ?_ ?_ | exact VTo.fs | exact VTo.fp | exact VTo.nilptr | exact VTo.nilslice | exact VTo.nilfunc | exact VTo.ptr rfl | exact VTo.gl rfl | exact VTo.map rfl | exact VTo.yld rfl | exact VTo.fmMap rfl | exact VTo.fm | exact VTo.glNil' (by decide) rfl rfl | exact VTo.fsNil (by decide) | exact VTo.fsSl rfl rfl (by simp [flat_len encE_len]) | exact VTo.fpPtr rfl | exact VTo.fsGl rfl (by first | rfl | exact flat_len encI_len _ | exact flat_len encS_len _ | exact flat_len encP_len _ | exact flat_len encL_len _ | exact flat_len encE_len _ | (simp [flat_len encP_len]; done) | simp [flat_len encI_len, flat_len encS_len]))) ?_)) trivial trivial rfl) (by repeat' (first | exact VTo.undef | exact FrTo.leaf | refine FrTo.node ?_ ?_ ?_ | refine FrTo.none ?_ ?_ | exact VTo.sc (by first | rfl | (congr 1; omega) | (congr 1; simp; omega)) | exact VTos_dv _ _ | refine VTos.cons ?_ ?_ | exact VTos.nil | refine VTo.agg ?_ | refine VTo.tuple ?_ | refine VTo.func ?_ ?_ | exact VTo.fs | exact VTo.fp | exact VTo.nilptr | exact VTo.nilslice | exact VTo.nilfunc | exact VTo.ptr rfl | exact VTo.gl rfl | exact VTo.map rfl | exact VTo.yld rfl | exact VTo.fmMap rfl | exact VTo.fm | exact VTo.glNil' (by decide) rfl rfl | exact VTo.fsNil (by decide) | exact VTo.fsSl rfl rfl (by simp [flat_len encE_len]) | exact VTo.fpPtr rfl | exact VTo.fsGl rfl (by first | rfl | exact flat_len encI_len _ | exact flat_len encS_len _ | exact flat_len encP_len _ | exact flat_len encL_len _ | exact flat_len encE_len _ | (simp [flat_len encP_len]; done) | simp [flat_len encI_len, flat_len encS_len]))) (by first | rfl | (repeat' (first | exact MkTo.nil | refine MkTo.keep rfl ?_ | refine MkTo.drop (by decide) rfl ?_)))
        · have hkn : k = f.ps.length := by omega
          subst hkn
          conv => whnf
          refine VDraw.go [(7, 15), (11, 15)] (by kernel_rfl) (by kernel_rfl) ?_
          conv => whnf
          repeat' (first | (refine VLd.intro rfl ?_; conv => whnf) | (refine VArith.i64 (by first | omega | (dsimp only; omega)) ?_; conv => whnf) | (refine VNeed.intro (by first | rfl | (simp; omega)) ?_; conv => whnf) | (refine VMem.store rfl rfl rfl rfl ?_; conv => whnf) | (refine VSame.intro rfl ?_; conv => whnf) | (refine VDraw.go [] (by kernel_rfl) (by kernel_rfl) ?_; conv => whnf) | (refine VIte.dec (fun _ => ?_) (fun _ => ?_) <;> conv => whnf) | (refine VIte.ndec (fun _ => ?_) (fun _ => ?_) <;> conv => whnf) | (refine VIte.beq (fun _ => ?_) (fun _ => ?_) <;> conv => whnf) | (refine VIte.bne (fun _ => ?_) (fun _ => ?_) <;> conv => whnf) | (refine VIte.intro (fun _ => ?_) (fun _ => ?_) <;> conv => whnf))
          refine VCut.at' 8 [(9, .fp (encF f)), (10, .ptr (.loc 0) 0), (11, ints t), (12, .fp (encF ⟨f.Y, f.G, l⟩)), (13, .fp (encF ⟨f.Y - fe.tmod f.Y, f.G + mo.tmod 30, f.ps⟩))] [deckB ts d] ?_ ?_
          · conv => whnf
            refine Retell.turn ⟨[0], 5, [(1, l.flatMap encP), (2, f.ps.flatMap encP), (3, encF ⟨f.Y, f.G, l⟩), (4, encF ⟨f.Y - fe.tmod f.Y, f.G + mo.tmod 30, f.ps⟩)], []⟩ (TurnOk.mk' _ _ [(1, l.flatMap encP), (2, f.ps.flatMap encP), (3, encF ⟨f.Y, f.G, l⟩), (4, encF ⟨f.Y - fe.tmod f.Y, f.G + mo.tmod 30, f.ps⟩)] [] (OutOk.lift _) rfl (by decide) (BTos.flat rfl rfl rfl BTos.nil)
              (FzAll.flat rfl (FzAll.flat rfl (FzAll.row rfl rfl (RowTo.vtos (VTos.cons (VTo.sc rfl) (VTos.cons (VTo.sc rfl) (VTos.cons (VTo.fsGl' rfl hll.symm (by rw [flat_len encP_len])) VTos.nil)))) (FzAll.row rfl rfl (RowTo.vtos (VTos.cons (VTo.sc rfl) (VTos.cons (VTo.sc rfl) (VTos.cons (VTo.fsGl' rfl rfl (by rw [flat_len encP_len])) VTos.nil)))) FzAll.nil))))
              trivial rfl) (by repeat' (first | exact VTo.undef | exact FrTo.leaf | refine FrTo.node ?_ ?_ ?_ | refine FrTo.none ?_ ?_ | exact VTo.sc (by first | rfl | (congr 1; omega) | (congr 1; simp; omega)) | exact VTos_dv _ _ | refine VTos.cons ?_ ?_ | exact VTos.nil | refine VTo.agg ?_ | refine VTo.tuple ?_ | refine VTo.func ?_ ?_ | exact VTo.fs | exact VTo.fp | exact VTo.nilptr | exact VTo.nilslice | exact VTo.nilfunc | exact VTo.ptr rfl | exact VTo.gl rfl | exact VTo.map rfl | exact VTo.yld rfl | exact VTo.fmMap rfl | exact VTo.fm | exact VTo.glNil' (by decide) rfl rfl | exact VTo.fsNil (by decide) | exact VTo.fsSl rfl rfl (by simp [flat_len encE_len]) | exact VTo.fpPtr rfl | exact VTo.fsGl rfl (by first | rfl | exact flat_len encI_len _ | exact flat_len encS_len _ | exact flat_len encP_len _ | exact flat_len encL_len _ | exact flat_len encE_len _ | (simp [flat_len encP_len]; done) | simp [flat_len encI_len, flat_len encS_len]))) (by first | rfl | (repeat' (first | exact MkTo.nil | refine MkTo.keep rfl ?_ | refine MkTo.drop (by decide) rfl ?_)))
          · have c1 : chk ⟨f.Y, f.G, l⟩ = 0 := hN.chk k1 hpp.1
            have c2 : chk ⟨f.Y - fe.tmod f.Y, f.G + mo.tmod 30, f.ps⟩ = 0 := by
              obtain ⟨a1, a2, a3, a4⟩ := chk_zero k1
              unfold chk
              dsimp only
              rw [if_neg (by omega), if_neg (by omega)]
              exact a4
            have hsub := fun (x : Int) (hx : x ∈ osG ⟨f.Y, f.G, l⟩) => hN.osG k1 c1 hx
            have hsin := fun (x : Int) (hx : x ∈ osG ⟨f.Y, f.G, l⟩) => hN.since k1 c1 (x := x) hx
            have hopn := own_open k1 c2 t1 rfl (by dsimp only; omega) (by dsimp only; omega)
            have hto : toldE ⟨f.Y - fe.tmod f.Y, f.G + mo.tmod 30, f.ps⟩ t = 0 := told_tru c2 t1
            have hn2 : (⟨f.Y, f.G, l⟩ : Fil).ps.length ≤ 4000000 := by dsimp only; omega
            have hn3 : (⟨f.Y - fe.tmod f.Y, f.G + mo.tmod 30, f.ps⟩ : Fil).ps.length ≤ 4000000 := by dsimp only; omega
            generalize (⟨f.Y, f.G, l⟩ : Fil) = g at c1 hsub hsin hn2
            generalize (⟨f.Y - fe.tmod f.Y, f.G + mo.tmod 30, f.ps⟩ : Fil) = op at c2 hopn hto hn3
            have o1 := fun h => vc_Owners_ok f h k1
            have o2 := fun h => vc_Owners_ok g h c1
            have s1 := fun x h => vc_Since f x h (by omega)
            have s2 := fun x h => vc_Since g x h hn2
            have w1 := fun h => vc_Owner f t h (by omega) (by omega)
            have w2 := fun h => vc_Owner op t h hn3 (by omega)
            have w3 := fun h => vc_Arises f t h (by omega) (by omega)
            rw [if_pos ht, ht] at w1 w3
            rw [if_pos hto, hto] at w2
            have hA1 := osG_len f
            have hA2 := osG_len g
            generalize osG f = A at o1 hsub hA1
            generalize osG g = E at o2 hsub hsin hA2
            have hAl := selS_len (arB f t) t.length
            have hAe : arL f t = selS (arB f t) t.length := rfl
            rw [← hAe] at hAl
            have hbl := fun (k : Nat) (hk : k ≤ t.length) => blw_sel (q := arB f t) hk
            rw [← hAe] at hbl
            generalize arL f t = R at w3 hAl hbl
            apply suffices_
            · intro hrest
              conv => whnf
              repeat' (first | (refine VLd.intro rfl ?_; conv => whnf) | (refine VArith.i64 (by first | omega | (dsimp only; omega)) ?_; conv => whnf) | (refine VNeed.intro (by first | rfl | (simp; omega)) ?_; conv => whnf) | (refine VMem.store rfl rfl rfl rfl ?_; conv => whnf) | (refine VSame.intro rfl ?_; conv => whnf) | (refine VIte.dec (fun _ => ?_) (fun _ => ?_) <;> conv => whnf) | (refine VIte.ndec (fun _ => ?_) (fun _ => ?_) <;> conv => whnf) | (refine VIte.beq (fun _ => ?_) (fun _ => ?_) <;> conv => whnf) | (refine VIte.bne (fun _ => ?_) (fun _ => ?_) <;> conv => whnf) | (refine VIte.intro (fun _ => ?_) (fun _ => ?_) <;> conv => whnf) | (refine VCall.intro (o1 _) ?_; conv => whnf) | (refine VCall.intro (o2 _) ?_; conv => whnf))
              all_goals try (rename_i hz; exfalso; omega)
              refine VCode.lp (fun k : Nat => [(9, .fp (encF f)), (10, .ptr (.loc 0) 0), (11, ints t), (12, .fp (encF g)), (13, .fp (encF op)), (15, ints A), (111, ints E), (112, I E.length), (113, I k)]) (fun _ => [deckB ts d]) (fun k => k ≤ E.length) (fun k => E.length - k) 0 (Nat.zero_le _) ?_ ?_
              · conv => whnf
                refine Retell.turn ⟨[0], 1, [], []⟩ (TurnOk.mk' _ _ [] [] (OutOk.lift _) rfl (by decide) (by repeat' (first | exact BTos.nil | refine BTos.flat rfl rfl (by first | rfl | simp) ?_ | refine BTos.new rfl ?_ | refine BTos.dead rfl rfl ?_ | refine BTos.esE rfl rfl ?_ | refine BTos.row rfl rfl rfl (RowTo.snoc (RowTo.one rfl (by simp))) ?_ | refine BTos.cells rfl rfl rfl (by repeat' (first | exact VTo.undef | exact FrTo.leaf | refine FrTo.node ?_ ?_ ?_ | refine FrTo.none ?_ ?_ | exact VTo.sc (by first | rfl | (congr 1; omega) | (congr 1; simp; omega)) | exact VTos_dv _ _ | refine VTos.cons ?_ ?_ | exact VTos.nil | refine VTo.agg ?_ | refine VTo.tuple ?_ | refine VTo.func ?_ ?_ | exact VTo.fs | exact VTo.fp | exact VTo.nilptr | exact VTo.nilslice | exact VTo.nilfunc | exact VTo.ptr rfl | exact VTo.gl rfl | exact VTo.map rfl | exact VTo.yld rfl | exact VTo.fmMap rfl | exact VTo.fm | exact VTo.glNil' (by decide) rfl rfl | exact VTo.fsNil (by decide) | exact VTo.fsSl rfl rfl (by simp [flat_len encE_len]) | exact VTo.fpPtr rfl | exact VTo.fsGl rfl (by first | rfl | exact flat_len encI_len _ | exact flat_len encS_len _ | exact flat_len encP_len _ | exact flat_len encL_len _ | exact flat_len encE_len _ | (simp [flat_len encP_len]; done) | simp [flat_len encI_len, flat_len encS_len]))) ?_)) trivial trivial rfl) (by repeat' (first | exact VTo.undef | exact FrTo.leaf | refine FrTo.node ?_ ?_ ?_ | refine FrTo.none ?_ ?_ | exact VTo.sc (by first | rfl | (congr 1; omega) | (congr 1; simp; omega)) | exact VTos_dv _ _ | refine VTos.cons ?_ ?_ | exact VTos.nil | refine VTo.agg ?_ | refine VTo.tuple ?_ | refine VTo.func ?_ ?_ | exact VTo.fs | exact VTo.fp | exact VTo.nilptr | exact VTo.nilslice | exact VTo.nilfunc | exact VTo.ptr rfl | exact VTo.gl rfl | exact VTo.map rfl | exact VTo.yld rfl | exact VTo.fmMap rfl | exact VTo.fm | exact VTo.glNil' (by decide) rfl rfl | exact VTo.fsNil (by decide) | exact VTo.fsSl rfl rfl (by simp [flat_len encE_len]) | exact VTo.fpPtr rfl | exact VTo.fsGl rfl (by first | rfl | exact flat_len encI_len _ | exact flat_len encS_len _ | exact flat_len encP_len _ | exact flat_len encL_len _ | exact flat_len encE_len _ | (simp [flat_len encP_len]; done) | simp [flat_len encI_len, flat_len encS_len]))) (by first | rfl | (repeat' (first | exact MkTo.nil | refine MkTo.keep rfl ?_ | refine MkTo.drop (by decide) rfl ?_)))
              · intro k hk
                conv => whnf
                refine VIte.dec (fun h4 => ?_) (fun h4 => ?_)
                · have hx : E[k]? = some E[k] := List.getElem?_eq_getElem (by omega)
                  have hx1 := hsub _ (List.getElem_mem (by omega : k < E.length))
                  have hx2 := hsin _ (List.getElem_mem (by omega : k < E.length))
                  generalize E[k] = x at hx hx1 hx2
                  have ct := fun h => vc_Contains A x h (by omega)
                  rw [decide_eq_true hx1.1] at ct
                  by_cases hx3 : x = 2
                  · subst hx3
                    conv => whnf
                    repeat' (first | (refine VLd.intro rfl ?_; conv => whnf) | (refine VArith.i64 (by first | omega | (dsimp only; omega)) ?_; conv => whnf) | (refine VNeed.intro (by first | rfl | (simp; omega)) ?_; conv => whnf) | (refine VMem.store rfl rfl rfl rfl ?_; conv => whnf) | (refine VSame.intro rfl ?_; conv => whnf) | (refine VDraw.go [] (by kernel_rfl) (by kernel_rfl) ?_; conv => whnf) | (refine VIte.dec (fun _ => ?_) (fun _ => ?_) <;> conv => whnf) | (refine VIte.ndec (fun _ => ?_) (fun _ => ?_) <;> conv => whnf) | (refine VIte.beq (fun _ => ?_) (fun _ => ?_) <;> conv => whnf) | (refine VIte.bne (fun _ => ?_) (fun _ => ?_) <;> conv => whnf) | (refine VIte.intro (fun _ => ?_) (fun _ => ?_) <;> conv => whnf) | (refine VAny.ix encI_len k rfl rfl hx ?_; conv => whnf) | (refine VCall.intro (ct _) ?_; conv => whnf))
                    refine LEnd.intro (k + 1) (by omega) (by omega) ?_
                    conv => whnf
                    refine Retell.turn ⟨[0], 1, [], []⟩ (TurnOk.mk' _ _ [] [] (OutOk.lift _) rfl (by decide) (by repeat' (first | exact BTos.nil | refine BTos.flat rfl rfl (by first | rfl | simp) ?_ | refine BTos.new rfl ?_ | refine BTos.dead rfl rfl ?_ | refine BTos.esE rfl rfl ?_ | refine BTos.row rfl rfl rfl (RowTo.snoc (RowTo.one rfl (by simp))) ?_ | refine BTos.cells rfl rfl rfl (by repeat' (first | exact VTo.undef | exact FrTo.leaf | refine FrTo.node ?_ ?_ ?_ | refine FrTo.none ?_ ?_ | exact VTo.sc (by first | rfl | (congr 1; omega) | (congr 1; simp; omega)) | exact VTos_dv _ _ | refine VTos.cons ?_ ?_ | exact VTos.nil | refine VTo.agg ?_ | refine VTo.tuple ?_ | refine VTo.func ?_ ?_ | exact VTo.fs | exact VTo.fp | exact VTo.nilptr | exact VTo.nilslice | exact VTo.nilfunc | exact VTo.ptr rfl | exact VTo.gl rfl | exact VTo.map rfl | exact VTo.yld rfl | exact VTo.fmMap rfl | exact VTo.fm | exact VTo.glNil' (by decide) rfl rfl | exact VTo.fsNil (by decide) | exact VTo.fsSl rfl rfl (by simp [flat_len encE_len]) | exact VTo.fpPtr rfl | exact VTo.fsGl rfl (by first | rfl | exact flat_len encI_len _ | exact flat_len encS_len _ | exact flat_len encP_len _ | exact flat_len encL_len _ | exact flat_len encE_len _ | (simp [flat_len encP_len]; done) | simp [flat_len encI_len, flat_len encS_len]))) ?_)) trivial trivial rfl) (by repeat' (first | exact VTo.undef | exact FrTo.leaf | refine FrTo.node ?_ ?_ ?_ | refine FrTo.none ?_ ?_ | exact VTo.sc (by first | rfl | (congr 1; omega) | (congr 1; simp; omega)) | exact VTos_dv _ _ | refine VTos.cons ?_ ?_ | exact VTos.nil | refine VTo.agg ?_ | refine VTo.tuple ?_ | refine VTo.func ?_ ?_ | exact VTo.fs | exact VTo.fp | exact VTo.nilptr | exact VTo.nilslice | exact VTo.nilfunc | exact VTo.ptr rfl | exact VTo.gl rfl | exact VTo.map rfl | exact VTo.yld rfl | exact VTo.fmMap rfl | exact VTo.fm | exact VTo.glNil' (by decide) rfl rfl | exact VTo.fsNil (by decide) | exact VTo.fsSl rfl rfl (by simp [flat_len encE_len]) | exact VTo.fpPtr rfl | exact VTo.fsGl rfl (by first | rfl | exact flat_len encI_len _ | exact flat_len encS_len _ | exact flat_len encP_len _ | exact flat_len encL_len _ | exact flat_len encE_len _ | (simp [flat_len encP_len]; done) | simp [flat_len encI_len, flat_len encS_len]))) (by first | rfl | (repeat' (first | exact MkTo.nil | refine MkTo.keep rfl ?_ | refine MkTo.drop (by decide) rfl ?_)))
                  · obtain ⟨a1, a2, a3, a4, e1, e2, b1, b2, b3⟩ := hx2 (by omega)
                    have s3 := fun h => s1 x h
                    have s4 := fun h => s2 x h
                    rw [e1] at s3
                    rw [e2] at s4
                    conv => whnf
                    repeat' (first | (refine VLd.intro rfl ?_; conv => whnf) | (refine VArith.i64 (by first | omega | (dsimp only; omega)) ?_; conv => whnf) | (refine VNeed.intro (by first | rfl | (simp; omega)) ?_; conv => whnf) | (refine VMem.store rfl rfl rfl rfl ?_; conv => whnf) | (refine VSame.intro rfl ?_; conv => whnf) | (refine VIte.dec (fun _ => ?_) (fun _ => ?_) <;> conv => whnf) | (refine VIte.ndec (fun _ => ?_) (fun _ => ?_) <;> conv => whnf) | (refine VIte.beq (fun _ => ?_) (fun _ => ?_) <;> conv => whnf) | (refine VIte.bne (fun _ => ?_) (fun _ => ?_) <;> conv => whnf) | (refine VIte.intro (fun _ => ?_) (fun _ => ?_) <;> conv => whnf) | (refine VAny.ix encI_len k rfl rfl hx ?_; conv => whnf) | (refine VCall.intro (ct _) ?_; conv => whnf) | (refine VCall.intro (s3 _) ?_; conv => whnf) | (refine VCall.intro (s4 _) ?_; conv => whnf))
                    all_goals try (exfalso; dsimp only at *; omega)
                    refine LEnd.intro (k + 1) (by omega) (by omega) ?_
                    conv => whnf
                    refine Retell.turn ⟨[0], 3, [], []⟩ (TurnOk.mk' _ _ [] [] (OutOk.lift _) rfl (by decide) (by repeat' (first | exact BTos.nil | refine BTos.flat rfl rfl (by first | rfl | simp) ?_ | refine BTos.new rfl ?_ | refine BTos.dead rfl rfl ?_ | refine BTos.esE rfl rfl ?_ | refine BTos.row rfl rfl rfl (RowTo.snoc (RowTo.one rfl (by simp))) ?_ | refine BTos.cells rfl rfl rfl (by repeat' (first | exact VTo.undef | exact FrTo.leaf | refine FrTo.node ?_ ?_ ?_ | refine FrTo.none ?_ ?_ | exact VTo.sc (by first | rfl | (congr 1; omega) | (congr 1; simp; omega)) | exact VTos_dv _ _ | refine VTos.cons ?_ ?_ | exact VTos.nil | refine VTo.agg ?_ | refine VTo.tuple ?_ | refine VTo.func ?_ ?_ | exact VTo.fs | exact VTo.fp | exact VTo.nilptr | exact VTo.nilslice | exact VTo.nilfunc | exact VTo.ptr rfl | exact VTo.gl rfl | exact VTo.map rfl | exact VTo.yld rfl | exact VTo.fmMap rfl | exact VTo.fm | exact VTo.glNil' (by decide) rfl rfl | exact VTo.fsNil (by decide) | exact VTo.fsSl rfl rfl (by simp [flat_len encE_len]) | exact VTo.fpPtr rfl | exact VTo.fsGl rfl (by first | rfl | exact flat_len encI_len _ | exact flat_len encS_len _ | exact flat_len encP_len _ | exact flat_len encL_len _ | exact flat_len encE_len _ | (simp [flat_len encP_len]; done) | simp [flat_len encI_len, flat_len encS_len]))) ?_)) trivial trivial rfl) (by repeat' (first | exact VTo.undef | exact FrTo.leaf | refine FrTo.node ?_ ?_ ?_ | refine FrTo.none ?_ ?_ | exact VTo.sc (by first | rfl | (congr 1; omega) | (congr 1; simp; omega)) | exact VTos_dv _ _ | refine VTos.cons ?_ ?_ | exact VTos.nil | refine VTo.agg ?_ | refine VTo.tuple ?_ | refine VTo.func ?_ ?_ | exact VTo.fs | exact VTo.fp | exact VTo.nilptr | exact VTo.nilslice | exact VTo.nilfunc | exact VTo.ptr rfl | exact VTo.gl rfl | exact VTo.map rfl | exact VTo.yld rfl | exact VTo.fmMap rfl | exact VTo.fm | exact VTo.glNil' (by decide) rfl rfl | exact VTo.fsNil (by decide) | exact VTo.fsSl rfl rfl (by simp [flat_len encE_len]) | exact VTo.fpPtr rfl | exact VTo.fsGl rfl (by first | rfl | exact flat_len encI_len _ | exact flat_len encS_len _ | exact flat_len encP_len _ | exact flat_len encL_len _ | exact flat_len encE_len _ | (simp [flat_len encP_len]; done) | simp [flat_len encI_len, flat_len encS_len]))) (by first | rfl | (repeat' (first | exact MkTo.nil | refine MkTo.keep rfl ?_ | refine MkTo.drop (by decide) rfl ?_)))
                · conv => whnf
                  repeat' (first | (refine VLd.intro rfl ?_; conv => whnf) | (refine VArith.i64 (by first | omega | (dsimp only; omega)) ?_; conv => whnf) | (refine VNeed.intro (by first | rfl | (simp; omega)) ?_; conv => whnf) | (refine VMem.store rfl rfl rfl rfl ?_; conv => whnf) | (refine VSame.intro rfl ?_; conv => whnf) | (refine VIte.dec (fun _ => ?_) (fun _ => ?_) <;> conv => whnf) | (refine VIte.ndec (fun _ => ?_) (fun _ => ?_) <;> conv => whnf) | (refine VIte.beq (fun _ => ?_) (fun _ => ?_) <;> conv => whnf) | (refine VIte.bne (fun _ => ?_) (fun _ => ?_) <;> conv => whnf) | (refine VIte.intro (fun _ => ?_) (fun _ => ?_) <;> conv => whnf) | (refine VCall.intro (w1 _) ?_; conv => whnf) | (refine VCall.intro (w2 _) ?_; conv => whnf) | (refine VCall.intro (w3 _) ?_; conv => whnf))
                  all_goals try (exfalso; dsimp only at *; omega)
                  all_goals (
                    refine VCut.at' 3 [(9, .fp (encF f)), (10, .ptr (.loc 0) 0), (11, ints t), (27, ints R)] [deckB ts d] ?_ hrest.out
                    conv => whnf
                    refine Retell.turn ⟨[0], 1, [], []⟩ (TurnOk.mk' _ _ [] [] (OutOk.lift _) rfl (by decide) (by repeat' (first | exact BTos.nil | refine BTos.flat rfl rfl (by first | rfl | simp) ?_ | refine BTos.new rfl ?_ | refine BTos.dead rfl rfl ?_ | refine BTos.esE rfl rfl ?_ | refine BTos.row rfl rfl rfl (RowTo.snoc (RowTo.one rfl (by simp))) ?_ | refine BTos.cells rfl rfl rfl (by repeat' (first | exact VTo.undef | exact FrTo.leaf | refine FrTo.node ?_ ?_ ?_ | refine FrTo.none ?_ ?_ | exact VTo.sc (by first | rfl | (congr 1; omega) | (congr 1; simp; omega)) | exact VTos_dv _ _ | refine VTos.cons ?_ ?_ | exact VTos.nil | refine VTo.agg ?_ | refine VTo.tuple ?_ | refine VTo.func ?_ ?_ | exact VTo.fs | exact VTo.fp | exact VTo.nilptr | exact VTo.nilslice | exact VTo.nilfunc | exact VTo.ptr rfl | exact VTo.gl rfl | exact VTo.map rfl | exact VTo.yld rfl | exact VTo.fmMap rfl | exact VTo.fm | exact VTo.glNil' (by decide) rfl rfl | exact VTo.fsNil (by decide) | exact VTo.fsSl rfl rfl (by simp [flat_len encE_len]) | exact VTo.fpPtr rfl | exact VTo.fsGl rfl (by first | rfl | exact flat_len encI_len _ | exact flat_len encS_len _ | exact flat_len encP_len _ | exact flat_len encL_len _ | exact flat_len encE_len _ | (simp [flat_len encP_len]; done) | simp [flat_len encI_len, flat_len encS_len]))) ?_)) trivial trivial rfl) (by repeat' (first | exact VTo.undef | exact FrTo.leaf | refine FrTo.node ?_ ?_ ?_ | refine FrTo.none ?_ ?_ | exact VTo.sc (by first | rfl | (congr 1; omega) | (congr 1; simp; omega)) | exact VTos_dv _ _ | refine VTos.cons ?_ ?_ | exact VTos.nil | refine VTo.agg ?_ | refine VTo.tuple ?_ | refine VTo.func ?_ ?_ | exact VTo.fs | exact VTo.fp | exact VTo.nilptr | exact VTo.nilslice | exact VTo.nilfunc | exact VTo.ptr rfl | exact VTo.gl rfl | exact VTo.map rfl | exact VTo.yld rfl | exact VTo.fmMap rfl | exact VTo.fm | exact VTo.glNil' (by decide) rfl rfl | exact VTo.fsNil (by decide) | exact VTo.fsSl rfl rfl (by simp [flat_len encE_len]) | exact VTo.fpPtr rfl | exact VTo.fsGl rfl (by first | rfl | exact flat_len encI_len _ | exact flat_len encS_len _ | exact flat_len encP_len _ | exact flat_len encL_len _ | exact flat_len encE_len _ | (simp [flat_len encP_len]; done) | simp [flat_len encI_len, flat_len encS_len]))) (by first | rfl | (repeat' (first | exact MkTo.nil | refine MkTo.keep rfl ?_ | refine MkTo.drop (by decide) rfl ?_))))
            · have q1 := dNx_bd ts d ((t.length : Int) + 1)
              have g1 := fun (h2 : Hp) hh => vc_draw ts d ((t.length : Int) + 1) (.loc 0) h2 (by omega) hh
              generalize dNx ts d ((t.length : Int) + 1) = y1 at q1 g1
              obtain ⟨r1, d1⟩ := y1
              dsimp only at q1 g1
              obtain ⟨m, rfl⟩ : ∃ m : Nat, r1 = m := ⟨r1.toNat, by omega⟩
              have hmt : m ≤ t.length := by omega
              have cC2 := fun h => vc_CloneFileO f h (by omega)
              have c4 := chk_cut (k := m) k1 hpp.1
              have c5 := tru_cut (k := m) (by omega) t1
              have c6 := told_tru c4 c5
              have c7 := fun h => vc_Arises (cutF f m) (t.take m) h (by simp only [cutF, List.length_take]; omega) (by rw [List.length_take]; omega)
              rw [if_pos c6, c6, arL_cut hmt, ← hbl m hmt] at c7
              have hM := blw_len m R
              have eM := fun h => eqI (blw m R) h (by omega)
              apply suffices_
              · intro hrest
                rcases Nat.eq_zero_or_pos f.ps.length with hz | hz
                · conv => whnf
                  repeat' (first | (refine VLd.intro rfl ?_; conv => whnf) | (refine VArith.i64 (by first | omega | (dsimp only; omega)) ?_; conv => whnf) | (refine VNeed.intro (by first | rfl | (simp; omega)) ?_; conv => whnf) | (refine VMem.store rfl rfl rfl rfl ?_; conv => whnf) | (refine VSame.intro rfl ?_; conv => whnf) | (refine VIte.dec (fun _ => ?_) (fun _ => ?_) <;> conv => whnf) | (refine VIte.ndec (fun _ => ?_) (fun _ => ?_) <;> conv => whnf) | (refine VIte.beq (fun _ => ?_) (fun _ => ?_) <;> conv => whnf) | (refine VIte.bne (fun _ => ?_) (fun _ => ?_) <;> conv => whnf) | (refine VIte.intro (fun _ => ?_) (fun _ => ?_) <;> conv => whnf) | (refine VCall.intro (g1 _ rfl) ?_; conv => whnf) | (refine VCall.intro (cC2 _) ?_; conv => whnf))
                  refine VAny.intro (v := .gl (.loc 1) 3 m) ⟨by omega, m, by omega, .inl ⟨rfl, rfl⟩⟩ ?_
                  conv => whnf
                  repeat' (first | (refine VLd.intro rfl ?_; conv => whnf) | (refine VArith.i64 (by first | omega | (dsimp only; omega)) ?_; conv => whnf) | (refine VNeed.intro (by first | rfl | (simp; omega)) ?_; conv => whnf) | (refine VMem.store rfl rfl rfl rfl ?_; conv => whnf) | (refine VSame.intro rfl ?_; conv => whnf) | (refine VIte.dec (fun _ => ?_) (fun _ => ?_) <;> conv => whnf) | (refine VIte.ndec (fun _ => ?_) (fun _ => ?_) <;> conv => whnf) | (refine VIte.beq (fun _ => ?_) (fun _ => ?_) <;> conv => whnf) | (refine VIte.bne (fun _ => ?_) (fun _ => ?_) <;> conv => whnf) | (refine VIte.intro (fun _ => ?_) (fun _ => ?_) <;> conv => whnf))
                  refine VCut.at [(11, ints t), (27, ints R), (29, I m), (30, .fp (encF (cutF f m)))] [] ?_ hrest.out
                  conv => whnf
                  have hm0 : m = 0 := by omega
                  have hp0 : f.ps = [] := List.length_eq_zero_iff.1 hz
                  subst hm0
                  refine Retell.turn ⟨[], 3, [(1, f.ps.flatMap encP), (2, encF (cutF f 0))], []⟩ (TurnOk.mk' _ _ [(1, f.ps.flatMap encP), (2, encF (cutF f 0))] [] (OutOk.lift _) rfl (by decide) BTos.nil
                    (FzAll.flat rfl (FzAll.row rfl rfl (RowTo.vtos (VTos.cons (VTo.sc rfl) (VTos.cons (VTo.sc rfl) (VTos.cons (by rw [hp0]; exact VTo.fsGl' rfl rfl rfl) VTos.nil)))) FzAll.nil)) trivial rfl) (by repeat' (first | exact VTo.undef | exact FrTo.leaf | refine FrTo.node ?_ ?_ ?_ | refine FrTo.none ?_ ?_ | exact VTo.sc (by first | rfl | (congr 1; omega) | (congr 1; simp; omega)) | exact VTos_dv _ _ | refine VTos.cons ?_ ?_ | exact VTos.nil | refine VTo.agg ?_ | refine VTo.tuple ?_ | refine VTo.func ?_ ?_ | exact VTo.fs | exact VTo.fp | exact VTo.nilptr | exact VTo.nilslice | exact VTo.nilfunc | exact VTo.ptr rfl | exact VTo.gl rfl | exact VTo.map rfl | exact VTo.yld rfl | exact VTo.fmMap rfl | exact VTo.fm | exact VTo.glNil' (by decide) rfl rfl | exact VTo.fsNil (by decide) | exact VTo.fsSl rfl rfl (by simp [flat_len encE_len]) | exact VTo.fpPtr rfl | exact VTo.fsGl rfl (by first | rfl | exact flat_len encI_len _ | exact flat_len encS_len _ | exact flat_len encP_len _ | exact flat_len encL_len _ | exact flat_len encE_len _ | (simp [flat_len encP_len]; done) | simp [flat_len encI_len, flat_len encS_len]))) (by first | rfl | (repeat' (first | exact MkTo.nil | refine MkTo.keep rfl ?_ | refine MkTo.drop (by decide) rfl ?_)))
                · conv => whnf
                  repeat' (first | (refine VLd.intro rfl ?_; conv => whnf) | (refine VArith.i64 (by first | omega | (dsimp only; omega)) ?_; conv => whnf) | (refine VNeed.intro (by first | rfl | (simp; omega)) ?_; conv => whnf) | (refine VMem.store rfl rfl rfl rfl ?_; conv => whnf) | (refine VSame.intro rfl ?_; conv => whnf) | (refine VIte.dec (fun _ => ?_) (fun _ => ?_) <;> conv => whnf) | (refine VIte.ndec (fun _ => ?_) (fun _ => ?_) <;> conv => whnf) | (refine VIte.beq (fun _ => ?_) (fun _ => ?_) <;> conv => whnf) | (refine VIte.bne (fun _ => ?_) (fun _ => ?_) <;> conv => whnf) | (refine VIte.intro (fun _ => ?_) (fun _ => ?_) <;> conv => whnf) | (refine VCall.intro (g1 _ rfl) ?_; conv => whnf) | (refine VCall.intro (cC2 _) ?_; conv => whnf))
                  refine VAny.intro (v := .slice (.loc 1) (Int.toNat 0 * 3) 3 m none) ⟨by omega, m, by omega, .inr ⟨by omega, rfl⟩⟩ ?_
                  conv => whnf
                  repeat' (first | (refine VLd.intro rfl ?_; conv => whnf) | (refine VArith.i64 (by first | omega | (dsimp only; omega)) ?_; conv => whnf) | (refine VNeed.intro (by first | rfl | (simp; omega)) ?_; conv => whnf) | (refine VMem.store rfl rfl rfl rfl ?_; conv => whnf) | (refine VSame.intro rfl ?_; conv => whnf) | (refine VIte.dec (fun _ => ?_) (fun _ => ?_) <;> conv => whnf) | (refine VIte.ndec (fun _ => ?_) (fun _ => ?_) <;> conv => whnf) | (refine VIte.beq (fun _ => ?_) (fun _ => ?_) <;> conv => whnf) | (refine VIte.bne (fun _ => ?_) (fun _ => ?_) <;> conv => whnf) | (refine VIte.intro (fun _ => ?_) (fun _ => ?_) <;> conv => whnf))
                  refine VCut.at [(11, ints t), (27, ints R), (29, I m), (30, .fp (encF (cutF f m)))] [] ?_ hrest.out
                  conv => whnf
                  refine Retell.turn ⟨[], 3, [(1, f.ps.flatMap encP), (2, encF (cutF f m))], []⟩ (TurnOk.mk' _ _ [(1, f.ps.flatMap encP), (2, encF (cutF f m))] [] (OutOk.lift _) rfl (by decide) BTos.nil
                    (FzAll.flat rfl (FzAll.row rfl rfl (RowTo.vtos (VTos.cons (VTo.sc rfl) (VTos.cons (VTo.sc rfl) (VTos.cons (fsTake encP_len rfl rfl (by omega) (by simp only [cutF, List.length_take]; omega)) VTos.nil)))) FzAll.nil)) trivial rfl) (by repeat' (first | exact VTo.undef | exact FrTo.leaf | refine FrTo.node ?_ ?_ ?_ | refine FrTo.none ?_ ?_ | exact VTo.sc (by first | rfl | (congr 1; omega) | (congr 1; simp; omega)) | exact VTos_dv _ _ | refine VTos.cons ?_ ?_ | exact VTos.nil | refine VTo.agg ?_ | refine VTo.tuple ?_ | refine VTo.func ?_ ?_ | exact VTo.fs | exact VTo.fp | exact VTo.nilptr | exact VTo.nilslice | exact VTo.nilfunc | exact VTo.ptr rfl | exact VTo.gl rfl | exact VTo.map rfl | exact VTo.yld rfl | exact VTo.fmMap rfl | exact VTo.fm | exact VTo.glNil' (by decide) rfl rfl | exact VTo.fsNil (by decide) | exact VTo.fsSl rfl rfl (by simp [flat_len encE_len]) | exact VTo.fpPtr rfl | exact VTo.fsGl rfl (by first | rfl | exact flat_len encI_len _ | exact flat_len encS_len _ | exact flat_len encP_len _ | exact flat_len encL_len _ | exact flat_len encE_len _ | (simp [flat_len encP_len]; done) | simp [flat_len encI_len, flat_len encS_len]))) (by first | rfl | (repeat' (first | exact MkTo.nil | refine MkTo.keep rfl ?_ | refine MkTo.drop (by decide) rfl ?_)))
              · conv => whnf
                refine VDraw.go [(0, 3)] (by kernel_rfl) (by kernel_rfl) ?_
                conv => whnf
                repeat' (first | (refine VLd.intro rfl ?_; conv => whnf) | (refine VArith.i64 (by first | omega | (dsimp only; omega)) ?_; conv => whnf) | (refine VNeed.intro (by first | rfl | (simp; omega)) ?_; conv => whnf) | (refine VMem.store rfl rfl rfl rfl ?_; conv => whnf) | (refine VSame.intro rfl ?_; conv => whnf) | (refine VIte.dec (fun _ => ?_) (fun _ => ?_) <;> conv => whnf) | (refine VIte.ndec (fun _ => ?_) (fun _ => ?_) <;> conv => whnf) | (refine VIte.beq (fun _ => ?_) (fun _ => ?_) <;> conv => whnf) | (refine VIte.bne (fun _ => ?_) (fun _ => ?_) <;> conv => whnf) | (refine VIte.intro (fun _ => ?_) (fun _ => ?_) <;> conv => whnf) | (refine VAny.sub encI_len rfl (by omega) ?_; conv => whnf))
                have hsub : ((t.drop (Int.toNat 0)).take ((m : Int) - 0).toNat) = t.take m := by simp
                rw [hsub]
                repeat' (first | (refine VLd.intro rfl ?_; conv => whnf) | (refine VArith.i64 (by first | omega | (dsimp only; omega)) ?_; conv => whnf) | (refine VNeed.intro (by first | rfl | (simp; omega)) ?_; conv => whnf) | (refine VMem.store rfl rfl rfl rfl ?_; conv => whnf) | (refine VSame.intro rfl ?_; conv => whnf) | (refine VIte.dec (fun _ => ?_) (fun _ => ?_) <;> conv => whnf) | (refine VIte.ndec (fun _ => ?_) (fun _ => ?_) <;> conv => whnf) | (refine VIte.beq (fun _ => ?_) (fun _ => ?_) <;> conv => whnf) | (refine VIte.bne (fun _ => ?_) (fun _ => ?_) <;> conv => whnf) | (refine VIte.intro (fun _ => ?_) (fun _ => ?_) <;> conv => whnf) | (refine VCall.intro (c7 _) ?_; conv => whnf))
                refine VCode.lp (fun x : Nat × List Int => [(16, I 0), (29, I m), (31, ints (blw m R)), (32, .gl (.loc 0) 1 x.2.length), (219, ints R), (220, I R.length), (221, I x.1)]) (fun x => [.flat true (x.2.flatMap encI)]) (fun x => x.1 ≤ R.length ∧ x.2 = blw m (R.take x.1)) (fun x => R.length - x.1) (0, []) ⟨Nat.zero_le _, rfl⟩ ?_ ?_
                · conv => whnf
                  refine Retell.turn ⟨[0], 0, [], []⟩ (TurnOk.mk' _ _ [] [] (OutOk.lift _) rfl (by decide) (by repeat' (first | exact BTos.nil | refine BTos.flat rfl rfl (by first | rfl | simp) ?_ | refine BTos.new rfl ?_ | refine BTos.dead rfl rfl ?_ | refine BTos.esE rfl rfl ?_ | refine BTos.row rfl rfl rfl (RowTo.snoc (RowTo.one rfl (by simp))) ?_ | refine BTos.cells rfl rfl rfl (by repeat' (first | exact VTo.undef | exact FrTo.leaf | refine FrTo.node ?_ ?_ ?_ | refine FrTo.none ?_ ?_ | exact VTo.sc (by first | rfl | (congr 1; omega) | (congr 1; simp; omega)) | exact VTos_dv _ _ | refine VTos.cons ?_ ?_ | exact VTos.nil | refine VTo.agg ?_ | refine VTo.tuple ?_ | refine VTo.func ?_ ?_ | exact VTo.fs | exact VTo.fp | exact VTo.nilptr | exact VTo.nilslice | exact VTo.nilfunc | exact VTo.ptr rfl | exact VTo.gl rfl | exact VTo.map rfl | exact VTo.yld rfl | exact VTo.fmMap rfl | exact VTo.fm | exact VTo.glNil' (by decide) rfl rfl | exact VTo.fsNil (by decide) | exact VTo.fsSl rfl rfl (by simp [flat_len encE_len]) | exact VTo.fpPtr rfl | exact VTo.fsGl rfl (by first | rfl | exact flat_len encI_len _ | exact flat_len encS_len _ | exact flat_len encP_len _ | exact flat_len encL_len _ | exact flat_len encE_len _ | (simp [flat_len encP_len]; done) | simp [flat_len encI_len, flat_len encS_len]))) ?_)) trivial trivial rfl) (by repeat' (first | exact VTo.undef | exact FrTo.leaf | refine FrTo.node ?_ ?_ ?_ | refine FrTo.none ?_ ?_ | exact VTo.sc (by first | rfl | (congr 1; omega) | (congr 1; simp; omega)) | exact VTos_dv _ _ | refine VTos.cons ?_ ?_ | exact VTos.nil | refine VTo.agg ?_ | refine VTo.tuple ?_ | refine VTo.func ?_ ?_ | exact VTo.fs | exact VTo.fp | exact VTo.nilptr | exact VTo.nilslice | exact VTo.nilfunc | exact VTo.ptr rfl | exact VTo.gl rfl | exact VTo.map rfl | exact VTo.yld rfl | exact VTo.fmMap rfl | exact VTo.fm | exact VTo.glNil' (by decide) rfl rfl | exact VTo.fsNil (by decide) | exact VTo.fsSl rfl rfl (by simp [flat_len encE_len]) | exact VTo.fpPtr rfl | exact VTo.fsGl rfl (by first | rfl | exact flat_len encI_len _ | exact flat_len encS_len _ | exact flat_len encP_len _ | exact flat_len encL_len _ | exact flat_len encE_len _ | (simp [flat_len encP_len]; done) | simp [flat_len encI_len, flat_len encS_len]))) (by first | rfl | (repeat' (first | exact MkTo.nil | refine MkTo.keep rfl ?_ | refine MkTo.drop (by decide) rfl ?_)))
                · rintro ⟨k, w⟩ ⟨hk, hw⟩
                  dsimp only at hk hw
                  have hbk := blw_len m (R.take k)
                  rw [List.length_take, ← hw] at hbk
                  conv => whnf
                  refine VIte.dec (fun h6 => ?_) (fun h6 => ?_)
                  · have hx : R[k]? = some R[k] := List.getElem?_eq_getElem (by omega)
                    have hb2 := blw_at (k := m) hx
                    rw [← hw] at hb2
                    generalize R[k] = x at hx hb2
                    conv => whnf
                    repeat' (first | (refine VLd.intro rfl ?_; conv => whnf) | (refine VArith.i64 (by first | omega | (dsimp only; omega)) ?_; conv => whnf) | (refine VNeed.intro (by first | rfl | (simp; omega)) ?_; conv => whnf) | (refine VMem.store rfl rfl rfl rfl ?_; conv => whnf) | (refine VSame.intro rfl ?_; conv => whnf) | (refine VIte.dec (fun _ => ?_) (fun _ => ?_) <;> conv => whnf) | (refine VIte.ndec (fun _ => ?_) (fun _ => ?_) <;> conv => whnf) | (refine VIte.beq (fun _ => ?_) (fun _ => ?_) <;> conv => whnf) | (refine VIte.bne (fun _ => ?_) (fun _ => ?_) <;> conv => whnf) | (refine VIte.intro (fun _ => ?_) (fun _ => ?_) <;> conv => whnf) | (refine VAny.ix encI_len k rfl rfl hx ?_; conv => whnf))
                    · rw [decide_eq_true (by omega), cond_true] at hb2
                      refine VMem.app1 (l := w) x encI_len rfl rfl rfl rfl rfl (by omega) ?_
                      conv => whnf
                      repeat' (first | (refine VLd.intro rfl ?_; conv => whnf) | (refine VArith.i64 (by first | omega | (dsimp only; omega)) ?_; conv => whnf) | (refine VNeed.intro (by first | rfl | (simp; omega)) ?_; conv => whnf) | (refine VMem.store rfl rfl rfl rfl ?_; conv => whnf) | (refine VSame.intro rfl ?_; conv => whnf) | (refine VIte.dec (fun _ => ?_) (fun _ => ?_) <;> conv => whnf) | (refine VIte.ndec (fun _ => ?_) (fun _ => ?_) <;> conv => whnf) | (refine VIte.beq (fun _ => ?_) (fun _ => ?_) <;> conv => whnf) | (refine VIte.bne (fun _ => ?_) (fun _ => ?_) <;> conv => whnf) | (refine VIte.intro (fun _ => ?_) (fun _ => ?_) <;> conv => whnf))
                      refine LEnd.intro (k + 1, w ++ [x]) ⟨by dsimp only; omega, hb2.symm⟩ (by dsimp only; omega) ?_
                      conv => whnf
                      rw [List.length_append]
                      refine Retell.turn ⟨[2], 3, [], []⟩ (TurnOk.mk' _ _ [] [] (OutOk.lift _) rfl (by decide) (by repeat' (first | exact BTos.nil | refine BTos.flat rfl rfl (by first | rfl | simp) ?_ | refine BTos.new rfl ?_ | refine BTos.dead rfl rfl ?_ | refine BTos.esE rfl rfl ?_ | refine BTos.row rfl rfl rfl (RowTo.snoc (RowTo.one rfl (by simp))) ?_ | refine BTos.cells rfl rfl rfl (by repeat' (first | exact VTo.undef | exact FrTo.leaf | refine FrTo.node ?_ ?_ ?_ | refine FrTo.none ?_ ?_ | exact VTo.sc (by first | rfl | (congr 1; omega) | (congr 1; simp; omega)) | exact VTos_dv _ _ | refine VTos.cons ?_ ?_ | exact VTos.nil | refine VTo.agg ?_ | refine VTo.tuple ?_ | refine VTo.func ?_ ?_ | exact VTo.fs | exact VTo.fp | exact VTo.nilptr | exact VTo.nilslice | exact VTo.nilfunc | exact VTo.ptr rfl | exact VTo.gl rfl | exact VTo.map rfl | exact VTo.yld rfl | exact VTo.fmMap rfl | exact VTo.fm | exact VTo.glNil' (by decide) rfl rfl | exact VTo.fsNil (by decide) | exact VTo.fsSl rfl rfl (by simp [flat_len encE_len]) | exact VTo.fpPtr rfl | exact VTo.fsGl rfl (by first | rfl | exact flat_len encI_len _ | exact flat_len encS_len _ | exact flat_len encP_len _ | exact flat_len encL_len _ | exact flat_len encE_len _ | (simp [flat_len encP_len]; done) | simp [flat_len encI_len, flat_len encS_len]))) ?_)) trivial trivial rfl) (by repeat' (first | exact VTo.undef | exact FrTo.leaf | refine FrTo.node ?_ ?_ ?_ | refine FrTo.none ?_ ?_ | exact VTo.sc (by first | rfl | (congr 1; omega) | (congr 1; simp; omega)) | exact VTos_dv _ _ | refine VTos.cons ?_ ?_ | exact VTos.nil | refine VTo.agg ?_ | refine VTo.tuple ?_ | refine VTo.func ?_ ?_ | exact VTo.fs | exact VTo.fp | exact VTo.nilptr | exact VTo.nilslice | exact VTo.nilfunc | exact VTo.ptr rfl | exact VTo.gl rfl | exact VTo.map rfl | exact VTo.yld rfl | exact VTo.fmMap rfl | exact VTo.fm | exact VTo.glNil' (by decide) rfl rfl | exact VTo.fsNil (by decide) | exact VTo.fsSl rfl rfl (by simp [flat_len encE_len]) | exact VTo.fpPtr rfl | exact VTo.fsGl rfl (by first | rfl | exact flat_len encI_len _ | exact flat_len encS_len _ | exact flat_len encP_len _ | exact flat_len encL_len _ | exact flat_len encE_len _ | (simp [flat_len encP_len]; done) | simp [flat_len encI_len, flat_len encS_len]))) (by first | rfl | (repeat' (first | exact MkTo.nil | refine MkTo.keep rfl ?_ | refine MkTo.drop (by decide) rfl ?_)))
                    · rw [decide_eq_false (by omega), cond_false, List.append_nil] at hb2
                      refine LEnd.intro (k + 1, w) ⟨by dsimp only; omega, hb2.symm⟩ (by dsimp only; omega) ?_
                      conv => whnf
                      refine Retell.turn ⟨[0], 1, [], []⟩ (TurnOk.mk' _ _ [] [] (OutOk.lift _) rfl (by decide) (by repeat' (first | exact BTos.nil | refine BTos.flat rfl rfl (by first | rfl | simp) ?_ | refine BTos.new rfl ?_ | refine BTos.dead rfl rfl ?_ | refine BTos.esE rfl rfl ?_ | refine BTos.row rfl rfl rfl (RowTo.snoc (RowTo.one rfl (by simp))) ?_ | refine BTos.cells rfl rfl rfl (by repeat' (first | exact VTo.undef | exact FrTo.leaf | refine FrTo.node ?_ ?_ ?_ | refine FrTo.none ?_ ?_ | exact VTo.sc (by first | rfl | (congr 1; omega) | (congr 1; simp; omega)) | exact VTos_dv _ _ | refine VTos.cons ?_ ?_ | exact VTos.nil | refine VTo.agg ?_ | refine VTo.tuple ?_ | refine VTo.func ?_ ?_ | exact VTo.fs | exact VTo.fp | exact VTo.nilptr | exact VTo.nilslice | exact VTo.nilfunc | exact VTo.ptr rfl | exact VTo.gl rfl | exact VTo.map rfl | exact VTo.yld rfl | exact VTo.fmMap rfl | exact VTo.fm | exact VTo.glNil' (by decide) rfl rfl | exact VTo.fsNil (by decide) | exact VTo.fsSl rfl rfl (by simp [flat_len encE_len]) | exact VTo.fpPtr rfl | exact VTo.fsGl rfl (by first | rfl | exact flat_len encI_len _ | exact flat_len encS_len _ | exact flat_len encP_len _ | exact flat_len encL_len _ | exact flat_len encE_len _ | (simp [flat_len encP_len]; done) | simp [flat_len encI_len, flat_len encS_len]))) ?_)) trivial trivial rfl) (by repeat' (first | exact VTo.undef | exact FrTo.leaf | refine FrTo.node ?_ ?_ ?_ | refine FrTo.none ?_ ?_ | exact VTo.sc (by first | rfl | (congr 1; omega) | (congr 1; simp; omega)) | exact VTos_dv _ _ | refine VTos.cons ?_ ?_ | exact VTos.nil | refine VTo.agg ?_ | refine VTo.tuple ?_ | refine VTo.func ?_ ?_ | exact VTo.fs | exact VTo.fp | exact VTo.nilptr | exact VTo.nilslice | exact VTo.nilfunc | exact VTo.ptr rfl | exact VTo.gl rfl | exact VTo.map rfl | exact VTo.yld rfl | exact VTo.fmMap rfl | exact VTo.fm | exact VTo.glNil' (by decide) rfl rfl | exact VTo.fsNil (by decide) | exact VTo.fsSl rfl rfl (by simp [flat_len encE_len]) | exact VTo.fpPtr rfl | exact VTo.fsGl rfl (by first | rfl | exact flat_len encI_len _ | exact flat_len encS_len _ | exact flat_len encP_len _ | exact flat_len encL_len _ | exact flat_len encE_len _ | (simp [flat_len encP_len]; done) | simp [flat_len encI_len, flat_len encS_len]))) (by first | rfl | (repeat' (first | exact MkTo.nil | refine MkTo.keep rfl ?_ | refine MkTo.drop (by decide) rfl ?_)))
                  · have hkR : k = R.length := by dsimp only at h6; omega
                    subst hkR
                    rw [List.take_of_length_le (Nat.le_refl _)] at hw
                    subst hw
                    generalize blw m R = M at eM
                    conv => whnf
                    repeat' (first | (refine VLd.intro rfl ?_; conv => whnf) | (refine VArith.i64 (by first | omega | (dsimp only; omega)) ?_; conv => whnf) | (refine VNeed.intro (by first | rfl | (simp; omega)) ?_; conv => whnf) | (refine VMem.store rfl rfl rfl rfl ?_; conv => whnf) | (refine VSame.intro rfl ?_; conv => whnf) | (refine VIte.dec (fun _ => ?_) (fun _ => ?_) <;> conv => whnf) | (refine VIte.ndec (fun _ => ?_) (fun _ => ?_) <;> conv => whnf) | (refine VIte.beq (fun _ => ?_) (fun _ => ?_) <;> conv => whnf) | (refine VIte.bne (fun _ => ?_) (fun _ => ?_) <;> conv => whnf) | (refine VIte.intro (fun _ => ?_) (fun _ => ?_) <;> conv => whnf) | (refine VCall.intro (vc_awake _) ?_; conv => whnf) | (refine VCall.intro ((VC.lend1 [dL M, dL M] [(0, M.flatMap encI)] [] (by repeat' (first | exact FzAll.nil | refine FzAll.flat rfl ?_ | refine FzAll.row rfl rfl (RowTo.one rfl (by simp)) ?_)) trivial (by repeat' (first | exact VTo.undef | exact FrTo.leaf | refine FrTo.node ?_ ?_ ?_ | refine FrTo.none ?_ ?_ | exact VTo.sc (by first | rfl | (congr 1; omega) | (congr 1; simp; omega)) | exact VTos_dv _ _ | refine VTos.cons ?_ ?_ | exact VTos.nil | refine VTo.agg ?_ | refine VTo.tuple ?_ | refine VTo.func ?_ ?_ | exact VTo.fs | exact VTo.fp | exact VTo.nilptr | exact VTo.nilslice | exact VTo.nilfunc | exact VTo.ptr rfl | exact VTo.gl rfl | exact VTo.map rfl | exact VTo.yld rfl | exact VTo.fmMap rfl | exact VTo.fm | exact VTo.glNil' (by decide) rfl rfl | exact VTo.fsNil (by decide) | exact VTo.fsSl rfl rfl (by simp [flat_len encE_len]) | exact VTo.fpPtr rfl | exact VTo.fsGl rfl (by first | rfl | exact flat_len encI_len _ | exact flat_len encS_len _ | exact flat_len encP_len _ | exact flat_len encL_len _ | exact flat_len encE_len _ | (simp [flat_len encP_len]; done) | simp [flat_len encI_len, flat_len encS_len]))) (eM Hp.bare))) ?_; conv => whnf))
                    exact VOut.same rfl
end Go.Proofs.Ytolnajnlcdacmaa

open Go.Vm
namespace Go.Proofs.Ytolnajnlcdacmaa
open Go.ChangeShapes Go.WideShapes Go.ChangeAt Go.RowKit

theorem open8p : OpenAll Try.prog Try.f8.params.toList (fun x : List Int × List Int × {n : Int // 0 ≤ n ∧ n ≤ 255} × {n : Int // 0 ≤ n ∧ n ≤ 255} × Unit => [dU x.1, dU x.2.1, d8b x.2.2.1, d8b x.2.2.2.1]) := by
  rw [Try.params8]
  exact OpenAll.cons openU (OpenAll.cons openU (OpenAll.cons open8b (OpenAll.cons open8b (OpenAll.nil))))
set_option maxRecDepth 100000 in
theorem contract8 (H : Type) (enc : TypeId × Value → H) (W : World) (base : Nat) (args : Array Value) (ds gs : List (DataW H)) (before : List MemPlace)
    (hval : ∀ (j : Nat) t v, Try.f8.params[j]? = some t → args[j]? = some v → Value.okWide Try.prog W .any base t v)
    (hW : DataW.Whole enc Try.prog Try.f8.params.toList Rows.silenceMoreSpec.vars false W args.toList ds gs before) :
    Calls Try.prog 8 args W fun e W' => ∃ v, e = .returned v ∧ Rows.silenceMoreSpec.post enc Try.prog Try.f8 false true false false W args v W' := by
  refine contract_of_vc open8p (fun g => vc_SilenceMore g.1 g.2.1 g.2.2.1.1 g.2.2.1.2 g.2.2.2.1.1 g.2.2.2.1.2 Hp.bare) laidOut ?_ (tb := 4) (by kernel_rfl) Try.underlying4 rfl ?_ hval hW
  · rw [Try.params8]
    intro t ht
    simp only [List.mem_cons, List.not_mem_nil, or_false] at ht
    rcases ht with rfl | rfl | rfl | rfl
    all_goals exact ⟨by kernel_rfl, of_decide_eq_true (by kernel_rfl)⟩
  · intro H dd hl
    rw [Try.params8] at hl
    match dd, hl with
    | [d0, d1, d2, d3], _ => rfl
set_option maxRecDepth 100000 in
theorem lifted8 (os : Os) (started : os.Started) (H : Type) (enc : TypeId × Value → H) :
    ReturnsInHanded {} Try.checked os 8 .any (Rows.silenceMoreSpec.pre6 enc Try.prog Try.f8 Rows.silenceMoreRow.domain false) (Rows.silenceMoreSpec.post enc Try.prog Try.f8 false true false false) := by
  refine returnsInHanded_of_change (C := Try.checked) ownKn started (by kernel_rfl) Try.func8
    (ChangeSpec.witness6 (enc := enc) (C := Try.checked) false ⟨#[], #[.slice none 0 0, .slice none 0 0, .int .u8 0, .int .u8 0], []⟩ 8 (by kernel_rfl) (by kernel_rfl) (by kernel_rfl) (by kernel_rfl)) ?_
  intro W base args ds gs before hval hW _ _
  exact contract8 H enc W base args ds gs before hval hW
theorem silenceMore_said : Rows.SilenceMoreSaid :=
  OpenClaim.holds_of_wide 8 Try.f8 rfl rfl rfl rfl rfl rfl rfl ⟨rfl, rfl, rfl, rfl, rfl⟩ rfl rfl rfl rfl rfl (by kernel_rfl) Try.func8 (by kernel_rfl)
    (of_decide_eq_true (by kernel_rfl)) (by unfold Func.isWrapper; first | (rw [if_pos (by decide +kernel)]; kernel_rfl) | (rw [if_neg (by decide +kernel)]; exact ⟨rfl, rfl⟩))
    (fun os started H enc _ => lifted8 os started H enc)
end Go.Proofs.Ytolnajnlcdacmaa

