/- Part 5 of the proof that SilenceTurned: names that change, years that are later, and years that are three times as long change nothing.. No condition. -/
import Derived.Test.YtolnajnlcdacmaaTu4
set_option linter.unusedVariables false
set_option linter.unusedSimpArgs false
open Go.Vm
namespace Go.Proofs.Ytolnajnlcdacmaa
set_option maxRecDepth 20000
set_option maxHeartbeats 4000000

/-- What a deck deals, and the deck behind it. -/
def dNx (bs : List Int) (d : Nat × Int) (k : Int) : Int × (Nat × Int) :=
  if k ≤ 1 ∨ bs = [] then (0, d) else (dR bs d.1 d.2 k (bs.getD (d.1 % bs.length) 0), (d.1 + 1, dSt bs d.1 d.2 (bs.getD (d.1 % bs.length) 0)))
def deckB (bs : List Int) (d : Nat × Int) : Blk := .flat true (deckD bs d.1 d.2)
theorem dNx_bd (bs : List Int) (d : Nat × Int) (k : Int) : 0 ≤ (dNx bs d k).1 ∧ ((dNx bs d k).1 = 0 ∨ (dNx bs d k).1 < k) ∧ (dNx bs d k).2.1 ≤ d.1 + 1 := by
  unfold dNx
  split
  · exact ⟨Int.le_refl _, .inl rfl, by simp only; omega⟩
  · rename_i h
    obtain ⟨q1, q2⟩ := dR_bd bs d.1 d.2 (bs.getD (d.1 % bs.length) 0) (k := k) (by omega)
    exact ⟨q1, .inr q2, Nat.le_refl _⟩
theorem vc_draw (bs : List Int) (d : Nat × Int) (k : Int) (i : Vm.Id) (h : Hp) (hN : d.1 ≤ 4000000000) (hb : h.get i = some (deckB bs d)) : VC Try.prog 44 [.ptr i 0, I k] h (I (dNx bs d k).1) (h.set i (deckB bs (dNx bs d k).2)) := by
  unfold dNx deckB at *
  split
  · rename_i hk; exact vc_Draw0 bs d.1 d.2 k i h hb hk
  · rename_i hk
    have hlen := List.length_pos_iff.2 (fun h => hk (.inr h))
    have hc : bs[d.1 % bs.length]? = some (bs.getD (d.1 % bs.length) 0) := by simp [List.getElem?_eq_getElem (Nat.mod_lt d.1 hlen)]
    exact vc_Draw1 bs d.1 d.2 k _ i h hb (by omega) hc hN
theorem vc_between (bs : List Int) (d : Nat × Int) (a b : Int) (i : Vm.Id) (h : Hp) (hN : d.1 ≤ 4000000000) (ha : -1000000 ≤ a ∧ a ≤ 1000000) (hb : -1000000 ≤ b ∧ b ≤ 1000000) (hd : h.get i = some (deckB bs d)) : VC Try.prog 43 [.ptr i 0, I a, I b] h (I (a + (dNx bs d (b - a + 1)).1)) (h.set i (deckB bs (dNx bs d (b - a + 1)).2)) := by
  have hbd := dNx_bd bs d (b - a + 1)
  have hD := fun i h hh => vc_draw bs d (b - a + 1) i h hN hh
  generalize dNx bs d (b - a + 1) = x at hbd hD
  refine VC.body Try.func43 rfl Try.ntmps43 Try.call43 (h.grows_set _ _) rfl ?_
  conv => whnf
  repeat' (first | (refine VLd.intro rfl ?_; conv => whnf) | (refine VArith.i64 (by first | omega | (dsimp only; omega)) ?_; conv => whnf) | (refine VNeed.intro (by first | rfl | (simp; omega)) ?_; conv => whnf) | (refine VMem.store rfl rfl rfl rfl ?_; conv => whnf) | (refine VSame.intro rfl ?_; conv => whnf) | (refine VDraw.go [] (by kernel_rfl) (by kernel_rfl) ?_; conv => whnf) | (refine VIte.dec (fun _ => ?_) (fun _ => ?_) <;> conv => whnf) | (refine VIte.ndec (fun _ => ?_) (fun _ => ?_) <;> conv => whnf) | (refine VIte.beq (fun _ => ?_) (fun _ => ?_) <;> conv => whnf) | (refine VIte.bne (fun _ => ?_) (fun _ => ?_) <;> conv => whnf) | (refine VIte.intro (fun _ => ?_) (fun _ => ?_) <;> conv => whnf) | (refine VCall.intro (hD (.out i) _ (get_out hd _)) ?_; conv => whnf))
  exact VOut.setS (L := 0) rfl hd
theorem vc_coin (bs : List Int) (d : Nat × Int) (k : Int) (i : Vm.Id) (h : Hp) (hN : d.1 ≤ 4000000000) (hd : h.get i = some (deckB bs d)) : VC Try.prog 42 [.ptr i 0, I k] h (B ((dNx bs d k).1 == 0)) (h.set i (deckB bs (dNx bs d k).2)) := by
  have hD := fun i h hh => vc_draw bs d k i h hN hh
  generalize dNx bs d k = x at hD
  refine VC.body Try.func42 rfl Try.ntmps42 Try.call42 (h.grows_set _ _) rfl ?_
  conv => whnf
  repeat' (first | (refine VLd.intro rfl ?_; conv => whnf) | (refine VArith.i64 (by first | omega | (dsimp only; omega)) ?_; conv => whnf) | (refine VNeed.intro (by first | rfl | (simp; omega)) ?_; conv => whnf) | (refine VMem.store rfl rfl rfl rfl ?_; conv => whnf) | (refine VSame.intro rfl ?_; conv => whnf) | (refine VDraw.go [] (by kernel_rfl) (by kernel_rfl) ?_; conv => whnf) | (refine VIte.dec (fun _ => ?_) (fun _ => ?_) <;> conv => whnf) | (refine VIte.ndec (fun _ => ?_) (fun _ => ?_) <;> conv => whnf) | (refine VIte.beq (fun _ => ?_) (fun _ => ?_) <;> conv => whnf) | (refine VIte.bne (fun _ => ?_) (fun _ => ?_) <;> conv => whnf) | (refine VIte.intro (fun _ => ?_) (fun _ => ?_) <;> conv => whnf) | (refine VCall.intro (hD (.out i) _ (get_out hd _)) ?_; conv => whnf))
  exact VOut.setS (L := 0) rfl hd
theorem VOut.ownP {h : Hp} {loc : List Blk} {ds : List D} (j L : Nat) (hL : Nat.ble loc.length L = true) (hj : loc[j]? = some (.flat true ds)) : VOut h ⟨h.lift, loc⟩ (.ptr (.loc j) 0) (.ptr h.fresh 0) (h.push (.flat true ds)) := by
  refine VOut.upd [] [.flat true ds] [j] L hL (by intro p hp; cases hp) (by simp) rfl ?_ ?_ rfl
  · intro k b hk
    cases k with
    | zero => rw [List.getElem?_cons_zero, Option.some.injEq] at hk; subst hk; exact ⟨j, rfl, hj⟩
    | succ k => simp at hk
  · intro σ x hx
    have : (V.ptr h.fresh 0).ren (backR h.loc.length [j] L) = .ptr (.loc j) 0 := by simp [V.ren, backR, Hp.fresh]
    rw [this]; exact hx
theorem vc_Of (bs : List Int) (h : Hp) : VC Try.prog 26 [bytes bs] h (.ptr h.fresh 0) (h.push (deckB bs (0, 9))) := by
  refine VC.body Try.func26 rfl Try.ntmps26 Try.call26 (h.grows_push _) rfl ?_
  conv => whnf
  repeat (first | (refine VLd.intro rfl ?_; conv => whnf) | (refine VArith.i64 (by first | omega | (dsimp only; omega)) ?_; conv => whnf) | (refine VNeed.intro (by first | rfl | (simp; omega)) ?_; conv => whnf) | (refine VMem.store rfl rfl rfl rfl ?_; conv => whnf) | (refine VSame.intro rfl ?_; conv => whnf) | (refine VDraw.go [] (by kernel_rfl) (by kernel_rfl) ?_; conv => whnf))
  exact VOut.ownP 0 1 rfl rfl
theorem VOut.setF {h : Hp} {loc : List Blk} {i : Vm.Id} {b0 : Blk} {l : List D} {rw : Bool} {r : V} {L : Nat} (hL : Nat.ble loc.length L = true) (hb : h.get i = some b0) (hr : ∀ ρ, r.ren ρ = r) : VOut h ⟨outW h.lift i (.flat rw l), loc⟩ r r (h.set i (.flat rw l)) := by
  have hd : ∀ p ∈ [(i, Blk.flat rw l)], h.get p.1 ≠ none := by
    intro p hp
    simp only [List.mem_cons, List.not_mem_nil, or_false] at hp
    subst hp; simp only; rw [hb]; simp
  have := VOut.upd (loc := loc) (r1 := r) (r := r) [(i, .flat rw l)] [] [] L hL hd (by simp) rfl (by intro k b hk; simp at hk) (fun σ x hx => by rw [hr]; exact hx) (outer := outW h.lift i (.flat rw l)) rfl
  have he : (h.sets [(i, Blk.flat rw l)]).pushes [] = h.set i (.flat rw l) := by simp [Hp.sets, Hp.pushes]
  rw [he] at this
  exact this
/-! ### A file that is made of numbers -/

structure MS where
  d : Nat × Int
  year : Int
  side : Int
  ps : List Pap
def mStep (bs : List Int) (yrs : Int) (m : MS) : MS :=
  ⟨(dNx bs (dNx bs (dNx bs m.d 6).2 yrs).2 (14 - 1 + 1)).2,
   m.year + (dNx bs (dNx bs m.d 6).2 yrs).1 + (1 + (dNx bs (dNx bs (dNx bs m.d 6).2 yrs).2 (14 - 1 + 1)).1),
   bif (dNx bs m.d 6).1 == 0 then 1 - m.side else m.side,
   m.ps ++ [⟨bif (dNx bs m.d 6).1 == 0 then 1 - m.side else m.side, m.year, m.year + (dNx bs (dNx bs m.d 6).2 yrs).1⟩]⟩
def mIt (bs : List Int) (yrs : Int) (m : MS) : Nat → MS
  | 0 => m
  | k + 1 => mStep bs yrs (mIt bs yrs m k)
/-- What is known of it. -/
structure MOk (yrs : Int) (k : Nat) (N : Nat) (m : MS) : Prop where
  n : m.d.1 ≤ N + 3 * k
  year : 0 ≤ m.year ∧ m.year ≤ 50 + 20 * k
  side : m.side = 0 ∨ m.side = 1
  len : m.ps.length = k
  paps : ∀ p ∈ m.ps, (p.side = 0 ∨ p.side = 1) ∧ 0 ≤ p.lo ∧ p.lo ≤ p.hi ∧ p.hi < p.lo + yrs ∧ p.hi < m.year
  asc : ∀ last : Int, (∀ p ∈ m.ps, last < p.lo) → m.ps.Pairwise (fun p q => p.hi < q.lo)
theorem MOk.step {bs : List Int} {yrs : Int} {k N : Nat} {m : MS} (h : MOk yrs k N m) (hy : 1 ≤ yrs ∧ yrs ≤ 5) : MOk yrs (k + 1) N (mStep bs yrs m) := by
  obtain ⟨a1, a2, a3⟩ := dNx_bd bs m.d 6
  obtain ⟨b1, b2, b3⟩ := dNx_bd bs (dNx bs m.d 6).2 yrs
  obtain ⟨c1, c2, c3⟩ := dNx_bd bs (dNx bs (dNx bs m.d 6).2 yrs).2 (14 - 1 + 1)
  obtain ⟨n1, n2, n3, n4, n5, n6⟩ := h
  unfold mStep
  generalize dNx bs (dNx bs (dNx bs m.d 6).2 yrs).2 (14 - 1 + 1) = z at c1 c2 c3
  generalize dNx bs (dNx bs m.d 6).2 yrs = y at b1 b2 b3 c3
  generalize dNx bs m.d 6 = x at a1 a2 a3 b3
  obtain ⟨S, hS, hS2⟩ : ∃ S, S = (bif x.1 == 0 then 1 - m.side else m.side) ∧ (S = 0 ∨ S = 1) := by
    refine ⟨_, rfl, ?_⟩
    cases x.1 == 0 <;> simp only [cond_true, cond_false] <;> omega
  rw [← hS]
  refine ⟨by simp only; omega, by simp only; omega, hS2, by simp [n4], ?_, ?_⟩
  · intro p hp
    simp only [List.mem_append, List.mem_singleton] at hp ⊢
    rcases hp with hp | rfl
    · have := n5 p hp
      exact ⟨this.1, this.2.1, this.2.2.1, this.2.2.2.1, by omega⟩
    · exact ⟨hS2, by simp only; omega, by simp only; omega, by simp only; omega, by simp only; omega⟩
  · intro last _
    simp only
    rw [List.pairwise_append]
    refine ⟨n6 (-1) (fun p hp => by have := (n5 p hp).2.1; omega), by simp, fun p hp q hq => ?_⟩
    rw [List.mem_singleton] at hq
    subst hq
    exact (n5 p hp).2.2.2.2
theorem mIt_ok {bs : List Int} {yrs : Int} {N : Nat} {m : MS} (h : MOk yrs 0 N m) (hy : 1 ≤ yrs ∧ yrs ≤ 5) : ∀ k, MOk yrs k N (mIt bs yrs m k)
  | 0 => h
  | k + 1 => (mIt_ok h hy k).step hy
/-- The file. -/
def mY (bs : List Int) (d : Nat × Int) : Int := 5 + (dNx bs d (60 - 5 + 1)).1
def mG (bs : List Int) (d : Nat × Int) : Int := 4 + (dNx bs (dNx bs d (60 - 5 + 1)).2 (20 - 4 + 1)).1
def mD2 (bs : List Int) (d : Nat × Int) : Nat × Int := (dNx bs (dNx bs d (60 - 5 + 1)).2 (20 - 4 + 1)).2
def m0 (bs : List Int) (d : Nat × Int) (papers : Int) : MS :=
  ⟨(dNx bs (dNx bs (dNx bs (mD2 bs d) 50).2 2).2 (papers + 1)).2, (dNx bs (mD2 bs d) 50).1, (dNx bs (dNx bs (mD2 bs d) 50).2 2).1, []⟩
def mN (bs : List Int) (d : Nat × Int) (papers : Int) : Nat := (dNx bs (dNx bs (dNx bs (mD2 bs d) 50).2 2).2 (papers + 1)).1.toNat
def mEnd (bs : List Int) (d : Nat × Int) (papers yrs : Int) : MS := mIt bs yrs (m0 bs d papers) (mN bs d papers)
def mFile (bs : List Int) (d : Nat × Int) (papers yrs : Int) : Fil := ⟨mY bs d, mG bs d, (mEnd bs d papers yrs).ps⟩
theorem vc_Made (bs : List Int) (d : Nat × Int) (papers yrs : Int) (i : Vm.Id) (h : Hp) (hN : d.1 ≤ 1000000) (hp : 0 ≤ papers ∧ papers ≤ 16) (hy : 1 ≤ yrs ∧ yrs ≤ 4) (hd : h.get i = some (deckB bs d)) :
    VC Try.prog 25 [.ptr i 0, I papers, I yrs] h (vF (mFile bs d papers yrs)) (h.set i (deckB bs (mEnd bs d papers yrs).d)) := by
  have e1 := dNx_bd bs d (60 - 5 + 1)
  have c1 := fun (h2 : Hp) hh => vc_between bs d 5 60 (.out i) h2 (by omega) (by omega) (by omega) hh
  obtain ⟨x1, hx1⟩ : ∃ x, x = dNx bs d (60 - 5 + 1) := ⟨_, rfl⟩
  rw [← hx1] at e1 c1
  have e2 := dNx_bd bs x1.2 (20 - 4 + 1)
  have c2 := fun (h2 : Hp) hh => vc_between bs x1.2 4 20 (.out i) h2 (by omega) (by omega) (by omega) hh
  obtain ⟨x2, hx2⟩ : ∃ x, x = dNx bs x1.2 (20 - 4 + 1) := ⟨_, rfl⟩
  rw [← hx2] at e2 c2
  have e3 := dNx_bd bs x2.2 50
  have c3 := fun (h2 : Hp) hh => vc_draw bs x2.2 50 (.out i) h2 (by omega) hh
  obtain ⟨x3, hx3⟩ : ∃ x, x = dNx bs x2.2 50 := ⟨_, rfl⟩
  rw [← hx3] at e3 c3
  have e4 := dNx_bd bs x3.2 2
  have c4 := fun (h2 : Hp) hh => vc_draw bs x3.2 2 (.out i) h2 (by omega) hh
  obtain ⟨x4, hx4⟩ : ∃ x, x = dNx bs x3.2 2 := ⟨_, rfl⟩
  rw [← hx4] at e4 c4
  have e5 := dNx_bd bs x4.2 (papers + 1)
  have c5 := fun (h2 : Hp) hh => vc_draw bs x4.2 (papers + 1) (.out i) h2 (by omega) hh
  obtain ⟨x5, hx5⟩ : ∃ x, x = dNx bs x4.2 (papers + 1) := ⟨_, rfl⟩
  rw [← hx5] at e5 c5
  have hE : mEnd bs d papers yrs = mIt bs yrs ⟨x5.2, x3.1, x4.1, []⟩ x5.1.toNat := by unfold mEnd m0 mN mD2; rw [← hx1, ← hx2, ← hx3, ← hx4, ← hx5]
  have hF : mFile bs d papers yrs = ⟨5 + x1.1, 4 + x2.1, (mEnd bs d papers yrs).ps⟩ := by unfold mFile mY mG; rw [← hx1, ← hx2]
  rw [hF, hE]
  have hk0 : MOk yrs 0 x5.2.1 ⟨x5.2, x3.1, x4.1, []⟩ := ⟨by simp only; omega, by simp only; omega, by simp only; omega, rfl, by simp, by simp⟩
  have hok := fun k => mIt_ok (bs := bs) hk0 (by omega) k
  obtain ⟨n, hn⟩ : ∃ n : Nat, x5.1 = n := ⟨x5.1.toNat, by omega⟩
  have hn16 : n ≤ 16 := by omega
  rw [hn, Int.toNat_natCast]
  rw [hn] at c5
  obtain ⟨M0, hM0⟩ : ∃ m, m = MS.mk x5.2 x3.1 x4.1 [] := ⟨_, rfl⟩
  rw [← hM0] at hok ⊢
  have hM1 : M0.d = x5.2 := by rw [hM0]
  have hM2 : M0.year = x3.1 := by rw [hM0]
  have hM3 : M0.side = x4.1 := by rw [hM0]
  have hM4 : M0.ps = [] := by rw [hM0]
  clear hE hF hk0 hx1 hx2 hx3 hx4 hx5 hM0
  refine VC.body Try.func25 rfl Try.ntmps25 Try.call25 (h.grows_set _ _) rfl ?_
  conv => whnf
  repeat' (first | (refine VLd.intro rfl ?_; conv => whnf) | (refine VArith.i64 (by first | omega | (dsimp only; omega)) ?_; conv => whnf) | (refine VNeed.intro (by first | rfl | (simp; omega)) ?_; conv => whnf) | (refine VMem.store rfl rfl rfl rfl ?_; conv => whnf) | (refine VSame.intro rfl ?_; conv => whnf) | (refine VDraw.go [] (by kernel_rfl) (by kernel_rfl) ?_; conv => whnf) | (refine VIte.dec (fun _ => ?_) (fun _ => ?_) <;> conv => whnf) | (refine VIte.ndec (fun _ => ?_) (fun _ => ?_) <;> conv => whnf) | (refine VIte.beq (fun _ => ?_) (fun _ => ?_) <;> conv => whnf) | (refine VIte.bne (fun _ => ?_) (fun _ => ?_) <;> conv => whnf) | (refine VIte.intro (fun _ => ?_) (fun _ => ?_) <;> conv => whnf) | (refine VCall.intro (c1 _ (get_out hd _)) ?_; conv => whnf) | (refine VCall.intro (c2 _ (outW_get _ _ _ _)) ?_; conv => whnf) | (refine VCall.intro (c3 _ (outW_get _ _ _ _)) ?_; conv => whnf) | (refine VCall.intro (c4 _ (outW_get _ _ _ _)) ?_; conv => whnf) | (refine VCall.intro (c5 _ (outW_get _ _ _ _)) ?_; conv => whnf))
  refine VCode.lpo (fun y : Nat × MS => [(0, .ptr (.out i) 0), (2, I yrs), (6, .ptr (.loc 0) 0), (7, .ptr (.loc 1) 0), (8, I y.2.year), (9, I y.2.side), (23, I n), (24, I y.1)]) (fun y => outW h.lift i (deckB bs y.2.d))
    (fun y => [.flat true [DI 0, DI 0, .nilslice], .cells true [I (5 + x1.1), I (4 + x2.1), .gl (.loc 2) 3 y.2.ps.length], .flat true (y.2.ps.flatMap encP)]) (fun y => y.1 ≤ n ∧ y.2 = mIt bs yrs M0 y.1) (fun y => n - y.1) (0, M0) ⟨Nat.zero_le _, rfl⟩ ?_ ?_ ?_
  · rw [← hM1]; funext j; by_cases e : j = i <;> simp [outW, e, Hp.set]
  · conv => whnf
    rw [← hM2, ← hM3, hM4]
    refine Retell.turn ⟨[0,1,2], 2, [], []⟩ (TurnOk.mk' _ _ [] [] (OutOk.outW (OutOk.lift _) rfl) rfl (by decide) (by repeat' (first | exact BTos.nil | refine BTos.flat rfl rfl (by first | rfl | simp) ?_ | refine BTos.new rfl ?_ | refine BTos.dead rfl rfl ?_ | refine BTos.esE rfl rfl ?_ | refine BTos.row rfl rfl rfl (RowTo.snoc (RowTo.one rfl (by simp))) ?_ | refine BTos.cells rfl rfl rfl (by repeat' (first | exact VTo.undef | exact FrTo.leaf | refine FrTo.node ?_ ?_ ?_ | refine FrTo.none ?_ ?_ | exact VTo.sc (by first | rfl | (congr 1; omega) | (congr 1; simp; omega)) | exact VTos_dv _ _ | refine VTos.cons ?_ ?_ | exact VTos.nil | refine VTo.agg ?_ | refine VTo.tuple ?_ | refine VTo.func ?_ ?_ | exact VTo.fs | exact VTo.fp | exact VTo.nilptr | exact VTo.nilslice | exact VTo.nilfunc | exact VTo.ptr rfl | exact VTo.gl rfl | exact VTo.map rfl | exact VTo.yld rfl | exact VTo.fmMap rfl | exact VTo.fm | exact VTo.glNil' (by decide) rfl rfl | exact VTo.fsNil (by decide) | exact VTo.fsSl rfl rfl (by simp [flat_len encE_len]) | exact VTo.fpPtr rfl | exact VTo.fsGl rfl (by first | rfl | exact flat_len encI_len _ | exact flat_len encS_len _ | exact flat_len encP_len _ | exact flat_len encL_len _ | exact flat_len encE_len _ | (simp [flat_len encP_len]; done) | simp [flat_len encI_len, flat_len encS_len]))) ?_)) trivial trivial rfl) (by repeat' (first | exact VTo.undef | exact FrTo.leaf | refine FrTo.node ?_ ?_ ?_ | refine FrTo.none ?_ ?_ | exact VTo.sc (by first | rfl | (congr 1; omega) | (congr 1; simp; omega)) | exact VTos_dv _ _ | refine VTos.cons ?_ ?_ | exact VTos.nil | refine VTo.agg ?_ | refine VTo.tuple ?_ | refine VTo.func ?_ ?_ | exact VTo.fs | exact VTo.fp | exact VTo.nilptr | exact VTo.nilslice | exact VTo.nilfunc | exact VTo.ptr rfl | exact VTo.gl rfl | exact VTo.map rfl | exact VTo.yld rfl | exact VTo.fmMap rfl | exact VTo.fm | exact VTo.glNil' (by decide) rfl rfl | exact VTo.fsNil (by decide) | exact VTo.fsSl rfl rfl (by simp [flat_len encE_len]) | exact VTo.fpPtr rfl | exact VTo.fsGl rfl (by first | rfl | exact flat_len encI_len _ | exact flat_len encS_len _ | exact flat_len encP_len _ | exact flat_len encL_len _ | exact flat_len encE_len _ | (simp [flat_len encP_len]; done) | simp [flat_len encI_len, flat_len encS_len]))) (by first | rfl | (repeat' (first | exact MkTo.nil | refine MkTo.keep rfl ?_ | refine MkTo.drop (by decide) rfl ?_)))
  · rintro ⟨k, m⟩ ⟨hk, hm⟩
    dsimp only at hk hm
    have hmk := hok k
    have hnx : mIt bs yrs M0 (k + 1) = mStep bs yrs m := by rw [mIt, hm]
    rw [← hm] at hmk
    obtain ⟨n1, n2, n3, n4, n5, n6⟩ := hmk
    have hkn : k ≤ 16 := by omega
    have q1 := dNx_bd bs m.d 6
    have g1 := fun (h2 : Hp) hh => vc_coin bs m.d 6 (.out i) h2 (by omega) hh
    unfold mStep at hnx
    obtain ⟨y1, hy1⟩ : ∃ y, y = dNx bs m.d 6 := ⟨_, rfl⟩
    rw [← hy1] at q1 g1 hnx
    have q2 := dNx_bd bs y1.2 yrs
    have g2 := fun (h2 : Hp) hh => vc_draw bs y1.2 yrs (.out i) h2 (by omega) hh
    obtain ⟨y2, hy2⟩ : ∃ y, y = dNx bs y1.2 yrs := ⟨_, rfl⟩
    rw [← hy2] at q2 g2 hnx
    have q3 := dNx_bd bs y2.2 (14 - 1 + 1)
    have g3 := fun (h2 : Hp) hh => vc_between bs y2.2 1 14 (.out i) h2 (by omega) (by omega) (by omega) hh
    obtain ⟨y3, hy3⟩ : ∃ y, y = dNx bs y2.2 (14 - 1 + 1) := ⟨_, rfl⟩
    rw [← hy3] at q3 g3 hnx
    clear hy1 hy2 hy3
    conv => whnf
    refine VIte.dec (fun h3 => ?_) (fun h3 => ?_)
    · conv => whnf
      repeat' (first | (refine VLd.intro rfl ?_; conv => whnf) | (refine VArith.i64 (by first | omega | (dsimp only; omega)) ?_; conv => whnf) | (refine VNeed.intro (by first | rfl | (simp; omega)) ?_; conv => whnf) | (refine VMem.store rfl rfl rfl rfl ?_; conv => whnf) | (refine VSame.intro rfl ?_; conv => whnf) | (refine VIte.dec (fun _ => ?_) (fun _ => ?_) <;> conv => whnf) | (refine VIte.ndec (fun _ => ?_) (fun _ => ?_) <;> conv => whnf) | (refine VIte.beq (fun _ => ?_) (fun _ => ?_) <;> conv => whnf) | (refine VIte.bne (fun _ => ?_) (fun _ => ?_) <;> conv => whnf) | (refine VIte.intro (fun _ => ?_) (fun _ => ?_) <;> conv => whnf) | (refine VCall.intro (g1 _ (outW_get _ _ _ _)) ?_; conv => whnf) | (refine VCall.intro (g2 _ (outW_get _ _ _ _)) ?_; conv => whnf) | (refine VCall.intro (g3 _ (outW_get _ _ _ _)) ?_; conv => whnf))
      · rename_i hc
        have hnx : mIt bs yrs M0 (k + 1) = ⟨y3.2, m.year + y2.1 + (1 + y3.1), 1 - m.side, m.ps ++ [⟨1 - m.side, m.year, m.year + y2.1⟩]⟩ := by rw [hnx, hc]; rfl
        refine VMem.app1 (l := m.ps) (⟨1 - m.side, m.year, m.year + y2.1⟩ : Pap) encP_len rfl rfl rfl rfl rfl (by omega) ?_
        conv => whnf
        repeat' (first | (refine VLd.intro rfl ?_; conv => whnf) | (refine VArith.i64 (by first | omega | (dsimp only; omega)) ?_; conv => whnf) | (refine VNeed.intro (by first | rfl | (simp; omega)) ?_; conv => whnf) | (refine VMem.store rfl rfl rfl rfl ?_; conv => whnf) | (refine VSame.intro rfl ?_; conv => whnf) | (refine VIte.dec (fun _ => ?_) (fun _ => ?_) <;> conv => whnf) | (refine VIte.ndec (fun _ => ?_) (fun _ => ?_) <;> conv => whnf) | (refine VIte.beq (fun _ => ?_) (fun _ => ?_) <;> conv => whnf) | (refine VIte.bne (fun _ => ?_) (fun _ => ?_) <;> conv => whnf) | (refine VIte.intro (fun _ => ?_) (fun _ => ?_) <;> conv => whnf))
        refine VDraw.go [(2, 4)] (by kernel_rfl) (by kernel_rfl) ?_
        conv => whnf
        repeat' (first | (refine VLd.intro rfl ?_; conv => whnf) | (refine VArith.i64 (by first | omega | (dsimp only; omega)) ?_; conv => whnf) | (refine VNeed.intro (by first | rfl | (simp; omega)) ?_; conv => whnf) | (refine VMem.store rfl rfl rfl rfl ?_; conv => whnf) | (refine VSame.intro rfl ?_; conv => whnf) | (refine VIte.dec (fun _ => ?_) (fun _ => ?_) <;> conv => whnf) | (refine VIte.ndec (fun _ => ?_) (fun _ => ?_) <;> conv => whnf) | (refine VIte.beq (fun _ => ?_) (fun _ => ?_) <;> conv => whnf) | (refine VIte.bne (fun _ => ?_) (fun _ => ?_) <;> conv => whnf) | (refine VIte.intro (fun _ => ?_) (fun _ => ?_) <;> conv => whnf) | (refine VCall.intro (g3 _ (outW_get _ _ _ _)) ?_; conv => whnf))
        refine LEndO.intro (k + 1, _) ⟨by dsimp only; omega, hnx.symm⟩ (by dsimp only; omega) ?_ ?_
        · funext j; by_cases e : j = i <;> simp [outW, e, Hp.set]
        · conv => whnf
          rw [List.length_append]
          refine Retell.turn ⟨[0,1,5], 6, [], []⟩ (TurnOk.mk' _ _ [] [] (OutOk.outW (OutOk.lift _) rfl) rfl (by decide) (by repeat' (first | exact BTos.nil | refine BTos.flat rfl rfl (by first | rfl | simp) ?_ | refine BTos.new rfl ?_ | refine BTos.dead rfl rfl ?_ | refine BTos.esE rfl rfl ?_ | refine BTos.row rfl rfl rfl (RowTo.snoc (RowTo.one rfl (by simp))) ?_ | refine BTos.cells rfl rfl rfl (by repeat' (first | exact VTo.undef | exact FrTo.leaf | refine FrTo.node ?_ ?_ ?_ | refine FrTo.none ?_ ?_ | exact VTo.sc (by first | rfl | (congr 1; omega) | (congr 1; simp; omega)) | exact VTos_dv _ _ | refine VTos.cons ?_ ?_ | exact VTos.nil | refine VTo.agg ?_ | refine VTo.tuple ?_ | refine VTo.func ?_ ?_ | exact VTo.fs | exact VTo.fp | exact VTo.nilptr | exact VTo.nilslice | exact VTo.nilfunc | exact VTo.ptr rfl | exact VTo.gl rfl | exact VTo.map rfl | exact VTo.yld rfl | exact VTo.fmMap rfl | exact VTo.fm | exact VTo.glNil' (by decide) rfl rfl | exact VTo.fsNil (by decide) | exact VTo.fsSl rfl rfl (by simp [flat_len encE_len]) | exact VTo.fpPtr rfl | exact VTo.fsGl rfl (by first | rfl | exact flat_len encI_len _ | exact flat_len encS_len _ | exact flat_len encP_len _ | exact flat_len encL_len _ | exact flat_len encE_len _ | (simp [flat_len encP_len]; done) | simp [flat_len encI_len, flat_len encS_len]))) ?_)) trivial trivial rfl) (by repeat' (first | exact VTo.undef | exact FrTo.leaf | refine FrTo.node ?_ ?_ ?_ | refine FrTo.none ?_ ?_ | exact VTo.sc (by first | rfl | (congr 1; omega) | (congr 1; simp; omega)) | exact VTos_dv _ _ | refine VTos.cons ?_ ?_ | exact VTos.nil | refine VTo.agg ?_ | refine VTo.tuple ?_ | refine VTo.func ?_ ?_ | exact VTo.fs | exact VTo.fp | exact VTo.nilptr | exact VTo.nilslice | exact VTo.nilfunc | exact VTo.ptr rfl | exact VTo.gl rfl | exact VTo.map rfl | exact VTo.yld rfl | exact VTo.fmMap rfl | exact VTo.fm | exact VTo.glNil' (by decide) rfl rfl | exact VTo.fsNil (by decide) | exact VTo.fsSl rfl rfl (by simp [flat_len encE_len]) | exact VTo.fpPtr rfl | exact VTo.fsGl rfl (by first | rfl | exact flat_len encI_len _ | exact flat_len encS_len _ | exact flat_len encP_len _ | exact flat_len encL_len _ | exact flat_len encE_len _ | (simp [flat_len encP_len]; done) | simp [flat_len encI_len, flat_len encS_len]))) (by first | rfl | (repeat' (first | exact MkTo.nil | refine MkTo.keep rfl ?_ | refine MkTo.drop (by decide) rfl ?_)))
      · rename_i hc
        have hc2 : (y1.1 == 0) = false := by rw [beq_eq_false_iff_ne]; exact hc
        have hnx : mIt bs yrs M0 (k + 1) = ⟨y3.2, m.year + y2.1 + (1 + y3.1), m.side, m.ps ++ [⟨m.side, m.year, m.year + y2.1⟩]⟩ := by rw [hnx, hc2]; rfl
        repeat' (first | (refine VLd.intro rfl ?_; conv => whnf) | (refine VArith.i64 (by first | omega | (dsimp only; omega)) ?_; conv => whnf) | (refine VNeed.intro (by first | rfl | (simp; omega)) ?_; conv => whnf) | (refine VMem.store rfl rfl rfl rfl ?_; conv => whnf) | (refine VSame.intro rfl ?_; conv => whnf) | (refine VIte.dec (fun _ => ?_) (fun _ => ?_) <;> conv => whnf) | (refine VIte.ndec (fun _ => ?_) (fun _ => ?_) <;> conv => whnf) | (refine VIte.beq (fun _ => ?_) (fun _ => ?_) <;> conv => whnf) | (refine VIte.bne (fun _ => ?_) (fun _ => ?_) <;> conv => whnf) | (refine VIte.intro (fun _ => ?_) (fun _ => ?_) <;> conv => whnf) | (refine VCall.intro (g2 _ (outW_get _ _ _ _)) ?_; conv => whnf))
        refine VMem.app1 (l := m.ps) (⟨m.side, m.year, m.year + y2.1⟩ : Pap) encP_len rfl rfl rfl rfl rfl (by omega) ?_
        conv => whnf
        repeat' (first | (refine VLd.intro rfl ?_; conv => whnf) | (refine VArith.i64 (by first | omega | (dsimp only; omega)) ?_; conv => whnf) | (refine VNeed.intro (by first | rfl | (simp; omega)) ?_; conv => whnf) | (refine VMem.store rfl rfl rfl rfl ?_; conv => whnf) | (refine VSame.intro rfl ?_; conv => whnf) | (refine VIte.dec (fun _ => ?_) (fun _ => ?_) <;> conv => whnf) | (refine VIte.ndec (fun _ => ?_) (fun _ => ?_) <;> conv => whnf) | (refine VIte.beq (fun _ => ?_) (fun _ => ?_) <;> conv => whnf) | (refine VIte.bne (fun _ => ?_) (fun _ => ?_) <;> conv => whnf) | (refine VIte.intro (fun _ => ?_) (fun _ => ?_) <;> conv => whnf))
        refine VDraw.go [(2, 4)] (by kernel_rfl) (by kernel_rfl) ?_
        conv => whnf
        repeat' (first | (refine VLd.intro rfl ?_; conv => whnf) | (refine VArith.i64 (by first | omega | (dsimp only; omega)) ?_; conv => whnf) | (refine VNeed.intro (by first | rfl | (simp; omega)) ?_; conv => whnf) | (refine VMem.store rfl rfl rfl rfl ?_; conv => whnf) | (refine VSame.intro rfl ?_; conv => whnf) | (refine VIte.dec (fun _ => ?_) (fun _ => ?_) <;> conv => whnf) | (refine VIte.ndec (fun _ => ?_) (fun _ => ?_) <;> conv => whnf) | (refine VIte.beq (fun _ => ?_) (fun _ => ?_) <;> conv => whnf) | (refine VIte.bne (fun _ => ?_) (fun _ => ?_) <;> conv => whnf) | (refine VIte.intro (fun _ => ?_) (fun _ => ?_) <;> conv => whnf) | (refine VCall.intro (g3 _ (outW_get _ _ _ _)) ?_; conv => whnf))
        refine LEndO.intro (k + 1, _) ⟨by dsimp only; omega, hnx.symm⟩ (by dsimp only; omega) ?_ ?_
        · funext j; by_cases e : j = i <;> simp [outW, e, Hp.set]
        · conv => whnf
          rw [List.length_append]
          refine Retell.turn ⟨[0,1,5], 6, [], []⟩ (TurnOk.mk' _ _ [] [] (OutOk.outW (OutOk.lift _) rfl) rfl (by decide) (by repeat' (first | exact BTos.nil | refine BTos.flat rfl rfl (by first | rfl | simp) ?_ | refine BTos.new rfl ?_ | refine BTos.dead rfl rfl ?_ | refine BTos.esE rfl rfl ?_ | refine BTos.row rfl rfl rfl (RowTo.snoc (RowTo.one rfl (by simp))) ?_ | refine BTos.cells rfl rfl rfl (by repeat' (first | exact VTo.undef | exact FrTo.leaf | refine FrTo.node ?_ ?_ ?_ | refine FrTo.none ?_ ?_ | exact VTo.sc (by first | rfl | (congr 1; omega) | (congr 1; simp; omega)) | exact VTos_dv _ _ | refine VTos.cons ?_ ?_ | exact VTos.nil | refine VTo.agg ?_ | refine VTo.tuple ?_ | refine VTo.func ?_ ?_ | exact VTo.fs | exact VTo.fp | exact VTo.nilptr | exact VTo.nilslice | exact VTo.nilfunc | exact VTo.ptr rfl | exact VTo.gl rfl | exact VTo.map rfl | exact VTo.yld rfl | exact VTo.fmMap rfl | exact VTo.fm | exact VTo.glNil' (by decide) rfl rfl | exact VTo.fsNil (by decide) | exact VTo.fsSl rfl rfl (by simp [flat_len encE_len]) | exact VTo.fpPtr rfl | exact VTo.fsGl rfl (by first | rfl | exact flat_len encI_len _ | exact flat_len encS_len _ | exact flat_len encP_len _ | exact flat_len encL_len _ | exact flat_len encE_len _ | (simp [flat_len encP_len]; done) | simp [flat_len encI_len, flat_len encS_len]))) ?_)) trivial trivial rfl) (by repeat' (first | exact VTo.undef | exact FrTo.leaf | refine FrTo.node ?_ ?_ ?_ | refine FrTo.none ?_ ?_ | exact VTo.sc (by first | rfl | (congr 1; omega) | (congr 1; simp; omega)) | exact VTos_dv _ _ | refine VTos.cons ?_ ?_ | exact VTos.nil | refine VTo.agg ?_ | refine VTo.tuple ?_ | refine VTo.func ?_ ?_ | exact VTo.fs | exact VTo.fp | exact VTo.nilptr | exact VTo.nilslice | exact VTo.nilfunc | exact VTo.ptr rfl | exact VTo.gl rfl | exact VTo.map rfl | exact VTo.yld rfl | exact VTo.fmMap rfl | exact VTo.fm | exact VTo.glNil' (by decide) rfl rfl | exact VTo.fsNil (by decide) | exact VTo.fsSl rfl rfl (by simp [flat_len encE_len]) | exact VTo.fpPtr rfl | exact VTo.fsGl rfl (by first | rfl | exact flat_len encI_len _ | exact flat_len encS_len _ | exact flat_len encP_len _ | exact flat_len encL_len _ | exact flat_len encE_len _ | (simp [flat_len encP_len]; done) | simp [flat_len encI_len, flat_len encS_len]))) (by first | rfl | (repeat' (first | exact MkTo.nil | refine MkTo.keep rfl ?_ | refine MkTo.drop (by decide) rfl ?_)))
    · have hkn2 : k = n := by dsimp only at h3; omega
      subst hkn2
      rw [← hm]
      conv => whnf
      repeat' (first | (refine VLd.intro rfl ?_; conv => whnf) | (refine VArith.i64 (by first | omega | (dsimp only; omega)) ?_; conv => whnf) | (refine VNeed.intro (by first | rfl | (simp; omega)) ?_; conv => whnf) | (refine VMem.store rfl rfl rfl rfl ?_; conv => whnf) | (refine VSame.intro rfl ?_; conv => whnf) | (refine VIte.dec (fun _ => ?_) (fun _ => ?_) <;> conv => whnf) | (refine VIte.ndec (fun _ => ?_) (fun _ => ?_) <;> conv => whnf) | (refine VIte.beq (fun _ => ?_) (fun _ => ?_) <;> conv => whnf) | (refine VIte.bne (fun _ => ?_) (fun _ => ?_) <;> conv => whnf) | (refine VIte.intro (fun _ => ?_) (fun _ => ?_) <;> conv => whnf))
      refine VOut.turn ⟨[], 3, [(2, m.ps.flatMap encP)], []⟩ (loc' := []) (r1' := vF ⟨5 + x1.1, 4 + x2.1, m.ps⟩) (TurnOk.mk' [] 3 [(2, m.ps.flatMap encP)] [] (OutOk.outW (OutOk.lift _) rfl) rfl List.nodup_nil BTos.nil (FzAll.flat rfl FzAll.nil) trivial rfl) (by repeat' (first | exact VTo.undef | exact FrTo.leaf | refine FrTo.node ?_ ?_ ?_ | refine FrTo.none ?_ ?_ | exact VTo.sc (by first | rfl | (congr 1; omega) | (congr 1; simp; omega)) | exact VTos_dv _ _ | refine VTos.cons ?_ ?_ | exact VTos.nil | refine VTo.agg ?_ | refine VTo.tuple ?_ | refine VTo.func ?_ ?_ | exact VTo.fs | exact VTo.fp | exact VTo.nilptr | exact VTo.nilslice | exact VTo.nilfunc | exact VTo.ptr rfl | exact VTo.gl rfl | exact VTo.map rfl | exact VTo.yld rfl | exact VTo.fmMap rfl | exact VTo.fm | exact VTo.glNil' (by decide) rfl rfl | exact VTo.fsNil (by decide) | exact VTo.fsSl rfl rfl (by simp [flat_len encE_len]) | exact VTo.fpPtr rfl | exact VTo.fsGl rfl (by first | rfl | exact flat_len encI_len _ | exact flat_len encS_len _ | exact flat_len encP_len _ | exact flat_len encL_len _ | exact flat_len encE_len _ | (simp [flat_len encP_len]; done) | simp [flat_len encI_len, flat_len encS_len]))) ?_
      exact VOut.setF (L := 0) rfl hd fun _ => rfl
end Go.Proofs.Ytolnajnlcdacmaa

open Go.Vm
namespace Go.Proofs.Ytolnajnlcdacmaa
set_option maxRecDepth 20000
set_option maxHeartbeats 4000000

theorem chkGo_of : ∀ {ps : List Pap} {last : Int}, ps.Pairwise (fun p q => p.hi < q.lo) → (∀ p ∈ ps, ¬ badPap p ∧ last < p.lo) → chkGo ps last = 0
  | [], _, _, _ => rfl
  | p :: ps, last, h, hb => by
    obtain ⟨h1, h2⟩ := List.pairwise_cons.1 h
    obtain ⟨b1, b2⟩ := hb p (by simp)
    rw [chkGo, if_neg b1, if_neg (by omega)]
    exact chkGo_of h2 fun q hq => ⟨(hb q (by simp [hq])).1, h1 q hq⟩
/-- A file that is made is right, and not longer than it may be. -/
theorem mFile_ok (bs : List Int) (d : Nat × Int) {papers yrs : Int} (hp : 0 ≤ papers ∧ papers ≤ 16) (hy : 1 ≤ yrs ∧ yrs ≤ 4) :
    chk (mFile bs d papers yrs) = 0 ∧ ((mFile bs d papers yrs).ps.length : Int) ≤ papers ∧ (5 ≤ (mFile bs d papers yrs).Y ∧ (mFile bs d papers yrs).Y ≤ 60) ∧ (4 ≤ (mFile bs d papers yrs).G ∧ (mFile bs d papers yrs).G ≤ 20) ∧ (mEnd bs d papers yrs).d.1 ≤ d.1 + 60 := by
  have e1 := dNx_bd bs d (60 - 5 + 1)
  have e2 := dNx_bd bs (dNx bs d (60 - 5 + 1)).2 (20 - 4 + 1)
  have e3 := dNx_bd bs (mD2 bs d) 50
  have e4 := dNx_bd bs (dNx bs (mD2 bs d) 50).2 2
  have e5 := dNx_bd bs (dNx bs (dNx bs (mD2 bs d) 50).2 2).2 (papers + 1)
  have hk0 : MOk yrs 0 (dNx bs (dNx bs (dNx bs (mD2 bs d) 50).2 2).2 (papers + 1)).2.1 (m0 bs d papers) := by
    unfold m0
    exact ⟨by simp only; omega, by simp only; omega, by simp only; omega, rfl, by simp, by simp⟩
  have hok := mIt_ok (bs := bs) hk0 (by omega) (mN bs d papers)
  have hn : mN bs d papers ≤ 16 ∧ (mN bs d papers : Int) ≤ papers := by unfold mN; omega
  have hE : mIt bs yrs (m0 bs d papers) (mN bs d papers) = mEnd bs d papers yrs := rfl
  rw [hE] at hok
  obtain ⟨n1, n2, n3, n4, n5, n6⟩ := hok
  have hY : (mFile bs d papers yrs).Y = 5 + (dNx bs d (60 - 5 + 1)).1 := rfl
  have hG : (mFile bs d papers yrs).G = 4 + (dNx bs (dNx bs d (60 - 5 + 1)).2 (20 - 4 + 1)).1 := rfl
  have hps : (mFile bs d papers yrs).ps = (mEnd bs d papers yrs).ps := rfl
  refine ⟨?_, by rw [hps, n4]; exact hn.2, by rw [hY]; omega, by rw [hG]; omega, ?_⟩
  · unfold chk
    rw [if_neg (by rw [hY, hG]; omega), hps, if_neg (by rw [n4]; omega)]
    refine chkGo_of (n6 (-1) fun p hp => by have := (n5 p hp).2.1; omega) fun p hp => ?_
    have := n5 p hp
    refine ⟨?_, by omega⟩
    unfold badPap
    omega
  · have hd2 : (mD2 bs d).1 ≤ d.1 + 2 := by unfold mD2; omega
    omega
/-! ### A truth that is dealt -/

def tIt (bs : List Int) : List Pap → (Nat × Int) → List Int × (Nat × Int)
  | [], d => ([], d)
  | p :: r, d => ((p.lo + (dNx bs d (p.hi - p.lo + 1)).1) :: (tIt bs r (dNx bs d (p.hi - p.lo + 1)).2).1, (tIt bs r (dNx bs d (p.hi - p.lo + 1)).2).2)
theorem tIt_at {bs : List Int} {ps : List Pap} {k : Nat} {p : Pap} {d : Nat × Int} (h : ps[k]? = some p) : tIt bs (ps.drop k) d = ((p.lo + (dNx bs d (p.hi - p.lo + 1)).1) :: (tIt bs (ps.drop (k + 1)) (dNx bs d (p.hi - p.lo + 1)).2).1, (tIt bs (ps.drop (k + 1)) (dNx bs d (p.hi - p.lo + 1)).2).2) := by
  obtain ⟨hlt, rfl⟩ := List.getElem?_eq_some_iff.1 h
  rw [List.drop_eq_getElem_cons hlt, tIt]
theorem tIt_ok (bs : List Int) : ∀ (ps : List Pap) (d : Nat × Int), (∀ p ∈ ps, p.lo ≤ p.hi) → (tIt bs ps d).1.length = ps.length ∧ holdsS ps (tIt bs ps d).1 = true ∧ (tIt bs ps d).2.1 ≤ d.1 + ps.length
  | [], d, _ => ⟨rfl, by simp [holdsS], by simp [tIt]⟩
  | p :: r, d, h => by
    have e := dNx_bd bs d (p.hi - p.lo + 1)
    obtain ⟨i1, i2, i3⟩ := tIt_ok bs r (dNx bs d (p.hi - p.lo + 1)).2 (fun q hq => h q (by simp [hq]))
    have hp := h p (by simp)
    rw [tIt]
    refine ⟨by simp [i1], ?_, by simp only [List.length_cons]; omega⟩
    rw [holdsS, decide_eq_true (by omega), i2]; rfl
theorem vc_True (bs : List Int) (d : Nat × Int) (f : Fil) (i : Vm.Id) (h : Hp) (hN : d.1 ≤ 1000000) (h0 : chk f = 0) (hd : h.get i = some (deckB bs d)) :
    VC Try.prog 27 [.ptr i 0, vF f] h (ints (tIt bs f.ps d).1) (h.set i (deckB bs (tIt bs f.ps d).2)) := by
  have hn16 := (chk_zero h0).2.2.1
  have hpok := chk_pok h0
  obtain ⟨R, hR⟩ : ∃ R, R = tIt bs f.ps d := ⟨_, rfl⟩
  rw [← hR]
  refine VC.body Try.func27 rfl Try.ntmps27 Try.call27 (h.grows_set _ _) rfl ?_
  conv => whnf
  repeat' (first | (refine VLd.intro rfl ?_; conv => whnf) | (refine VArith.i64 (by first | omega | (dsimp only; omega)) ?_; conv => whnf) | (refine VNeed.intro (by first | rfl | (simp; omega)) ?_; conv => whnf) | (refine VMem.store rfl rfl rfl rfl ?_; conv => whnf) | (refine VSame.intro rfl ?_; conv => whnf) | (refine VIte.dec (fun _ => ?_) (fun _ => ?_) <;> conv => whnf) | (refine VIte.ndec (fun _ => ?_) (fun _ => ?_) <;> conv => whnf) | (refine VIte.beq (fun _ => ?_) (fun _ => ?_) <;> conv => whnf) | (refine VIte.bne (fun _ => ?_) (fun _ => ?_) <;> conv => whnf) | (refine VIte.intro (fun _ => ?_) (fun _ => ?_) <;> conv => whnf))
  refine VCode.lpo (fun y : Nat × List Int × (Nat × Int) => [(0, .ptr (.out i) 0), (5, .gl (.loc 0) 1 y.2.1.length), (9, paps f.ps), (10, I f.ps.length), (11, I y.1)]) (fun y => outW h.lift i (deckB bs y.2.2))
    (fun y => [.flat true (y.2.1.flatMap encI)]) (fun y => y.1 ≤ f.ps.length ∧ y.2.1.length = y.1 ∧ y.2.2.1 ≤ 1000000 + y.1 ∧ R = (y.2.1 ++ (tIt bs (f.ps.drop y.1) y.2.2).1, (tIt bs (f.ps.drop y.1) y.2.2).2)) (fun y => f.ps.length - y.1) (0, [], d) ⟨Nat.zero_le _, rfl, by dsimp only; omega, hR⟩ (outW_id (get_out hd [])) ?_ ?_
  · conv => whnf
    refine Retell.turn ⟨[1], 1, [], []⟩ (TurnOk.mk' _ _ [] [] (OutOk.outW (OutOk.lift _) rfl) rfl (by decide) (by repeat' (first | exact BTos.nil | refine BTos.flat rfl rfl (by first | rfl | simp) ?_ | refine BTos.new rfl ?_ | refine BTos.dead rfl rfl ?_ | refine BTos.esE rfl rfl ?_ | refine BTos.row rfl rfl rfl (RowTo.snoc (RowTo.one rfl (by simp))) ?_ | refine BTos.cells rfl rfl rfl (by repeat' (first | exact VTo.undef | exact FrTo.leaf | refine FrTo.node ?_ ?_ ?_ | refine FrTo.none ?_ ?_ | exact VTo.sc (by first | rfl | (congr 1; omega) | (congr 1; simp; omega)) | exact VTos_dv _ _ | refine VTos.cons ?_ ?_ | exact VTos.nil | refine VTo.agg ?_ | refine VTo.tuple ?_ | refine VTo.func ?_ ?_ | exact VTo.fs | exact VTo.fp | exact VTo.nilptr | exact VTo.nilslice | exact VTo.nilfunc | exact VTo.ptr rfl | exact VTo.gl rfl | exact VTo.map rfl | exact VTo.yld rfl | exact VTo.fmMap rfl | exact VTo.fm | exact VTo.glNil' (by decide) rfl rfl | exact VTo.fsNil (by decide) | exact VTo.fsSl rfl rfl (by simp [flat_len encE_len]) | exact VTo.fpPtr rfl | exact VTo.fsGl rfl (by first | rfl | exact flat_len encI_len _ | exact flat_len encS_len _ | exact flat_len encP_len _ | exact flat_len encL_len _ | exact flat_len encE_len _ | (simp [flat_len encP_len]; done) | simp [flat_len encI_len, flat_len encS_len]))) ?_)) trivial trivial rfl) (by repeat' (first | exact VTo.undef | exact FrTo.leaf | refine FrTo.node ?_ ?_ ?_ | refine FrTo.none ?_ ?_ | exact VTo.sc (by first | rfl | (congr 1; omega) | (congr 1; simp; omega)) | exact VTos_dv _ _ | refine VTos.cons ?_ ?_ | exact VTos.nil | refine VTo.agg ?_ | refine VTo.tuple ?_ | refine VTo.func ?_ ?_ | exact VTo.fs | exact VTo.fp | exact VTo.nilptr | exact VTo.nilslice | exact VTo.nilfunc | exact VTo.ptr rfl | exact VTo.gl rfl | exact VTo.map rfl | exact VTo.yld rfl | exact VTo.fmMap rfl | exact VTo.fm | exact VTo.glNil' (by decide) rfl rfl | exact VTo.fsNil (by decide) | exact VTo.fsSl rfl rfl (by simp [flat_len encE_len]) | exact VTo.fpPtr rfl | exact VTo.fsGl rfl (by first | rfl | exact flat_len encI_len _ | exact flat_len encS_len _ | exact flat_len encP_len _ | exact flat_len encL_len _ | exact flat_len encE_len _ | (simp [flat_len encP_len]; done) | simp [flat_len encI_len, flat_len encS_len]))) (by first | rfl | (repeat' (first | exact MkTo.nil | refine MkTo.keep rfl ?_ | refine MkTo.drop (by decide) rfl ?_)))
  · rintro ⟨k, l, e⟩ ⟨hk, hl, he, hRk⟩
    dsimp only at hk hl he hRk
    conv => whnf
    refine VIte.dec (fun h3 => ?_) (fun h3 => ?_)
    · have hp : f.ps[k]? = some f.ps[k] := List.getElem?_eq_getElem (by omega)
      have hpk := hpok f.ps[k] (List.getElem_mem (by omega))
      rw [tIt_at hp] at hRk
      generalize f.ps[k] = p at hp hpk hRk
      obtain ⟨p1, p2, p3, p4, p5⟩ := hpk
      have q1 := dNx_bd bs e (p.hi - p.lo + 1)
      have g1 := fun (h2 : Hp) hh => vc_between bs e p.lo p.hi (.out i) h2 (by omega) (by omega) (by omega) hh
      generalize dNx bs e (p.hi - p.lo + 1) = y1 at q1 g1 hRk
      conv => whnf
      repeat' (first | (refine VLd.intro rfl ?_; conv => whnf) | (refine VArith.i64 (by first | omega | (dsimp only; omega)) ?_; conv => whnf) | (refine VNeed.intro (by first | rfl | (simp; omega)) ?_; conv => whnf) | (refine VMem.store rfl rfl rfl rfl ?_; conv => whnf) | (refine VSame.intro rfl ?_; conv => whnf) | (refine VIte.dec (fun _ => ?_) (fun _ => ?_) <;> conv => whnf) | (refine VIte.ndec (fun _ => ?_) (fun _ => ?_) <;> conv => whnf) | (refine VIte.beq (fun _ => ?_) (fun _ => ?_) <;> conv => whnf) | (refine VIte.bne (fun _ => ?_) (fun _ => ?_) <;> conv => whnf) | (refine VIte.intro (fun _ => ?_) (fun _ => ?_) <;> conv => whnf) | (refine VAny.ix encP_len k rfl rfl hp ?_; conv => whnf) | (refine VCall.intro (g1 _ (outW_get _ _ _ _)) ?_; conv => whnf))
      refine VMem.app1 (p.lo + y1.1) encI_len rfl rfl rfl rfl rfl (by dsimp only; omega) ?_
      conv => whnf
      repeat' (first | (refine VLd.intro rfl ?_; conv => whnf) | (refine VArith.i64 (by first | omega | (dsimp only; omega)) ?_; conv => whnf) | (refine VNeed.intro (by first | rfl | (simp; omega)) ?_; conv => whnf) | (refine VMem.store rfl rfl rfl rfl ?_; conv => whnf) | (refine VSame.intro rfl ?_; conv => whnf) | (refine VIte.dec (fun _ => ?_) (fun _ => ?_) <;> conv => whnf) | (refine VIte.ndec (fun _ => ?_) (fun _ => ?_) <;> conv => whnf) | (refine VIte.beq (fun _ => ?_) (fun _ => ?_) <;> conv => whnf) | (refine VIte.bne (fun _ => ?_) (fun _ => ?_) <;> conv => whnf) | (refine VIte.intro (fun _ => ?_) (fun _ => ?_) <;> conv => whnf))
      refine LEndO.intro (k + 1, l ++ [p.lo + y1.1], y1.2) ⟨by dsimp only; omega, by simp [hl], by dsimp only; omega, by dsimp only; rw [hRk]; simp⟩ (by dsimp only; omega) ?_ ?_
      · funext j; by_cases e : j = i <;> simp [outW, e, Hp.set]
      · conv => whnf
        rw [List.length_append]
        refine Retell.turn ⟨[3], 4, [], []⟩ (TurnOk.mk' _ _ [] [] (OutOk.outW (OutOk.lift _) rfl) rfl (by decide) (by repeat' (first | exact BTos.nil | refine BTos.flat rfl rfl (by first | rfl | simp) ?_ | refine BTos.new rfl ?_ | refine BTos.dead rfl rfl ?_ | refine BTos.esE rfl rfl ?_ | refine BTos.row rfl rfl rfl (RowTo.snoc (RowTo.one rfl (by simp))) ?_ | refine BTos.cells rfl rfl rfl (by repeat' (first | exact VTo.undef | exact FrTo.leaf | refine FrTo.node ?_ ?_ ?_ | refine FrTo.none ?_ ?_ | exact VTo.sc (by first | rfl | (congr 1; omega) | (congr 1; simp; omega)) | exact VTos_dv _ _ | refine VTos.cons ?_ ?_ | exact VTos.nil | refine VTo.agg ?_ | refine VTo.tuple ?_ | refine VTo.func ?_ ?_ | exact VTo.fs | exact VTo.fp | exact VTo.nilptr | exact VTo.nilslice | exact VTo.nilfunc | exact VTo.ptr rfl | exact VTo.gl rfl | exact VTo.map rfl | exact VTo.yld rfl | exact VTo.fmMap rfl | exact VTo.fm | exact VTo.glNil' (by decide) rfl rfl | exact VTo.fsNil (by decide) | exact VTo.fsSl rfl rfl (by simp [flat_len encE_len]) | exact VTo.fpPtr rfl | exact VTo.fsGl rfl (by first | rfl | exact flat_len encI_len _ | exact flat_len encS_len _ | exact flat_len encP_len _ | exact flat_len encL_len _ | exact flat_len encE_len _ | (simp [flat_len encP_len]; done) | simp [flat_len encI_len, flat_len encS_len]))) ?_)) trivial trivial rfl) (by repeat' (first | exact VTo.undef | exact FrTo.leaf | refine FrTo.node ?_ ?_ ?_ | refine FrTo.none ?_ ?_ | exact VTo.sc (by first | rfl | (congr 1; omega) | (congr 1; simp; omega)) | exact VTos_dv _ _ | refine VTos.cons ?_ ?_ | exact VTos.nil | refine VTo.agg ?_ | refine VTo.tuple ?_ | refine VTo.func ?_ ?_ | exact VTo.fs | exact VTo.fp | exact VTo.nilptr | exact VTo.nilslice | exact VTo.nilfunc | exact VTo.ptr rfl | exact VTo.gl rfl | exact VTo.map rfl | exact VTo.yld rfl | exact VTo.fmMap rfl | exact VTo.fm | exact VTo.glNil' (by decide) rfl rfl | exact VTo.fsNil (by decide) | exact VTo.fsSl rfl rfl (by simp [flat_len encE_len]) | exact VTo.fpPtr rfl | exact VTo.fsGl rfl (by first | rfl | exact flat_len encI_len _ | exact flat_len encS_len _ | exact flat_len encP_len _ | exact flat_len encL_len _ | exact flat_len encE_len _ | (simp [flat_len encP_len]; done) | simp [flat_len encI_len, flat_len encS_len]))) (by first | rfl | (repeat' (first | exact MkTo.nil | refine MkTo.keep rfl ?_ | refine MkTo.drop (by decide) rfl ?_)))
    · have hkn2 : k = f.ps.length := by dsimp only at h3; omega
      subst hkn2
      rw [List.drop_of_length_le (Nat.le_refl _), tIt, List.append_nil] at hRk
      subst hRk
      conv => whnf
      repeat' (first | (refine VLd.intro rfl ?_; conv => whnf) | (refine VArith.i64 (by first | omega | (dsimp only; omega)) ?_; conv => whnf) | (refine VNeed.intro (by first | rfl | (simp; omega)) ?_; conv => whnf) | (refine VMem.store rfl rfl rfl rfl ?_; conv => whnf) | (refine VSame.intro rfl ?_; conv => whnf) | (refine VIte.dec (fun _ => ?_) (fun _ => ?_) <;> conv => whnf) | (refine VIte.ndec (fun _ => ?_) (fun _ => ?_) <;> conv => whnf) | (refine VIte.beq (fun _ => ?_) (fun _ => ?_) <;> conv => whnf) | (refine VIte.bne (fun _ => ?_) (fun _ => ?_) <;> conv => whnf) | (refine VIte.intro (fun _ => ?_) (fun _ => ?_) <;> conv => whnf))
      refine VOut.turn ⟨[], 1, [(0, l.flatMap encI)], []⟩ (loc' := []) (r1' := ints l) (TurnOk.mk' [] 1 [(0, l.flatMap encI)] [] (OutOk.outW (OutOk.lift _) rfl) rfl List.nodup_nil BTos.nil (FzAll.flat rfl FzAll.nil) trivial rfl) (by repeat' (first | exact VTo.undef | exact FrTo.leaf | refine FrTo.node ?_ ?_ ?_ | refine FrTo.none ?_ ?_ | exact VTo.sc (by first | rfl | (congr 1; omega) | (congr 1; simp; omega)) | exact VTos_dv _ _ | refine VTos.cons ?_ ?_ | exact VTos.nil | refine VTo.agg ?_ | refine VTo.tuple ?_ | refine VTo.func ?_ ?_ | exact VTo.fs | exact VTo.fp | exact VTo.nilptr | exact VTo.nilslice | exact VTo.nilfunc | exact VTo.ptr rfl | exact VTo.gl rfl | exact VTo.map rfl | exact VTo.yld rfl | exact VTo.fmMap rfl | exact VTo.fm | exact VTo.glNil' (by decide) rfl rfl | exact VTo.fsNil (by decide) | exact VTo.fsSl rfl rfl (by simp [flat_len encE_len]) | exact VTo.fpPtr rfl | exact VTo.fsGl rfl (by first | rfl | exact flat_len encI_len _ | exact flat_len encS_len _ | exact flat_len encP_len _ | exact flat_len encL_len _ | exact flat_len encE_len _ | (simp [flat_len encP_len]; done) | simp [flat_len encI_len, flat_len encS_len]))) ?_
      exact VOut.setF (L := 0) rfl hd fun _ => rfl
theorem tIt_tru (bs : List Int) (d : Nat × Int) {f : Fil} (h0 : chk f = 0) : (tIt bs f.ps d).1 ∈ tru f.ps ∧ (tIt bs f.ps d).2.1 ≤ d.1 + 16 := by
  have hn16 := (chk_zero h0).2.2.1
  obtain ⟨h1, h2, h3⟩ := tIt_ok bs f.ps d fun p hp => (chk_pok h0 p hp).le
  exact ⟨mem_tru.2 ⟨h1, h2⟩, by omega⟩
end Go.Proofs.Ytolnajnlcdacmaa

open Go.Vm
namespace Go.Proofs.Ytolnajnlcdacmaa
set_option maxRecDepth 20000
set_option maxHeartbeats 4000000

theorem arL_mem {f : Fil} {t : List Int} {x : Int} : x ∈ arL f t ↔ ∃ p : Nat, p < t.length ∧ x = p ∧ arB f t p = true := mem_selS
/-- A chain. -/
structure Seg (f : Fil) (t : List Int) (lo hi : Nat) : Prop where
  le : lo ≤ hi
  lt : hi < t.length
  hb : bgB f t lo = true
  hn : ∀ j, lo < j → j ≤ hi → bgB f t j = false
theorem Seg.ar {f : Fil} {t : List Int} {lo hi p : Nat} (s : Seg f t lo hi) (h1 : lo ≤ p) (h2 : p ≤ hi) : arB f t p = true ↔ f.Y ≤ tAt t p - tAt t lo ∧ tAt t (p - 1) - tAt t lo < f.Y := by
  unfold arB
  rw [fst_seg s.hb s.hn p h1 h2, decide_eq_true_eq]
end Go.Proofs.Ytolnajnlcdacmaa

open Go.Vm
namespace Go.Proofs.Ytolnajnlcdacmaa
open Go.ChangeShapes Go.WideShapes Go.ChangeAt Go.RowKit

def dU (l : List Int) : D := .sl 1 l.length (l.flatMap encU)
theorem openU : OpenV Try.prog 49 dU := OpenV.slice Try.underlying49 (Opens.slice Try.underlying49 encU_len (by kernel_rfl) (by decide) (Opens.int Try.underlying5))
end Go.Proofs.Ytolnajnlcdacmaa

open Go.Vm
namespace Go.Proofs.Ytolnajnlcdacmaa
set_option maxRecDepth 20000
set_option maxHeartbeats 4000000

/-- The owner is Nobody, and no right arose, or it is the side of the paper with which the last one arose. -/
theorem own_cases {f : Fil} {t : List Int} (h0 : chk f = 0) (ht : t ∈ tru f.ps) : (arL f t = [] ∧ own f t = (2, 0)) ∨
    ∃ (j : Nat) (p : Pap) (y : Int), 0 < (arL f t).length ∧ (arL f t)[(arL f t).length - 1]? = some (j : Int) ∧ f.ps[j]? = some p ∧ t[j]? = some y ∧ own f t = (p.side, y) ∧ (p.side = 0 ∨ p.side = 1) := by
  have hl := (mem_tru.1 ht).1
  rcases ownS_sel f t t.length with h | ⟨l, j, h1, h2, h3, h4⟩
  · exact .inl h
  · right
    have hp : f.ps[j]? = some f.ps[j] := List.getElem?_eq_getElem (by omega)
    have hy : t[j]? = some t[j] := List.getElem?_eq_getElem (by omega)
    have e : arL f t = l ++ [(j : Int)] := h1
    refine ⟨j, f.ps[j], t[j], by rw [e]; simp, by rw [e]; simp, hp, hy, ?_, (chk_pok h0 _ (List.getElem_mem _)).side⟩
    rw [← sdAt_eq hp, ← tAt_eq hy]
    exact h4
theorem own_rng {f : Fil} {t : List Int} (h0 : chk f = 0) (ht : t ∈ tru f.ps) : 0 ≤ (own f t).1 ∧ (own f t).1 ≤ 2 := by
  rcases own_cases h0 ht with ⟨_, h⟩ | ⟨j, p, y, _, _, _, _, h, hs⟩ <;> rw [h] <;> dsimp only <;> omega
end Go.Proofs.Ytolnajnlcdacmaa

open Go.Vm
namespace Go.Proofs.Ytolnajnlcdacmaa
set_option maxRecDepth 20000
set_option maxHeartbeats 1000000

/-- Papers that are made: their order, and where they lie. -/
theorem mFile_paps (bs : List Int) (d : Nat × Int) {papers yrs : Int} (hp : 0 ≤ papers ∧ papers ≤ 16) (hy : 1 ≤ yrs ∧ yrs ≤ 4) :
    (mFile bs d papers yrs).ps.Pairwise (fun p q => p.hi < q.lo) ∧ ∀ p ∈ (mFile bs d papers yrs).ps, (p.side = 0 ∨ p.side = 1) ∧ 0 ≤ p.lo ∧ p.lo ≤ p.hi ∧ p.hi ≤ p.lo + 3 ∧ p.hi ≤ 370 := by
  have e3 := dNx_bd bs (mD2 bs d) 50
  have e4 := dNx_bd bs (dNx bs (mD2 bs d) 50).2 2
  have e5 := dNx_bd bs (dNx bs (dNx bs (mD2 bs d) 50).2 2).2 (papers + 1)
  have hk0 : MOk yrs 0 (dNx bs (dNx bs (dNx bs (mD2 bs d) 50).2 2).2 (papers + 1)).2.1 (m0 bs d papers) := by
    unfold m0
    exact ⟨by simp only; omega, by simp only; omega, by simp only; omega, rfl, by simp, by simp⟩
  have hok := mIt_ok (bs := bs) hk0 (by omega) (mN bs d papers)
  have hn : mN bs d papers ≤ 16 ∧ (mN bs d papers : Int) ≤ papers := by unfold mN; omega
  have hE : mIt bs yrs (m0 bs d papers) (mN bs d papers) = mEnd bs d papers yrs := rfl
  rw [hE] at hok
  obtain ⟨n1, n2, n3, n4, n5, n6⟩ := hok
  have hps : (mFile bs d papers yrs).ps = (mEnd bs d papers yrs).ps := rfl
  rw [hps]
  refine ⟨n6 (-1) fun p hp => by have := (n5 p hp).2.1; omega, fun p hp => ?_⟩
  have := n5 p hp
  omega
/-- A file and its years, told otherwise. -/
structure Aff (f : Fil) (t : List Int) (g : Fil) (u : List Int) (a b : Int) : Prop where
  ha : a = 1 ∨ a = 3
  Y : g.Y = a * f.Y
  G : g.G = a * f.G
  len : u.length = t.length
  at_ : ∀ i, i < t.length → tAt u i = a * tAt t i + b
  sd : ∀ i, i < t.length → (sdAt g i = sdAt g (i - 1) ↔ sdAt f i = sdAt f (i - 1))
variable {f g : Fil} {t u : List Int} {a b : Int}
theorem Aff.bg (A : Aff f t g u a b) {i : Nat} (hi : i < t.length) : bgB g u i = bgB f t i := by
  unfold bgB
  rw [A.at_ i hi, A.at_ (i - 1) (by omega), A.G]
  have := A.sd i hi
  have e : (i = 0 ∨ sdAt g i ≠ sdAt g (i - 1) ∨ a * f.G < a * tAt t i + b - (a * tAt t (i - 1) + b)) ↔ (i = 0 ∨ sdAt f i ≠ sdAt f (i - 1) ∨ f.G < tAt t i - tAt t (i - 1)) := by
    rw [Ne, Ne, this]
    rcases A.ha with rfl | rfl <;> omega
  rw [decide_eq_decide]
  exact e
theorem Aff.fst (A : Aff f t g u a b) : ∀ {i : Nat}, i < t.length → fst g u i = fst f t i
  | 0, _ => rfl
  | i + 1, hi => by
    rw [Proofs.Ytolnajnlcdacmaa.fst, Proofs.Ytolnajnlcdacmaa.fst, A.bg hi, A.fst (by omega)]
theorem Aff.ar (A : Aff f t g u a b) {i : Nat} (hi : i < t.length) : arB g u i = arB f t i := by
  unfold arB
  have hf := fst_le f t i
  rw [A.fst hi, A.at_ i hi, A.at_ (i - 1) (by omega), A.at_ (Proofs.Ytolnajnlcdacmaa.fst f t i) (by omega), A.Y, decide_eq_decide]
  rcases A.ha with rfl | rfl <;> omega
theorem selS_congr {q r : Nat → Bool} : ∀ {k : Nat}, (∀ i, i < k → q i = r i) → selS q k = selS r k
  | 0, _ => rfl
  | k + 1, h => by rw [selS, selS, h k (by omega), selS_congr fun i hi => h i (by omega)]
theorem Aff.arL (A : Aff f t g u a b) : arL g u = arL f t := by
  unfold Proofs.Ytolnajnlcdacmaa.arL
  rw [A.len]
  exact selS_congr fun i hi => A.ar hi
theorem Aff.jmp (A : Aff f t g u a b) (lo : Nat) {x : Nat} (hx : x < t.length) : ∀ {n : Nat}, n ≤ t.length → jmp g u lo x n = jmp f t lo x n
  | 0, _ => rfl
  | n + 1, hn => by
    rw [Proofs.Ytolnajnlcdacmaa.jmp, Proofs.Ytolnajnlcdacmaa.jmp, A.at_ x hx, A.at_ n (by omega), A.G, A.jmp lo hx (by omega)]
    have e : (lo < n + 1 ∧ a * tAt t x + b - (a * tAt t n + b) ≤ a * f.G) ↔ (lo < n + 1 ∧ tAt t x - tAt t n ≤ f.G) := by
      rcases A.ha with rfl | rfl <;> omega
    by_cases h : lo < n + 1 ∧ tAt t x - tAt t n ≤ f.G
    · rw [if_pos h, if_pos (e.2 h)]
    · rw [if_neg h, if_neg (fun w => h (e.1 w))]
theorem Aff.fewS (A : Aff f t g u a b) (lo : Nat) {p : Nat} (hp : p < t.length) : ∀ {n x : Nat}, x ≤ p → fewS g u lo p n x = fewS f t lo p n x
  | 0, _, _ => rfl
  | n + 1, x, hx => by
    rw [Proofs.Ytolnajnlcdacmaa.fewS, Proofs.Ytolnajnlcdacmaa.fewS, A.at_ p hp, A.at_ x (by omega), A.Y, A.jmp lo (by omega) (by omega)]
    have hj := jmp_le f t lo x x
    rw [A.fewS lo hp (by omega)]
    have e : (a * tAt t p + b - (a * tAt t x + b) < a * f.Y) ↔ (tAt t p - tAt t x < f.Y) := by
      rcases A.ha with rfl | rfl <;> omega
    by_cases h : tAt t p - tAt t x < f.Y
    · rw [if_pos h, if_pos (e.2 h)]
    · rw [if_neg h, if_neg (fun w => h (e.1 w))]
theorem Aff.few (A : Aff f t g u a b) {p : Nat} (hp : p < t.length) : few g u p = few f t p := by
  unfold Proofs.Ytolnajnlcdacmaa.few
  rw [A.fst hp, A.fewS _ hp (Nat.le_refl _)]
theorem Aff.own (A : Aff f t g u a b) (σ : Int → Int) (h2 : σ 2 = 2) (hs : ∀ i, i < t.length → sdAt g i = σ (sdAt f i)) : (own g u).1 = σ (own f t).1 := by
  unfold Proofs.Ytolnajnlcdacmaa.own
  rw [A.len]
  have : ∀ k, k ≤ t.length → (ownS g u k).1 = σ (ownS f t k).1 := by
    intro k
    induction k with
    | zero => intro _; exact h2.symm
    | succ k ih =>
      intro hk
      rw [ownS, ownS, A.ar (by omega)]
      split
      · exact hs k (by omega)
      · exact ih (by omega)
  exact this _ (Nat.le_refl _)
/-- Papers whose sides are called otherwise, and that are so much later. -/
def pMap (σ : Int → Int) (b : Int) (p : Pap) : Pap := ⟨σ p.side, p.lo + b, p.hi + b⟩
def fMap (σ : Int → Int) (b : Int) (f : Fil) : Fil := ⟨f.Y, f.G, f.ps.map (pMap σ b)⟩
theorem holds_map (σ : Int → Int) (b : Int) : ∀ (ps : List Pap) (t : List Int), holdsS (ps.map (pMap σ b)) (t.map (· + b)) = holdsS ps t
  | [], _ => by simp [holdsS]
  | p :: ps, [] => by simp [holdsS]
  | p :: ps, y :: t => by
    simp only [List.map_cons, holdsS, holds_map σ b ps t]
    congr 1
    rw [decide_eq_decide]
    simp only [pMap]
    omega
theorem tru_map (σ : Int → Int) (b : Int) {f : Fil} {t : List Int} : t.map (· + b) ∈ tru (fMap σ b f).ps ↔ t ∈ tru f.ps := by
  rw [mem_tru, mem_tru, fMap, holds_map]
  simp
theorem sdAt_map (σ : Int → Int) (b : Int) {f : Fil} {i : Nat} (hi : i < f.ps.length) : sdAt (fMap σ b f) i = σ (sdAt f i) := by
  have hp : f.ps[i]? = some f.ps[i] := List.getElem?_eq_getElem hi
  rw [sdAt_eq hp, sdAt_eq (f := fMap σ b f) (p := pMap σ b f.ps[i]) (by simp [fMap, hp])]
  rfl
theorem tAt_map (b : Int) {t : List Int} {i : Nat} (hi : i < t.length) : tAt (t.map (· + b)) i = tAt t i + b := by
  have hp : t[i]? = some t[i] := List.getElem?_eq_getElem hi
  rw [tAt_eq hp, tAt_eq (y := t[i] + b) (by simp [hp])]
theorem sdAt_side {f : Fil} (hs : ∀ p ∈ f.ps, p.side = 0 ∨ p.side = 1) (i : Nat) : sdAt f i = 0 ∨ sdAt f i = 1 := by
  unfold sdAt
  split
  · rename_i p hp; exact hs p (List.mem_of_getElem? hp)
  · exact .inl rfl
theorem aff_map {σ : Int → Int} (hσ : σ 0 ≠ σ 1) (b : Int) {f : Fil} {t : List Int} (hs : ∀ p ∈ f.ps, p.side = 0 ∨ p.side = 1) (hl : t.length = f.ps.length) : Aff f t (fMap σ b f) (t.map (· + b)) 1 b where
  ha := .inl rfl
  Y := (Int.one_mul _).symm
  G := (Int.one_mul _).symm
  len := by simp
  at_ := fun i hi => by rw [tAt_map b hi]; omega
  sd := fun i hi => by
    rw [sdAt_map σ b (by omega), sdAt_map σ b (by omega)]
    rcases sdAt_side hs i with h | h <;> rcases sdAt_side hs (i - 1) with k | k <;> rw [h, k] <;> constructor <;> intro w <;> first | rfl | (exact absurd w (by decide)) | (exact absurd w hσ) | exact absurd w.symm hσ
theorem chk_map {σ : Int → Int} {b : Int} {f : Fil} (h0 : chk f = 0) (hσ : (σ 0 = 0 ∨ σ 0 = 1) ∧ (σ 1 = 0 ∨ σ 1 = 1)) (hb : 0 ≤ b ∧ b ≤ 255)
    (hp : f.ps.Pairwise (fun p q => p.hi < q.lo) ∧ ∀ p ∈ f.ps, (p.side = 0 ∨ p.side = 1) ∧ 0 ≤ p.lo ∧ p.lo ≤ p.hi ∧ p.hi ≤ p.lo + 3 ∧ p.hi ≤ 370) : chk (fMap σ b f) = 0 := by
  obtain ⟨c1, c2, c3, c4⟩ := chk_zero h0
  obtain ⟨p1, p2⟩ := hp
  unfold chk fMap
  dsimp only
  rw [if_neg (by omega), if_neg (by rw [List.length_map]; omega)]
  refine chkGo_of ?_ ?_
  · rw [List.pairwise_map]
    refine p1.imp fun {x y} h => ?_
    simp only [pMap]; omega
  · intro p hp
    obtain ⟨q, hq, rfl⟩ := List.mem_map.1 hp
    have := p2 q hq
    refine ⟨?_, by simp only [pMap]; omega⟩
    unfold badPap
    simp only [pMap]
    have : σ q.side = 0 ∨ σ q.side = 1 := by
      rcases this.1 with h | h <;> rw [h]
      · exact hσ.1
      · exact hσ.2
    omega
theorem isOwn_map {σ : Int → Int} (hσ : σ 0 ≠ σ 1) (h2 : σ 2 = 2) (b : Int) {f : Fil} (hs : ∀ p ∈ f.ps, p.side = 0 ∨ p.side = 1) (x : Int)
    (hinj : ∀ y, (y = 0 ∨ y = 1 ∨ y = 2) → (σ y = σ x ↔ y = x)) (h0 : chk f = 0) : isOwn (fMap σ b f) (σ x) = isOwn f x := by
  rw [Bool.eq_iff_iff]
  unfold isOwn
  simp only [List.any_eq_true, decide_eq_true_eq]
  have key : ∀ t ∈ tru f.ps, ((own (fMap σ b f) (t.map (· + b))).1 = σ x ↔ (own f t).1 = x) := by
    intro t ht
    have hl := (mem_tru.1 ht).1
    rw [(aff_map hσ b hs hl).own σ h2 fun i hi => sdAt_map σ b (by omega)]
    have := own_rng h0 ht
    exact hinj _ (by omega)
  constructor
  · rintro ⟨u, hu, hx⟩
    obtain ⟨t, rfl⟩ : ∃ t : List Int, u = t.map (· + b) := by
      refine ⟨u.map (· - b), ?_⟩
      rw [List.map_map]
      conv => lhs; rw [← List.map_id u]
      refine List.map_congr_left fun y _ => ?_
      simp only [Function.comp_apply, id]; omega
    have ht := (tru_map σ b).1 hu
    exact ⟨t, ht, (key t ht).1 hx⟩
  · rintro ⟨t, ht, hx⟩
    exact ⟨_, (tru_map σ b).2 ht, (key t ht).2 hx⟩
/-- Whose name is changed. -/
def flp (x : Int) : Int := if x = 2 then 2 else 1 - x
theorem osG_flp {f : Fil} (h0 : chk f = 0) (h1 : chk (fMap flp 0 f) = 0) : (osG (fMap flp 0 f)).length = (osG f).length ∧ ∀ x ∈ osG f, flp x ∈ osG (fMap flp 0 f) := by
  have hs : ∀ p ∈ f.ps, p.side = 0 ∨ p.side = 1 := fun p hp => (chk_pok h0 p hp).side
  have e := fun x (hx : x = 0 ∨ x = 1 ∨ x = 2) => isOwn_map (σ := flp) (by decide) (by decide) 0 hs x (by intro y hy; rcases hx with rfl | rfl | rfl <;> rcases hy with rfl | rfl | rfl <;> decide) h0
  have e0 : isOwn (fMap flp 0 f) 1 = isOwn f 0 := e 0 (by simp)
  have e1 : isOwn (fMap flp 0 f) 0 = isOwn f 1 := e 1 (by simp)
  have e2 : isOwn (fMap flp 0 f) 2 = isOwn f 2 := e 2 (by simp)
  rw [osG_eq h0, osG_eq h1]
  constructor
  · unfold osL
    simp only [selS]
    have c0 : ((0 : Nat) : Int) = 0 := rfl
    have c1 : ((1 : Nat) : Int) = 1 := rfl
    have c2 : ((2 : Nat) : Int) = 2 := rfl
    simp only [Nat.zero_add, Nat.reduceAdd, c0, c1, c2, e0, e1, e2]
    cases isOwn f 0 <;> cases isOwn f 1 <;> cases isOwn f 2 <;> rfl
  · intro x hx
    have hr : 0 ≤ x ∧ x ≤ 2 := by
      unfold osL at hx
      obtain ⟨j, h1, h2, _⟩ := mem_selS.1 hx
      omega
    have hi := (mem_osL hr).1 hx
    have hr3 : x = 0 ∨ x = 1 ∨ x = 2 := by omega
    refine (mem_osL ?_).2 (by rw [e x hr3]; exact hi)
    rcases hr3 with rfl | rfl | rfl <;> decide
theorem osG_late {f : Fil} {b : Int} (h0 : chk f = 0) (h1 : chk (fMap id b f) = 0) : osG (fMap id b f) = osG f := by
  have hs : ∀ p ∈ f.ps, p.side = 0 ∨ p.side = 1 := fun p hp => (chk_pok h0 p hp).side
  rw [osG_eq h0, osG_eq h1]
  unfold osL
  refine selS_congr fun i _ => ?_
  exact isOwn_map (σ := id) (by decide) rfl b hs (i : Int) (fun y _ => Iff.rfl) h0
/-- Years, gaps and spans that are three times as long, with one year for each paper. -/
def trF (f : Fil) (t : List Int) : Fil := ⟨3 * f.Y, 3 * f.G, (f.ps.zip t).map fun x => ⟨x.1.side, 3 * x.2, 3 * x.2⟩⟩
def t3 (t : List Int) : List Int := t.map (3 * ·)
theorem trF_at {f : Fil} {t : List Int} {i : Nat} {p : Pap} {y : Int} (hp : f.ps[i]? = some p) (hy : t[i]? = some y) : (trF f t).ps[i]? = some ⟨p.side, 3 * y, 3 * y⟩ := by
  unfold trF
  have e : (f.ps.zip t)[i]? = some (p, y) := List.getElem?_zip_eq_some.2 ⟨hp, hy⟩
  rw [List.getElem?_map, e]; rfl
theorem aff3 {f : Fil} {t : List Int} (hl : t.length = f.ps.length) : Aff f t (trF f t) (t3 t) 3 0 where
  ha := .inr rfl
  Y := rfl
  G := rfl
  len := by simp [t3]
  at_ := fun i hi => by
    have hp : t[i]? = some t[i] := List.getElem?_eq_getElem hi
    rw [tAt_eq hp, tAt_eq (y := 3 * t[i]) (by simp [t3, hp])]; omega
  sd := fun i hi => by
    have e : ∀ j, j < t.length → sdAt (trF f t) j = sdAt f j := fun j hj => by
      have hp : f.ps[j]? = some f.ps[j] := List.getElem?_eq_getElem (by omega)
      have hy : t[j]? = some t[j] := List.getElem?_eq_getElem (by omega)
      rw [sdAt_eq hp, sdAt_eq (trF_at hp hy)]
    rw [e i hi, e (i - 1) (by omega)]
theorem chk3 {f : Fil} {t : List Int} (o : Okt f t) (hY : f.Y ≤ 60) (hG : f.G ≤ 20) (h370 : ∀ y ∈ t, y ≤ 370) : chk (trF f t) = 0 := by
  have hn := o.n
  have hlen := o.len
  have hy := o.y
  have hg := o.g
  unfold chk
  have e : (trF f t).ps.length = f.ps.length := by simp [trF, hlen]
  have eY : (trF f t).Y = 3 * f.Y := rfl
  have eG : (trF f t).G = 3 * f.G := rfl
  rw [if_neg (by rw [eY, eG]; omega), e, if_neg (by omega)]
  have hat : ∀ (i : Nat) (q : Pap), (trF f t).ps[i]? = some q → ∃ p y, f.ps[i]? = some p ∧ t[i]? = some y ∧ q = ⟨p.side, 3 * y, 3 * y⟩ := by
    intro i q hq
    have hi : i < f.ps.length := by rw [← e]; exact (List.getElem?_eq_some_iff.1 hq).1
    have hp : f.ps[i]? = some f.ps[i] := List.getElem?_eq_getElem hi
    have hy : t[i]? = some t[i] := List.getElem?_eq_getElem (by omega)
    rw [trF_at hp hy] at hq
    exact ⟨_, _, hp, hy, (Option.some.inj hq).symm⟩
  refine chkGo_of ?_ ?_
  · rw [List.pairwise_iff_getElem]
    intro i j hi hj hij
    obtain ⟨p, y, h1, h2, h3⟩ := hat i _ (List.getElem?_eq_getElem hi)
    obtain ⟨p', y', k1, k2, k3⟩ := hat j _ (List.getElem?_eq_getElem hj)
    rw [h3, k3]
    dsimp only
    have := o.mono hij (List.getElem?_eq_some_iff.1 k2).1
    rw [tAt_eq h2, tAt_eq k2] at this
    omega
  · intro q hq
    obtain ⟨i, hi⟩ := List.mem_iff_getElem?.1 hq
    obtain ⟨p, y, h1, h2, rfl⟩ := hat i q hi
    have hs : p.side = 0 ∨ p.side = 1 := by
      have h0 : chk f = 0 := by
        unfold chk; rw [if_neg (by omega), if_neg (by omega)]; exact o.go
      exact (chk_pok h0 p (List.mem_of_getElem? h1)).side
    have := o.yr h2
    have := h370 y (List.mem_of_getElem? h2)
    refine ⟨?_, by dsimp only; omega⟩
    unfold badPap
    dsimp only
    omega
theorem tru3 {f : Fil} {t : List Int} (hl : t.length = f.ps.length) : t3 t ∈ tru (trF f t).ps := by
  have e : (trF f t).ps.length = f.ps.length := by simp [trF, hl]
  rw [mem_tru]
  refine ⟨by simp [t3, e, hl], holdsS_of ?_⟩
  intro i q y hq hy
  have hi : i < f.ps.length := by rw [← e]; exact (List.getElem?_eq_some_iff.1 hq).1
  have hp : f.ps[i]? = some f.ps[i] := List.getElem?_eq_getElem hi
  have ht : t[i]? = some t[i] := List.getElem?_eq_getElem (by omega)
  rw [trF_at hp ht] at hq
  have := Option.some.inj hq
  subst this
  have : (t3 t)[i]? = some (3 * t[i]) := by simp [t3, ht]
  rw [this] at hy
  have := Option.some.inj hy
  subst this
  exact ⟨Int.le_refl _, Int.le_refl _⟩
end Go.Proofs.Ytolnajnlcdacmaa

open Go.Vm
namespace Go.Vm

theorem flat_set2 {α : Type} {enc : α → List D} {m : Nat} (hm : ∀ a, (enc a).length = m) {a' : α} {c : Nat} {d e : D} : ∀ {l : List α} {j : Nat} {a : α}, l[j]? = some a → c + 1 < m → ((enc a).set c d).set (c + 1) e = enc a' →
    ((l.flatMap enc).set (j * m + c) d).set (j * m + c + 1) e = (l.set j a').flatMap enc
  | [], j, a, h, _, _ => by simp at h
  | x :: l, 0, a, h, hc, hs => by
    simp at h; subst h
    rw [Nat.zero_mul, Nat.zero_add, List.flatMap_cons, List.set_append_left _ _ (by rw [hm]; omega), List.set_append_left _ _ (by rw [List.length_set, hm]; omega), hs, List.set_cons_zero, List.flatMap_cons]
  | x :: l, j + 1, a, h, hc, hs => by
    rw [List.flatMap_cons, List.set_append_right _ _ (by rw [hm, Nat.add_mul]; omega), List.set_append_right _ _ (by rw [hm, Nat.add_mul]; omega), List.set_cons_succ, List.flatMap_cons, hm]
    congr 1
    rw [show (j + 1) * m + c - m = j * m + c by rw [Nat.add_mul]; omega, show (j + 1) * m + c + 1 - m = j * m + c + 1 by rw [Nat.add_mul]; omega]
    exact flat_set2 hm (by simpa using h) hc hs
/-- A store of two cells into a record of a list of one's own. -/
theorem VMem.setRec2 {P : Program} {α : Type} {enc : α → List D} {m : Nat} (hm : ∀ a, (enc a).length = m) {t : TypeId} {i : Id} {off : Nat} {x y : S} {ti : TI} {h : Hp} {l : List α} {a : α} {K : V → Hp → Prop} (j c : Nat) (a' : α) (hTt : tiOf P t = some ti) (hl : Nat.beq 2 ti.size = true) (hb : h.get i = some (.flat true (l.flatMap enc)))
    (hj : l[j]? = some a) (hc : c + 1 < m) (hs : ((enc a).set c (.s x)).set (c + 1) (.s y) = enc a') (ho : off = j * m + c) (hK : K .undef ((h.set i (.flat true ((l.flatMap enc).set off (.s x)))).set i (.flat true ((l.set j a').flatMap enc)))) : VMem P (opStore t) [.ptr i off, .agg [.s x, .s y]] h K := by
  have hlt : off + 1 < (l.flatMap enc).length := by
    obtain ⟨hlt, _⟩ := List.getElem?_eq_some_iff.1 hj
    rw [flat_len hm, ho]
    have : (j + 1) * m ≤ l.length * m := Nat.mul_le_mul_right _ hlt
    rw [Nat.add_mul] at this; omega
  have h1 : off < (l.flatMap enc).length := by omega
  refine VMem.store (cs := [.s x, .s y]) hTt rfl hl ?_ hK
  simp only [Hp.wrN, Hp.wr1, hb, Blk.wr1, if_pos h1]
  rw [Hp.get_set _ _ _ _ (by rw [hb]; simp), if_pos rfl]
  simp only [List.length_set, if_pos hlt]
  rw [ho, flat_set2 hm hj hc hs]
end Go.Vm
namespace Go.Proofs.Ytolnajnlcdacmaa
set_option maxRecDepth 20000
set_option maxHeartbeats 4000000
theorem vc_clonePO (l : List Pap) (h : Hp) (hl : l.length ≤ 4000000) : VC Try.prog 53 [paps l] h (.gl h.fresh 3 l.length) (h.push (.flat true (l.flatMap encP))) := by
  refine VC.body Try.func53 rfl Try.ntmps53 Try.call53 (h.grows_push _) rfl ?_
  conv => whnf
  repeat (first | (refine VLd.intro rfl ?_; conv => whnf) | (refine VArith.i64 (by first | omega | (dsimp only; omega)) ?_; conv => whnf) | (refine VNeed.intro (by first | rfl | (simp; omega)) ?_; conv => whnf) | (refine VMem.store rfl rfl rfl rfl ?_; conv => whnf) | (refine VSame.intro rfl ?_; conv => whnf) | (refine VDraw.go [] (by kernel_rfl) (by kernel_rfl) ?_; conv => whnf))
  refine VMem.appNil encP_len rfl rfl rfl (by omega) ?_
  conv => whnf
  repeat (first | (refine VLd.intro rfl ?_; conv => whnf) | (refine VArith.i64 (by first | omega | (dsimp only; omega)) ?_; conv => whnf) | (refine VNeed.intro (by first | rfl | (simp; omega)) ?_; conv => whnf) | (refine VMem.store rfl rfl rfl rfl ?_; conv => whnf) | (refine VSame.intro rfl ?_; conv => whnf) | (refine VDraw.go [] (by kernel_rfl) (by kernel_rfl) ?_; conv => whnf))
  exact VOut.own1 0 1 rfl rfl
theorem vc_CloneFileO (f : Fil) (h : Hp) (hl : f.ps.length ≤ 4000000) : VC Try.prog 14 [vF f] h (.agg [I f.Y, I f.G, .gl h.fresh 3 f.ps.length]) (h.push (.flat true (f.ps.flatMap encP))) := by
  refine VC.body Try.func14 rfl Try.ntmps14 Try.call14 (h.grows_push _) rfl ?_
  conv => whnf
  repeat' (first | (refine VLd.intro rfl ?_; conv => whnf) | (refine VArith.i64 (by first | omega | (dsimp only; omega)) ?_; conv => whnf) | (refine VNeed.intro (by first | rfl | (simp; omega)) ?_; conv => whnf) | (refine VMem.store rfl rfl rfl rfl ?_; conv => whnf) | (refine VSame.intro rfl ?_; conv => whnf) | (refine VDraw.go [(1, 6), (3, 6)] (by kernel_rfl) (by kernel_rfl) ?_; conv => whnf) | (refine VIte.dec (fun _ => ?_) (fun _ => ?_) <;> conv => whnf) | (refine VIte.ndec (fun _ => ?_) (fun _ => ?_) <;> conv => whnf) | (refine VIte.beq (fun _ => ?_) (fun _ => ?_) <;> conv => whnf) | (refine VIte.bne (fun _ => ?_) (fun _ => ?_) <;> conv => whnf) | (refine VIte.intro (fun _ => ?_) (fun _ => ?_) <;> conv => whnf) | (refine VCall.intro (vc_clonePO f.ps _ hl) ?_; conv => whnf))
  exact VOut.own3 2 3 rfl rfl
/-- Some first papers changed. -/
def mix (φ : Pap → Pap) (l : List Pap) (k : Nat) : List Pap := (l.take k).map φ ++ l.drop k
theorem mix_end (φ : Pap → Pap) (l : List Pap) : mix φ l l.length = l.map φ := by simp [mix]
theorem mix_len (φ : Pap → Pap) (l : List Pap) (k : Nat) (hk : k ≤ l.length) : (mix φ l k).length = l.length := by simp [mix]; omega
theorem mix_at (φ : Pap → Pap) {l : List Pap} {k : Nat} {p : Pap} (h : l[k]? = some p) : (mix φ l k)[k]? = some p := by
  obtain ⟨hlt, rfl⟩ := List.getElem?_eq_some_iff.1 h
  unfold mix
  rw [List.getElem?_append_right (by rw [List.length_map, List.length_take]; exact Nat.min_le_left _ _), List.length_map, List.length_take, Nat.min_eq_left (by omega), Nat.sub_self, List.getElem?_drop]
  exact h
theorem mix_set (φ : Pap → Pap) {l : List Pap} {k : Nat} {p : Pap} (h : l[k]? = some p) : (mix φ l k).set k (φ p) = mix φ l (k + 1) := by
  obtain ⟨hlt, rfl⟩ := List.getElem?_eq_some_iff.1 h
  unfold mix
  have e : ((l.take k).map φ).length = k := by rw [List.length_map, List.length_take]; omega
  rw [List.set_append_right _ _ (by rw [e]; exact Nat.le_refl _), e, Nat.sub_self, List.drop_eq_getElem_cons hlt, List.set_cons_zero, List.take_add_one, List.getElem?_eq_getElem hlt, List.map_append]
  simp
/-- Papers with one year each. -/
def trP (f : Fil) (t : List Int) : List Pap := (trF f t).ps
theorem trP_len {f : Fil} {t : List Int} (hl : t.length = f.ps.length) : (trP f t).length = f.ps.length := by simp [trP, trF, hl]
theorem trP_at {f : Fil} {t : List Int} {i : Nat} {p : Pap} {y : Int} (hp : f.ps[i]? = some p) (hy : t[i]? = some y) : (trP f t).take (i + 1) = (trP f t).take i ++ [⟨p.side, 3 * y, 3 * y⟩] := by
  rw [List.take_add_one, show (trP f t)[i]? = _ from trF_at hp hy]; rfl
theorem map_at (g : Int → Int) {t : List Int} {i : Nat} {y : Int} (hy : t[i]? = some y) : (t.map g).take (i + 1) = (t.map g).take i ++ [g y] := by
  rw [List.take_add_one, List.getElem?_map, hy]; rfl
theorem vc_SilenceTurned (ns ts : List Int) (b : Int) (hb : 0 ≤ b ∧ b ≤ 255) (h : Hp) : VC Try.prog 4 [bytes ns, bytes ts, .s (.int .u8 b)] h (B true) h := by
  obtain ⟨k1, k2, k3, k4, k5⟩ := mFile_ok ns (0, 9) (papers := 10) (yrs := 4) (by omega) (by omega)
  have hpp := mFile_paps ns (0, 9) (papers := 10) (yrs := 4) (by omega) (by omega)
  have cM := fun (i : Vm.Id) (h : Hp) hd => vc_Made ns (0, 9) 10 4 i h (by decide) (by omega) (by omega) hd
  generalize mFile ns (0, 9) 10 4 = f at k1 k2 k3 k4 cM hpp
  generalize (mEnd ns (0, 9) 10 4).d = dE at cM
  have cT := fun (i : Vm.Id) (h : Hp) hd => vc_True ts (0, 9) f i h (by decide) k1 hd
  obtain ⟨t1, t2⟩ := tIt_tru ts (0, 9) k1
  generalize tIt ts f.ps (0, 9) = X at cT t1 t2
  obtain ⟨t, dT⟩ := X
  dsimp only at cT t1 t2
  have o := tru_okt k1 t1
  have hn := o.n
  have hlen := o.len
  have hs : ∀ p ∈ f.ps, p.side = 0 ∨ p.side = 1 := fun p hp => (hpp.2 p hp).1
  have cC := fun h => vc_CloneFileO f h (by omega)
  refine VC.bodyC 3 Try.func4 rfl Try.ntmps4 Try.call4 (h.grows_refl) rfl ?_; conv => whnf
  repeat' (first | (refine VLd.intro rfl ?_; conv => whnf) | (refine VArith.i64 (by first | omega | (dsimp only; omega)) ?_; conv => whnf) | (refine VNeed.intro (by first | rfl | (simp; omega)) ?_; conv => whnf) | (refine VMem.store rfl rfl rfl rfl ?_; conv => whnf) | (refine VSame.intro rfl ?_; conv => whnf) | (refine VIte.dec (fun _ => ?_) (fun _ => ?_) <;> conv => whnf) | (refine VIte.ndec (fun _ => ?_) (fun _ => ?_) <;> conv => whnf) | (refine VIte.beq (fun _ => ?_) (fun _ => ?_) <;> conv => whnf) | (refine VIte.bne (fun _ => ?_) (fun _ => ?_) <;> conv => whnf) | (refine VIte.intro (fun _ => ?_) (fun _ => ?_) <;> conv => whnf) | (refine VCall.intro (vc_Of _ _) ?_; conv => whnf) | (refine VCall.intro (cM _ _ rfl) ?_; conv => whnf))
  refine VDraw.go [(1, 2)] (by kernel_rfl) (by kernel_rfl) ?_
  conv => whnf
  repeat' (first | (refine VLd.intro rfl ?_; conv => whnf) | (refine VArith.i64 (by first | omega | (dsimp only; omega)) ?_; conv => whnf) | (refine VNeed.intro (by first | rfl | (simp; omega)) ?_; conv => whnf) | (refine VMem.store rfl rfl rfl rfl ?_; conv => whnf) | (refine VSame.intro rfl ?_; conv => whnf) | (refine VIte.dec (fun _ => ?_) (fun _ => ?_) <;> conv => whnf) | (refine VIte.ndec (fun _ => ?_) (fun _ => ?_) <;> conv => whnf) | (refine VIte.beq (fun _ => ?_) (fun _ => ?_) <;> conv => whnf) | (refine VIte.bne (fun _ => ?_) (fun _ => ?_) <;> conv => whnf) | (refine VIte.intro (fun _ => ?_) (fun _ => ?_) <;> conv => whnf) | (refine VCall.intro (vc_Of _ _) ?_; conv => whnf) | (refine VCall.intro (cT _ _ rfl) ?_; conv => whnf))
  refine VCut.at' 4 [(2, .s (.int .u8 b)), (7, .fp (encF f)), (8, ints t)] [] ?_ ?_
  · conv => whnf
    refine Retell.turn ⟨[], 3, [(1, encF f)], []⟩ (TurnOk.mk' _ _ [(1, encF f)] [] (OutOk.lift _) rfl (by decide) (by repeat' (first | exact BTos.nil | refine BTos.flat rfl rfl (by first | rfl | simp) ?_ | refine BTos.new rfl ?_ | refine BTos.dead rfl rfl ?_ | refine BTos.esE rfl rfl ?_ | refine BTos.row rfl rfl rfl (RowTo.snoc (RowTo.one rfl (by simp))) ?_ | refine BTos.cells rfl rfl rfl (by repeat' (first | exact VTo.undef | exact FrTo.leaf | refine FrTo.node ?_ ?_ ?_ | refine FrTo.none ?_ ?_ | exact VTo.sc (by first | rfl | (congr 1; omega) | (congr 1; simp; omega)) | exact VTos_dv _ _ | refine VTos.cons ?_ ?_ | exact VTos.nil | refine VTo.agg ?_ | refine VTo.tuple ?_ | refine VTo.func ?_ ?_ | exact VTo.fs | exact VTo.fp | exact VTo.nilptr | exact VTo.nilslice | exact VTo.nilfunc | exact VTo.ptr rfl | exact VTo.gl rfl | exact VTo.map rfl | exact VTo.yld rfl | exact VTo.fmMap rfl | exact VTo.fm | exact VTo.glNil' (by decide) rfl rfl | exact VTo.fsNil (by decide) | exact VTo.fsSl rfl rfl (by simp [flat_len encE_len]) | exact VTo.fpPtr rfl | exact VTo.fsGl rfl (by first | rfl | exact flat_len encI_len _ | exact flat_len encS_len _ | exact flat_len encP_len _ | exact flat_len encL_len _ | exact flat_len encE_len _ | (simp [flat_len encP_len]; done) | simp [flat_len encI_len, flat_len encS_len]))) ?_)) (by repeat' (first | exact FzAll.nil | refine FzAll.flat rfl ?_ | refine FzAll.row rfl rfl (RowTo.one rfl (by simp)) ?_)) trivial rfl) (by repeat' (first | exact VTo.undef | exact FrTo.leaf | refine FrTo.node ?_ ?_ ?_ | refine FrTo.none ?_ ?_ | exact VTo.sc (by first | rfl | (congr 1; omega) | (congr 1; simp; omega)) | exact VTos_dv _ _ | refine VTos.cons ?_ ?_ | exact VTos.nil | refine VTo.agg ?_ | refine VTo.tuple ?_ | refine VTo.func ?_ ?_ | exact VTo.fs | exact VTo.fp | exact VTo.nilptr | exact VTo.nilslice | exact VTo.nilfunc | exact VTo.ptr rfl | exact VTo.gl rfl | exact VTo.map rfl | exact VTo.yld rfl | exact VTo.fmMap rfl | exact VTo.fm | exact VTo.glNil' (by decide) rfl rfl | exact VTo.fsNil (by decide) | exact VTo.fsSl rfl rfl (by simp [flat_len encE_len]) | exact VTo.fpPtr rfl | exact VTo.fsGl rfl (by first | rfl | exact flat_len encI_len _ | exact flat_len encS_len _ | exact flat_len encP_len _ | exact flat_len encL_len _ | exact flat_len encE_len _ | (simp [flat_len encP_len]; done) | simp [flat_len encI_len, flat_len encS_len]))) (by first | rfl | (repeat' (first | exact MkTo.nil | refine MkTo.keep rfl ?_ | refine MkTo.drop (by decide) rfl ?_)))
  · conv => whnf
    refine VDraw.go [(1, 2)] (by kernel_rfl) (by kernel_rfl) ?_
    conv => whnf
    repeat' (first | (refine VLd.intro rfl ?_; conv => whnf) | (refine VArith.i64 (by first | omega | (dsimp only; omega)) ?_; conv => whnf) | (refine VNeed.intro (by first | rfl | (simp; omega)) ?_; conv => whnf) | (refine VMem.store rfl rfl rfl rfl ?_; conv => whnf) | (refine VSame.intro rfl ?_; conv => whnf) | (refine VDraw.go [] (by kernel_rfl) (by kernel_rfl) ?_; conv => whnf) | (refine VIte.dec (fun _ => ?_) (fun _ => ?_) <;> conv => whnf) | (refine VIte.ndec (fun _ => ?_) (fun _ => ?_) <;> conv => whnf) | (refine VIte.beq (fun _ => ?_) (fun _ => ?_) <;> conv => whnf) | (refine VIte.bne (fun _ => ?_) (fun _ => ?_) <;> conv => whnf) | (refine VIte.intro (fun _ => ?_) (fun _ => ?_) <;> conv => whnf) | (refine VCall.intro (cC _) ?_; conv => whnf))
    refine VCode.lp (fun k : Nat => [(2, .s (.int .u8 b)), (7, .fp (encF f)), (8, ints t), (9, .ptr (.loc 2) 0), (10, .ptr (.loc 3) 0), (11, .ptr (.loc 4) 0), (12, .gl (.loc 6) 1 k), (13, .gl (.loc 7) 1 k), (53, paps f.ps), (54, I f.ps.length), (55, I k)])
      (fun k => [.flat true ((mix (pMap flp 0) f.ps k).flatMap encP), .flat true ((mix (pMap id b) f.ps k).flatMap encP), .cells true [I f.Y, I f.G, .gl (.loc 0) 3 f.ps.length], .cells true [I f.Y, I f.G, .gl (.loc 1) 3 f.ps.length], .cells true [I (3 * f.Y), I (3 * f.G), .gl (.loc 5) 3 k], .flat true (((trP f t).take k).flatMap encP), .flat true (((t.map (· + b)).take k).flatMap encI), .flat true (((t3 t).take k).flatMap encI)])
      (fun k => k ≤ f.ps.length) (fun k => f.ps.length - k) 0 (Nat.zero_le _) ?_ ?_
    · conv => whnf
      refine Retell.turn ⟨[0,1,2,3,4,5,6,7], 5, [], []⟩ (TurnOk.mk' _ _ [] [] (OutOk.lift _) rfl (by decide) (by repeat' (first | exact BTos.nil | refine BTos.flat rfl rfl (by first | rfl | simp) ?_ | refine BTos.new rfl ?_ | refine BTos.dead rfl rfl ?_ | refine BTos.esE rfl rfl ?_ | refine BTos.row rfl rfl rfl (RowTo.snoc (RowTo.one rfl (by simp))) ?_ | refine BTos.cells rfl rfl rfl (by repeat' (first | exact VTo.undef | exact FrTo.leaf | refine FrTo.node ?_ ?_ ?_ | refine FrTo.none ?_ ?_ | exact VTo.sc (by first | rfl | (congr 1; omega) | (congr 1; simp; omega)) | exact VTos_dv _ _ | refine VTos.cons ?_ ?_ | exact VTos.nil | refine VTo.agg ?_ | refine VTo.tuple ?_ | refine VTo.func ?_ ?_ | exact VTo.fs | exact VTo.fp | exact VTo.nilptr | exact VTo.nilslice | exact VTo.nilfunc | exact VTo.ptr rfl | exact VTo.gl rfl | exact VTo.map rfl | exact VTo.yld rfl | exact VTo.fmMap rfl | exact VTo.fm | exact VTo.glNil' (by decide) rfl rfl | exact VTo.fsNil (by decide) | exact VTo.fsSl rfl rfl (by simp [flat_len encE_len]) | exact VTo.fpPtr rfl | exact VTo.fsGl rfl (by first | rfl | exact flat_len encI_len _ | exact flat_len encS_len _ | exact flat_len encP_len _ | exact flat_len encL_len _ | exact flat_len encE_len _ | (simp [flat_len encP_len]; done) | simp [flat_len encI_len, flat_len encS_len]))) ?_)) trivial trivial rfl) (by repeat' (first | exact VTo.undef | exact FrTo.leaf | refine FrTo.node ?_ ?_ ?_ | refine FrTo.none ?_ ?_ | exact VTo.sc (by first | rfl | (congr 1; omega) | (congr 1; simp; omega)) | exact VTos_dv _ _ | refine VTos.cons ?_ ?_ | exact VTos.nil | refine VTo.agg ?_ | refine VTo.tuple ?_ | refine VTo.func ?_ ?_ | exact VTo.fs | exact VTo.fp | exact VTo.nilptr | exact VTo.nilslice | exact VTo.nilfunc | exact VTo.ptr rfl | exact VTo.gl rfl | exact VTo.map rfl | exact VTo.yld rfl | exact VTo.fmMap rfl | exact VTo.fm | exact VTo.glNil' (by decide) rfl rfl | exact VTo.fsNil (by decide) | exact VTo.fsSl rfl rfl (by simp [flat_len encE_len]) | exact VTo.fpPtr rfl | exact VTo.fsGl rfl (by first | rfl | exact flat_len encI_len _ | exact flat_len encS_len _ | exact flat_len encP_len _ | exact flat_len encL_len _ | exact flat_len encE_len _ | (simp [flat_len encP_len]; done) | simp [flat_len encI_len, flat_len encS_len]))) (by first | rfl | (repeat' (first | exact MkTo.nil | refine MkTo.keep rfl ?_ | refine MkTo.drop (by decide) rfl ?_)))
    · intro k hk
      have hmA := mix_len (pMap flp 0) f.ps k hk
      have hmB := mix_len (pMap id b) f.ps k hk
      have htl := trP_len hlen
      conv => whnf
      refine VIte.dec (fun h3 => ?_) (fun h3 => ?_)
      · have hp : f.ps[k]? = some f.ps[k] := List.getElem?_eq_getElem (by omega)
        have hy : t[k]? = some t[k] := List.getElem?_eq_getElem (by omega)
        have hr := hpp.2 f.ps[k] (List.getElem_mem _)
        have hyr := o.yr hy
        generalize f.ps[k] = p at hp hr
        generalize t[k] = y at hy hyr
        have hsA : (encP p).set 0 (DI (1 - p.side)) = encP (pMap flp 0 p) := by
          have : flp p.side = 1 - p.side := by unfold flp; rw [if_neg (by omega)]
          simp [encP, pMap, this]
        have hsB : ((encP p).set 1 (DI (p.lo + b))).set (1 + 1) (DI (p.hi + b)) = encP (pMap id b p) := rfl
        have hA := mix_set (pMap flp 0) hp
        have hB := mix_set (pMap id b) hp
        have hC := trP_at hp hy
        have hU := map_at (· + b) hy
        have hV : (t3 t).take (k + 1) = (t3 t).take k ++ [3 * y] := map_at (3 * ·) hy
        have hCl : ((trP f t).take k).length = k := by rw [List.length_take]; omega
        have hUl : ((t.map (· + b)).take k).length = k := by rw [List.length_take, List.length_map]; omega
        have hVl : ((t3 t).take k).length = k := by rw [List.length_take]; simp only [t3, List.length_map]; omega
        conv => whnf
        repeat' (first | (refine VLd.intro rfl ?_; conv => whnf) | (refine VArith.i64 (by first | omega | (dsimp only; omega)) ?_; conv => whnf) | (refine VNeed.intro (by first | rfl | (simp; omega)) ?_; conv => whnf) | (refine VMem.store rfl rfl rfl rfl ?_; conv => whnf) | (refine VSame.intro rfl ?_; conv => whnf) | (refine VIte.dec (fun _ => ?_) (fun _ => ?_) <;> conv => whnf) | (refine VIte.ndec (fun _ => ?_) (fun _ => ?_) <;> conv => whnf) | (refine VIte.beq (fun _ => ?_) (fun _ => ?_) <;> conv => whnf) | (refine VIte.bne (fun _ => ?_) (fun _ => ?_) <;> conv => whnf) | (refine VIte.intro (fun _ => ?_) (fun _ => ?_) <;> conv => whnf) | (refine VAny.ix encP_len k rfl rfl hp ?_; conv => whnf))
        refine VMem.setRec encP_len k 0 (pMap flp 0 p) rfl rfl rfl (mix_at _ hp) (by decide) hsA (by simp only [Nat.zero_add]; omega) ?_
        conv => whnf
        repeat' (first | (refine VLd.intro rfl ?_; conv => whnf) | (refine VArith.i64 (by first | omega | (dsimp only; omega)) ?_; conv => whnf) | (refine VNeed.intro (by first | rfl | (simp; omega)) ?_; conv => whnf) | (refine VMem.store rfl rfl rfl rfl ?_; conv => whnf) | (refine VSame.intro rfl ?_; conv => whnf) | (refine VIte.dec (fun _ => ?_) (fun _ => ?_) <;> conv => whnf) | (refine VIte.ndec (fun _ => ?_) (fun _ => ?_) <;> conv => whnf) | (refine VIte.beq (fun _ => ?_) (fun _ => ?_) <;> conv => whnf) | (refine VIte.bne (fun _ => ?_) (fun _ => ?_) <;> conv => whnf) | (refine VIte.intro (fun _ => ?_) (fun _ => ?_) <;> conv => whnf))
        refine VMem.setRec2 encP_len k 1 (pMap id b p) rfl rfl rfl (mix_at _ hp) (by decide) hsB (by simp only [Nat.zero_add]; omega) ?_
        conv => whnf
        refine VDraw.go [(9, 14)] (by kernel_rfl) (by kernel_rfl) ?_
        conv => whnf
        repeat' (first | (refine VLd.intro rfl ?_; conv => whnf) | (refine VArith.i64 (by first | omega | (dsimp only; omega)) ?_; conv => whnf) | (refine VNeed.intro (by first | rfl | (simp; omega)) ?_; conv => whnf) | (refine VMem.store rfl rfl rfl rfl ?_; conv => whnf) | (refine VSame.intro rfl ?_; conv => whnf) | (refine VIte.dec (fun _ => ?_) (fun _ => ?_) <;> conv => whnf) | (refine VIte.ndec (fun _ => ?_) (fun _ => ?_) <;> conv => whnf) | (refine VIte.beq (fun _ => ?_) (fun _ => ?_) <;> conv => whnf) | (refine VIte.bne (fun _ => ?_) (fun _ => ?_) <;> conv => whnf) | (refine VIte.intro (fun _ => ?_) (fun _ => ?_) <;> conv => whnf) | (refine VAny.ix encI_len k rfl rfl hy ?_; conv => whnf))
        refine VMem.app1 (l := (t.map (· + b)).take k) (y + b) encI_len rfl rfl rfl hUl.symm rfl (by omega) ?_
        conv => whnf
        repeat' (first | (refine VLd.intro rfl ?_; conv => whnf) | (refine VArith.i64 (by first | omega | (dsimp only; omega)) ?_; conv => whnf) | (refine VNeed.intro (by first | rfl | (simp; omega)) ?_; conv => whnf) | (refine VMem.store rfl rfl rfl rfl ?_; conv => whnf) | (refine VSame.intro rfl ?_; conv => whnf) | (refine VIte.dec (fun _ => ?_) (fun _ => ?_) <;> conv => whnf) | (refine VIte.ndec (fun _ => ?_) (fun _ => ?_) <;> conv => whnf) | (refine VIte.beq (fun _ => ?_) (fun _ => ?_) <;> conv => whnf) | (refine VIte.bne (fun _ => ?_) (fun _ => ?_) <;> conv => whnf) | (refine VIte.intro (fun _ => ?_) (fun _ => ?_) <;> conv => whnf) | (refine VAny.ix encI_len k rfl rfl hy ?_; conv => whnf))
        refine VMem.app1 (l := (t3 t).take k) (3 * y) encI_len rfl rfl rfl hVl.symm rfl (by omega) ?_
        conv => whnf
        repeat' (first | (refine VLd.intro rfl ?_; conv => whnf) | (refine VArith.i64 (by first | omega | (dsimp only; omega)) ?_; conv => whnf) | (refine VNeed.intro (by first | rfl | (simp; omega)) ?_; conv => whnf) | (refine VMem.store rfl rfl rfl rfl ?_; conv => whnf) | (refine VSame.intro rfl ?_; conv => whnf) | (refine VIte.dec (fun _ => ?_) (fun _ => ?_) <;> conv => whnf) | (refine VIte.ndec (fun _ => ?_) (fun _ => ?_) <;> conv => whnf) | (refine VIte.beq (fun _ => ?_) (fun _ => ?_) <;> conv => whnf) | (refine VIte.bne (fun _ => ?_) (fun _ => ?_) <;> conv => whnf) | (refine VIte.intro (fun _ => ?_) (fun _ => ?_) <;> conv => whnf))
        refine VDraw.go [] (by kernel_rfl) (by kernel_rfl) ?_
        conv => whnf
        repeat' (first | (refine VLd.intro rfl ?_; conv => whnf) | (refine VArith.i64 (by first | omega | (dsimp only; omega)) ?_; conv => whnf) | (refine VNeed.intro (by first | rfl | (simp; omega)) ?_; conv => whnf) | (refine VMem.store rfl rfl rfl rfl ?_; conv => whnf) | (refine VSame.intro rfl ?_; conv => whnf) | (refine VIte.dec (fun _ => ?_) (fun _ => ?_) <;> conv => whnf) | (refine VIte.ndec (fun _ => ?_) (fun _ => ?_) <;> conv => whnf) | (refine VIte.beq (fun _ => ?_) (fun _ => ?_) <;> conv => whnf) | (refine VIte.bne (fun _ => ?_) (fun _ => ?_) <;> conv => whnf) | (refine VIte.intro (fun _ => ?_) (fun _ => ?_) <;> conv => whnf) | (refine VAny.ix encI_len k rfl rfl hy ?_; conv => whnf))
        refine VMem.app1 (l := (trP f t).take k) ⟨p.side, 3 * y, 3 * y⟩ encP_len rfl rfl rfl hCl.symm rfl (by omega) ?_
        conv => whnf
        repeat' (first | (refine VLd.intro rfl ?_; conv => whnf) | (refine VArith.i64 (by first | omega | (dsimp only; omega)) ?_; conv => whnf) | (refine VNeed.intro (by first | rfl | (simp; omega)) ?_; conv => whnf) | (refine VMem.store rfl rfl rfl rfl ?_; conv => whnf) | (refine VSame.intro rfl ?_; conv => whnf) | (refine VIte.dec (fun _ => ?_) (fun _ => ?_) <;> conv => whnf) | (refine VIte.ndec (fun _ => ?_) (fun _ => ?_) <;> conv => whnf) | (refine VIte.beq (fun _ => ?_) (fun _ => ?_) <;> conv => whnf) | (refine VIte.bne (fun _ => ?_) (fun _ => ?_) <;> conv => whnf) | (refine VIte.intro (fun _ => ?_) (fun _ => ?_) <;> conv => whnf))
        refine LEnd.intro (k + 1) (by omega) (by omega) ?_
        conv => whnf
        rw [hA, hB, hC, hU, hV]
        refine Retell.turn ⟨[0,1,2,3,4,14,10,12], 15, [], []⟩ (TurnOk.mk' _ _ [] [] (OutOk.lift _) rfl (by decide) (by repeat' (first | exact BTos.nil | refine BTos.flat rfl rfl (by first | rfl | simp) ?_ | refine BTos.new rfl ?_ | refine BTos.dead rfl rfl ?_ | refine BTos.esE rfl rfl ?_ | refine BTos.row rfl rfl rfl (RowTo.snoc (RowTo.one rfl (by simp))) ?_ | refine BTos.cells rfl rfl rfl (by repeat' (first | exact VTo.undef | exact FrTo.leaf | refine FrTo.node ?_ ?_ ?_ | refine FrTo.none ?_ ?_ | exact VTo.sc (by first | rfl | (congr 1; omega) | (congr 1; simp; omega)) | exact VTos_dv _ _ | refine VTos.cons ?_ ?_ | exact VTos.nil | refine VTo.agg ?_ | refine VTo.tuple ?_ | refine VTo.func ?_ ?_ | exact VTo.fs | exact VTo.fp | exact VTo.nilptr | exact VTo.nilslice | exact VTo.nilfunc | exact VTo.ptr rfl | exact VTo.gl rfl | exact VTo.map rfl | exact VTo.yld rfl | exact VTo.fmMap rfl | exact VTo.fm | exact VTo.glNil' (by decide) rfl rfl | exact VTo.fsNil (by decide) | exact VTo.fsSl rfl rfl (by simp [flat_len encE_len]) | exact VTo.fpPtr rfl | exact VTo.fsGl rfl (by first | rfl | exact flat_len encI_len _ | exact flat_len encS_len _ | exact flat_len encP_len _ | exact flat_len encL_len _ | exact flat_len encE_len _ | (simp [flat_len encP_len]; done) | simp [flat_len encI_len, flat_len encS_len]))) ?_)) trivial trivial rfl) (by repeat' (first | exact VTo.undef | exact FrTo.leaf | refine FrTo.node ?_ ?_ ?_ | refine FrTo.none ?_ ?_ | exact VTo.sc (by first | rfl | (congr 1; omega) | (congr 1; simp; omega)) | exact VTos_dv _ _ | refine VTos.cons ?_ ?_ | exact VTos.nil | refine VTo.agg ?_ | refine VTo.tuple ?_ | refine VTo.func ?_ ?_ | exact VTo.fs | exact VTo.fp | exact VTo.nilptr | exact VTo.nilslice | exact VTo.nilfunc | exact VTo.ptr rfl | exact VTo.gl rfl | exact VTo.map rfl | exact VTo.yld rfl | exact VTo.fmMap rfl | exact VTo.fm | exact VTo.glNil' (by decide) rfl rfl | exact VTo.fsNil (by decide) | exact VTo.fsSl rfl rfl (by simp [flat_len encE_len]) | exact VTo.fpPtr rfl | exact VTo.fsGl rfl (by first | rfl | exact flat_len encI_len _ | exact flat_len encS_len _ | exact flat_len encP_len _ | exact flat_len encL_len _ | exact flat_len encE_len _ | (simp [flat_len encP_len]; done) | simp [flat_len encI_len, flat_len encS_len]))) (by first | rfl | (repeat' (first | exact MkTo.nil | refine MkTo.keep rfl ?_ | refine MkTo.drop (by decide) rfl ?_)))
      · have hkn : k = f.ps.length := by omega
        subst hkn
        have e1 : (trP f t).take f.ps.length = trP f t := List.take_of_length_le (by omega)
        have e2 : (t.map (· + b)).take f.ps.length = t.map (· + b) := List.take_of_length_le (by rw [List.length_map]; omega)
        have e3 : (t3 t).take f.ps.length = t3 t := List.take_of_length_le (by simp only [t3, List.length_map]; omega)
        rw [mix_end, mix_end, e1, e2, e3]
        conv => whnf
        repeat' (first | (refine VLd.intro rfl ?_; conv => whnf) | (refine VArith.i64 (by first | omega | (dsimp only; omega)) ?_; conv => whnf) | (refine VNeed.intro (by first | rfl | (simp; omega)) ?_; conv => whnf) | (refine VMem.store rfl rfl rfl rfl ?_; conv => whnf) | (refine VSame.intro rfl ?_; conv => whnf) | (refine VIte.dec (fun _ => ?_) (fun _ => ?_) <;> conv => whnf) | (refine VIte.ndec (fun _ => ?_) (fun _ => ?_) <;> conv => whnf) | (refine VIte.beq (fun _ => ?_) (fun _ => ?_) <;> conv => whnf) | (refine VIte.bne (fun _ => ?_) (fun _ => ?_) <;> conv => whnf) | (refine VIte.intro (fun _ => ?_) (fun _ => ?_) <;> conv => whnf))
        refine VCut.at [(7, .fp (encF f)), (8, ints t), (9, .fp (encF (fMap flp 0 f))), (10, .fp (encF (fMap id b f))), (11, .fp (encF (trF f t))), (12, ints (t.map (· + b))), (13, ints (t3 t))] [] ?_ ?_
        · conv => whnf
          refine Retell.turn ⟨[], 8, [(0, (fMap flp 0 f).ps.flatMap encP), (1, (fMap id b f).ps.flatMap encP), (5, (trP f t).flatMap encP), (6, (t.map (· + b)).flatMap encI), (7, (t3 t).flatMap encI), (2, encF (fMap flp 0 f)), (3, encF (fMap id b f)), (4, encF (trF f t))], []⟩ (TurnOk.mk' _ _ [(0, (fMap flp 0 f).ps.flatMap encP), (1, (fMap id b f).ps.flatMap encP), (5, (trP f t).flatMap encP), (6, (t.map (· + b)).flatMap encI), (7, (t3 t).flatMap encI), (2, encF (fMap flp 0 f)), (3, encF (fMap id b f)), (4, encF (trF f t))] [] (OutOk.lift _) rfl (by decide) BTos.nil
            (FzAll.flat rfl (FzAll.flat rfl (FzAll.flat rfl (FzAll.flat rfl (FzAll.flat rfl (FzAll.row rfl rfl (RowTo.vtos (VTos.cons (VTo.sc rfl) (VTos.cons (VTo.sc rfl) (VTos.cons (VTo.fsGl' rfl (by simp [fMap]) (by rw [flat_len encP_len])) VTos.nil)))) (FzAll.row rfl rfl (RowTo.vtos (VTos.cons (VTo.sc rfl) (VTos.cons (VTo.sc rfl) (VTos.cons (VTo.fsGl' rfl (by simp [fMap]) (by rw [flat_len encP_len])) VTos.nil)))) (FzAll.row rfl rfl (RowTo.vtos (VTos.cons (VTo.sc rfl) (VTos.cons (VTo.sc rfl) (VTos.cons (VTo.fsGl' rfl htl.symm (by rw [flat_len encP_len])) VTos.nil)))) FzAll.nil))))))))
            trivial rfl) (by repeat' (first | exact VTo.undef | exact FrTo.leaf | refine FrTo.node ?_ ?_ ?_ | refine FrTo.none ?_ ?_ | exact VTo.fs | exact VTo.fp | exact VTo.fpPtr rfl | exact VTo.fsGl' rfl (by simp only [t3, List.length_map]; omega) (by rw [flat_len encI_len]))) (by first | rfl | (repeat' (first | exact MkTo.nil | refine MkTo.keep rfl ?_ | refine MkTo.drop (by decide) rfl ?_)))
        · have h1 : chk (fMap flp 0 f) = 0 := chk_map k1 (by decide) (by omega) hpp
          have h2 : chk (fMap id b f) = 0 := chk_map k1 (by decide) hb hpp
          have h3 : chk (trF f t) = 0 := chk3 o k3.2 k4.2 fun y hy => by
            obtain ⟨i, hi⟩ := List.mem_iff_getElem?.1 hy
            have hil := (List.getElem?_eq_some_iff.1 hi).1
            have hp : f.ps[i]? = some f.ps[i] := List.getElem?_eq_getElem (by omega)
            have := ((tru_take (Nat.le_refl _) t).1 (by rw [List.take_length]; exact t1)).2 i _ y hp hi
            have := (hpp.2 _ (List.mem_of_getElem? hp)).2.2.2.2
            omega
          have u1 := (tru_map id b).2 t1
          have v1 := tru3 hlen
          have hu := told_tru h2 u1
          have hv := told_tru h3 v1
          have ht := told_tru k1 t1
          have A2 := aff_map (σ := id) (by decide) b hs hlen
          have A3 := aff3 hlen
          have ar2 := A2.arL
          have ar3 := A3.arL
          have fw := fun (q : Nat) hq => A3.few (p := q) hq
          have af := fun (q : Nat) hq => A3.ar (i := q) hq
          have l1 : (fMap flp 0 f).ps.length = f.ps.length := by simp [fMap]
          have l2 : (fMap id b f).ps.length = f.ps.length := by simp [fMap]
          have l3 : (trF f t).ps.length = f.ps.length := htl
          have l4 : (t.map (· + b)).length = t.length := by simp
          have l5 : (t3 t).length = t.length := by simp [t3]
          have hOl := osG_late k1 h2
          obtain ⟨hFl, hFm⟩ := osG_flp k1 h1
          have o3 := tru_okt h3 v1
          generalize fMap flp 0 f = f1 at h1 l1 hFl hFm ⊢
          generalize fMap id b f = f2 at h2 u1 hu ar2 l2 hOl ⊢
          generalize trF f t = f3 at h3 v1 hv ar3 fw af l3 o3 ⊢
          generalize t.map (· + b) = u at u1 hu ar2 l4 ⊢
          generalize t3 t = v at v1 hv ar3 fw af l5 o3 ⊢
          have q1 := fun h => vc_Owners_ok f h k1
          have q2 := fun h => vc_Owners_ok f1 h h1
          have q3 := fun h => vc_Owners_ok f2 h h2
          rw [hOl] at q3
          have w1 := fun h => vc_Arises f t h (by omega) (by omega)
          have w2 := fun h => vc_Arises f2 u h (by omega) (by omega)
          have w3 := fun h => vc_Arises f3 v h (by omega) (by omega)
          rw [if_pos ht, ht] at w1
          rw [if_pos hu, hu, ar2] at w2
          rw [if_pos hv, hv, ar3] at w3
          have hAm := fun x => (arL_mem (f := f) (t := t) (x := x)).1
          have hAl := selS_len (arB f t) t.length
          have hAe : arL f t = selS (arB f t) t.length := rfl
          rw [← hAe] at hAl
          generalize arL f t = A at w1 w2 w3 hAm hAl hAe
          have hol := osG_len f
          have hom : ∀ x ∈ osG f, x = 0 ∨ x = 1 ∨ x = 2 := fun x hx => by
            obtain ⟨j, j1, j2, _⟩ := mem_selS.1 hx
            omega
          generalize osG f = O at q1 q3 hFl hFm hol hom
          generalize osG f1 = O1 at q2 hFl hFm
          have eO := fun h => eqI O h (by omega)
          have eA := fun h => eqI A h (by omega)
          conv => whnf
          repeat' (first | (refine VLd.intro rfl ?_; conv => whnf) | (refine VArith.i64 (by first | omega | (dsimp only; omega)) ?_; conv => whnf) | (refine VNeed.intro (by first | rfl | (simp; omega)) ?_; conv => whnf) | (refine VMem.store rfl rfl rfl rfl ?_; conv => whnf) | (refine VSame.intro rfl ?_; conv => whnf) | (refine VDraw.go [] (by kernel_rfl) (by kernel_rfl) ?_; conv => whnf) | (refine VIte.dec (fun _ => ?_) (fun _ => ?_) <;> conv => whnf) | (refine VIte.ndec (fun _ => ?_) (fun _ => ?_) <;> conv => whnf) | (refine VIte.beq (fun _ => ?_) (fun _ => ?_) <;> conv => whnf) | (refine VIte.bne (fun _ => ?_) (fun _ => ?_) <;> conv => whnf) | (refine VIte.intro (fun _ => ?_) (fun _ => ?_) <;> conv => whnf) | (refine VCall.intro (q1 _) ?_; conv => whnf) | (refine VCall.intro (q2 _) ?_; conv => whnf) | (refine VCall.intro (q3 _) ?_; conv => whnf) | (refine VCall.intro (eO _) ?_; conv => whnf))
          all_goals try (rename_i hz; exfalso; omega)
          refine VCode.lp (fun k : Nat => [(7, .fp (encF f)), (8, ints t), (10, .fp (encF f2)), (11, .fp (encF f3)), (12, ints u), (13, ints v), (18, ints O1), (22, .ptr (.loc 0) 0), (163, ints O), (164, I O.length), (165, I k)]) (fun _ => [.flat true [DI 1, DI 0, DI 2]]) (fun k => k ≤ O.length) (fun k => O.length - k) 0 (Nat.zero_le _) ?_ ?_
          · conv => whnf
            trace_state
            refine Retell.turn ⟨[0], 1, [], []⟩ (TurnOk.mk' _ _ [] [] (OutOk.lift _) rfl (by decide) (by repeat' (first | exact BTos.nil | refine BTos.flat rfl rfl (by first | rfl | simp) ?_ | refine BTos.new rfl ?_ | refine BTos.dead rfl rfl ?_ | refine BTos.esE rfl rfl ?_ | refine BTos.row rfl rfl rfl (RowTo.snoc (RowTo.one rfl (by simp))) ?_ | refine BTos.cells rfl rfl rfl (by repeat' (first | exact VTo.undef | exact FrTo.leaf | refine FrTo.node ?_ ?_ ?_ | refine FrTo.none ?_ ?_ | exact VTo.sc (by first | rfl | (congr 1; omega) | (congr 1; simp; omega)) | exact VTos_dv _ _ | refine VTos.cons ?_ ?_ | exact VTos.nil | refine VTo.agg ?_ | refine VTo.tuple ?_ | refine VTo.func ?_ ?_ | exact VTo.fs | exact VTo.fp | exact VTo.nilptr | exact VTo.nilslice | exact VTo.nilfunc | exact VTo.ptr rfl | exact VTo.gl rfl | exact VTo.map rfl | exact VTo.yld rfl | exact VTo.fmMap rfl | exact VTo.fm | exact VTo.glNil' (by decide) rfl rfl | exact VTo.fsNil (by decide) | exact VTo.fsSl rfl rfl (by simp [flat_len encE_len]) | exact VTo.fpPtr rfl | exact VTo.fsGl rfl (by first | rfl | exact flat_len encI_len _ | exact flat_len encS_len _ | exact flat_len encP_len _ | exact flat_len encL_len _ | exact flat_len encE_len _ | (simp [flat_len encP_len]; done) | simp [flat_len encI_len, flat_len encS_len]))) ?_)) trivial trivial rfl) (by repeat' (first | exact VTo.undef | exact FrTo.leaf | refine FrTo.node ?_ ?_ ?_ | refine FrTo.none ?_ ?_ | exact VTo.sc (by first | rfl | (congr 1; omega) | (congr 1; simp; omega)) | exact VTos_dv _ _ | refine VTos.cons ?_ ?_ | exact VTos.nil | refine VTo.agg ?_ | refine VTo.tuple ?_ | refine VTo.func ?_ ?_ | exact VTo.fs | exact VTo.fp | exact VTo.nilptr | exact VTo.nilslice | exact VTo.nilfunc | exact VTo.ptr rfl | exact VTo.gl rfl | exact VTo.map rfl | exact VTo.yld rfl | exact VTo.fmMap rfl | exact VTo.fm | exact VTo.glNil' (by decide) rfl rfl | exact VTo.fsNil (by decide) | exact VTo.fsSl rfl rfl (by simp [flat_len encE_len]) | exact VTo.fpPtr rfl | exact VTo.fsGl rfl (by first | rfl | exact flat_len encI_len _ | exact flat_len encS_len _ | exact flat_len encP_len _ | exact flat_len encL_len _ | exact flat_len encE_len _ | (simp [flat_len encP_len]; done) | simp [flat_len encI_len, flat_len encS_len]))) (by first | rfl | (repeat' (first | exact MkTo.nil | refine MkTo.keep rfl ?_ | refine MkTo.drop (by decide) rfl ?_)))
          · intro k hk
            conv => whnf
            refine VIte.dec (fun h3 => ?_) (fun h3 => ?_)
            · have hx : O[k]? = some O[k] := List.getElem?_eq_getElem (by omega)
              have hxm := hom _ (List.getElem_mem (by omega : k < O.length))
              have hxf := hFm _ (List.getElem_mem (by omega : k < O.length))
              generalize O[k] = x at hx hxm hxf
              have c1 := fun h => vc_Contains O1 (flp x) h (by omega)
              rw [decide_eq_true hxf] at c1
              rcases hxm with rfl | rfl | rfl
              all_goals (
                conv => whnf
                repeat' (first | (refine VLd.intro rfl ?_; conv => whnf) | (refine VArith.i64 (by first | omega | (dsimp only; omega)) ?_; conv => whnf) | (refine VNeed.intro (by first | rfl | (simp; omega)) ?_; conv => whnf) | (refine VMem.store rfl rfl rfl rfl ?_; conv => whnf) | (refine VSame.intro rfl ?_; conv => whnf) | (refine VDraw.go [] (by kernel_rfl) (by kernel_rfl) ?_; conv => whnf) | (refine VIte.dec (fun _ => ?_) (fun _ => ?_) <;> conv => whnf) | (refine VIte.ndec (fun _ => ?_) (fun _ => ?_) <;> conv => whnf) | (refine VIte.beq (fun _ => ?_) (fun _ => ?_) <;> conv => whnf) | (refine VIte.bne (fun _ => ?_) (fun _ => ?_) <;> conv => whnf) | (refine VIte.intro (fun _ => ?_) (fun _ => ?_) <;> conv => whnf) | (refine VAny.ix encI_len k rfl rfl hx ?_; conv => whnf) | (refine VCall.intro (c1 _) ?_; conv => whnf))
                trace_state
                refine LEnd.intro (k + 1) (by omega) (by omega) ?_
                conv => whnf
                refine Retell.turn ⟨[0], 1, [], []⟩ (TurnOk.mk' _ _ [] [] (OutOk.lift _) rfl (by decide) (by repeat' (first | exact BTos.nil | refine BTos.flat rfl rfl (by first | rfl | simp) ?_ | refine BTos.new rfl ?_ | refine BTos.dead rfl rfl ?_ | refine BTos.esE rfl rfl ?_ | refine BTos.row rfl rfl rfl (RowTo.snoc (RowTo.one rfl (by simp))) ?_ | refine BTos.cells rfl rfl rfl (by repeat' (first | exact VTo.undef | exact FrTo.leaf | refine FrTo.node ?_ ?_ ?_ | refine FrTo.none ?_ ?_ | exact VTo.sc (by first | rfl | (congr 1; omega) | (congr 1; simp; omega)) | exact VTos_dv _ _ | refine VTos.cons ?_ ?_ | exact VTos.nil | refine VTo.agg ?_ | refine VTo.tuple ?_ | refine VTo.func ?_ ?_ | exact VTo.fs | exact VTo.fp | exact VTo.nilptr | exact VTo.nilslice | exact VTo.nilfunc | exact VTo.ptr rfl | exact VTo.gl rfl | exact VTo.map rfl | exact VTo.yld rfl | exact VTo.fmMap rfl | exact VTo.fm | exact VTo.glNil' (by decide) rfl rfl | exact VTo.fsNil (by decide) | exact VTo.fsSl rfl rfl (by simp [flat_len encE_len]) | exact VTo.fpPtr rfl | exact VTo.fsGl rfl (by first | rfl | exact flat_len encI_len _ | exact flat_len encS_len _ | exact flat_len encP_len _ | exact flat_len encL_len _ | exact flat_len encE_len _ | (simp [flat_len encP_len]; done) | simp [flat_len encI_len, flat_len encS_len]))) ?_)) trivial trivial rfl) (by repeat' (first | exact VTo.undef | exact FrTo.leaf | refine FrTo.node ?_ ?_ ?_ | refine FrTo.none ?_ ?_ | exact VTo.sc (by first | rfl | (congr 1; omega) | (congr 1; simp; omega)) | exact VTos_dv _ _ | refine VTos.cons ?_ ?_ | exact VTos.nil | refine VTo.agg ?_ | refine VTo.tuple ?_ | refine VTo.func ?_ ?_ | exact VTo.fs | exact VTo.fp | exact VTo.nilptr | exact VTo.nilslice | exact VTo.nilfunc | exact VTo.ptr rfl | exact VTo.gl rfl | exact VTo.map rfl | exact VTo.yld rfl | exact VTo.fmMap rfl | exact VTo.fm | exact VTo.glNil' (by decide) rfl rfl | exact VTo.fsNil (by decide) | exact VTo.fsSl rfl rfl (by simp [flat_len encE_len]) | exact VTo.fpPtr rfl | exact VTo.fsGl rfl (by first | rfl | exact flat_len encI_len _ | exact flat_len encS_len _ | exact flat_len encP_len _ | exact flat_len encL_len _ | exact flat_len encE_len _ | (simp [flat_len encP_len]; done) | simp [flat_len encI_len, flat_len encS_len]))) (by first | rfl | (repeat' (first | exact MkTo.nil | refine MkTo.keep rfl ?_ | refine MkTo.drop (by decide) rfl ?_))))
            · conv => whnf
              repeat' (first | (refine VLd.intro rfl ?_; conv => whnf) | (refine VArith.i64 (by first | omega | (dsimp only; omega)) ?_; conv => whnf) | (refine VNeed.intro (by first | rfl | (simp; omega)) ?_; conv => whnf) | (refine VMem.store rfl rfl rfl rfl ?_; conv => whnf) | (refine VSame.intro rfl ?_; conv => whnf) | (refine VDraw.go [] (by kernel_rfl) (by kernel_rfl) ?_; conv => whnf) | (refine VIte.dec (fun _ => ?_) (fun _ => ?_) <;> conv => whnf) | (refine VIte.ndec (fun _ => ?_) (fun _ => ?_) <;> conv => whnf) | (refine VIte.beq (fun _ => ?_) (fun _ => ?_) <;> conv => whnf) | (refine VIte.bne (fun _ => ?_) (fun _ => ?_) <;> conv => whnf) | (refine VIte.intro (fun _ => ?_) (fun _ => ?_) <;> conv => whnf) | (refine VCall.intro (w1 _) ?_; conv => whnf) | (refine VCall.intro (w2 _) ?_; conv => whnf) | (refine VCall.intro (w3 _) ?_; conv => whnf) | (refine VCall.intro (eA _) ?_; conv => whnf))
              refine VCode.lp (fun k : Nat => [(7, .fp (encF f)), (8, ints t), (11, .fp (encF f3)), (13, ints v), (224, ints A), (225, I A.length), (226, I k)]) (fun _ => []) (fun k => k ≤ A.length) (fun k => A.length - k) 0 (Nat.zero_le _) ?_ ?_
              · conv => whnf
                refine Retell.turn ⟨[], 1, [], []⟩ (TurnOk.mk' _ _ [] [] (OutOk.lift _) rfl (by decide) (by repeat' (first | exact BTos.nil | refine BTos.flat rfl rfl (by first | rfl | simp) ?_ | refine BTos.new rfl ?_ | refine BTos.dead rfl rfl ?_ | refine BTos.esE rfl rfl ?_ | refine BTos.row rfl rfl rfl (RowTo.snoc (RowTo.one rfl (by simp))) ?_ | refine BTos.cells rfl rfl rfl (by repeat' (first | exact VTo.undef | exact FrTo.leaf | refine FrTo.node ?_ ?_ ?_ | refine FrTo.none ?_ ?_ | exact VTo.sc (by first | rfl | (congr 1; omega) | (congr 1; simp; omega)) | exact VTos_dv _ _ | refine VTos.cons ?_ ?_ | exact VTos.nil | refine VTo.agg ?_ | refine VTo.tuple ?_ | refine VTo.func ?_ ?_ | exact VTo.fs | exact VTo.fp | exact VTo.nilptr | exact VTo.nilslice | exact VTo.nilfunc | exact VTo.ptr rfl | exact VTo.gl rfl | exact VTo.map rfl | exact VTo.yld rfl | exact VTo.fmMap rfl | exact VTo.fm | exact VTo.glNil' (by decide) rfl rfl | exact VTo.fsNil (by decide) | exact VTo.fsSl rfl rfl (by simp [flat_len encE_len]) | exact VTo.fpPtr rfl | exact VTo.fsGl rfl (by first | rfl | exact flat_len encI_len _ | exact flat_len encS_len _ | exact flat_len encP_len _ | exact flat_len encL_len _ | exact flat_len encE_len _ | (simp [flat_len encP_len]; done) | simp [flat_len encI_len, flat_len encS_len]))) ?_)) trivial trivial rfl) (by repeat' (first | exact VTo.undef | exact FrTo.leaf | refine FrTo.node ?_ ?_ ?_ | refine FrTo.none ?_ ?_ | exact VTo.sc (by first | rfl | (congr 1; omega) | (congr 1; simp; omega)) | exact VTos_dv _ _ | refine VTos.cons ?_ ?_ | exact VTos.nil | refine VTo.agg ?_ | refine VTo.tuple ?_ | refine VTo.func ?_ ?_ | exact VTo.fs | exact VTo.fp | exact VTo.nilptr | exact VTo.nilslice | exact VTo.nilfunc | exact VTo.ptr rfl | exact VTo.gl rfl | exact VTo.map rfl | exact VTo.yld rfl | exact VTo.fmMap rfl | exact VTo.fm | exact VTo.glNil' (by decide) rfl rfl | exact VTo.fsNil (by decide) | exact VTo.fsSl rfl rfl (by simp [flat_len encE_len]) | exact VTo.fpPtr rfl | exact VTo.fsGl rfl (by first | rfl | exact flat_len encI_len _ | exact flat_len encS_len _ | exact flat_len encP_len _ | exact flat_len encL_len _ | exact flat_len encE_len _ | (simp [flat_len encP_len]; done) | simp [flat_len encI_len, flat_len encS_len]))) (by first | rfl | (repeat' (first | exact MkTo.nil | refine MkTo.keep rfl ?_ | refine MkTo.drop (by decide) rfl ?_)))
              · intro k hk
                conv => whnf
                refine VIte.dec (fun h3 => ?_) (fun h3 => ?_)
                · have hx : A[k]? = some A[k] := List.getElem?_eq_getElem (by omega)
                  obtain ⟨q, g1, g2, g3⟩ := hAm _ (List.getElem_mem (by omega : k < A.length))
                  rw [g2] at hx
                  have s1 : Shw f t q := { o with lt := g1, ar := g3 }
                  have s2 : Shw f3 v q := { o3 with lt := by omega, ar := by rw [af q g1]; exact g3 }
                  have y1 := fun h => vc_Fewest_ok f t q h (by omega) ht s1
                  have y2 := fun h => vc_Fewest_ok f3 v q h (by omega) hv s2
                  rw [fw q g1] at y2
                  generalize few f t q = F at y1 y2
                  conv => whnf
                  repeat' (first | (refine VLd.intro rfl ?_; conv => whnf) | (refine VArith.i64 (by first | omega | (dsimp only; omega)) ?_; conv => whnf) | (refine VNeed.intro (by first | rfl | (simp; omega)) ?_; conv => whnf) | (refine VMem.store rfl rfl rfl rfl ?_; conv => whnf) | (refine VSame.intro rfl ?_; conv => whnf) | (refine VDraw.go [] (by kernel_rfl) (by kernel_rfl) ?_; conv => whnf) | (refine VIte.dec (fun _ => ?_) (fun _ => ?_) <;> conv => whnf) | (refine VIte.ndec (fun _ => ?_) (fun _ => ?_) <;> conv => whnf) | (refine VIte.beq (fun _ => ?_) (fun _ => ?_) <;> conv => whnf) | (refine VIte.bne (fun _ => ?_) (fun _ => ?_) <;> conv => whnf) | (refine VIte.intro (fun _ => ?_) (fun _ => ?_) <;> conv => whnf) | (refine VAny.ix encI_len k rfl rfl hx ?_; conv => whnf) | (refine VCall.intro (y1 _) ?_; conv => whnf) | (refine VCall.intro (y2 _) ?_; conv => whnf))
                  all_goals try (rename_i hz; exact absurd rfl hz)
                  refine LEnd.intro (k + 1) (by omega) (by omega) ?_
                  conv => whnf
                  refine Retell.turn ⟨[], 0, [], []⟩ (TurnOk.mk' _ _ [] [] (OutOk.lift _) rfl (by decide) (by repeat' (first | exact BTos.nil | refine BTos.flat rfl rfl (by first | rfl | simp) ?_ | refine BTos.new rfl ?_ | refine BTos.dead rfl rfl ?_ | refine BTos.esE rfl rfl ?_ | refine BTos.row rfl rfl rfl (RowTo.snoc (RowTo.one rfl (by simp))) ?_ | refine BTos.cells rfl rfl rfl (by repeat' (first | exact VTo.undef | exact FrTo.leaf | refine FrTo.node ?_ ?_ ?_ | refine FrTo.none ?_ ?_ | exact VTo.sc (by first | rfl | (congr 1; omega) | (congr 1; simp; omega)) | exact VTos_dv _ _ | refine VTos.cons ?_ ?_ | exact VTos.nil | refine VTo.agg ?_ | refine VTo.tuple ?_ | refine VTo.func ?_ ?_ | exact VTo.fs | exact VTo.fp | exact VTo.nilptr | exact VTo.nilslice | exact VTo.nilfunc | exact VTo.ptr rfl | exact VTo.gl rfl | exact VTo.map rfl | exact VTo.yld rfl | exact VTo.fmMap rfl | exact VTo.fm | exact VTo.glNil' (by decide) rfl rfl | exact VTo.fsNil (by decide) | exact VTo.fsSl rfl rfl (by simp [flat_len encE_len]) | exact VTo.fpPtr rfl | exact VTo.fsGl rfl (by first | rfl | exact flat_len encI_len _ | exact flat_len encS_len _ | exact flat_len encP_len _ | exact flat_len encL_len _ | exact flat_len encE_len _ | (simp [flat_len encP_len]; done) | simp [flat_len encI_len, flat_len encS_len]))) ?_)) trivial trivial rfl) (by repeat' (first | exact VTo.undef | exact FrTo.leaf | refine FrTo.node ?_ ?_ ?_ | refine FrTo.none ?_ ?_ | exact VTo.sc (by first | rfl | (congr 1; omega) | (congr 1; simp; omega)) | exact VTos_dv _ _ | refine VTos.cons ?_ ?_ | exact VTos.nil | refine VTo.agg ?_ | refine VTo.tuple ?_ | refine VTo.func ?_ ?_ | exact VTo.fs | exact VTo.fp | exact VTo.nilptr | exact VTo.nilslice | exact VTo.nilfunc | exact VTo.ptr rfl | exact VTo.gl rfl | exact VTo.map rfl | exact VTo.yld rfl | exact VTo.fmMap rfl | exact VTo.fm | exact VTo.glNil' (by decide) rfl rfl | exact VTo.fsNil (by decide) | exact VTo.fsSl rfl rfl (by simp [flat_len encE_len]) | exact VTo.fpPtr rfl | exact VTo.fsGl rfl (by first | rfl | exact flat_len encI_len _ | exact flat_len encS_len _ | exact flat_len encP_len _ | exact flat_len encL_len _ | exact flat_len encE_len _ | (simp [flat_len encP_len]; done) | simp [flat_len encI_len, flat_len encS_len]))) (by first | rfl | (repeat' (first | exact MkTo.nil | refine MkTo.keep rfl ?_ | refine MkTo.drop (by decide) rfl ?_)))
                · conv => whnf
                  repeat' (first | (refine VLd.intro rfl ?_; conv => whnf) | (refine VArith.i64 (by first | omega | (dsimp only; omega)) ?_; conv => whnf) | (refine VNeed.intro (by first | rfl | (simp; omega)) ?_; conv => whnf) | (refine VMem.store rfl rfl rfl rfl ?_; conv => whnf) | (refine VSame.intro rfl ?_; conv => whnf) | (refine VDraw.go [] (by kernel_rfl) (by kernel_rfl) ?_; conv => whnf) | (refine VIte.dec (fun _ => ?_) (fun _ => ?_) <;> conv => whnf) | (refine VIte.ndec (fun _ => ?_) (fun _ => ?_) <;> conv => whnf) | (refine VIte.beq (fun _ => ?_) (fun _ => ?_) <;> conv => whnf) | (refine VIte.bne (fun _ => ?_) (fun _ => ?_) <;> conv => whnf) | (refine VIte.intro (fun _ => ?_) (fun _ => ?_) <;> conv => whnf) | (refine VCall.intro (vc_awake _) ?_; conv => whnf))
                  exact VOut.same rfl
end Go.Proofs.Ytolnajnlcdacmaa

open Go.Vm
namespace Go.Proofs.Ytolnajnlcdacmaa
open Go.ChangeShapes Go.WideShapes Go.ChangeAt Go.RowKit

def d8b (n : {n : Int // 0 ≤ n ∧ n ≤ 255}) : D := .s (.int .u8 n.1)
theorem openV_u8 {P : Program} {t : TypeId} (ht : P.underlying t = some (.int .u8)) : OpenV P t d8b := by
  intro W base H en v dd ps hok ⟨fuel, ht2⟩
  obtain ⟨n, h2, _, hw⟩ := DataW.trod_int ht ht2
  have hb : 0 ≤ n ∧ n ≤ 255 := by
    have hw2 : (decide ((0 : Int) ≤ n) && decide (n ≤ (255 : Int))) = true := hw
    simpa using hw2
  unfold Value.okWide at hok
  rw [ht] at hok
  simp only [Cell.okWide, ht] at hok
  refine ⟨⟨n, hb⟩, ?_⟩
  cases v <;> simp [Cell.ok, ht] at hok
  simp [Value.cells] at h2
  simp only [d8b, DR, S.val]
  rw [h2.1, h2.2]
theorem open8b : OpenV Try.prog 5 d8b := openV_u8 Try.underlying5
theorem open4p : OpenAll Try.prog Try.f4.params.toList (fun x : List Int × List Int × {n : Int // 0 ≤ n ∧ n ≤ 255} × Unit => [dU x.1, dU x.2.1, d8b x.2.2.1]) := by
  rw [Try.params4]
  exact OpenAll.cons openU (OpenAll.cons openU (OpenAll.cons open8b (OpenAll.nil)))
set_option maxRecDepth 100000 in
theorem contract4 (H : Type) (enc : TypeId × Value → H) (W : World) (base : Nat) (args : Array Value) (ds gs : List (DataW H)) (before : List MemPlace)
    (hval : ∀ (j : Nat) t v, Try.f4.params[j]? = some t → args[j]? = some v → Value.okWide Try.prog W .any base t v)
    (hW : DataW.Whole enc Try.prog Try.f4.params.toList Rows.silenceTurnedSpec.vars false W args.toList ds gs before) :
    Calls Try.prog 4 args W fun e W' => ∃ v, e = .returned v ∧ Rows.silenceTurnedSpec.post enc Try.prog Try.f4 false true false false W args v W' := by
  refine contract_of_vc open4p (fun g => vc_SilenceTurned g.1 g.2.1 g.2.2.1.1 g.2.2.1.2 Hp.bare) laidOut ?_ (tb := 4) (by kernel_rfl) Try.underlying4 rfl ?_ hval hW
  · rw [Try.params4]
    intro t ht
    simp only [List.mem_cons, List.not_mem_nil, or_false] at ht
    rcases ht with rfl | rfl | rfl
    all_goals exact ⟨by kernel_rfl, of_decide_eq_true (by kernel_rfl)⟩
  · intro H dd hl
    rw [Try.params4] at hl
    match dd, hl with
    | [d0, d1, d2], _ => rfl
set_option maxRecDepth 100000 in
theorem lifted4 (os : Os) (started : os.Started) (H : Type) (enc : TypeId × Value → H) :
    ReturnsInHanded {} Try.checked os 4 .any (Rows.silenceTurnedSpec.pre6 enc Try.prog Try.f4 Rows.silenceTurnedRow.domain false) (Rows.silenceTurnedSpec.post enc Try.prog Try.f4 false true false false) := by
  refine returnsInHanded_of_change (C := Try.checked) ownKn started (by kernel_rfl) Try.func4
    (ChangeSpec.witness6 (enc := enc) (C := Try.checked) false ⟨#[], #[.slice none 0 0, .slice none 0 0, .int .u8 0], []⟩ 8 (by kernel_rfl) (by kernel_rfl) (by kernel_rfl) (by kernel_rfl)) ?_
  intro W base args ds gs before hval hW _ _
  exact contract4 H enc W base args ds gs before hval hW
theorem silenceTurned_said : Rows.SilenceTurnedSaid :=
  OpenClaim.holds_of_wide 4 Try.f4 rfl rfl rfl rfl rfl rfl rfl ⟨rfl, rfl, rfl, rfl, rfl⟩ rfl rfl rfl rfl rfl (by kernel_rfl) Try.func4 (by kernel_rfl)
    (of_decide_eq_true (by kernel_rfl)) (by unfold Func.isWrapper; first | (rw [if_pos (by decide +kernel)]; kernel_rfl) | (rw [if_neg (by decide +kernel)]; exact ⟨rfl, rfl⟩))
    (fun os started H enc _ => lifted4 os started H enc)
end Go.Proofs.Ytolnajnlcdacmaa

