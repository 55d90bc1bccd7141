/- Part 5 of the proof that who values a stretch more gains no less. No condition. -/
import Derived.Test.YtmpjpjfkbmlmfaaVa24
set_option linter.unusedVariables false
set_option linter.unusedSimpArgs false
open Go.Vm
namespace Go.Proofs.Ytmpjpjfkbmlmfaa
set_option maxRecDepth 20000
set_option maxHeartbeats 4000000

/-! A land that is made of numbers. -/
abbrev DS := Nat × Int
def vIt (bs : List Int) (x : DS × List Int) : Nat → DS × List Int
  | 0 => x
  | k + 1 => ((dNx bs (vIt bs x k).1 2).2, (vIt bs x k).2 ++ [(dNx bs (vIt bs x k).1 2).1])
structure VOk (N k : Nat) (x : DS × List Int) : Prop where
  n : x.1.1 ≤ N + k
  len : x.2.length = k
  side : ∀ v ∈ x.2, v = 0 ∨ v = 1
theorem vIt_ok {bs : List Int} {x : DS × List Int} {N : Nat} (h : VOk N 0 x) : ∀ k, VOk N k (vIt bs x k)
  | 0 => h
  | k + 1 => by
    obtain ⟨h1, h2, h3⟩ := vIt_ok (bs := bs) h k
    obtain ⟨a1, a2, a3⟩ := dNx_bd bs (vIt bs x k).1 2
    rw [vIt]
    refine ⟨by dsimp only; omega, by simp [h2], fun v hv => ?_⟩
    rcases List.mem_append.1 hv with hv | hv
    · exact h3 v hv
    · rw [List.mem_singleton] at hv; omega
def sStr (vs : List Int) (ow no so v : Int) : Str := if v < vs.length then ⟨vAt vs v, no, so, v⟩ else ⟨ow, no, so, -1⟩
def sD1 (bs : List Int) (d : DS) : Int × DS := dNx bs d 2
def sD2 (bs : List Int) (d : DS) : Int × DS := dNx bs (sD1 bs d).2 (59 - 1 + 1)
def sD3 (bs : List Int) (d : DS) : Int × DS := dNx bs (sD2 bs d).2 (59 - 1 + 1)
def sD4 (bs : List Int) (d : DS) : Int × DS := dNx bs (sD3 bs d).2 20
def sIt (bs vs : List Int) (x : DS × List Str) : Nat → DS × List Str
  | 0 => x
  | k + 1 => ((sD4 bs (sIt bs vs x k).1).2, (sIt bs vs x k).2 ++ [sStr vs (sD1 bs (sIt bs vs x k).1).1 (1 + (sD2 bs (sIt bs vs x k).1).1) (1 + (sD3 bs (sIt bs vs x k).1).1) (sD4 bs (sIt bs vs x k).1).1])
structure SOk2 (vs : List Int) (s : Str) : Prop where
  ok : Sok vs s
  no : s.no ≤ 59
  so : s.so ≤ 59
structure SSk (vs : List Int) (N k : Nat) (x : DS × List Str) : Prop where
  n : x.1.1 ≤ N + 4 * k
  len : x.2.length = k
  ss : ∀ s ∈ x.2, SOk2 vs s
theorem sIt_ok {bs vs : List Int} {x : DS × List Str} {N : Nat} (hv : ∀ v ∈ vs, v = 0 ∨ v = 1) (h : SSk vs N 0 x) : ∀ k, SSk vs N k (sIt bs vs x k)
  | 0 => h
  | k + 1 => by
    obtain ⟨h1, h2, h3⟩ := sIt_ok (bs := bs) hv h k
    obtain ⟨a1, a2, a3⟩ := dNx_bd bs (sIt bs vs x k).1 2
    obtain ⟨b1, b2, b3⟩ := dNx_bd bs (sD1 bs (sIt bs vs x k).1).2 (59 - 1 + 1)
    obtain ⟨c1, c2, c3⟩ := dNx_bd bs (sD2 bs (sIt bs vs x k).1).2 (59 - 1 + 1)
    obtain ⟨d1, d2, d3⟩ := dNx_bd bs (sD3 bs (sIt bs vs x k).1).2 20
    have e1 : dNx bs (sIt bs vs x k).1 2 = sD1 bs (sIt bs vs x k).1 := rfl
    have e2 : dNx bs (sD1 bs (sIt bs vs x k).1).2 (59 - 1 + 1) = sD2 bs (sIt bs vs x k).1 := rfl
    have e3 : dNx bs (sD2 bs (sIt bs vs x k).1).2 (59 - 1 + 1) = sD3 bs (sIt bs vs x k).1 := rfl
    have e4 : dNx bs (sD3 bs (sIt bs vs x k).1).2 20 = sD4 bs (sIt bs vs x k).1 := rfl
    rw [e1] at a1 a2 a3
    rw [e2] at b1 b2 b3
    rw [e3] at c1 c2 c3
    rw [e4] at d1 d2 d3
    rw [sIt]
    generalize sD4 bs (sIt bs vs x k).1 = y4 at *
    generalize sD3 bs (sIt bs vs x k).1 = y3 at *
    generalize sD2 bs (sIt bs vs x k).1 = y2 at *
    generalize sD1 bs (sIt bs vs x k).1 = y1 at *
    refine ⟨by dsimp only; omega, by simp [h2], fun s hs => ?_⟩
    rcases List.mem_append.1 hs with hs | hs
    · exact h3 s hs
    · rw [List.mem_singleton] at hs
      subst hs
      unfold sStr
      split
      · rename_i hlt
        refine ⟨⟨?_, by dsimp only; omega, by dsimp only; omega, .inr ⟨d1, hlt, rfl⟩⟩, by dsimp only; omega, by dsimp only; omega⟩
        show vAt vs y4.1 = 0 ∨ vAt vs y4.1 = 1
        refine hv _ ?_
        unfold vAt
        rw [List.getD_eq_getElem?_getD, List.getElem?_eq_getElem (by omega), Option.getD_some]
        exact List.getElem_mem _
      · exact ⟨⟨by dsimp only; omega, by dsimp only; omega, by dsimp only; omega, .inl rfl⟩, by dsimp only; omega, by dsimp only; omega⟩
def mdV (bs : List Int) (d : DS) : DS × List Int := vIt bs ((dNx bs d 5).2, []) (dNx bs d 5).1.toNat
def mdN (bs : List Int) (d : DS) (most : Int) : Int × DS := dNx bs (mdV bs d).1 (most - 1 + 1)
def mdS (bs : List Int) (d : DS) (most : Int) : DS × List Str := sIt bs (mdV bs d).2 ((mdN bs d most).2, []) (1 + (mdN bs d most).1).toNat
def mdL (bs : List Int) (d : DS) (most : Int) : Lnd := ⟨(mdS bs d most).2, (mdV bs d).2⟩
structure MdOk (most : Int) (l : Lnd) : Prop where
  ok : Ok l
  n : (l.ss.length : Int) ≤ most
  v : l.vs.length ≤ 4
  ss : ∀ s ∈ l.ss, s.no ≤ 59 ∧ s.so ≤ 59
theorem mdV_ok (bs : List Int) (d : DS) : (mdV bs d).1.1 ≤ d.1 + 5 ∧ (mdV bs d).2.length = (dNx bs d 5).1.toNat ∧ (mdV bs d).2.length ≤ 4 ∧ ∀ v ∈ (mdV bs d).2, v = 0 ∨ v = 1 := by
  obtain ⟨a1, a2, a3⟩ := dNx_bd bs d 5
  unfold mdV
  have := vIt_ok (bs := bs) (x := ((dNx bs d 5).2, [])) (N := d.1 + 1) ⟨by dsimp only; omega, rfl, by simp⟩ (dNx bs d 5).1.toNat
  obtain ⟨h1, h2, h3⟩ := this
  exact ⟨by omega, h2, by omega, h3⟩
theorem mdL_ok (bs : List Int) (d : DS) {most : Int} (hm : 1 ≤ most ∧ most ≤ 16) : MdOk most (mdL bs d most) ∧ (mdS bs d most).1.1 ≤ d.1 + 100 := by
  obtain ⟨q1, q2, q3, q4⟩ := mdV_ok bs d
  obtain ⟨a1, a2, a3⟩ := dNx_bd bs (mdV bs d).1 (most - 1 + 1)
  have e : dNx bs (mdV bs d).1 (most - 1 + 1) = mdN bs d most := rfl
  rw [e] at a1 a2 a3
  have := sIt_ok (bs := bs) (vs := (mdV bs d).2) (x := ((mdN bs d most).2, [])) (N := (mdN bs d most).2.1) q4 ⟨by dsimp only; omega, rfl, by simp⟩ (1 + (mdN bs d most).1).toNat
  obtain ⟨h1, h2, h3⟩ := this
  have e2 : sIt bs (mdV bs d).2 ((mdN bs d most).2, []) (1 + (mdN bs d most).1).toNat = mdS bs d most := rfl
  rw [e2] at h1 h2 h3
  refine ⟨⟨⟨?_, ?_, q4, fun s hs => (h3 s hs).ok⟩, ?_, q3, fun s hs => ⟨(h3 s hs).no, (h3 s hs).so⟩⟩, ?_⟩
  · show 1 ≤ (mdS bs d most).2.length ∧ (mdS bs d most).2.length ≤ 16
    omega
  · show (mdV bs d).2.length ≤ 8
    omega
  · show ((mdS bs d most).2.length : Int) ≤ most
    omega
  · omega
theorem vc_Made (bs : List Int) (d : DS) (most : Int) (i : Vm.Id) (h : Hp) (hN : d.1 ≤ 1000000) (hm : 1 ≤ most ∧ most ≤ 16) (hd : h.get i = some (deckB bs d)) :
    VC Try.prog 24 [.ptr i 0, I most] h (vL (mdL bs d most)) (h.set i (deckB bs (mdS bs d most).1)) := by
  have e1 := dNx_bd bs d 5
  have c1 := fun (h2 : Hp) hh => vc_draw bs d 5 (.out i) h2 (by omega) hh
  obtain ⟨q1, q2, q3, q4⟩ := mdV_ok bs d
  have eL : mdL bs d most = ⟨(mdS bs d most).2, (mdV bs d).2⟩ := rfl
  rw [eL]
  unfold mdS mdN
  have hv0 : mdV bs d = vIt bs ((dNx bs d 5).2, []) (dNx bs d 5).1.toNat := rfl
  obtain ⟨x1, hx1⟩ : ∃ x, x = dNx bs d 5 := ⟨_, rfl⟩
  rw [← hx1] at e1 c1 q2 hv0
  have hVk := fun k => vIt_ok (bs := bs) (x := (x1.2, [])) (N := d.1 + 1) ⟨by dsimp only; omega, rfl, by simp⟩ k
  obtain ⟨n, hn⟩ : ∃ n : Nat, x1.1 = n := ⟨x1.1.toNat, by omega⟩
  rw [hn] at c1 q2 hv0
  rw [Int.toNat_natCast] at q2 hv0
  obtain ⟨W, hW⟩ : ∃ W, W = mdV bs d := ⟨_, rfl⟩
  rw [← hW] at q1 q2 q3 q4 hv0 ⊢
  have e2 := dNx_bd bs W.1 (most - 1 + 1)
  have c2 := fun (h2 : Hp) hh => vc_between bs W.1 1 most (.out i) h2 (by omega) (by omega) (by omega) hh
  obtain ⟨x2, hx2⟩ : ∃ x, x = dNx bs W.1 (most - 1 + 1) := ⟨_, rfl⟩
  rw [← hx2] at e2 c2 ⊢
  have hSk := fun k => sIt_ok (bs := bs) (vs := W.2) (x := (x2.2, [])) (N := x2.2.1) q4 ⟨by dsimp only; omega, rfl, by simp⟩ k
  obtain ⟨m, hm2⟩ : ∃ m : Nat, 1 + x2.1 = m := ⟨(1 + x2.1).toNat, by omega⟩
  rw [hm2] at c2 ⊢
  rw [Int.toNat_natCast]
  obtain ⟨R, hR⟩ : ∃ R, R = sIt bs W.2 (x2.2, []) m := ⟨_, rfl⟩
  rw [← hR]
  clear hx1 hx2 hW eL
  refine VC.body Try.func24 rfl Try.ntmps24 Try.call24 (h.grows_set _ _) rfl ?_
  conv => whnf
  repeat' (first | (refine VLd.intro rfl ?_; conv => whnf) | (refine VArith.i64 (by first | omega | (dsimp only; omega)) ?_; conv => whnf) | (refine VNeed.intro (by first | rfl | assumption | (simp; omega) | (simp; done)) ?_; conv => whnf) | (refine VMem.store rfl rfl rfl rfl ?_; conv => whnf) | (refine VSame.intro rfl ?_; conv => whnf) | (refine VDraw.go [] (by kernel_rfl) (by kernel_rfl) ?_; conv => whnf) | (refine VIte.dec (fun _ => ?_) (fun _ => ?_) <;> conv => whnf) | (refine VIte.ndec (fun _ => ?_) (fun _ => ?_) <;> conv => whnf) | (refine VIte.beq (fun _ => ?_) (fun _ => ?_) <;> conv => whnf) | (refine VIte.bne (fun _ => ?_) (fun _ => ?_) <;> conv => whnf) | (refine VIte.intro (fun _ => ?_) (fun _ => ?_) <;> conv => whnf) | (refine VCall.intro (c1 _ (get_out hd _)) ?_; conv => whnf))
  refine VCode.lpo (fun y : Nat × (DS × List Int) => [(0, .ptr (.out i) 0), (1, I most), (4, .ptr (.loc 0) 0), (5, .ptr (.loc 1) 0), (9, I n), (10, I y.1)]) (fun y => outW h.lift i (deckB bs y.2.1))
    (fun y => [.flat true [.nilslice, .nilslice], .cells true [.nilslice, .gl (.loc 2) 1 y.2.2.length], .flat true (y.2.2.flatMap encI)]) (fun y => y.1 ≤ n ∧ y.2 = vIt bs (x1.2, []) y.1) (fun y => n - y.1) (0, (x1.2, [])) ⟨Nat.zero_le _, rfl⟩ ?_ ?_ ?_
  · funext j; by_cases e : j = i <;> simp [outW, e, Hp.set]
  · conv => whnf
    refine Retell.turn ⟨[0,1,2], 2, [], []⟩ (TurnOk.mk' _ _ [] [] (OutOk.outW (OutOk.lift _) rfl) rfl (by decide) (by repeat' (first | exact BTos.nil | refine BTos.flat rfl rfl (by first | rfl | simp) ?_ | refine BTos.new rfl ?_ | refine BTos.dead rfl rfl ?_ | refine BTos.esE rfl rfl ?_ | refine BTos.row rfl rfl rfl (RowTo.snoc (RowTo.one rfl (by simp))) ?_ | refine BTos.cells rfl rfl rfl (by repeat' (first | exact VTo.undef | exact FrTo.leaf | refine FrTo.node ?_ ?_ ?_ | refine FrTo.none ?_ ?_ | exact VTo.sc (by first | rfl | (congr 1; omega) | (congr 1; simp; omega)) | exact VTos_dv _ _ | refine VTos.cons ?_ ?_ | exact VTos.nil | refine VTo.agg ?_ | refine VTo.tuple ?_ | refine VTo.func ?_ ?_ | exact VTo.fs | exact VTo.fp | exact VTo.nilptr | exact VTo.nilslice | exact VTo.nilfunc | exact VTo.ptr rfl | exact VTo.gl rfl | exact VTo.map rfl | exact VTo.yld rfl | exact VTo.fmMap rfl | exact VTo.fm | exact VTo.glNil' (by decide) rfl rfl | exact VTo.fsNil (by decide) | exact VTo.fsSl rfl rfl (by simp [flat_len encE_len]) | exact VTo.fpPtr rfl | exact VTo.fsGl rfl (by first | rfl | exact flat_len encI_len _ | exact flat_len encT_len _ | exact flat_len encS_len _ | exact flat_len encP_len _ | exact flat_len encL_len _ | exact flat_len encE_len _ | (simp [flat_len encP_len]; done) | simp [flat_len encI_len, flat_len encS_len]))) ?_)) trivial trivial rfl) (by repeat' (first | exact VTo.undef | exact FrTo.leaf | refine FrTo.node ?_ ?_ ?_ | refine FrTo.none ?_ ?_ | exact VTo.sc (by first | rfl | (congr 1; omega) | (congr 1; simp; omega)) | exact VTos_dv _ _ | refine VTos.cons ?_ ?_ | exact VTos.nil | refine VTo.agg ?_ | refine VTo.tuple ?_ | refine VTo.func ?_ ?_ | exact VTo.fs | exact VTo.fp | exact VTo.nilptr | exact VTo.nilslice | exact VTo.nilfunc | exact VTo.ptr rfl | exact VTo.gl rfl | exact VTo.map rfl | exact VTo.yld rfl | exact VTo.fmMap rfl | exact VTo.fm | exact VTo.glNil' (by decide) rfl rfl | exact VTo.fsNil (by decide) | exact VTo.fsSl rfl rfl (by simp [flat_len encE_len]) | exact VTo.fpPtr rfl | exact VTo.fsGl rfl (by first | rfl | exact flat_len encI_len _ | exact flat_len encT_len _ | exact flat_len encS_len _ | exact flat_len encP_len _ | exact flat_len encL_len _ | exact flat_len encE_len _ | (simp [flat_len encP_len]; done) | simp [flat_len encI_len, flat_len encS_len]))) (by first | rfl | (repeat' (first | exact MkTo.nil | refine MkTo.keep rfl ?_ | refine MkTo.drop (by decide) rfl ?_)))
  · rintro ⟨k, w⟩ ⟨hk, hw⟩
    dsimp only at hk hw
    have hwk := hVk k
    have hnx : vIt bs (x1.2, []) (k + 1) = ((dNx bs w.1 2).2, w.2 ++ [(dNx bs w.1 2).1]) := by rw [vIt, hw]
    rw [← hw] at hwk
    obtain ⟨n1, n2, n3⟩ := hwk
    have y1 := dNx_bd bs w.1 2
    have g1 := fun (h2 : Hp) hh => vc_draw bs w.1 2 (.out i) h2 (by omega) hh
    generalize dNx bs w.1 2 = z at y1 g1 hnx
    conv => whnf
    refine VIte.dec (fun h3 => ?_) (fun h3 => ?_)
    · conv => whnf
      refine VDraw.go [(1, 3)] (by kernel_rfl) (by kernel_rfl) ?_
      conv => whnf
      repeat' (first | (refine VLd.intro rfl ?_; conv => whnf) | (refine VArith.i64 (by first | omega | (dsimp only; omega)) ?_; conv => whnf) | (refine VNeed.intro (by first | rfl | assumption | (simp; omega) | (simp; done)) ?_; conv => whnf) | (refine VMem.store rfl rfl rfl rfl ?_; conv => whnf) | (refine VSame.intro rfl ?_; conv => whnf) | (refine VIte.dec (fun _ => ?_) (fun _ => ?_) <;> conv => whnf) | (refine VIte.ndec (fun _ => ?_) (fun _ => ?_) <;> conv => whnf) | (refine VIte.beq (fun _ => ?_) (fun _ => ?_) <;> conv => whnf) | (refine VIte.bne (fun _ => ?_) (fun _ => ?_) <;> conv => whnf) | (refine VIte.intro (fun _ => ?_) (fun _ => ?_) <;> conv => whnf) | (refine VCall.intro (g1 _ (outW_get _ _ _ _)) ?_; conv => whnf))
      refine VMem.app1 (l := w.2) z.1 encI_len rfl rfl rfl rfl rfl (by omega) ?_
      conv => whnf
      repeat' (first | (refine VLd.intro rfl ?_; conv => whnf) | (refine VArith.i64 (by first | omega | (dsimp only; omega)) ?_; conv => whnf) | (refine VNeed.intro (by first | rfl | assumption | (simp; omega) | (simp; done)) ?_; conv => whnf) | (refine VMem.store rfl rfl rfl rfl ?_; conv => whnf) | (refine VSame.intro rfl ?_; conv => whnf) | (refine VIte.dec (fun _ => ?_) (fun _ => ?_) <;> conv => whnf) | (refine VIte.ndec (fun _ => ?_) (fun _ => ?_) <;> conv => whnf) | (refine VIte.beq (fun _ => ?_) (fun _ => ?_) <;> conv => whnf) | (refine VIte.bne (fun _ => ?_) (fun _ => ?_) <;> conv => whnf) | (refine VIte.intro (fun _ => ?_) (fun _ => ?_) <;> conv => whnf))
      refine LEndO.intro (k + 1, _) ⟨by dsimp only; omega, hnx.symm⟩ (by dsimp only; omega) ?_ ?_
      · funext j; by_cases e : j = i <;> simp [outW, e, Hp.set]
      · conv => whnf
        rw [List.length_append]
        refine Retell.turn ⟨[0,1,4], 5, [], []⟩ (TurnOk.mk' _ _ [] [] (OutOk.outW (OutOk.lift _) rfl) rfl (by decide) (by repeat' (first | exact BTos.nil | refine BTos.flat rfl rfl (by first | rfl | simp) ?_ | refine BTos.new rfl ?_ | refine BTos.dead rfl rfl ?_ | refine BTos.esE rfl rfl ?_ | refine BTos.row rfl rfl rfl (RowTo.snoc (RowTo.one rfl (by simp))) ?_ | refine BTos.cells rfl rfl rfl (by repeat' (first | exact VTo.undef | exact FrTo.leaf | refine FrTo.node ?_ ?_ ?_ | refine FrTo.none ?_ ?_ | exact VTo.sc (by first | rfl | (congr 1; omega) | (congr 1; simp; omega)) | exact VTos_dv _ _ | refine VTos.cons ?_ ?_ | exact VTos.nil | refine VTo.agg ?_ | refine VTo.tuple ?_ | refine VTo.func ?_ ?_ | exact VTo.fs | exact VTo.fp | exact VTo.nilptr | exact VTo.nilslice | exact VTo.nilfunc | exact VTo.ptr rfl | exact VTo.gl rfl | exact VTo.map rfl | exact VTo.yld rfl | exact VTo.fmMap rfl | exact VTo.fm | exact VTo.glNil' (by decide) rfl rfl | exact VTo.fsNil (by decide) | exact VTo.fsSl rfl rfl (by simp [flat_len encE_len]) | exact VTo.fpPtr rfl | exact VTo.fsGl rfl (by first | rfl | exact flat_len encI_len _ | exact flat_len encT_len _ | exact flat_len encS_len _ | exact flat_len encP_len _ | exact flat_len encL_len _ | exact flat_len encE_len _ | (simp [flat_len encP_len]; done) | simp [flat_len encI_len, flat_len encS_len]))) ?_)) trivial trivial rfl) (by repeat' (first | exact VTo.undef | exact FrTo.leaf | refine FrTo.node ?_ ?_ ?_ | refine FrTo.none ?_ ?_ | exact VTo.sc (by first | rfl | (congr 1; omega) | (congr 1; simp; omega)) | exact VTos_dv _ _ | refine VTos.cons ?_ ?_ | exact VTos.nil | refine VTo.agg ?_ | refine VTo.tuple ?_ | refine VTo.func ?_ ?_ | exact VTo.fs | exact VTo.fp | exact VTo.nilptr | exact VTo.nilslice | exact VTo.nilfunc | exact VTo.ptr rfl | exact VTo.gl rfl | exact VTo.map rfl | exact VTo.yld rfl | exact VTo.fmMap rfl | exact VTo.fm | exact VTo.glNil' (by decide) rfl rfl | exact VTo.fsNil (by decide) | exact VTo.fsSl rfl rfl (by simp [flat_len encE_len]) | exact VTo.fpPtr rfl | exact VTo.fsGl rfl (by first | rfl | exact flat_len encI_len _ | exact flat_len encT_len _ | exact flat_len encS_len _ | exact flat_len encP_len _ | exact flat_len encL_len _ | exact flat_len encE_len _ | (simp [flat_len encP_len]; done) | simp [flat_len encI_len, flat_len encS_len]))) (by first | rfl | (repeat' (first | exact MkTo.nil | refine MkTo.keep rfl ?_ | refine MkTo.drop (by decide) rfl ?_)))
    · have hkn : k = n := by dsimp only at h3; omega
      subst hkn
      rw [← hv0] at hw
      subst hw
      conv => whnf
      repeat' (first | (refine VLd.intro rfl ?_; conv => whnf) | (refine VArith.i64 (by first | omega | (dsimp only; omega)) ?_; conv => whnf) | (refine VNeed.intro (by first | rfl | assumption | (simp; omega) | (simp; done)) ?_; conv => whnf) | (refine VMem.store rfl rfl rfl rfl ?_; conv => whnf) | (refine VSame.intro rfl ?_; conv => whnf) | (refine VIte.dec (fun _ => ?_) (fun _ => ?_) <;> conv => whnf) | (refine VIte.ndec (fun _ => ?_) (fun _ => ?_) <;> conv => whnf) | (refine VIte.beq (fun _ => ?_) (fun _ => ?_) <;> conv => whnf) | (refine VIte.bne (fun _ => ?_) (fun _ => ?_) <;> conv => whnf) | (refine VIte.intro (fun _ => ?_) (fun _ => ?_) <;> conv => whnf) | (refine VCall.intro (c2 _ (outW_get _ _ _ _)) ?_; conv => whnf))
      refine VCode.lpo (fun y : Nat × (DS × List Str) => [(0, .ptr (.out i) 0), (4, .ptr (.loc 0) 0), (5, .ptr (.loc 1) 0), (22, I m), (23, I y.1)]) (fun y => outW h.lift i (deckB bs y.2.1))
        (fun y => [.flat true [.nilslice, .nilslice], .cells true [.gl (.loc 2) 4 y.2.2.length, ints w.2], .flat true (y.2.2.flatMap encT)]) (fun y => y.1 ≤ m ∧ y.2 = sIt bs w.2 (x2.2, []) y.1) (fun y => m - y.1) (0, (x2.2, [])) ⟨Nat.zero_le _, rfl⟩ ?_ ?_ ?_
      · funext j; by_cases e : j = i <;> simp [outW, e, Hp.set]
      · conv => whnf
        refine Retell.turn ⟨[0,1,3], 3, [(2, w.2.flatMap encI)], []⟩ (TurnOk.mk' _ _ [(2, w.2.flatMap encI)] [] (OutOk.outW (OutOk.lift _) rfl) rfl (by decide) (by repeat' (first | exact BTos.nil | refine BTos.flat rfl rfl (by first | rfl | simp) ?_ | refine BTos.new rfl ?_ | refine BTos.dead rfl rfl ?_ | refine BTos.esE rfl rfl ?_ | refine BTos.row rfl rfl rfl (RowTo.snoc (RowTo.one rfl (by simp))) ?_ | refine BTos.cells rfl rfl rfl (by repeat' (first | exact VTo.undef | exact FrTo.leaf | refine FrTo.node ?_ ?_ ?_ | refine FrTo.none ?_ ?_ | exact VTo.sc (by first | rfl | (congr 1; omega) | (congr 1; simp; omega)) | exact VTos_dv _ _ | refine VTos.cons ?_ ?_ | exact VTos.nil | refine VTo.agg ?_ | refine VTo.tuple ?_ | refine VTo.func ?_ ?_ | exact VTo.fs | exact VTo.fp | exact VTo.nilptr | exact VTo.nilslice | exact VTo.nilfunc | exact VTo.ptr rfl | exact VTo.gl rfl | exact VTo.map rfl | exact VTo.yld rfl | exact VTo.fmMap rfl | exact VTo.fm | exact VTo.glNil' (by decide) rfl rfl | exact VTo.fsNil (by decide) | exact VTo.fsSl rfl rfl (by simp [flat_len encE_len]) | exact VTo.fpPtr rfl | exact VTo.fsGl rfl (by first | rfl | exact flat_len encI_len _ | exact flat_len encT_len _ | exact flat_len encS_len _ | exact flat_len encP_len _ | exact flat_len encL_len _ | exact flat_len encE_len _ | (simp [flat_len encP_len]; done) | simp [flat_len encI_len, flat_len encS_len]))) ?_)) (by repeat' (first | exact FzAll.nil | refine FzAll.flat rfl ?_ | refine FzAll.row rfl rfl (RowTo.one rfl (by simp)) ?_)) trivial rfl) (by repeat' (first | exact VTo.undef | exact FrTo.leaf | refine FrTo.node ?_ ?_ ?_ | refine FrTo.none ?_ ?_ | exact VTo.sc (by first | rfl | (congr 1; omega) | (congr 1; simp; omega)) | exact VTos_dv _ _ | refine VTos.cons ?_ ?_ | exact VTos.nil | refine VTo.agg ?_ | refine VTo.tuple ?_ | refine VTo.func ?_ ?_ | exact VTo.fs | exact VTo.fp | exact VTo.nilptr | exact VTo.nilslice | exact VTo.nilfunc | exact VTo.ptr rfl | exact VTo.gl rfl | exact VTo.map rfl | exact VTo.yld rfl | exact VTo.fmMap rfl | exact VTo.fm | exact VTo.glNil' (by decide) rfl rfl | exact VTo.fsNil (by decide) | exact VTo.fsSl rfl rfl (by simp [flat_len encE_len]) | exact VTo.fpPtr rfl | exact VTo.fsGl rfl (by first | rfl | exact flat_len encI_len _ | exact flat_len encT_len _ | exact flat_len encS_len _ | exact flat_len encP_len _ | exact flat_len encL_len _ | exact flat_len encE_len _ | (simp [flat_len encP_len]; done) | simp [flat_len encI_len, flat_len encS_len]))) (by first | rfl | (repeat' (first | exact MkTo.nil | refine MkTo.keep rfl ?_ | refine MkTo.drop (by decide) rfl ?_)))
      · rintro ⟨k, u⟩ ⟨hk, hu⟩
        dsimp only at hk hu
        have huk := hSk k
        have hnx : sIt bs w.2 (x2.2, []) (k + 1) = ((sD4 bs u.1).2, u.2 ++ [sStr w.2 (sD1 bs u.1).1 (1 + (sD2 bs u.1).1) (1 + (sD3 bs u.1).1) (sD4 bs u.1).1]) := by rw [sIt, hu]
        rw [← hu] at huk
        obtain ⟨n1, n2, n3⟩ := huk
        have km : k ≤ 16 := by omega
        unfold sD4 sD3 sD2 sD1 at hnx
        have y1 := dNx_bd bs u.1 2
        have g1 := fun (h2 : Hp) hh => vc_draw bs u.1 2 (.out i) h2 (by omega) hh
        generalize dNx bs u.1 2 = z1 at y1 g1 hnx
        have y2 := dNx_bd bs z1.2 (59 - 1 + 1)
        have g2 := fun (h2 : Hp) hh => vc_between bs z1.2 1 59 (.out i) h2 (by omega) (by omega) (by omega) hh
        generalize dNx bs z1.2 (59 - 1 + 1) = z2 at y2 g2 hnx
        have y3 := dNx_bd bs z2.2 (59 - 1 + 1)
        have g3 := fun (h2 : Hp) hh => vc_between bs z2.2 1 59 (.out i) h2 (by omega) (by omega) (by omega) hh
        generalize dNx bs z2.2 (59 - 1 + 1) = z3 at y3 g3 hnx
        have y4 := dNx_bd bs z3.2 20
        have g4 := fun (h2 : Hp) hh => vc_draw bs z3.2 20 (.out i) h2 (by omega) hh
        generalize dNx bs z3.2 20 = z4 at y4 g4 hnx
        conv => whnf
        refine VIte.dec (fun h3 => ?_) (fun h3 => ?_)
        · conv => whnf
          repeat' (first | (refine VLd.intro rfl ?_; conv => whnf) | (refine VArith.i64 (by first | omega | (dsimp only; omega)) ?_; conv => whnf) | (refine VNeed.intro (by first | rfl | assumption | (simp; omega) | (simp; done)) ?_; conv => whnf) | (refine VMem.store rfl rfl rfl rfl ?_; conv => whnf) | (refine VSame.intro rfl ?_; conv => whnf) | (refine VIte.dec (fun _ => ?_) (fun _ => ?_) <;> conv => whnf) | (refine VIte.ndec (fun _ => ?_) (fun _ => ?_) <;> conv => whnf) | (refine VIte.beq (fun _ => ?_) (fun _ => ?_) <;> conv => whnf) | (refine VIte.bne (fun _ => ?_) (fun _ => ?_) <;> conv => whnf) | (refine VIte.intro (fun _ => ?_) (fun _ => ?_) <;> conv => whnf) | (refine VCall.intro (g1 _ (outW_get _ _ _ _)) ?_; conv => whnf) | (refine VCall.intro (g2 _ (outW_get _ _ _ _)) ?_; conv => whnf) | (refine VCall.intro (g3 _ (outW_get _ _ _ _)) ?_; conv => whnf) | (refine VCall.intro (g4 _ (outW_get _ _ _ _)) ?_; conv => whnf))
          · rename_i h5
            obtain ⟨v, hv⟩ : ∃ v : Nat, z4.1 = v := ⟨z4.1.toNat, by omega⟩
            rw [hv] at hnx h5
            have hvl : v < w.2.length := by omega
            have hva : w.2[v]? = some (w.2[v]) := List.getElem?_eq_getElem hvl
            have hst : sStr w.2 z1.1 (1 + z2.1) (1 + z3.1) (v : Int) = ⟨w.2[v], 1 + z2.1, 1 + z3.1, v⟩ := by
              unfold sStr vAt
              rw [if_pos (by omega), Int.toNat_natCast, List.getD_eq_getElem?_getD, hva, Option.getD_some]
            rw [hst] at hnx
            generalize w.2[v] = e at hva hnx
            simp only [hv]
            refine VDraw.go [(2, 7), (5, 7)] (by kernel_rfl) (by kernel_rfl) ?_
            conv => whnf
            repeat' (first | (refine VLd.intro rfl ?_; conv => whnf) | (refine VArith.i64 (by first | omega | (dsimp only; omega)) ?_; conv => whnf) | (refine VNeed.intro (by first | rfl | assumption | (simp; omega) | (simp; done)) ?_; conv => whnf) | (refine VMem.store rfl rfl rfl rfl ?_; conv => whnf) | (refine VSame.intro rfl ?_; conv => whnf) | (refine VIte.dec (fun _ => ?_) (fun _ => ?_) <;> conv => whnf) | (refine VIte.ndec (fun _ => ?_) (fun _ => ?_) <;> conv => whnf) | (refine VIte.beq (fun _ => ?_) (fun _ => ?_) <;> conv => whnf) | (refine VIte.bne (fun _ => ?_) (fun _ => ?_) <;> conv => whnf) | (refine VIte.intro (fun _ => ?_) (fun _ => ?_) <;> conv => whnf) | (refine VAny.ix encI_len v rfl rfl hva ?_; conv => whnf))
            refine VMem.app1 (l := u.2) (⟨e, 1 + z2.1, 1 + z3.1, v⟩ : Str) encT_len rfl rfl rfl rfl rfl (by omega) ?_
            conv => whnf
            repeat' (first | (refine VLd.intro rfl ?_; conv => whnf) | (refine VArith.i64 (by first | omega | (dsimp only; omega)) ?_; conv => whnf) | (refine VNeed.intro (by first | rfl | assumption | (simp; omega) | (simp; done)) ?_; conv => whnf) | (refine VMem.store rfl rfl rfl rfl ?_; conv => whnf) | (refine VSame.intro rfl ?_; conv => whnf) | (refine VIte.dec (fun _ => ?_) (fun _ => ?_) <;> conv => whnf) | (refine VIte.ndec (fun _ => ?_) (fun _ => ?_) <;> conv => whnf) | (refine VIte.beq (fun _ => ?_) (fun _ => ?_) <;> conv => whnf) | (refine VIte.bne (fun _ => ?_) (fun _ => ?_) <;> conv => whnf) | (refine VIte.intro (fun _ => ?_) (fun _ => ?_) <;> conv => whnf))
            refine LEndO.intro (k + 1, _) ⟨by dsimp only; omega, hnx.symm⟩ (by dsimp only; omega) ?_ ?_
            · funext j; by_cases e : j = i <;> simp [outW, e, Hp.set]
            · conv => whnf
              rw [List.length_append]
              refine Retell.turn ⟨[0,1,5], 6, [], []⟩ (TurnOk.mk' _ _ [] [] (OutOk.outW (OutOk.lift _) rfl) rfl (by decide) (by repeat' (first | exact BTos.nil | refine BTos.flat rfl rfl (by first | rfl | simp) ?_ | refine BTos.new rfl ?_ | refine BTos.dead rfl rfl ?_ | refine BTos.esE rfl rfl ?_ | refine BTos.row rfl rfl rfl (RowTo.snoc (RowTo.one rfl (by simp))) ?_ | refine BTos.cells rfl rfl rfl (by repeat' (first | exact VTo.undef | exact FrTo.leaf | refine FrTo.node ?_ ?_ ?_ | refine FrTo.none ?_ ?_ | exact VTo.sc (by first | rfl | (congr 1; omega) | (congr 1; simp; omega)) | exact VTos_dv _ _ | refine VTos.cons ?_ ?_ | exact VTos.nil | refine VTo.agg ?_ | refine VTo.tuple ?_ | refine VTo.func ?_ ?_ | exact VTo.fs | exact VTo.fp | exact VTo.nilptr | exact VTo.nilslice | exact VTo.nilfunc | exact VTo.ptr rfl | exact VTo.gl rfl | exact VTo.map rfl | exact VTo.yld rfl | exact VTo.fmMap rfl | exact VTo.fm | exact VTo.glNil' (by decide) rfl rfl | exact VTo.fsNil (by decide) | exact VTo.fsSl rfl rfl (by simp [flat_len encE_len]) | exact VTo.fpPtr rfl | exact VTo.fsGl rfl (by first | rfl | exact flat_len encI_len _ | exact flat_len encT_len _ | exact flat_len encS_len _ | exact flat_len encP_len _ | exact flat_len encL_len _ | exact flat_len encE_len _ | (simp [flat_len encP_len]; done) | simp [flat_len encI_len, flat_len encS_len]))) ?_)) trivial trivial rfl) (by repeat' (first | exact VTo.undef | exact FrTo.leaf | refine FrTo.node ?_ ?_ ?_ | refine FrTo.none ?_ ?_ | exact VTo.sc (by first | rfl | (congr 1; omega) | (congr 1; simp; omega)) | exact VTos_dv _ _ | refine VTos.cons ?_ ?_ | exact VTos.nil | refine VTo.agg ?_ | refine VTo.tuple ?_ | refine VTo.func ?_ ?_ | exact VTo.fs | exact VTo.fp | exact VTo.nilptr | exact VTo.nilslice | exact VTo.nilfunc | exact VTo.ptr rfl | exact VTo.gl rfl | exact VTo.map rfl | exact VTo.yld rfl | exact VTo.fmMap rfl | exact VTo.fm | exact VTo.glNil' (by decide) rfl rfl | exact VTo.fsNil (by decide) | exact VTo.fsSl rfl rfl (by simp [flat_len encE_len]) | exact VTo.fpPtr rfl | exact VTo.fsGl rfl (by first | rfl | exact flat_len encI_len _ | exact flat_len encT_len _ | exact flat_len encS_len _ | exact flat_len encP_len _ | exact flat_len encL_len _ | exact flat_len encE_len _ | (simp [flat_len encP_len]; done) | simp [flat_len encI_len, flat_len encS_len]))) (by first | rfl | (repeat' (first | exact MkTo.nil | refine MkTo.keep rfl ?_ | refine MkTo.drop (by decide) rfl ?_)))
          · rename_i h5
            have hst : sStr w.2 z1.1 (1 + z2.1) (1 + z3.1) z4.1 = ⟨z1.1, 1 + z2.1, 1 + z3.1, -1⟩ := by
              unfold sStr; rw [if_neg h5]
            rw [hst] at hnx
            refine VMem.app1 (l := u.2) (⟨z1.1, 1 + z2.1, 1 + z3.1, -1⟩ : Str) encT_len rfl rfl rfl rfl rfl (by omega) ?_
            conv => whnf
            repeat' (first | (refine VLd.intro rfl ?_; conv => whnf) | (refine VArith.i64 (by first | omega | (dsimp only; omega)) ?_; conv => whnf) | (refine VNeed.intro (by first | rfl | assumption | (simp; omega) | (simp; done)) ?_; conv => whnf) | (refine VMem.store rfl rfl rfl rfl ?_; conv => whnf) | (refine VSame.intro rfl ?_; conv => whnf) | (refine VIte.dec (fun _ => ?_) (fun _ => ?_) <;> conv => whnf) | (refine VIte.ndec (fun _ => ?_) (fun _ => ?_) <;> conv => whnf) | (refine VIte.beq (fun _ => ?_) (fun _ => ?_) <;> conv => whnf) | (refine VIte.bne (fun _ => ?_) (fun _ => ?_) <;> conv => whnf) | (refine VIte.intro (fun _ => ?_) (fun _ => ?_) <;> conv => whnf))
            refine LEndO.intro (k + 1, _) ⟨by dsimp only; omega, hnx.symm⟩ (by dsimp only; omega) ?_ ?_
            · funext j; by_cases e : j = i <;> simp [outW, e, Hp.set]
            · conv => whnf
              rw [List.length_append]
              refine Retell.turn ⟨[0,1,5], 6, [], []⟩ (TurnOk.mk' _ _ [] [] (OutOk.outW (OutOk.lift _) rfl) rfl (by decide) (by repeat' (first | exact BTos.nil | refine BTos.flat rfl rfl (by first | rfl | simp) ?_ | refine BTos.new rfl ?_ | refine BTos.dead rfl rfl ?_ | refine BTos.esE rfl rfl ?_ | refine BTos.row rfl rfl rfl (RowTo.snoc (RowTo.one rfl (by simp))) ?_ | refine BTos.cells rfl rfl rfl (by repeat' (first | exact VTo.undef | exact FrTo.leaf | refine FrTo.node ?_ ?_ ?_ | refine FrTo.none ?_ ?_ | exact VTo.sc (by first | rfl | (congr 1; omega) | (congr 1; simp; omega)) | exact VTos_dv _ _ | refine VTos.cons ?_ ?_ | exact VTos.nil | refine VTo.agg ?_ | refine VTo.tuple ?_ | refine VTo.func ?_ ?_ | exact VTo.fs | exact VTo.fp | exact VTo.nilptr | exact VTo.nilslice | exact VTo.nilfunc | exact VTo.ptr rfl | exact VTo.gl rfl | exact VTo.map rfl | exact VTo.yld rfl | exact VTo.fmMap rfl | exact VTo.fm | exact VTo.glNil' (by decide) rfl rfl | exact VTo.fsNil (by decide) | exact VTo.fsSl rfl rfl (by simp [flat_len encE_len]) | exact VTo.fpPtr rfl | exact VTo.fsGl rfl (by first | rfl | exact flat_len encI_len _ | exact flat_len encT_len _ | exact flat_len encS_len _ | exact flat_len encP_len _ | exact flat_len encL_len _ | exact flat_len encE_len _ | (simp [flat_len encP_len]; done) | simp [flat_len encI_len, flat_len encS_len]))) ?_)) trivial trivial rfl) (by repeat' (first | exact VTo.undef | exact FrTo.leaf | refine FrTo.node ?_ ?_ ?_ | refine FrTo.none ?_ ?_ | exact VTo.sc (by first | rfl | (congr 1; omega) | (congr 1; simp; omega)) | exact VTos_dv _ _ | refine VTos.cons ?_ ?_ | exact VTos.nil | refine VTo.agg ?_ | refine VTo.tuple ?_ | refine VTo.func ?_ ?_ | exact VTo.fs | exact VTo.fp | exact VTo.nilptr | exact VTo.nilslice | exact VTo.nilfunc | exact VTo.ptr rfl | exact VTo.gl rfl | exact VTo.map rfl | exact VTo.yld rfl | exact VTo.fmMap rfl | exact VTo.fm | exact VTo.glNil' (by decide) rfl rfl | exact VTo.fsNil (by decide) | exact VTo.fsSl rfl rfl (by simp [flat_len encE_len]) | exact VTo.fpPtr rfl | exact VTo.fsGl rfl (by first | rfl | exact flat_len encI_len _ | exact flat_len encT_len _ | exact flat_len encS_len _ | exact flat_len encP_len _ | exact flat_len encL_len _ | exact flat_len encE_len _ | (simp [flat_len encP_len]; done) | simp [flat_len encI_len, flat_len encS_len]))) (by first | rfl | (repeat' (first | exact MkTo.nil | refine MkTo.keep rfl ?_ | refine MkTo.drop (by decide) rfl ?_)))
        · have hkm : k = m := by dsimp only at h3; omega
          subst hkm
          rw [← hR] at hu
          subst hu
          conv => whnf
          repeat' (first | (refine VLd.intro rfl ?_; conv => whnf) | (refine VArith.i64 (by first | omega | (dsimp only; omega)) ?_; conv => whnf) | (refine VNeed.intro (by first | rfl | assumption | (simp; omega) | (simp; done)) ?_; conv => whnf) | (refine VMem.store rfl rfl rfl rfl ?_; conv => whnf) | (refine VSame.intro rfl ?_; conv => whnf) | (refine VIte.dec (fun _ => ?_) (fun _ => ?_) <;> conv => whnf) | (refine VIte.ndec (fun _ => ?_) (fun _ => ?_) <;> conv => whnf) | (refine VIte.beq (fun _ => ?_) (fun _ => ?_) <;> conv => whnf) | (refine VIte.bne (fun _ => ?_) (fun _ => ?_) <;> conv => whnf) | (refine VIte.intro (fun _ => ?_) (fun _ => ?_) <;> conv => whnf))
          refine VOut.turn ⟨[], 3, [(2, u.2.flatMap encT)], []⟩ (loc' := []) (r1' := vL ⟨u.2, w.2⟩) (TurnOk.mk' [] 3 [(2, u.2.flatMap encT)] [] (OutOk.outW (OutOk.lift _) rfl) rfl List.nodup_nil BTos.nil (FzAll.flat rfl FzAll.nil) trivial rfl) (by repeat' (first | exact VTo.undef | exact FrTo.leaf | refine FrTo.node ?_ ?_ ?_ | refine FrTo.none ?_ ?_ | exact VTo.sc (by first | rfl | (congr 1; omega) | (congr 1; simp; omega)) | exact VTos_dv _ _ | refine VTos.cons ?_ ?_ | exact VTos.nil | refine VTo.agg ?_ | refine VTo.tuple ?_ | refine VTo.func ?_ ?_ | exact VTo.fs | exact VTo.fp | exact VTo.nilptr | exact VTo.nilslice | exact VTo.nilfunc | exact VTo.ptr rfl | exact VTo.gl rfl | exact VTo.map rfl | exact VTo.yld rfl | exact VTo.fmMap rfl | exact VTo.fm | exact VTo.glNil' (by decide) rfl rfl | exact VTo.fsNil (by decide) | exact VTo.fsSl rfl rfl (by simp [flat_len encE_len]) | exact VTo.fpPtr rfl | exact VTo.fsGl rfl (by first | rfl | exact flat_len encI_len _ | exact flat_len encT_len _ | exact flat_len encS_len _ | exact flat_len encP_len _ | exact flat_len encL_len _ | exact flat_len encE_len _ | (simp [flat_len encP_len]; done) | simp [flat_len encI_len, flat_len encS_len]))) ?_
          exact VOut.setF (L := 0) rfl hd fun _ => rfl
end Go.Proofs.Ytmpjpjfkbmlmfaa

open Go.Vm
namespace Go.Proofs.Ytmpjpjfkbmlmfaa
set_option maxRecDepth 20000
set_option maxHeartbeats 4000000

/-! An exchange that is dealt. -/
def t1 (bs : List Int) (w : Int) (d : DS) : Int × DS := dNx bs d (w + 1)
def t2 (bs : List Int) (w : Int) (d : DS) : Int × DS := dNx bs (t1 bs w d).2 2
end Go.Proofs.Ytmpjpjfkbmlmfaa

open Go.Vm
namespace Go.Proofs.Ytmpjpjfkbmlmfaa
set_option maxRecDepth 20000
set_option maxHeartbeats 4000000

theorem mulb {a b : Int} {A B : Int} (ha : -A ≤ a ∧ a ≤ A) (hb : 0 ≤ b ∧ b ≤ B) : -(A * B) ≤ a * b ∧ a * b ≤ A * B := by
  have h0 : 0 ≤ A := by omega
  have h1 : a * b ≤ A * b := Int.mul_le_mul_of_nonneg_right ha.2 hb.1
  have h2 : -A * b ≤ a * b := Int.mul_le_mul_of_nonneg_right ha.1 hb.1
  have h3 : A * b ≤ A * B := Int.mul_le_mul_of_nonneg_left hb.2 h0
  have h4 : -A * b = -(A * b) := Int.neg_mul _ _
  omega
end Go.Proofs.Ytmpjpjfkbmlmfaa

open Go.Vm
namespace Go.Proofs.Ytmpjpjfkbmlmfaa
open Go.ChangeShapes Go.WideShapes Go.ChangeAt Go.RowKit

def dU (l : List Int) : D := .sl 1 l.length (l.flatMap encU)
theorem openU : OpenV Try.prog 50 dU := OpenV.slice Try.underlying50 (Opens.slice Try.underlying50 encU_len (by kernel_rfl) (by decide) (Opens.int Try.underlying5))
def d8b (n : {n : Int // 0 ≤ n ∧ n ≤ 255}) : D := .s (.int .u8 n.1)
theorem openV_u8 {P : Program} {t : TypeId} (ht : P.underlying t = some (.int .u8)) : OpenV P t d8b := by
  intro W base H en v dd ps hok ⟨fuel, ht2⟩
  obtain ⟨n, h2, _, hw⟩ := DataW.trod_int ht ht2
  have hb : 0 ≤ n ∧ n ≤ 255 := by
    have hw2 : (decide ((0 : Int) ≤ n) && decide (n ≤ (255 : Int))) = true := hw
    simpa using hw2
  unfold Value.okWide at hok
  rw [ht] at hok
  simp only [Cell.okWide, ht] at hok
  refine ⟨⟨n, hb⟩, ?_⟩
  cases v <;> simp [Cell.ok, ht] at hok
  simp [Value.cells] at h2
  simp only [d8b, DR, S.val]
  rw [h2.1, h2.2]
theorem open8b : OpenV Try.prog 5 d8b := openV_u8 Try.underlying5
end Go.Proofs.Ytmpjpjfkbmlmfaa

open Go.Vm
namespace Go.Proofs.Ytmpjpjfkbmlmfaa
set_option maxRecDepth 20000
set_option maxHeartbeats 1000000

/-! Lands that are changed. -/
theorem hN_sset : ∀ {ss : List Str} {ps : List Int} {k : Nat} {s : Str} {p : Int} (t : Str), ss[k]? = some s → ps[k]? = some p → hN (ss.set k t) ps = hN ss ps + (t.no - s.no) * p
  | [], _, _, _, _, _, h, _ => by simp at h
  | _ :: _, [], _, _, _, _, _, h => by simp at h
  | u :: ss, q :: ps, 0, s, p, t, h1, h2 => by
    simp at h1 h2; subst h1 h2
    rw [List.set_cons_zero, hN, hN, Int.sub_mul]; omega
  | u :: ss, q :: ps, k + 1, s, p, t, h1, h2 => by
    rw [List.set_cons_succ, hN, hN, hN_sset t (by simpa using h1) (by simpa using h2)]; omega
theorem hS_sset {w : Int} : ∀ {ss : List Str} {ps : List Int} {k : Nat} {s : Str} {p : Int} (t : Str), ss[k]? = some s → ps[k]? = some p → hS w (ss.set k t) ps = hS w ss ps + (t.so - s.so) * (w - p)
  | [], _, _, _, _, _, h, _ => by simp at h
  | _ :: _, [], _, _, _, _, _, h => by simp at h
  | u :: ss, q :: ps, 0, s, p, t, h1, h2 => by
    simp at h1 h2; subst h1 h2
    rw [List.set_cons_zero, hS, hS, Int.sub_mul]; omega
  | u :: ss, q :: ps, k + 1, s, p, t, h1, h2 => by
    rw [List.set_cons_succ, hS, hS, hS_sset t (by simpa using h1) (by simpa using h2)]; omega
theorem nowP_set {l : Lnd} {k : Nat} {s t : Str} (hs : l.ss[k]? = some s) (ho : t.ow = s.ow) {vs : List Int} : nowP ⟨l.ss.set k t, vs⟩ = nowP l := by
  unfold nowP
  show (l.ss.set k t).map _ = _
  apply List.ext_getElem?
  intro i
  rw [List.getElem?_map, List.getElem?_map, List.getElem?_set]
  split
  · rename_i e
    subst e
    split
    · rw [hs]; simp [ho]
    · rename_i h; exact absurd (List.getElem?_eq_some_iff.1 hs).1 h
  · rfl
/-- Somebody else's stretch is worth more. -/
def dearS (s : Str) (m : Int) : Str := if s.ow = 0 then ⟨s.ow, s.no, s.so + m, s.we⟩ else ⟨s.ow, s.no + m, s.so, s.we⟩
def dearL (l : Lnd) (k : Nat) (s : Str) (m : Int) : Lnd := ⟨l.ss.set k (dearS s m), l.vs⟩
theorem dear_ok {l : Lnd} (o : Ok l) (h59 : ∀ s ∈ l.ss, s.no ≤ 59 ∧ s.so ≤ 59) {k : Nat} {s : Str} (hs : l.ss[k]? = some s) {m : Int} (hm : 0 ≤ m ∧ m ≤ 255) : Ok (dearL l k s m) := by
  refine ⟨?_, o.v, o.side, fun t ht => ?_⟩
  · show 1 ≤ (l.ss.set k _).length ∧ (l.ss.set k _).length ≤ 16
    rw [List.length_set]; exact o.n
  · rcases List.mem_or_eq_of_mem_set ht with ht | rfl
    · exact o.ss t ht
    · have os := o.ss s (List.mem_of_getElem? hs)
      have b := h59 s (List.mem_of_getElem? hs)
      have := os.no; have := os.so
      unfold dearS
      split
      · exact ⟨os.ow, os.no, by dsimp only; omega, os.we⟩
      · exact ⟨os.ow, by dsimp only; omega, os.so, os.we⟩
theorem dearS_ow (s : Str) (m : Int) : (dearS s m).ow = s.ow ∧ (dearS s m).we = s.we := by unfold dearS; split <;> exact ⟨rfl, rfl⟩
theorem dear_alw {l : Lnd} {k : Nat} {s : Str} (hs : l.ss[k]? = some s) {m : Int} {x : Exc} (h : Alw l x) : Alw (dearL l k s m) x := by
  refine ⟨⟨h.ok.w, ?_, h.ok.ps⟩, fun i u p hu hp => ?_⟩
  · show x.ps.length = (l.ss.set k _).length
    rw [List.length_set]; exact h.ok.len
  · have hu : (l.ss.set k (dearS s m))[i]? = some u := hu
    have hk := (List.getElem?_eq_some_iff.1 hs).1
    by_cases e : k = i
    · subst e
      rw [List.getElem?_set_self hk] at hu
      cases hu
      have := h.al k s p hs hp
      obtain ⟨e1, e2⟩ := dearS_ow s m
      unfold isFree at *
      rw [e1, e2]; exact this
    · rw [List.getElem?_set_ne e] at hu
      exact h.al i u p hu hp
theorem dear_gn {l : Lnd} (o : Ok l) {k : Nat} {s : Str} (hs : l.ss[k]? = some s) {m : Int} (hm : 0 ≤ m) {x : Exc} (h : Alw l x) : gnN l x ≤ gnN (dearL l k s m) x ∧ gnS l x ≤ gnS (dearL l k s m) x := by
  have hk := (List.getElem?_eq_some_iff.1 hs).1
  have hp : x.ps[k]? = some (x.ps[k]'(by have := h.ok.len; omega)) := List.getElem?_eq_getElem _
  have hq : (nowP l)[k]? = some (1 - s.ow) := by simp [nowP, hs]
  have bp := h.ok.ps _ (List.mem_of_getElem? hp)
  generalize x.ps[k]'(by have := h.ok.len; omega) = p at hp bp
  have e1 := hN_sset (dearS s m) hs hp
  have e2 := hS_sset (w := x.w) (dearS s m) hs hp
  have e3 := hN_sset (dearS s m) hs hq
  have e4 := hS_sset (w := 1) (dearS s m) hs hq
  have en : nowP (dearL l k s m) = nowP l := nowP_set hs (dearS_ow s m).1
  have f1 : hasN (dearL l k s m) x = hN (l.ss.set k (dearS s m)) x.ps := rfl
  have f2 : hasS (dearL l k s m) x = hS x.w (l.ss.set k (dearS s m)) x.ps := rfl
  have f3 : hasN (dearL l k s m) (nowX (dearL l k s m)) = hN (l.ss.set k (dearS s m)) (nowP (dearL l k s m)) := rfl
  have f4 : hasS (dearL l k s m) (nowX (dearL l k s m)) = hS 1 (l.ss.set k (dearS s m)) (nowP (dearL l k s m)) := rfl
  have g1 : hasN l x = hN l.ss x.ps := rfl
  have g2 : hasS l x = hS x.w l.ss x.ps := rfl
  have g3 : hasN l (nowX l) = hN l.ss (nowP l) := rfl
  have g4 : hasS l (nowX l) = hS 1 l.ss (nowP l) := rfl
  unfold gnN gnS
  rw [f1, f2, f3, f4, en, e1, e2, e3, e4, ← g1, ← g2, ← g3, ← g4]
  generalize hasN l x = A at *
  generalize hasS l x = B at *
  generalize hasN l (nowX l) = C at *
  generalize hasS l (nowX l) = D at *
  have os := (o.ss s (List.mem_of_getElem? hs)).ow
  unfold dearS
  rcases os with h0 | h0
  · rw [h0, if_pos rfl]
    dsimp only
    have x1 : (s.no - s.no) * p = 0 := by rw [Int.sub_self, Int.zero_mul]
    have x2 : (s.so + m - s.so) * (x.w - p) = m * (x.w - p) := by congr 1; omega
    have x3 : (s.no - s.no) * (1 - 0) = 0 := by rw [Int.sub_self, Int.zero_mul]
    have x4 : (s.so + m - s.so) * (1 - (1 - 0)) = 0 := by simp
    have x5 : 0 ≤ m * (x.w - p) := Int.mul_nonneg hm (by omega)
    rw [x1, x2, x3, x4, Int.add_zero, Int.add_zero, Int.add_zero]
    omega
  · rw [h0, if_neg (by decide)]
    dsimp only
    have x1 : (s.no + m - s.no) * p = m * p := by congr 1; omega
    have x2 : (s.so - s.so) * (x.w - p) = 0 := by rw [Int.sub_self, Int.zero_mul]
    have x3 : (s.no + m - s.no) * (1 - 1) = 0 := by simp
    have x4 : (s.so - s.so) * (1 - (1 - 1)) = 0 := by rw [Int.sub_self, Int.zero_mul]
    have x5 : 0 ≤ m * p := Int.mul_nonneg hm (by omega)
    rw [x1, x2, x3, x4, Int.add_zero, Int.add_zero, Int.add_zero]
    omega
theorem dear_ge {l : Lnd} (o : Ok l) {k : Nat} {s : Str} (hs : l.ss[k]? = some s) {m : Int} (hm : 0 ≤ m) (o' : Ok (dearL l k s m)) : gnN l (evX l) * (evX (dearL l k s m)).w ≤ gnN (dearL l k s m) (evX (dearL l k s m)) * (evX l).w := by
  have E := ev_spec o
  have E' := ev_spec o'
  obtain ⟨a, b, ha, hb, P⟩ := E.prc
  obtain ⟨a', b', ha', hb', P'⟩ := E'.prc
  have h1 := not_both P' (dear_alw hs (m := m) P.alw) ha'.1 hb'.1
  obtain ⟨g1, g2⟩ := dear_gn o hs hm P.alw
  have e := E.eq
  rw [← E'.eq] at h1
  have w' := P'.ok.w
  have m1 := Int.mul_le_mul_of_nonneg_right g1 (show 0 ≤ (evX (dearL l k s m)).w by omega)
  have m2 := Int.mul_le_mul_of_nonneg_right g2 (show 0 ≤ (evX (dearL l k s m)).w by omega)
  rw [← e] at m2
  omega
/-- A stretch is bound. -/
def tieS (s : Str) (v : Int) : Str := ⟨s.ow, s.no, s.so, v⟩
def tieL (l : Lnd) (k : Nat) (s : Str) : Lnd := ⟨l.ss.set k (tieS s l.vs.length), l.vs ++ [s.ow]⟩
theorem tie_ok {l : Lnd} (o : Ok l) (hv : l.vs.length < 8) {k : Nat} {s : Str} (hs : l.ss[k]? = some s) : Ok (tieL l k s) := by
  have os := o.ss s (List.mem_of_getElem? hs)
  refine ⟨?_, ?_, fun x hx => ?_, fun t ht => ?_⟩
  · show 1 ≤ (l.ss.set k _).length ∧ (l.ss.set k _).length ≤ 16
    rw [List.length_set]; exact o.n
  · show (l.vs ++ [s.ow]).length ≤ 8
    simp; omega
  · rcases List.mem_append.1 hx with hx | hx
    · exact o.side x hx
    · rw [List.mem_singleton] at hx; subst hx; exact os.ow
  · have key : ∀ v : Int, 0 ≤ v → v < l.vs.length → vAt (l.vs ++ [s.ow]) v = vAt l.vs v := by
      intro v h0 h1
      unfold vAt
      rw [List.getD_eq_getElem?_getD, List.getD_eq_getElem?_getD, List.getElem?_append_left (by omega)]
    have hlen : (l.vs ++ [s.ow]).length = l.vs.length + 1 := by simp
    show Sok (l.vs ++ [s.ow]) t
    rcases List.mem_or_eq_of_mem_set ht with ht | rfl
    · have ot := o.ss t ht
      refine ⟨ot.ow, ot.no, ot.so, ?_⟩
      rcases ot.we with h | ⟨h1, h2, h3⟩
      · exact .inl h
      · exact .inr ⟨h1, by omega, by rw [key _ h1 h2]; exact h3⟩
    · refine ⟨os.ow, os.no, os.so, .inr ⟨?_, ?_, ?_⟩⟩
      · show (0 : Int) ≤ l.vs.length; omega
      · show (l.vs.length : Int) < _; omega
      · show vAt (l.vs ++ [s.ow]) (l.vs.length : Int) = s.ow
        unfold vAt
        rw [Int.toNat_natCast, List.getD_eq_getElem?_getD, List.getElem?_append_right (Nat.le_refl _), Nat.sub_self]; rfl
theorem tie_alw {l : Lnd} {k : Nat} {s : Str} (hs : l.ss[k]? = some s) (hf : isFree s = true) {x : Exc} (h : Alw (tieL l k s) x) : Alw l x := by
  refine ⟨⟨h.ok.w, ?_, h.ok.ps⟩, fun i u p hu hp => ?_⟩
  · have e : x.ps.length = (l.ss.set k (tieS s l.vs.length)).length := h.ok.len
    rw [List.length_set] at e; exact e
  · by_cases e : k = i
    · subst e
      rw [hs] at hu; cases hu
      exact .inl hf
    · refine h.al i u p ?_ hp
      show (l.ss.set k _)[i]? = _
      rw [List.getElem?_set_ne e]; exact hu
theorem tie_gn {l : Lnd} {k : Nat} {s : Str} (hs : l.ss[k]? = some s) {x : Exc} (h : XOk (tieL l k s) x) : gnN (tieL l k s) x = gnN l x ∧ gnS (tieL l k s) x = gnS l x := by
  have hk := (List.getElem?_eq_some_iff.1 hs).1
  have hlen : x.ps.length = l.ss.length := by
    have e : x.ps.length = (l.ss.set k (tieS s l.vs.length)).length := h.len
    rw [List.length_set] at e; exact e
  have hp : x.ps[k]? = some (x.ps[k]'(by omega)) := List.getElem?_eq_getElem _
  have hq : (nowP l)[k]? = some (1 - s.ow) := by simp [nowP, hs]
  have e1 := hN_sset (tieS s l.vs.length) hs hp
  have e2 := hS_sset (w := x.w) (tieS s l.vs.length) hs hp
  have e3 := hN_sset (tieS s l.vs.length) hs hq
  have e4 := hS_sset (w := 1) (tieS s l.vs.length) hs hq
  have en : nowP (tieL l k s) = nowP l := nowP_set (t := tieS s l.vs.length) hs rfl
  have t1 : (tieS s l.vs.length).no - s.no = 0 := Int.sub_self _
  have t2 : (tieS s l.vs.length).so - s.so = 0 := Int.sub_self _
  rw [t1, Int.zero_mul, Int.add_zero] at e1 e3
  rw [t2, Int.zero_mul, Int.add_zero] at e2 e4
  have f1 : hasN (tieL l k s) x = hN (l.ss.set k (tieS s l.vs.length)) x.ps := rfl
  have f2 : hasS (tieL l k s) x = hS x.w (l.ss.set k (tieS s l.vs.length)) x.ps := rfl
  have f3 : hasN (tieL l k s) (nowX (tieL l k s)) = hN (l.ss.set k (tieS s l.vs.length)) (nowP (tieL l k s)) := rfl
  have f4 : hasS (tieL l k s) (nowX (tieL l k s)) = hS 1 (l.ss.set k (tieS s l.vs.length)) (nowP (tieL l k s)) := rfl
  have g1 : hasN l x = hN l.ss x.ps := rfl
  have g2 : hasS l x = hS x.w l.ss x.ps := rfl
  have g3 : hasN l (nowX l) = hN l.ss (nowP l) := rfl
  have g4 : hasS l (nowX l) = hS 1 l.ss (nowP l) := rfl
  unfold gnN gnS
  rw [f1, f2, f3, f4, en, e1, e2, e3, e4, ← g1, ← g2, ← g3, ← g4]
  exact ⟨rfl, rfl⟩
theorem tie_le {l : Lnd} (o : Ok l) {k : Nat} {s : Str} (hs : l.ss[k]? = some s) (hf : isFree s = true) (o' : Ok (tieL l k s)) : gnN (tieL l k s) (evX (tieL l k s)) * (evX l).w ≤ gnN l (evX l) * (evX (tieL l k s)).w := by
  have E := ev_spec o
  have E' := ev_spec o'
  obtain ⟨a, b, ha, hb, P⟩ := E.prc
  obtain ⟨a', b', ha', hb', P'⟩ := E'.prc
  have h1 := not_both P (tie_alw hs hf P'.alw) ha.1 hb.1
  obtain ⟨g1, g2⟩ := tie_gn hs P'.ok
  rw [← g1, ← g2, ← E'.eq, ← E.eq] at h1
  omega
/-- All is worth so many times as much. -/
def sclS (c : Int) (s : Str) : Str := ⟨s.ow, s.no * c, s.so * c, s.we⟩
def sclL (c : Int) (l : Lnd) : Lnd := ⟨l.ss.map (sclS c), l.vs⟩
theorem hN_scl (c : Int) : ∀ (ss : List Str) (ps : List Int), hN (ss.map (sclS c)) ps = c * hN ss ps
  | [], ps => by cases ps <;> simp [hN]
  | s :: ss, [] => by simp [hN]
  | s :: ss, p :: ps => by
    rw [List.map_cons, hN, hN, hN_scl c ss ps, Int.mul_add]
    congr 1
    show s.no * c * p = _
    rw [Int.mul_comm s.no c, Int.mul_assoc]
theorem hS_scl (c w : Int) : ∀ (ss : List Str) (ps : List Int), hS w (ss.map (sclS c)) ps = c * hS w ss ps
  | [], ps => by cases ps <;> simp [hS]
  | s :: ss, [] => by simp [hS]
  | s :: ss, p :: ps => by
    rw [List.map_cons, hS, hS, hS_scl c w ss ps, Int.mul_add]
    congr 1
    show s.so * c * (w - p) = _
    rw [Int.mul_comm s.so c, Int.mul_assoc]
theorem sAt_scl (c : Int) (l : Lnd) (i : Nat) : sAt (sclL c l) i = sclS c (sAt l i) := by
  unfold sAt sclL
  dsimp only
  rw [List.getD_eq_getElem?_getD, List.getD_eq_getElem?_getD, List.getElem?_map]
  cases l.ss[i]? with
  | none => simp [sclS]
  | some s => rfl
theorem freeQ_scl (c : Int) (l : Lnd) : freeQ (sclL c l) = freeQ l := by
  funext i
  unfold freeQ
  rw [sAt_scl]; rfl
theorem ahB_scl {c : Int} (hc : 0 < c) (l : Lnd) : ahB (sclL c l) = ahB l := by
  funext i j
  unfold ahB fst2
  rw [sAt_scl, sAt_scl]
  generalize sAt l i.toNat = s
  generalize sAt l j.toNat = t
  have e1 : (sclS c s).so * (sclS c t).no = (c * c) * (s.so * t.no) := by unfold sclS; dsimp only; grind
  have e2 : (sclS c s).no * (sclS c t).so = (c * c) * (s.no * t.so) := by unfold sclS; dsimp only; grind
  rw [e1, e2]
  have hcc : 0 < c * c := Int.mul_pos hc hc
  congr 1
  exact propext (Int.mul_lt_mul_left hcc)
theorem ord_scl {c : Int} (hc : 0 < c) (l : Lnd) : ordL (sclL c l) = ordL l := by
  unfold ordL frL
  rw [ahB_scl hc, freeQ_scl]
  show isrt _ (selS _ (l.ss.map _).length) = _
  rw [List.length_map]
theorem exL_scl (c : Int) (l : Lnd) (f : List Int) (d n w : Int) : exL (sclL c l) f d n w = exL l f d n w := by
  unfold exL
  show (List.range (l.ss.map _).length).map _ = _
  rw [List.length_map]
  refine List.map_congr_left fun i _ => ?_
  unfold prt
  rw [freeQ_scl, sAt_scl]; rfl
theorem xK_scl {c : Int} (hc : 0 < c) (l : Lnd) (k : Nat) : xK (sclL c l) k = xK l k := by
  unfold xK
  rw [ord_scl hc, exL_scl]
theorem now_scl (c : Int) (l : Lnd) : nowX (sclL c l) = nowX l := by
  unfold nowX nowP
  show (⟨1, (l.ss.map (sclS c)).map _⟩ : Exc) = _
  rw [List.map_map]; rfl
theorem gn_scl (c : Int) (l : Lnd) (x : Exc) : gnN (sclL c l) x = c * gnN l x ∧ gnS (sclL c l) x = c * gnS l x := by
  have f1 : hasN (sclL c l) x = c * hasN l x := hN_scl c l.ss x.ps
  have f2 : hasS (sclL c l) x = c * hasS l x := hS_scl c x.w l.ss x.ps
  have f3 : hasN (sclL c l) (nowX l) = c * hasN l (nowX l) := hN_scl c l.ss (nowP l)
  have f4 : hasS (sclL c l) (nowX l) = c * hasS l (nowX l) := hS_scl c 1 l.ss (nowP l)
  unfold gnN gnS
  rw [now_scl, f1, f2, f3, f4, Int.mul_sub, Int.mul_sub, Int.mul_left_comm, Int.mul_left_comm x.w c]
  exact ⟨rfl, rfl⟩
theorem oS_scl {c : Int} (hc : 0 < c) (l : Lnd) (k : Nat) : oS (sclL c l) k = sclS c (oS l k) := by
  unfold oS
  rw [ord_scl hc, sAt_scl]
theorem nK_scl {c : Int} (hc : 0 < c) (l : Lnd) (k : Nat) : nK (sclL c l) k = c * nK l k ∧ sK (sclL c l) k = c * sK l k := by
  unfold nK sK
  rw [xK_scl hc]
  exact gn_scl c l _
theorem xR_scl {c : Nat} (hc : 0 < c) (l : Lnd) (k m s : Nat) : xR (sclL c l) k (c * m) (c * s) = xR l k m s := by
  unfold xR xC cutC
  rw [ord_scl (by omega), exL_scl, Nat.gcd_mul_left, Nat.mul_div_mul_left _ _ hc, Nat.mul_div_mul_left _ _ hc]
theorem evGo_scl {c : Nat} (hc : 0 < c) (l : Lnd) : ∀ (d k : Nat), evGo (sclL c l) k d = evGo l k d
  | 0, k => by rw [evGo, evGo, xK_scl (by omega)]
  | d + 1, k => by
    obtain ⟨e1, e2⟩ := nK_scl (c := c) (by omega) l k
    have e3 : stepK (sclL c l) k = c * stepK l k := by
      unfold stepK
      rw [oS_scl (by omega)]
      show (oS l k).no * c + (oS l k).so * c = _
      rw [Int.mul_add, Int.mul_comm, Int.mul_comm (oS l k).so]
    rw [evGo, evGo, evGo_scl hc l d (k + 1), e1, e2, e3, ← Int.mul_sub]
    have hcond : ((c : Int) * (sK l k - nK l k) < c * stepK l k) = (sK l k - nK l k < stepK l k) := propext (Int.mul_lt_mul_left (by omega))
    have hm : ((c : Int) * (sK l k - nK l k)).toNat = c * (sK l k - nK l k).toNat := by
      rcases Int.le_total 0 (sK l k - nK l k) with h | h
      · obtain ⟨m, hm⟩ : ∃ m : Nat, sK l k - nK l k = m := ⟨_, (Int.toNat_of_nonneg h).symm⟩
        rw [hm, ← Int.natCast_mul, Int.toNat_natCast, Int.toNat_natCast]
      · have : (c : Int) * (sK l k - nK l k) ≤ 0 := Int.mul_nonpos_of_nonneg_of_nonpos (by omega) h
        rw [Int.toNat_of_nonpos this, Int.toNat_of_nonpos h, Nat.mul_zero]
    have hs : ((c : Int) * stepK l k).toNat = c * (stepK l k).toNat := by
      rcases Int.le_total 0 (stepK l k) with h | h
      · obtain ⟨m, hm⟩ : ∃ m : Nat, stepK l k = m := ⟨_, (Int.toNat_of_nonneg h).symm⟩
        rw [hm, ← Int.natCast_mul, Int.toNat_natCast, Int.toNat_natCast]
      · have : (c : Int) * stepK l k ≤ 0 := Int.mul_nonpos_of_nonneg_of_nonpos (by omega) h
        rw [Int.toNat_of_nonpos this, Int.toNat_of_nonpos h, Nat.mul_zero]
    rw [hm, hs, xR_scl hc]
    by_cases h : sK l k - nK l k < stepK l k
    · rw [if_pos h, if_pos (hcond ▸ h)]
    · rw [if_neg h, if_neg (hcond ▸ h)]
theorem ev_scl {c : Nat} (hc : 0 < c) (l : Lnd) : evX (sclL c l) = evX l := by
  unfold evX
  rw [ord_scl (by omega), evGo_scl hc]
theorem scl_ok {l : Lnd} (o : Ok l) (h59 : ∀ s ∈ l.ss, s.no ≤ 59 ∧ s.so ≤ 59) {c : Int} (hc : 1 ≤ c ∧ c ≤ 5) : Ok (sclL c l) := by
  refine ⟨?_, o.v, o.side, fun t ht => ?_⟩
  · show 1 ≤ (l.ss.map _).length ∧ (l.ss.map _).length ≤ 16
    rw [List.length_map]; exact o.n
  · obtain ⟨s, hs, rfl⟩ := List.mem_map.1 ht
    have os := o.ss s hs
    have b := h59 s hs
    have h1 := os.no; have h2 := os.so
    have m1 : 1 * 1 ≤ s.no * c ∧ s.no * c ≤ 59 * 5 := ⟨Int.mul_le_mul h1.1 hc.1 (by omega) (by omega), Int.mul_le_mul b.1 hc.2 (by omega) (by omega)⟩
    have m2 : 1 * 1 ≤ s.so * c ∧ s.so * c ≤ 59 * 5 := ⟨Int.mul_le_mul h2.1 hc.1 (by omega) (by omega), Int.mul_le_mul b.2 hc.2 (by omega) (by omega)⟩
    exact ⟨os.ow, by show 1 ≤ s.no * c ∧ s.no * c ≤ 1000; omega, by show 1 ≤ s.so * c ∧ s.so * c ≤ 1000; omega, os.we⟩
end Go.Proofs.Ytmpjpjfkbmlmfaa

open Go.Vm
namespace Go.Proofs.Ytmpjpjfkbmlmfaa
set_option maxRecDepth 20000
set_option maxHeartbeats 4000000

/-! Lands of one's own. -/
theorem VOut.ownG {h : Hp} {loc : List Blk} {esz n : Nat} {ds : List D} (j L : Nat) (hL : Nat.ble loc.length L = true) (hj : loc[j]? = some (.flat true ds)) : VOut h ⟨h.lift, loc⟩ (.gl (.loc j) esz n) (.gl h.fresh esz n) (h.push (.flat true ds)) := by
  refine VOut.upd [] [.flat true ds] [j] L hL (by intro p hp; cases hp) (by simp) rfl ?_ ?_ rfl
  · intro k b hk
    cases k with
    | zero => rw [List.getElem?_cons_zero, Option.some.injEq] at hk; subst hk; exact ⟨j, rfl, hj⟩
    | succ k => simp at hk
  · intro σ x hx
    have : (V.gl h.fresh esz n).ren (backR h.loc.length [j] L) = .gl (.loc j) esz n := by simp [V.ren, backR, Hp.fresh]
    rw [this]; exact hx
theorem vc_cloneTO (l : List Str) (h : Hp) (hl : l.length ≤ 4000000) : VC Try.prog 51 [strs l] h (.gl h.fresh 4 l.length) (h.push (.flat true (l.flatMap encT))) := by
  refine VC.body Try.func51 rfl Try.ntmps51 Try.call51 (h.grows_push _) rfl ?_
  conv => whnf
  repeat (first | (refine VLd.intro rfl ?_; conv => whnf) | (refine VArith.i64 (by first | omega | (dsimp only; omega)) ?_; conv => whnf) | (refine VNeed.intro (by first | rfl | assumption | (simp; omega) | (simp; done)) ?_; conv => whnf) | (refine VMem.store rfl rfl rfl rfl ?_; conv => whnf) | (refine VSame.intro (by (conv => lhs; whnf); (conv => rhs; whnf); try rfl) ?_; conv => whnf) | (refine VDraw.go [] (by kernel_rfl) (by kernel_rfl) ?_; conv => whnf))
  refine VMem.appNil encT_len rfl rfl rfl (by omega) ?_
  conv => whnf
  repeat (first | (refine VLd.intro rfl ?_; conv => whnf) | (refine VArith.i64 (by first | omega | (dsimp only; omega)) ?_; conv => whnf) | (refine VNeed.intro (by first | rfl | assumption | (simp; omega) | (simp; done)) ?_; conv => whnf) | (refine VMem.store rfl rfl rfl rfl ?_; conv => whnf) | (refine VSame.intro (by (conv => lhs; whnf); (conv => rhs; whnf); try rfl) ?_; conv => whnf) | (refine VDraw.go [] (by kernel_rfl) (by kernel_rfl) ?_; conv => whnf))
  exact VOut.ownG 0 1 rfl rfl
theorem vc_cloneIO (l : List Int) (h : Hp) (hl : l.length ≤ 4000000) : VC Try.prog 36 [ints l] h (.gl h.fresh 1 l.length) (h.push (.flat true (l.flatMap encI))) := by
  refine VC.body Try.func36 rfl Try.ntmps36 Try.call36 (h.grows_push _) rfl ?_
  conv => whnf
  repeat (first | (refine VLd.intro rfl ?_; conv => whnf) | (refine VArith.i64 (by first | omega | (dsimp only; omega)) ?_; conv => whnf) | (refine VNeed.intro (by first | rfl | assumption | (simp; omega) | (simp; done)) ?_; conv => whnf) | (refine VMem.store rfl rfl rfl rfl ?_; conv => whnf) | (refine VSame.intro (by (conv => lhs; whnf); (conv => rhs; whnf); try rfl) ?_; conv => whnf) | (refine VDraw.go [] (by kernel_rfl) (by kernel_rfl) ?_; conv => whnf))
  refine VMem.appNil encI_len rfl rfl rfl (by omega) ?_
  conv => whnf
  repeat (first | (refine VLd.intro rfl ?_; conv => whnf) | (refine VArith.i64 (by first | omega | (dsimp only; omega)) ?_; conv => whnf) | (refine VNeed.intro (by first | rfl | assumption | (simp; omega) | (simp; done)) ?_; conv => whnf) | (refine VMem.store rfl rfl rfl rfl ?_; conv => whnf) | (refine VSame.intro (by (conv => lhs; whnf); (conv => rhs; whnf); try rfl) ?_; conv => whnf) | (refine VDraw.go [] (by kernel_rfl) (by kernel_rfl) ?_; conv => whnf))
  exact VOut.ownG 0 1 rfl rfl
theorem VOut.ownAB {h : Hp} {loc : List Blk} {e1 n e2 m : Nat} {A B : List D} (j k L : Nat) (hL : Nat.ble loc.length L = true) (hjk : j ≠ k) (hj : loc[j]? = some (.flat true A)) (hk : loc[k]? = some (.flat true B)) : VOut h ⟨h.lift, loc⟩ (.agg [.gl (.loc j) e1 n, .gl (.loc k) e2 m]) (.agg [.gl h.fresh e1 n, .gl (h.push (.flat true A)).fresh e2 m]) ((h.push (.flat true A)).push (.flat true B)) := by
  have he : (h.sets []).pushes [.flat true A, .flat true B] = (h.push (.flat true A)).push (.flat true B) := by simp [Hp.sets, Hp.pushes, Hp.push]
  rw [← he]
  refine VOut.upd [] [.flat true A, .flat true B] [j, k] L hL (by intro p hp; cases hp) (by simp [hjk]) rfl ?_ ?_ rfl
  · intro u b hu
    match u, hu with
    | 0, hu => rw [List.getElem?_cons_zero, Option.some.injEq] at hu; subst hu; exact ⟨j, rfl, hj⟩
    | 1, hu => rw [List.getElem?_cons_succ, List.getElem?_cons_zero, Option.some.injEq] at hu; subst hu; exact ⟨k, rfl, hk⟩
    | u + 2, hu => simp at hu
  · intro σ x hx
    have : (V.agg [.gl h.fresh e1 n, .gl (h.push (.flat true A)).fresh e2 m]).ren (backR h.loc.length [j, k] L) = .agg [.gl (.loc j) e1 n, .gl (.loc k) e2 m] := by simp [V.ren, V.rens, backR, Hp.fresh, Hp.push]
    rw [this]; exact hx
theorem vc_CloneLandO (l : Lnd) (h : Hp) (hn : l.ss.length ≤ 4000000) (hv : l.vs.length ≤ 4000000) : VC Try.prog 13 [vL l] h (.agg [.gl h.fresh 4 l.ss.length, .gl (h.push (.flat true (l.ss.flatMap encT))).fresh 1 l.vs.length]) ((h.push (.flat true (l.ss.flatMap encT))).push (.flat true (l.vs.flatMap encI))) := by
  refine VC.body Try.func13 rfl Try.ntmps13 Try.call13 (fun i hi => h.grows_push _ i hi |> fun hh => Hp.grows_push _ _ i hh) rfl ?_
  conv => whnf
  repeat' (first | (refine VLd.intro rfl ?_; conv => whnf) | (refine VArith.i64 (by first | omega | (dsimp only; omega)) ?_; conv => whnf) | (refine VNeed.intro (by first | rfl | assumption | (simp; omega) | (simp; done)) ?_; conv => whnf) | (refine VMem.store rfl rfl rfl rfl ?_; conv => whnf) | (refine VSame.intro (by (conv => lhs; whnf); (conv => rhs; whnf); try rfl) ?_; conv => whnf) | (refine VDraw.go [(2, 4)] (by kernel_rfl) (by kernel_rfl) ?_; conv => whnf) | (refine VIte.dec (fun _ => ?_) (fun _ => ?_) <;> conv => whnf) | (refine VIte.ndec (fun _ => ?_) (fun _ => ?_) <;> conv => whnf) | (refine VIte.beq (fun _ => ?_) (fun _ => ?_) <;> conv => whnf) | (refine VIte.bne (fun _ => ?_) (fun _ => ?_) <;> conv => whnf) | (refine VIte.intro (fun _ => ?_) (fun _ => ?_) <;> conv => whnf) | (refine VCall.intro (vc_cloneTO l.ss _ hn) ?_; conv => whnf) | (refine VCall.intro (vc_cloneIO l.vs _ hv) ?_; conv => whnf))
  exact VOut.ownAB 2 3 4 rfl (by decide) rfl rfl
/-- The first ones, so many times as much. -/
def mixT (c : Int) (l : List Str) (k : Nat) : List Str := (l.take k).map (sclS c) ++ l.drop k
theorem mixT_zero (c : Int) (l : List Str) : mixT c l 0 = l := by simp [mixT]
theorem mixT_end (c : Int) (l : List Str) : mixT c l l.length = l.map (sclS c) := by simp [mixT]
theorem mixT_len (c : Int) (l : List Str) (k : Nat) (hk : k ≤ l.length) : (mixT c l k).length = l.length := by simp [mixT]; omega
theorem mixT_at (c : Int) {l : List Str} {k : Nat} {p : Str} (h : l[k]? = some p) : (mixT c l k)[k]? = some p := by
  obtain ⟨hlt, rfl⟩ := List.getElem?_eq_some_iff.1 h
  unfold mixT
  rw [List.getElem?_append_right (by rw [List.length_map, List.length_take]; exact Nat.min_le_left _ _), List.length_map, List.length_take, Nat.min_eq_left (by omega), Nat.sub_self, List.getElem?_drop]
  exact h
theorem mixT_set (c : Int) {l : List Str} {k : Nat} {p : Str} (h : l[k]? = some p) : (mixT c l k).set k (sclS c p) = mixT c l (k + 1) := by
  obtain ⟨hlt, rfl⟩ := List.getElem?_eq_some_iff.1 h
  unfold mixT
  have e : ((l.take k).map (sclS c)).length = k := by rw [List.length_map, List.length_take]; omega
  rw [List.set_append_right _ _ (by rw [e]; exact Nat.le_refl _), e, Nat.sub_self, List.drop_eq_getElem_cons hlt, List.set_cons_zero, List.take_add_one, List.getElem?_eq_getElem hlt, List.map_append]
  simp
theorem vc_BarterValued (ns : List Int) (w : Int) (hw : 0 ≤ w ∧ w ≤ 255) (m : Int) (hm : 0 ≤ m ∧ m ≤ 255) (t : Int) (ht : 0 ≤ t ∧ t ≤ 255) (h : Hp) : VC Try.prog 4 [bytes ns, .s (.int .u8 w), .s (.int .u8 m), .s (.int .u8 t)] h (B true) h := by
  obtain ⟨⟨o, k2, k3, k4⟩, k5⟩ := mdL_ok ns (0, 9) (most := 10) (by omega)
  have cM := fun (i : Vm.Id) (h : Hp) hd => vc_Made ns (0, 9) 10 i h (by decide) (by omega) hd
  generalize mdL ns (0, 9) 10 = l at o k2 k3 k4 cM
  generalize (mdS ns (0, 9) 10).1 = dE at cM
  have hn := o.n
  obtain ⟨k, hk⟩ : ∃ k : Nat, w.tmod l.ss.length = k := ⟨(w.tmod l.ss.length).toNat, by have := (tmod_bd (a := w) (k := l.ss.length) (by omega) (by omega)).1; omega⟩
  have hkl : k < l.ss.length := by have := (tmod_bd (a := w) (k := l.ss.length) (by omega) (by omega)).2; omega
  have hs : l.ss[k]? = some l.ss[k] := List.getElem?_eq_getElem hkl
  generalize l.ss[k] = s at hs
  have os := o.ss s (List.mem_of_getElem? hs)
  have b59 := k4 s (List.mem_of_getElem? hs)
  have oD := dear_ok o k4 hs hm
  obtain ⟨c, hc⟩ : ∃ c : Nat, 1 + t.tmod 5 = c := ⟨(1 + t.tmod 5).toNat, by have := (tmod_bd (a := t) (k := 5) (by omega) (by omega)).1; omega⟩
  have hc5 : 1 ≤ c ∧ c ≤ 5 := by have := tmod_bd (a := t) (k := 5) (by omega) (by omega); omega
  have oS' := scl_ok o k4 (c := (c : Int)) (by omega)
  obtain ⟨T, hT1, hT2, hTl, oT, hTle⟩ : ∃ T, (isFree s = true → T = tieL l k s) ∧ (isFree s = false → T = l) ∧ T.ss.length = l.ss.length ∧ Ok T ∧ gnN T (evX T) * (evX l).w ≤ gnN l (evX l) * (evX T).w := by
    cases hf : isFree s
    · exact ⟨l, (fun hh => by cases hh), fun _ => rfl, rfl, o, Int.le_refl _⟩
    · have ot := tie_ok o (by omega) hs
      exact ⟨tieL l k s, fun _ => rfl, (fun hh => by cases hh), List.length_set, ot, tie_le o hs hf ot⟩
  have hge := dear_ge o hs hm.1 oD
  have hsc := ev_scl (c := c) (by omega) l
  have cC := fun h => vc_CloneLandO l h (by omega) (by omega)
  have E := ev_spec o
  have ox : XOk l (evX l) := by obtain ⟨a, b, _, _, P⟩ := E.prc; exact P.ok
  have e1 := fun h => vc_Even_ok l h o
  have g1 := fun h => vc_Gains_ok l (evX l) h o ox
  have hneB : ((l.ss.length : Int) != 0) = true := by rw [bne_iff_ne]; omega
  have os1 := os.no
  have os2 := os.so
  refine VC.bodyC 3 Try.func4 rfl Try.ntmps4 Try.call4 (h.grows_refl) rfl ?_; conv => whnf
  repeat' (first | (refine VLd.intro rfl ?_; conv => whnf) | (refine VArith.i64 (by first | omega | (dsimp only; omega)) ?_; conv => whnf) | (refine VNeed.intro (by first | rfl | assumption | (simp; omega) | (simp; done)) ?_; conv => whnf) | (refine VMem.store rfl rfl rfl rfl ?_; conv => whnf) | (refine VSame.intro (by (conv => lhs; whnf); (conv => rhs; whnf); try rfl) ?_; conv => whnf) | (refine VDraw.go [] (by kernel_rfl) (by kernel_rfl) ?_; conv => whnf) | (refine VIte.dec (fun _ => ?_) (fun _ => ?_) <;> conv => whnf) | (refine VIte.ndec (fun _ => ?_) (fun _ => ?_) <;> conv => whnf) | (refine VIte.beq (fun _ => ?_) (fun _ => ?_) <;> conv => whnf) | (refine VIte.bne (fun _ => ?_) (fun _ => ?_) <;> conv => whnf) | (refine VIte.intro (fun _ => ?_) (fun _ => ?_) <;> conv => whnf) | (refine VCall.intro (vc_Of _ _) ?_; conv => whnf) | (refine VCall.intro (cM _ _ rfl) ?_; conv => whnf))
  rw [hk]
  refine VCut.at' 4 [(2, .s (.int .u8 m)), (3, .s (.int .u8 t)), (9, .fp (encN l)), (10, I k)] [] ?_ ?_
  · conv => whnf
    refine Retell.turn ⟨[], 2, [(1, encN l)], []⟩ (TurnOk.mk' _ _ [(1, encN l)] [] (OutOk.lift _) rfl (by decide) (by repeat' (first | exact BTos.nil | refine BTos.flat rfl rfl (by first | rfl | simp) ?_ | refine BTos.new rfl ?_ | refine BTos.dead rfl rfl ?_ | refine BTos.esE rfl rfl ?_ | refine BTos.row rfl rfl rfl (RowTo.snoc (RowTo.one rfl (by simp))) ?_ | refine BTos.cells rfl rfl rfl (by repeat' (first | exact VTo.undef | exact FrTo.leaf | refine FrTo.node ?_ ?_ ?_ | refine FrTo.none ?_ ?_ | exact VTo.sc (by first | rfl | (congr 1; omega) | (congr 1; simp; omega)) | exact VTos_dv _ _ | refine VTos.cons ?_ ?_ | exact VTos.nil | refine VTo.agg ?_ | refine VTo.tuple ?_ | refine VTo.func ?_ ?_ | exact VTo.fs | exact VTo.fp | exact VTo.nilptr | exact VTo.nilslice | exact VTo.nilfunc | exact VTo.ptr rfl | exact VTo.gl rfl | exact VTo.map rfl | exact VTo.yld rfl | exact VTo.fmMap rfl | exact VTo.fm | exact VTo.glNil' (by decide) rfl rfl | exact VTo.fsNil (by decide) | exact VTo.fsSl rfl rfl (by simp [flat_len encE_len]) | exact VTo.fpPtr rfl | exact VTo.fsGl rfl (by first | rfl | assumption | exact flat_len encI_len _ | exact flat_len encT_len _ | exact flat_len encS_len _ | exact flat_len encP_len _ | exact flat_len encL_len _ | exact flat_len encE_len _ | (simp [flat_len encP_len]; done) | simp [flat_len encI_len, flat_len encS_len]))) ?_)) (by repeat' (first | exact FzAll.nil | refine FzAll.flat rfl ?_ | refine FzAll.row rfl rfl (RowTo.one rfl (by simp)) ?_)) trivial rfl) (by repeat' (first | exact VTo.undef | exact FrTo.leaf | refine FrTo.node ?_ ?_ ?_ | refine FrTo.none ?_ ?_ | exact VTo.sc (by first | rfl | (congr 1; omega) | (congr 1; simp; omega)) | exact VTos_dv _ _ | refine VTos.cons ?_ ?_ | exact VTos.nil | refine VTo.agg ?_ | refine VTo.tuple ?_ | refine VTo.func ?_ ?_ | exact VTo.fs | exact VTo.fp | exact VTo.nilptr | exact VTo.nilslice | exact VTo.nilfunc | exact VTo.ptr rfl | exact VTo.gl rfl | exact VTo.map rfl | exact VTo.yld rfl | exact VTo.fmMap rfl | exact VTo.fm | exact VTo.glNil' (by decide) rfl rfl | exact VTo.fsNil (by decide) | exact VTo.fsSl rfl rfl (by simp [flat_len encE_len]) | exact VTo.fpPtr rfl | exact VTo.fsGl rfl (by first | rfl | assumption | exact flat_len encI_len _ | exact flat_len encT_len _ | exact flat_len encS_len _ | exact flat_len encP_len _ | exact flat_len encL_len _ | exact flat_len encE_len _ | (simp [flat_len encP_len]; done) | simp [flat_len encI_len, flat_len encS_len]))) (by first | rfl | (repeat' (first | exact MkTo.nil | refine MkTo.keep rfl ?_ | refine MkTo.drop (by decide) rfl ?_)))
  · have hsD : (encT s).set 2 (DI (s.so + m)) = encT ⟨s.ow, s.no, s.so + m, s.we⟩ := rfl
    have hsE : (encT s).set 1 (DI (s.no + m)) = encT ⟨s.ow, s.no + m, s.so, s.we⟩ := rfl
    have hdl : (dearL l k s m).ss = l.ss.set k (dearS s m) := rfl
    have hdn : (l.ss.set k (dearS s m)).length = l.ss.length := List.length_set
    have hdf : ((l.ss.set k (dearS s m)).flatMap encT).length = l.ss.length * 4 := by rw [flat_len encT_len, hdn]
    have hsf : ((l.ss.map (sclS c)).flatMap encT).length = l.ss.length * 4 := by rw [flat_len encT_len, List.length_map]
    have htf : ((l.ss.set k (tieS s l.vs.length)).flatMap encT).length = l.ss.length * 4 := by rw [flat_len encT_len, List.length_set]
    have hvf : ((l.vs ++ [s.ow]).flatMap encI).length = (l.vs.length + 1) * 1 := by rw [flat_len encI_len, List.length_append]; rfl
    have hst3 : (encT s).set 3 (DI l.vs.length) = encT (tieS s l.vs.length) := rfl
    have hs' : (l.ss.set k (tieS s l.vs.length))[k]? = some (tieS s l.vs.length) := List.getElem?_set_self hkl
    apply suffices_
    · intro hrest
      conv => whnf
      repeat' (first | (refine VLd.intro rfl ?_; conv => whnf) | (refine VArith.i64 (by first | omega | (dsimp only; omega)) ?_; conv => whnf) | (refine VNeed.intro (by first | rfl | assumption | (simp; omega) | (simp; done)) ?_; conv => whnf) | (refine VMem.store rfl rfl rfl rfl ?_; conv => whnf) | (refine VSame.intro (by (conv => lhs; whnf); (conv => rhs; whnf); try rfl) ?_; conv => whnf) | (refine VIte.dec (fun _ => ?_) (fun _ => ?_) <;> conv => whnf) | (refine VIte.ndec (fun _ => ?_) (fun _ => ?_) <;> conv => whnf) | (refine VIte.beq (fun _ => ?_) (fun _ => ?_) <;> conv => whnf) | (refine VIte.bne (fun _ => ?_) (fun _ => ?_) <;> conv => whnf) | (refine VIte.intro (fun _ => ?_) (fun _ => ?_) <;> conv => whnf) | (refine VCall.intro (e1 _) ?_; conv => whnf) | (refine VCall.intro (g1 _) ?_; conv => whnf))
      refine VDraw.go [(1, 2), (1, 4), (3, 4)] (by kernel_rfl) (by kernel_rfl) ?_
      conv => whnf
      repeat' (first | (refine VLd.intro rfl ?_; conv => whnf) | (refine VArith.i64 (by first | omega | (dsimp only; omega)) ?_; conv => whnf) | (refine VNeed.intro (by first | rfl | assumption | (simp; omega) | (simp; done)) ?_; conv => whnf) | (refine VMem.store rfl rfl rfl rfl ?_; conv => whnf) | (refine VSame.intro (by (conv => lhs; whnf); (conv => rhs; whnf); try rfl) ?_; conv => whnf) | (refine VIte.dec (fun _ => ?_) (fun _ => ?_) <;> conv => whnf) | (refine VIte.ndec (fun _ => ?_) (fun _ => ?_) <;> conv => whnf) | (refine VIte.beq (fun _ => ?_) (fun _ => ?_) <;> conv => whnf) | (refine VIte.bne (fun _ => ?_) (fun _ => ?_) <;> conv => whnf) | (refine VIte.intro (fun _ => ?_) (fun _ => ?_) <;> conv => whnf) | (refine VCall.intro (cC _) ?_; conv => whnf) | (refine VLd.recc encT_len k 0 rfl rfl rfl hs (by decide) rfl rfl ?_; conv => whnf) | (refine VLd.recc encT_len k 1 rfl rfl rfl hs (by decide) rfl rfl ?_; conv => whnf) | (refine VLd.recc encT_len k 2 rfl rfl rfl hs (by decide) rfl rfl ?_; conv => whnf))
      · rename_i h0
        have hd : dearS s m = ⟨s.ow, s.no, s.so + m, s.we⟩ := by unfold dearS; rw [if_pos h0]
        refine VMem.setRec encT_len k 2 ⟨s.ow, s.no, s.so + m, s.we⟩ rfl rfl rfl hs (by decide) hsD rfl ?_
        rw [← hd]
        conv => whnf
        repeat' (first | (refine VLd.intro rfl ?_; conv => whnf) | (refine VArith.i64 (by first | omega | (dsimp only; omega)) ?_; conv => whnf) | (refine VNeed.intro (by first | rfl | assumption | (simp; omega) | (simp; done)) ?_; conv => whnf) | (refine VMem.store rfl rfl rfl rfl ?_; conv => whnf) | (refine VSame.intro (by (conv => lhs; whnf); (conv => rhs; whnf); try rfl) ?_; conv => whnf) | (refine VIte.dec (fun _ => ?_) (fun _ => ?_) <;> conv => whnf) | (refine VIte.ndec (fun _ => ?_) (fun _ => ?_) <;> conv => whnf) | (refine VIte.beq (fun _ => ?_) (fun _ => ?_) <;> conv => whnf) | (refine VIte.bne (fun _ => ?_) (fun _ => ?_) <;> conv => whnf) | (refine VIte.intro (fun _ => ?_) (fun _ => ?_) <;> conv => whnf))
        refine VCut.at' (outer := h.lift) (marks := []) 2 [(3, .s (.int .u8 t)), (9, .fp (encN l)), (10, I k), (11, .fp (encX (evX l))), (12, I 0), (13, I (gnN l (evX l))), (15, I 0), (16, .fp [.sl 4 l.ss.length ((l.ss.set k (dearS s m)).flatMap encT), dints l.vs]), (17, .ptr (.loc 0) 0), (18, .ptr (.loc 1) 0)] [.cells true [.gl (.loc 2) 4 l.ss.length, .gl (.loc 3) 1 l.vs.length], .cells true [.gl (.loc 4) 4 l.ss.length, .gl (.loc 5) 1 l.vs.length], .flat true (l.ss.flatMap encT), .flat true (l.vs.flatMap encI), .flat true (l.ss.flatMap encT), .flat true (l.vs.flatMap encI)] ?_ hrest.out
        conv => whnf
        refine Retell.turn ⟨[8,9,3,4,5,6], 10, [(0, encX (evX l)), (1, (l.ss.set k (dearS s m)).flatMap encT), (2, l.vs.flatMap encI), (7, [.sl 4 l.ss.length ((l.ss.set k (dearS s m)).flatMap encT), dints l.vs])], []⟩ (TurnOk.mk' _ _ [(0, encX (evX l)), (1, (l.ss.set k (dearS s m)).flatMap encT), (2, l.vs.flatMap encI), (7, [.sl 4 l.ss.length ((l.ss.set k (dearS s m)).flatMap encT), dints l.vs])] [] (OutOk.lift _) rfl (by decide) (by repeat' (first | exact BTos.nil | refine BTos.flat rfl rfl (by first | rfl | simp) ?_ | refine BTos.new rfl ?_ | refine BTos.dead rfl rfl ?_ | refine BTos.esE rfl rfl ?_ | refine BTos.row rfl rfl rfl (RowTo.snoc (RowTo.one rfl (by simp))) ?_ | refine BTos.cells rfl rfl rfl (by repeat' (first | exact VTo.undef | exact FrTo.leaf | refine FrTo.node ?_ ?_ ?_ | refine FrTo.none ?_ ?_ | exact VTo.sc (by first | rfl | (congr 1; omega) | (congr 1; simp; omega)) | exact VTos_dv _ _ | refine VTos.cons ?_ ?_ | exact VTos.nil | refine VTo.agg ?_ | refine VTo.tuple ?_ | refine VTo.func ?_ ?_ | exact VTo.fs | exact VTo.fp | exact VTo.nilptr | exact VTo.nilslice | exact VTo.nilfunc | exact VTo.ptr rfl | exact VTo.gl rfl | exact VTo.map rfl | exact VTo.yld rfl | exact VTo.fmMap rfl | exact VTo.fm | exact VTo.glNil' (by decide) rfl rfl | exact VTo.fsNil (by decide) | exact VTo.fsSl rfl rfl (by simp [flat_len encE_len]) | exact VTo.fpPtr rfl | exact VTo.fsGl rfl (by first | rfl | assumption | exact flat_len encI_len _ | exact flat_len encT_len _ | exact flat_len encS_len _ | exact flat_len encP_len _ | exact flat_len encL_len _ | exact flat_len encE_len _ | (simp [flat_len encP_len]; done) | simp [flat_len encI_len, flat_len encS_len]))) ?_)) (by repeat' (first | exact FzAll.nil | refine FzAll.flat rfl ?_ | refine FzAll.row rfl rfl (RowTo.one rfl (by simp)) ?_ | refine FzAll.row rfl rfl (RowTo.vtos (by repeat' (first | exact VTo.undef | exact FrTo.leaf | refine FrTo.node ?_ ?_ ?_ | refine FrTo.none ?_ ?_ | exact VTo.sc (by first | rfl | (congr 1; omega) | (congr 1; simp; omega)) | exact VTos_dv _ _ | refine VTos.cons ?_ ?_ | exact VTos.nil | refine VTo.agg ?_ | refine VTo.tuple ?_ | refine VTo.func ?_ ?_ | exact VTo.fs | exact VTo.fp | exact VTo.nilptr | exact VTo.nilslice | exact VTo.nilfunc | exact VTo.ptr rfl | exact VTo.gl rfl | exact VTo.map rfl | exact VTo.yld rfl | exact VTo.fmMap rfl | exact VTo.fm | exact VTo.glNil' (by decide) rfl rfl | exact VTo.fsNil (by decide) | exact VTo.fsSl rfl rfl (by simp [flat_len encE_len]) | exact VTo.fpPtr rfl | exact VTo.fsGl rfl (by first | rfl | assumption | exact flat_len encI_len _ | exact flat_len encT_len _ | exact flat_len encS_len _ | exact flat_len encP_len _ | exact flat_len encL_len _ | exact flat_len encE_len _ | (simp [flat_len encP_len]; done) | simp [flat_len encI_len, flat_len encS_len])))) ?_)) trivial rfl) (by repeat' (first | exact VTo.undef | exact FrTo.leaf | refine FrTo.node ?_ ?_ ?_ | refine FrTo.none ?_ ?_ | exact VTo.sc (by first | rfl | (congr 1; omega) | (congr 1; simp; omega)) | exact VTos_dv _ _ | refine VTos.cons ?_ ?_ | exact VTos.nil | refine VTo.agg ?_ | refine VTo.tuple ?_ | refine VTo.func ?_ ?_ | exact VTo.fs | exact VTo.fp | exact VTo.nilptr | exact VTo.nilslice | exact VTo.nilfunc | exact VTo.ptr rfl | exact VTo.gl rfl | exact VTo.map rfl | exact VTo.yld rfl | exact VTo.fmMap rfl | exact VTo.fm | exact VTo.glNil' (by decide) rfl rfl | exact VTo.fsNil (by decide) | exact VTo.fsSl rfl rfl (by simp [flat_len encE_len]) | exact VTo.fpPtr rfl | exact VTo.fsGl rfl (by first | rfl | assumption | exact flat_len encI_len _ | exact flat_len encT_len _ | exact flat_len encS_len _ | exact flat_len encP_len _ | exact flat_len encL_len _ | exact flat_len encE_len _ | (simp [flat_len encP_len]; done) | simp [flat_len encI_len, flat_len encS_len]))) (by first | rfl | (repeat' (first | exact MkTo.nil | refine MkTo.keep rfl ?_ | refine MkTo.drop (by decide) rfl ?_)))
      · rename_i h0
        have hd : dearS s m = ⟨s.ow, s.no + m, s.so, s.we⟩ := by unfold dearS; rw [if_neg h0]
        refine VMem.setRec encT_len k 1 ⟨s.ow, s.no + m, s.so, s.we⟩ rfl rfl rfl hs (by decide) hsE rfl ?_
        rw [← hd]
        conv => whnf
        repeat' (first | (refine VLd.intro rfl ?_; conv => whnf) | (refine VArith.i64 (by first | omega | (dsimp only; omega)) ?_; conv => whnf) | (refine VNeed.intro (by first | rfl | assumption | (simp; omega) | (simp; done)) ?_; conv => whnf) | (refine VMem.store rfl rfl rfl rfl ?_; conv => whnf) | (refine VSame.intro (by (conv => lhs; whnf); (conv => rhs; whnf); try rfl) ?_; conv => whnf) | (refine VIte.dec (fun _ => ?_) (fun _ => ?_) <;> conv => whnf) | (refine VIte.ndec (fun _ => ?_) (fun _ => ?_) <;> conv => whnf) | (refine VIte.beq (fun _ => ?_) (fun _ => ?_) <;> conv => whnf) | (refine VIte.bne (fun _ => ?_) (fun _ => ?_) <;> conv => whnf) | (refine VIte.intro (fun _ => ?_) (fun _ => ?_) <;> conv => whnf))
        refine VCut.at' (outer := h.lift) (marks := []) 2 [(3, .s (.int .u8 t)), (9, .fp (encN l)), (10, I k), (11, .fp (encX (evX l))), (12, I 0), (13, I (gnN l (evX l))), (15, I 0), (16, .fp [.sl 4 l.ss.length ((l.ss.set k (dearS s m)).flatMap encT), dints l.vs]), (17, .ptr (.loc 0) 0), (18, .ptr (.loc 1) 0)] [.cells true [.gl (.loc 2) 4 l.ss.length, .gl (.loc 3) 1 l.vs.length], .cells true [.gl (.loc 4) 4 l.ss.length, .gl (.loc 5) 1 l.vs.length], .flat true (l.ss.flatMap encT), .flat true (l.vs.flatMap encI), .flat true (l.ss.flatMap encT), .flat true (l.vs.flatMap encI)] ?_ hrest.out
        conv => whnf
        refine Retell.turn ⟨[8,9,3,4,5,6], 10, [(0, encX (evX l)), (1, (l.ss.set k (dearS s m)).flatMap encT), (2, l.vs.flatMap encI), (7, [.sl 4 l.ss.length ((l.ss.set k (dearS s m)).flatMap encT), dints l.vs])], []⟩ (TurnOk.mk' _ _ [(0, encX (evX l)), (1, (l.ss.set k (dearS s m)).flatMap encT), (2, l.vs.flatMap encI), (7, [.sl 4 l.ss.length ((l.ss.set k (dearS s m)).flatMap encT), dints l.vs])] [] (OutOk.lift _) rfl (by decide) (by repeat' (first | exact BTos.nil | refine BTos.flat rfl rfl (by first | rfl | simp) ?_ | refine BTos.new rfl ?_ | refine BTos.dead rfl rfl ?_ | refine BTos.esE rfl rfl ?_ | refine BTos.row rfl rfl rfl (RowTo.snoc (RowTo.one rfl (by simp))) ?_ | refine BTos.cells rfl rfl rfl (by repeat' (first | exact VTo.undef | exact FrTo.leaf | refine FrTo.node ?_ ?_ ?_ | refine FrTo.none ?_ ?_ | exact VTo.sc (by first | rfl | (congr 1; omega) | (congr 1; simp; omega)) | exact VTos_dv _ _ | refine VTos.cons ?_ ?_ | exact VTos.nil | refine VTo.agg ?_ | refine VTo.tuple ?_ | refine VTo.func ?_ ?_ | exact VTo.fs | exact VTo.fp | exact VTo.nilptr | exact VTo.nilslice | exact VTo.nilfunc | exact VTo.ptr rfl | exact VTo.gl rfl | exact VTo.map rfl | exact VTo.yld rfl | exact VTo.fmMap rfl | exact VTo.fm | exact VTo.glNil' (by decide) rfl rfl | exact VTo.fsNil (by decide) | exact VTo.fsSl rfl rfl (by simp [flat_len encE_len]) | exact VTo.fpPtr rfl | exact VTo.fsGl rfl (by first | rfl | assumption | exact flat_len encI_len _ | exact flat_len encT_len _ | exact flat_len encS_len _ | exact flat_len encP_len _ | exact flat_len encL_len _ | exact flat_len encE_len _ | (simp [flat_len encP_len]; done) | simp [flat_len encI_len, flat_len encS_len]))) ?_)) (by repeat' (first | exact FzAll.nil | refine FzAll.flat rfl ?_ | refine FzAll.row rfl rfl (RowTo.one rfl (by simp)) ?_ | refine FzAll.row rfl rfl (RowTo.vtos (by repeat' (first | exact VTo.undef | exact FrTo.leaf | refine FrTo.node ?_ ?_ ?_ | refine FrTo.none ?_ ?_ | exact VTo.sc (by first | rfl | (congr 1; omega) | (congr 1; simp; omega)) | exact VTos_dv _ _ | refine VTos.cons ?_ ?_ | exact VTos.nil | refine VTo.agg ?_ | refine VTo.tuple ?_ | refine VTo.func ?_ ?_ | exact VTo.fs | exact VTo.fp | exact VTo.nilptr | exact VTo.nilslice | exact VTo.nilfunc | exact VTo.ptr rfl | exact VTo.gl rfl | exact VTo.map rfl | exact VTo.yld rfl | exact VTo.fmMap rfl | exact VTo.fm | exact VTo.glNil' (by decide) rfl rfl | exact VTo.fsNil (by decide) | exact VTo.fsSl rfl rfl (by simp [flat_len encE_len]) | exact VTo.fpPtr rfl | exact VTo.fsGl rfl (by first | rfl | assumption | exact flat_len encI_len _ | exact flat_len encT_len _ | exact flat_len encS_len _ | exact flat_len encP_len _ | exact flat_len encL_len _ | exact flat_len encE_len _ | (simp [flat_len encP_len]; done) | simp [flat_len encI_len, flat_len encS_len])))) ?_)) trivial rfl) (by repeat' (first | exact VTo.undef | exact FrTo.leaf | refine FrTo.node ?_ ?_ ?_ | refine FrTo.none ?_ ?_ | exact VTo.sc (by first | rfl | (congr 1; omega) | (congr 1; simp; omega)) | exact VTos_dv _ _ | refine VTos.cons ?_ ?_ | exact VTos.nil | refine VTo.agg ?_ | refine VTo.tuple ?_ | refine VTo.func ?_ ?_ | exact VTo.fs | exact VTo.fp | exact VTo.nilptr | exact VTo.nilslice | exact VTo.nilfunc | exact VTo.ptr rfl | exact VTo.gl rfl | exact VTo.map rfl | exact VTo.yld rfl | exact VTo.fmMap rfl | exact VTo.fm | exact VTo.glNil' (by decide) rfl rfl | exact VTo.fsNil (by decide) | exact VTo.fsSl rfl rfl (by simp [flat_len encE_len]) | exact VTo.fpPtr rfl | exact VTo.fsGl rfl (by first | rfl | assumption | exact flat_len encI_len _ | exact flat_len encT_len _ | exact flat_len encS_len _ | exact flat_len encP_len _ | exact flat_len encL_len _ | exact flat_len encE_len _ | (simp [flat_len encP_len]; done) | simp [flat_len encI_len, flat_len encS_len]))) (by first | rfl | (repeat' (first | exact MkTo.nil | refine MkTo.keep rfl ?_ | refine MkTo.drop (by decide) rfl ?_)))
    · apply suffices_
      · intro hrest
        conv => whnf
        repeat' (first | (refine VLd.intro rfl ?_; conv => whnf) | (refine VArith.i64 (by first | omega | (dsimp only; omega)) ?_; conv => whnf) | (refine VNeed.intro (by first | rfl | assumption | (simp; omega) | (simp; done)) ?_; conv => whnf) | (refine VMem.store rfl rfl rfl rfl ?_; conv => whnf) | (refine VSame.intro (by (conv => lhs; whnf); (conv => rhs; whnf); try rfl) ?_; conv => whnf) | (refine VIte.dec (fun _ => ?_) (fun _ => ?_) <;> conv => whnf) | (refine VIte.ndec (fun _ => ?_) (fun _ => ?_) <;> conv => whnf) | (refine VIte.beq (fun _ => ?_) (fun _ => ?_) <;> conv => whnf) | (refine VIte.bne (fun _ => ?_) (fun _ => ?_) <;> conv => whnf) | (refine VIte.intro (fun _ => ?_) (fun _ => ?_) <;> conv => whnf))
        refine VCode.lp (fun u : Nat => [(3, .s (.int .u8 t)), (9, .fp (encN l)), (10, I k), (11, .fp (encX (evX l))), (12, I 0), (13, I (gnN l (evX l))), (15, I 0), (16, .fp [.sl 4 l.ss.length ((l.ss.set k (dearS s m)).flatMap encT), dints l.vs]), (17, .ptr (.loc 0) 0), (18, .ptr (.loc 1) 0), (89, I l.ss.length), (90, I u)]) (fun u => [.cells true [.gl (.loc 2) 4 l.ss.length, .gl (.loc 3) 1 l.vs.length], .cells true [.gl (.loc 4) 4 l.ss.length, .gl (.loc 5) 1 l.vs.length], .flat true ((mixT c l.ss u).flatMap encT), .flat true (l.vs.flatMap encI), .flat true (l.ss.flatMap encT), .flat true (l.vs.flatMap encI)]) (fun u => u ≤ l.ss.length) (fun u => l.ss.length - u) 0 (Nat.zero_le _) ?_ ?_
        · rw [mixT_zero]
          conv => whnf
          refine Retell.turn ⟨[0,1,2,3,4,5], 6, [], []⟩ (TurnOk.mk' _ _ [] [] (OutOk.lift _) rfl (by decide) (by repeat' (first | exact BTos.nil | refine BTos.flat rfl rfl (by first | rfl | simp) ?_ | refine BTos.new rfl ?_ | refine BTos.dead rfl rfl ?_ | refine BTos.esE rfl rfl ?_ | refine BTos.row rfl rfl rfl (RowTo.snoc (RowTo.one rfl (by simp))) ?_ | refine BTos.cells rfl rfl rfl (by repeat' (first | exact VTo.undef | exact FrTo.leaf | refine FrTo.node ?_ ?_ ?_ | refine FrTo.none ?_ ?_ | exact VTo.sc (by first | rfl | (congr 1; omega) | (congr 1; simp; omega)) | exact VTos_dv _ _ | refine VTos.cons ?_ ?_ | exact VTos.nil | refine VTo.agg ?_ | refine VTo.tuple ?_ | refine VTo.func ?_ ?_ | exact VTo.fs | exact VTo.fp | exact VTo.nilptr | exact VTo.nilslice | exact VTo.nilfunc | exact VTo.ptr rfl | exact VTo.gl rfl | exact VTo.map rfl | exact VTo.yld rfl | exact VTo.fmMap rfl | exact VTo.fm | exact VTo.glNil' (by decide) rfl rfl | exact VTo.fsNil (by decide) | exact VTo.fsSl rfl rfl (by simp [flat_len encE_len]) | exact VTo.fpPtr rfl | exact VTo.fsGl rfl (by first | rfl | assumption | exact flat_len encI_len _ | exact flat_len encT_len _ | exact flat_len encS_len _ | exact flat_len encP_len _ | exact flat_len encL_len _ | exact flat_len encE_len _ | (simp [flat_len encP_len]; done) | simp [flat_len encI_len, flat_len encS_len]))) ?_)) trivial trivial rfl) (by repeat' (first | exact VTo.undef | exact FrTo.leaf | refine FrTo.node ?_ ?_ ?_ | refine FrTo.none ?_ ?_ | exact VTo.sc (by first | rfl | (congr 1; omega) | (congr 1; simp; omega)) | exact VTos_dv _ _ | refine VTos.cons ?_ ?_ | exact VTos.nil | refine VTo.agg ?_ | refine VTo.tuple ?_ | refine VTo.func ?_ ?_ | exact VTo.fs | exact VTo.fp | exact VTo.nilptr | exact VTo.nilslice | exact VTo.nilfunc | exact VTo.ptr rfl | exact VTo.gl rfl | exact VTo.map rfl | exact VTo.yld rfl | exact VTo.fmMap rfl | exact VTo.fm | exact VTo.glNil' (by decide) rfl rfl | exact VTo.fsNil (by decide) | exact VTo.fsSl rfl rfl (by simp [flat_len encE_len]) | exact VTo.fpPtr rfl | exact VTo.fsGl rfl (by first | rfl | assumption | exact flat_len encI_len _ | exact flat_len encT_len _ | exact flat_len encS_len _ | exact flat_len encP_len _ | exact flat_len encL_len _ | exact flat_len encE_len _ | (simp [flat_len encP_len]; done) | simp [flat_len encI_len, flat_len encS_len]))) (by first | rfl | (repeat' (first | exact MkTo.nil | refine MkTo.keep rfl ?_ | refine MkTo.drop (by decide) rfl ?_)))
        · intro u hu
          have hml := mixT_len c l.ss u hu
          conv => whnf
          refine VIte.dec (fun h3 => ?_) (fun h3 => ?_)
          · have hr : l.ss[u]? = some l.ss[u] := List.getElem?_eq_getElem (by omega)
            have br := k4 _ (List.getElem_mem (by omega : u < l.ss.length))
            have or := o.ss _ (List.getElem_mem (by omega : u < l.ss.length))
            generalize l.ss[u] = r at hr br or
            have r1 := or.no
            have r2 := or.so
            have m1 := mul_le (a := r.no) (b := (c : Int)) (A := 59) (B := 5) (by omega) (by omega)
            have m2 := mul_le (a := r.so) (b := (c : Int)) (A := 59) (B := 5) (by omega) (by omega)
            have hat := mixT_at c hr
            have hst := mixT_set c hr
            have hat2 : ((mixT c l.ss u).set u ⟨r.ow, r.no * c, r.so, r.we⟩)[u]? = some ⟨r.ow, r.no * c, r.so, r.we⟩ := List.getElem?_set_self (by omega)
            have hs1 : (encT r).set 1 (DI (r.no * c)) = encT ⟨r.ow, r.no * c, r.so, r.we⟩ := rfl
            have hs2 : (encT ⟨r.ow, r.no * c, r.so, r.we⟩).set 2 (DI (r.so * c)) = encT (sclS c r) := rfl
            conv => whnf
            repeat' (first | (refine VLd.intro rfl ?_; conv => whnf) | (refine VArith.i64 (by first | omega | (dsimp only; omega)) ?_; conv => whnf) | (refine VNeed.intro (by first | rfl | assumption | (simp; omega) | (simp; done)) ?_; conv => whnf) | (refine VMem.store rfl rfl rfl rfl ?_; conv => whnf) | (refine VSame.intro (by (conv => lhs; whnf); (conv => rhs; whnf); try rfl) ?_; conv => whnf) | (refine VIte.dec (fun _ => ?_) (fun _ => ?_) <;> conv => whnf) | (refine VIte.ndec (fun _ => ?_) (fun _ => ?_) <;> conv => whnf) | (refine VIte.beq (fun _ => ?_) (fun _ => ?_) <;> conv => whnf) | (refine VIte.bne (fun _ => ?_) (fun _ => ?_) <;> conv => whnf) | (refine VIte.intro (fun _ => ?_) (fun _ => ?_) <;> conv => whnf) | (refine VLd.recc encT_len u 1 rfl rfl rfl hat (by decide) rfl rfl ?_; conv => whnf))
            rw [hc]
            repeat' (first | (refine VLd.intro rfl ?_; conv => whnf) | (refine VArith.i64 (by first | omega | (dsimp only; omega)) ?_; conv => whnf) | (refine VNeed.intro (by first | rfl | assumption | (simp; omega) | (simp; done)) ?_; conv => whnf) | (refine VMem.store rfl rfl rfl rfl ?_; conv => whnf) | (refine VSame.intro (by (conv => lhs; whnf); (conv => rhs; whnf); try rfl) ?_; conv => whnf) | (refine VIte.dec (fun _ => ?_) (fun _ => ?_) <;> conv => whnf) | (refine VIte.ndec (fun _ => ?_) (fun _ => ?_) <;> conv => whnf) | (refine VIte.beq (fun _ => ?_) (fun _ => ?_) <;> conv => whnf) | (refine VIte.bne (fun _ => ?_) (fun _ => ?_) <;> conv => whnf) | (refine VIte.intro (fun _ => ?_) (fun _ => ?_) <;> conv => whnf))
            refine VMem.setRec encT_len u 1 ⟨r.ow, r.no * c, r.so, r.we⟩ rfl rfl rfl hat (by decide) hs1 rfl ?_
            conv => whnf
            repeat' (first | (refine VLd.intro rfl ?_; conv => whnf) | (refine VArith.i64 (by first | omega | (dsimp only; omega)) ?_; conv => whnf) | (refine VNeed.intro (by first | rfl | assumption | (simp; omega) | (simp; done)) ?_; conv => whnf) | (refine VMem.store rfl rfl rfl rfl ?_; conv => whnf) | (refine VSame.intro (by (conv => lhs; whnf); (conv => rhs; whnf); try rfl) ?_; conv => whnf) | (refine VIte.dec (fun _ => ?_) (fun _ => ?_) <;> conv => whnf) | (refine VIte.ndec (fun _ => ?_) (fun _ => ?_) <;> conv => whnf) | (refine VIte.beq (fun _ => ?_) (fun _ => ?_) <;> conv => whnf) | (refine VIte.bne (fun _ => ?_) (fun _ => ?_) <;> conv => whnf) | (refine VIte.intro (fun _ => ?_) (fun _ => ?_) <;> conv => whnf) | (refine VLd.recc encT_len u 2 rfl rfl rfl hat2 (by decide) rfl rfl ?_; conv => whnf))
            rw [hc]
            repeat' (first | (refine VLd.intro rfl ?_; conv => whnf) | (refine VArith.i64 (by first | omega | (dsimp only; omega)) ?_; conv => whnf) | (refine VNeed.intro (by first | rfl | assumption | (simp; omega) | (simp; done)) ?_; conv => whnf) | (refine VMem.store rfl rfl rfl rfl ?_; conv => whnf) | (refine VSame.intro (by (conv => lhs; whnf); (conv => rhs; whnf); try rfl) ?_; conv => whnf) | (refine VIte.dec (fun _ => ?_) (fun _ => ?_) <;> conv => whnf) | (refine VIte.ndec (fun _ => ?_) (fun _ => ?_) <;> conv => whnf) | (refine VIte.beq (fun _ => ?_) (fun _ => ?_) <;> conv => whnf) | (refine VIte.bne (fun _ => ?_) (fun _ => ?_) <;> conv => whnf) | (refine VIte.intro (fun _ => ?_) (fun _ => ?_) <;> conv => whnf))
            refine VMem.setRec encT_len u 2 (sclS c r) rfl rfl rfl hat2 (by decide) hs2 rfl ?_
            rw [List.set_set, hst]
            conv => whnf
            repeat' (first | (refine VLd.intro rfl ?_; conv => whnf) | (refine VArith.i64 (by first | omega | (dsimp only; omega)) ?_; conv => whnf) | (refine VNeed.intro (by first | rfl | assumption | (simp; omega) | (simp; done)) ?_; conv => whnf) | (refine VMem.store rfl rfl rfl rfl ?_; conv => whnf) | (refine VSame.intro (by (conv => lhs; whnf); (conv => rhs; whnf); try rfl) ?_; conv => whnf) | (refine VIte.dec (fun _ => ?_) (fun _ => ?_) <;> conv => whnf) | (refine VIte.ndec (fun _ => ?_) (fun _ => ?_) <;> conv => whnf) | (refine VIte.beq (fun _ => ?_) (fun _ => ?_) <;> conv => whnf) | (refine VIte.bne (fun _ => ?_) (fun _ => ?_) <;> conv => whnf) | (refine VIte.intro (fun _ => ?_) (fun _ => ?_) <;> conv => whnf))
            refine LEnd.intro (u + 1) (by omega) (by omega) ?_
            conv => whnf
            refine Retell.turn ⟨[0,1,2,3,4,5], 6, [], []⟩ (TurnOk.mk' _ _ [] [] (OutOk.lift _) rfl (by decide) (by repeat' (first | exact BTos.nil | refine BTos.flat rfl rfl (by first | rfl | simp) ?_ | refine BTos.new rfl ?_ | refine BTos.dead rfl rfl ?_ | refine BTos.esE rfl rfl ?_ | refine BTos.row rfl rfl rfl (RowTo.snoc (RowTo.one rfl (by simp))) ?_ | refine BTos.cells rfl rfl rfl (by repeat' (first | exact VTo.undef | exact FrTo.leaf | refine FrTo.node ?_ ?_ ?_ | refine FrTo.none ?_ ?_ | exact VTo.sc (by first | rfl | (congr 1; omega) | (congr 1; simp; omega)) | exact VTos_dv _ _ | refine VTos.cons ?_ ?_ | exact VTos.nil | refine VTo.agg ?_ | refine VTo.tuple ?_ | refine VTo.func ?_ ?_ | exact VTo.fs | exact VTo.fp | exact VTo.nilptr | exact VTo.nilslice | exact VTo.nilfunc | exact VTo.ptr rfl | exact VTo.gl rfl | exact VTo.map rfl | exact VTo.yld rfl | exact VTo.fmMap rfl | exact VTo.fm | exact VTo.glNil' (by decide) rfl rfl | exact VTo.fsNil (by decide) | exact VTo.fsSl rfl rfl (by simp [flat_len encE_len]) | exact VTo.fpPtr rfl | exact VTo.fsGl rfl (by first | rfl | assumption | exact flat_len encI_len _ | exact flat_len encT_len _ | exact flat_len encS_len _ | exact flat_len encP_len _ | exact flat_len encL_len _ | exact flat_len encE_len _ | (simp [flat_len encP_len]; done) | simp [flat_len encI_len, flat_len encS_len]))) ?_)) trivial trivial rfl) (by repeat' (first | exact VTo.undef | exact FrTo.leaf | refine FrTo.node ?_ ?_ ?_ | refine FrTo.none ?_ ?_ | exact VTo.sc (by first | rfl | (congr 1; omega) | (congr 1; simp; omega)) | exact VTos_dv _ _ | refine VTos.cons ?_ ?_ | exact VTos.nil | refine VTo.agg ?_ | refine VTo.tuple ?_ | refine VTo.func ?_ ?_ | exact VTo.fs | exact VTo.fp | exact VTo.nilptr | exact VTo.nilslice | exact VTo.nilfunc | exact VTo.ptr rfl | exact VTo.gl rfl | exact VTo.map rfl | exact VTo.yld rfl | exact VTo.fmMap rfl | exact VTo.fm | exact VTo.glNil' (by decide) rfl rfl | exact VTo.fsNil (by decide) | exact VTo.fsSl rfl rfl (by simp [flat_len encE_len]) | exact VTo.fpPtr rfl | exact VTo.fsGl rfl (by first | rfl | assumption | exact flat_len encI_len _ | exact flat_len encT_len _ | exact flat_len encS_len _ | exact flat_len encP_len _ | exact flat_len encL_len _ | exact flat_len encE_len _ | (simp [flat_len encP_len]; done) | simp [flat_len encI_len, flat_len encS_len]))) (by first | rfl | (repeat' (first | exact MkTo.nil | refine MkTo.keep rfl ?_ | refine MkTo.drop (by decide) rfl ?_)))
          · have hue : u = l.ss.length := by omega
            subst hue
            rw [mixT_end]
            conv => whnf
            repeat' (first | (refine VLd.intro rfl ?_; conv => whnf) | (refine VArith.i64 (by first | omega | (dsimp only; omega)) ?_; conv => whnf) | (refine VNeed.intro (by first | rfl | assumption | (simp; omega) | (simp; done)) ?_; conv => whnf) | (refine VMem.store rfl rfl rfl rfl ?_; conv => whnf) | (refine VSame.intro (by (conv => lhs; whnf); (conv => rhs; whnf); try rfl) ?_; conv => whnf) | (refine VIte.dec (fun _ => ?_) (fun _ => ?_) <;> conv => whnf) | (refine VIte.ndec (fun _ => ?_) (fun _ => ?_) <;> conv => whnf) | (refine VIte.beq (fun _ => ?_) (fun _ => ?_) <;> conv => whnf) | (refine VIte.bne (fun _ => ?_) (fun _ => ?_) <;> conv => whnf) | (refine VIte.intro (fun _ => ?_) (fun _ => ?_) <;> conv => whnf) | (refine VLd.recc encT_len k 3 rfl rfl rfl hs (by decide) rfl rfl ?_; conv => whnf))
            · rename_i h0
              have hf : isFree s = true := decide_eq_true h0
              refine VMem.setRec encT_len k 3 (tieS s l.vs.length) rfl rfl rfl hs (by decide) hst3 rfl ?_
              conv => whnf
              refine VDraw.go [] (by kernel_rfl) (by kernel_rfl) ?_
              conv => whnf
              repeat' (first | (refine VLd.intro rfl ?_; conv => whnf) | (refine VArith.i64 (by first | omega | (dsimp only; omega)) ?_; conv => whnf) | (refine VNeed.intro (by first | rfl | assumption | (simp; omega) | (simp; done)) ?_; conv => whnf) | (refine VMem.store rfl rfl rfl rfl ?_; conv => whnf) | (refine VSame.intro (by (conv => lhs; whnf); (conv => rhs; whnf); try rfl) ?_; conv => whnf) | (refine VIte.dec (fun _ => ?_) (fun _ => ?_) <;> conv => whnf) | (refine VIte.ndec (fun _ => ?_) (fun _ => ?_) <;> conv => whnf) | (refine VIte.beq (fun _ => ?_) (fun _ => ?_) <;> conv => whnf) | (refine VIte.bne (fun _ => ?_) (fun _ => ?_) <;> conv => whnf) | (refine VIte.intro (fun _ => ?_) (fun _ => ?_) <;> conv => whnf) | (refine VLd.recc encT_len k 0 rfl rfl rfl hs' (by decide) rfl rfl ?_; conv => whnf))
              refine VMem.app1 (l := l.vs) s.ow encI_len rfl rfl rfl rfl rfl (by omega) ?_
              conv => whnf
              repeat' (first | (refine VLd.intro rfl ?_; conv => whnf) | (refine VArith.i64 (by first | omega | (dsimp only; omega)) ?_; conv => whnf) | (refine VNeed.intro (by first | rfl | assumption | (simp; omega) | (simp; done)) ?_; conv => whnf) | (refine VMem.store rfl rfl rfl rfl ?_; conv => whnf) | (refine VSame.intro (by (conv => lhs; whnf); (conv => rhs; whnf); try rfl) ?_; conv => whnf) | (refine VIte.dec (fun _ => ?_) (fun _ => ?_) <;> conv => whnf) | (refine VIte.ndec (fun _ => ?_) (fun _ => ?_) <;> conv => whnf) | (refine VIte.beq (fun _ => ?_) (fun _ => ?_) <;> conv => whnf) | (refine VIte.bne (fun _ => ?_) (fun _ => ?_) <;> conv => whnf) | (refine VIte.intro (fun _ => ?_) (fun _ => ?_) <;> conv => whnf))
              refine VCut.at' (outer := h.lift) (marks := []) 99 [(9, .fp (encN l)), (11, .fp (encX (evX l))), (12, I 0), (13, I (gnN l (evX l))), (15, I 0), (16, .fp [.sl 4 l.ss.length ((l.ss.set k (dearS s m)).flatMap encT), dints l.vs]), (17, .fp [.sl 4 l.ss.length ((l.ss.map (sclS c)).flatMap encT), dints l.vs]), (18, .fp [.sl 4 l.ss.length (T.ss.flatMap encT), .sl 1 T.vs.length (T.vs.flatMap encI)])] [] ?_ hrest.out
              rw [hT1 hf]
              unfold tieL
              dsimp only
              rw [List.length_append]
              conv => whnf
              refine Retell.turn ⟨[], 8, [(2, (l.ss.map (sclS c)).flatMap encT), (3, l.vs.flatMap encI), (0, [.sl 4 l.ss.length ((l.ss.map (sclS c)).flatMap encT), dints l.vs]), (4, (l.ss.set k (tieS s l.vs.length)).flatMap encT), (7, (l.vs ++ [s.ow]).flatMap encI), (1, [.sl 4 l.ss.length ((l.ss.set k (tieS s l.vs.length)).flatMap encT), .sl 1 (l.vs.length + 1) ((l.vs ++ [s.ow]).flatMap encI)])], []⟩ (TurnOk.mk' _ _ [(2, (l.ss.map (sclS c)).flatMap encT), (3, l.vs.flatMap encI), (0, [.sl 4 l.ss.length ((l.ss.map (sclS c)).flatMap encT), dints l.vs]), (4, (l.ss.set k (tieS s l.vs.length)).flatMap encT), (7, (l.vs ++ [s.ow]).flatMap encI), (1, [.sl 4 l.ss.length ((l.ss.set k (tieS s l.vs.length)).flatMap encT), .sl 1 (l.vs.length + 1) ((l.vs ++ [s.ow]).flatMap encI)])] [] (OutOk.lift _) rfl (by decide) (by repeat' (first | exact BTos.nil | refine BTos.flat rfl rfl (by first | rfl | simp) ?_ | refine BTos.new rfl ?_ | refine BTos.dead rfl rfl ?_ | refine BTos.esE rfl rfl ?_ | refine BTos.row rfl rfl rfl (RowTo.snoc (RowTo.one rfl (by simp))) ?_ | refine BTos.cells rfl rfl rfl (by repeat' (first | exact VTo.undef | exact FrTo.leaf | refine FrTo.node ?_ ?_ ?_ | refine FrTo.none ?_ ?_ | exact VTo.sc (by first | rfl | (congr 1; omega) | (congr 1; simp; omega)) | exact VTos_dv _ _ | refine VTos.cons ?_ ?_ | exact VTos.nil | refine VTo.agg ?_ | refine VTo.tuple ?_ | refine VTo.func ?_ ?_ | exact VTo.fs | exact VTo.fp | exact VTo.nilptr | exact VTo.nilslice | exact VTo.nilfunc | exact VTo.ptr rfl | exact VTo.gl rfl | exact VTo.map rfl | exact VTo.yld rfl | exact VTo.fmMap rfl | exact VTo.fm | exact VTo.glNil' (by decide) rfl rfl | exact VTo.fsNil (by decide) | exact VTo.fsSl rfl rfl (by simp [flat_len encE_len]) | exact VTo.fpPtr rfl | exact VTo.fsGl rfl (by first | rfl | assumption | exact flat_len encI_len _ | exact flat_len encT_len _ | exact flat_len encS_len _ | exact flat_len encP_len _ | exact flat_len encL_len _ | exact flat_len encE_len _ | (simp [flat_len encP_len]; done) | simp [flat_len encI_len, flat_len encS_len]))) ?_)) (by repeat' (first | exact FzAll.nil | refine FzAll.flat rfl ?_ | refine FzAll.row rfl rfl (RowTo.one rfl (by simp)) ?_ | refine FzAll.row rfl rfl (RowTo.vtos (by repeat' (first | exact VTo.undef | exact FrTo.leaf | refine FrTo.node ?_ ?_ ?_ | refine FrTo.none ?_ ?_ | exact VTo.sc (by first | rfl | (congr 1; omega) | (congr 1; simp; omega)) | exact VTos_dv _ _ | refine VTos.cons ?_ ?_ | exact VTos.nil | refine VTo.agg ?_ | refine VTo.tuple ?_ | refine VTo.func ?_ ?_ | exact VTo.fs | exact VTo.fp | exact VTo.nilptr | exact VTo.nilslice | exact VTo.nilfunc | exact VTo.ptr rfl | exact VTo.gl rfl | exact VTo.map rfl | exact VTo.yld rfl | exact VTo.fmMap rfl | exact VTo.fm | exact VTo.glNil' (by decide) rfl rfl | exact VTo.fsNil (by decide) | exact VTo.fsSl rfl rfl (by simp [flat_len encE_len]) | exact VTo.fpPtr rfl | exact VTo.fsGl rfl (by first | rfl | assumption | exact flat_len encI_len _ | exact flat_len encT_len _ | exact flat_len encS_len _ | exact flat_len encP_len _ | exact flat_len encL_len _ | exact flat_len encE_len _ | (simp [flat_len encP_len]; done) | simp [flat_len encI_len, flat_len encS_len])))) ?_)) trivial rfl) (by repeat' (first | exact VTo.undef | exact FrTo.leaf | refine FrTo.node ?_ ?_ ?_ | refine FrTo.none ?_ ?_ | exact VTo.sc (by first | rfl | (congr 1; omega) | (congr 1; simp; omega)) | exact VTos_dv _ _ | refine VTos.cons ?_ ?_ | exact VTos.nil | refine VTo.agg ?_ | refine VTo.tuple ?_ | refine VTo.func ?_ ?_ | exact VTo.fs | exact VTo.fp | exact VTo.nilptr | exact VTo.nilslice | exact VTo.nilfunc | exact VTo.ptr rfl | exact VTo.gl rfl | exact VTo.map rfl | exact VTo.yld rfl | exact VTo.fmMap rfl | exact VTo.fm | exact VTo.glNil' (by decide) rfl rfl | exact VTo.fsNil (by decide) | exact VTo.fsSl rfl rfl (by simp [flat_len encE_len]) | exact VTo.fpPtr rfl | exact VTo.fsGl rfl (by first | rfl | assumption | exact flat_len encI_len _ | exact flat_len encT_len _ | exact flat_len encS_len _ | exact flat_len encP_len _ | exact flat_len encL_len _ | exact flat_len encE_len _ | (simp [flat_len encP_len]; done) | simp [flat_len encI_len, flat_len encS_len]))) (by first | rfl | (repeat' (first | exact MkTo.nil | refine MkTo.keep rfl ?_ | refine MkTo.drop (by decide) rfl ?_)))
            · rename_i h0
              have hf : isFree s = false := decide_eq_false h0
              refine VCut.at' (outer := h.lift) (marks := []) 99 [(9, .fp (encN l)), (11, .fp (encX (evX l))), (12, I 0), (13, I (gnN l (evX l))), (15, I 0), (16, .fp [.sl 4 l.ss.length ((l.ss.set k (dearS s m)).flatMap encT), dints l.vs]), (17, .fp [.sl 4 l.ss.length ((l.ss.map (sclS c)).flatMap encT), dints l.vs]), (18, .fp [.sl 4 l.ss.length (T.ss.flatMap encT), .sl 1 T.vs.length (T.vs.flatMap encI)])] [] ?_ hrest.out
              rw [hT2 hf]
              conv => whnf
              refine Retell.turn ⟨[], 6, [(2, (l.ss.map (sclS c)).flatMap encT), (3, l.vs.flatMap encI), (0, [.sl 4 l.ss.length ((l.ss.map (sclS c)).flatMap encT), dints l.vs]), (4, l.ss.flatMap encT), (5, l.vs.flatMap encI), (1, [.sl 4 l.ss.length (l.ss.flatMap encT), .sl 1 l.vs.length (l.vs.flatMap encI)])], []⟩ (TurnOk.mk' _ _ [(2, (l.ss.map (sclS c)).flatMap encT), (3, l.vs.flatMap encI), (0, [.sl 4 l.ss.length ((l.ss.map (sclS c)).flatMap encT), dints l.vs]), (4, l.ss.flatMap encT), (5, l.vs.flatMap encI), (1, [.sl 4 l.ss.length (l.ss.flatMap encT), .sl 1 l.vs.length (l.vs.flatMap encI)])] [] (OutOk.lift _) rfl (by decide) (by repeat' (first | exact BTos.nil | refine BTos.flat rfl rfl (by first | rfl | simp) ?_ | refine BTos.new rfl ?_ | refine BTos.dead rfl rfl ?_ | refine BTos.esE rfl rfl ?_ | refine BTos.row rfl rfl rfl (RowTo.snoc (RowTo.one rfl (by simp))) ?_ | refine BTos.cells rfl rfl rfl (by repeat' (first | exact VTo.undef | exact FrTo.leaf | refine FrTo.node ?_ ?_ ?_ | refine FrTo.none ?_ ?_ | exact VTo.sc (by first | rfl | (congr 1; omega) | (congr 1; simp; omega)) | exact VTos_dv _ _ | refine VTos.cons ?_ ?_ | exact VTos.nil | refine VTo.agg ?_ | refine VTo.tuple ?_ | refine VTo.func ?_ ?_ | exact VTo.fs | exact VTo.fp | exact VTo.nilptr | exact VTo.nilslice | exact VTo.nilfunc | exact VTo.ptr rfl | exact VTo.gl rfl | exact VTo.map rfl | exact VTo.yld rfl | exact VTo.fmMap rfl | exact VTo.fm | exact VTo.glNil' (by decide) rfl rfl | exact VTo.fsNil (by decide) | exact VTo.fsSl rfl rfl (by simp [flat_len encE_len]) | exact VTo.fpPtr rfl | exact VTo.fsGl rfl (by first | rfl | assumption | exact flat_len encI_len _ | exact flat_len encT_len _ | exact flat_len encS_len _ | exact flat_len encP_len _ | exact flat_len encL_len _ | exact flat_len encE_len _ | (simp [flat_len encP_len]; done) | simp [flat_len encI_len, flat_len encS_len]))) ?_)) (by repeat' (first | exact FzAll.nil | refine FzAll.flat rfl ?_ | refine FzAll.row rfl rfl (RowTo.one rfl (by simp)) ?_ | refine FzAll.row rfl rfl (RowTo.vtos (by repeat' (first | exact VTo.undef | exact FrTo.leaf | refine FrTo.node ?_ ?_ ?_ | refine FrTo.none ?_ ?_ | exact VTo.sc (by first | rfl | (congr 1; omega) | (congr 1; simp; omega)) | exact VTos_dv _ _ | refine VTos.cons ?_ ?_ | exact VTos.nil | refine VTo.agg ?_ | refine VTo.tuple ?_ | refine VTo.func ?_ ?_ | exact VTo.fs | exact VTo.fp | exact VTo.nilptr | exact VTo.nilslice | exact VTo.nilfunc | exact VTo.ptr rfl | exact VTo.gl rfl | exact VTo.map rfl | exact VTo.yld rfl | exact VTo.fmMap rfl | exact VTo.fm | exact VTo.glNil' (by decide) rfl rfl | exact VTo.fsNil (by decide) | exact VTo.fsSl rfl rfl (by simp [flat_len encE_len]) | exact VTo.fpPtr rfl | exact VTo.fsGl rfl (by first | rfl | assumption | exact flat_len encI_len _ | exact flat_len encT_len _ | exact flat_len encS_len _ | exact flat_len encP_len _ | exact flat_len encL_len _ | exact flat_len encE_len _ | (simp [flat_len encP_len]; done) | simp [flat_len encI_len, flat_len encS_len])))) ?_)) trivial rfl) (by repeat' (first | exact VTo.undef | exact FrTo.leaf | refine FrTo.node ?_ ?_ ?_ | refine FrTo.none ?_ ?_ | exact VTo.sc (by first | rfl | (congr 1; omega) | (congr 1; simp; omega)) | exact VTos_dv _ _ | refine VTos.cons ?_ ?_ | exact VTos.nil | refine VTo.agg ?_ | refine VTo.tuple ?_ | refine VTo.func ?_ ?_ | exact VTo.fs | exact VTo.fp | exact VTo.nilptr | exact VTo.nilslice | exact VTo.nilfunc | exact VTo.ptr rfl | exact VTo.gl rfl | exact VTo.map rfl | exact VTo.yld rfl | exact VTo.fmMap rfl | exact VTo.fm | exact VTo.glNil' (by decide) rfl rfl | exact VTo.fsNil (by decide) | exact VTo.fsSl rfl rfl (by simp [flat_len encE_len]) | exact VTo.fpPtr rfl | exact VTo.fsGl rfl (by first | rfl | assumption | exact flat_len encI_len _ | exact flat_len encT_len _ | exact flat_len encS_len _ | exact flat_len encP_len _ | exact flat_len encL_len _ | exact flat_len encE_len _ | (simp [flat_len encP_len]; done) | simp [flat_len encI_len, flat_len encS_len]))) (by first | rfl | (repeat' (first | exact MkTo.nil | refine MkTo.keep rfl ?_ | refine MkTo.drop (by decide) rfl ?_)))
            · exfalso; omega
      · clear cM cC e1 hst3 hs' htf hvf hsf hdf hsD hsE hneB
        have ED := ev_spec oD
        have ET := ev_spec oT
        have oxD : XOk (dearL l k s m) (evX (dearL l k s m)) := by obtain ⟨a, b, _, _, P⟩ := ED.prc; exact P.ok
        have oxT : XOk T (evX T) := by obtain ⟨a, b, _, _, P⟩ := ET.prc; exact P.ok
        have d1 := fun h => vc_Even_ok (dearL l k s m) h oD
        have d2 := fun h => vc_Gains_ok (dearL l k s m) (evX (dearL l k s m)) h oD oxD
        have s1 := fun h => vc_Even_ok (sclL c l) h oS'
        have t1 := fun h => vc_Even_ok T h oT
        have t2 := fun h => vc_Gains_ok T (evX T) h oT oxT
        have q1 := fun h => eqI (evX l).ps h (by have := ox.len; omega)
        rw [hsc] at s1
        have eD : vL (dearL l k s m) = .agg [.fs 4 l.ss.length ((l.ss.set k (dearS s m)).flatMap encT), ints l.vs] := by
          show V.agg [.fs 4 (l.ss.set k _).length _, _] = _
          rw [hdn]; rfl
        have eS : vL (sclL c l) = .agg [.fs 4 l.ss.length ((l.ss.map (sclS c)).flatMap encT), ints l.vs] := by
          show V.agg [.fs 4 (l.ss.map _).length _, _] = _
          rw [List.length_map]; rfl
        have eT : vL T = .agg [.fs 4 l.ss.length (T.ss.flatMap encT), .fs 1 T.vs.length (T.vs.flatMap encI)] := by
          show V.agg [.fs 4 T.ss.length _, _] = _
          rw [hTl]; rfl
        rw [eD] at d1 d2
        rw [eS] at s1
        rw [eT] at t1 t2
        have bX := gn_b o ox
        have bD := gn_b oD oxD
        have bT := gn_b oT oxT
        have wX := ox.w
        have wD := oxD.w
        have wT := oxT.w
        clear hdl hdn hT1 hT2 hTl eD eS eT E ED ET ox oxD oxT oD oT oS' hsc
        generalize gnN (dearL l k s m) (evX (dearL l k s m)) = DN at *
        generalize gnS (dearL l k s m) (evX (dearL l k s m)) = DS' at *
        generalize evX (dearL l k s m) = y at *
        generalize gnN T (evX T) = TN at *
        generalize gnS T (evX T) = TS at *
        generalize evX T = t0 at *
        generalize gnN l (evX l) = XN at *
        generalize gnS l (evX l) = XS at *
        generalize evX l = x at *
        have m1 := mulb (A := 32000000) (B := 2000) bD.1 (show 0 ≤ x.w ∧ x.w ≤ 2000 by omega)
        have m2 := mulb (A := 32000000) (B := 2000) bX.1 (show 0 ≤ y.w ∧ y.w ≤ 2000 by omega)
        have m3 := mulb (A := 32000000) (B := 2000) bT.1 (show 0 ≤ x.w ∧ x.w ≤ 2000 by omega)
        have m4 := mulb (A := 32000000) (B := 2000) bX.1 (show 0 ≤ t0.w ∧ t0.w ≤ 2000 by omega)
        conv => whnf
        repeat' (first | (refine VLd.intro rfl ?_; conv => whnf) | (refine VArith.i64 (by first | omega | (dsimp only; omega)) ?_; conv => whnf) | (refine VNeed.intro (by first | rfl | assumption | (simp; omega) | (simp; done)) ?_; conv => whnf) | (refine VMem.store rfl rfl rfl rfl ?_; conv => whnf) | (refine VSame.intro (by (conv => lhs; whnf); (conv => rhs; whnf); try rfl) ?_; conv => whnf) | (refine VDraw.go [] (by kernel_rfl) (by kernel_rfl) ?_; conv => whnf) | (refine VIte.dec (fun _ => ?_) (fun _ => ?_) <;> conv => whnf) | (refine VIte.ndec (fun _ => ?_) (fun _ => ?_) <;> conv => whnf) | (refine VIte.beq (fun _ => ?_) (fun _ => ?_) <;> conv => whnf) | (refine VIte.bne (fun _ => ?_) (fun _ => ?_) <;> conv => whnf) | (refine VIte.intro (fun _ => ?_) (fun _ => ?_) <;> conv => whnf) | (refine VCall.intro (d1 _) ?_; conv => whnf) | (refine VCall.intro (d2 _) ?_; conv => whnf) | (refine VCall.intro (s1 _) ?_; conv => whnf) | (refine VCall.intro (t1 _) ?_; conv => whnf) | (refine VCall.intro (t2 _) ?_; conv => whnf) | (refine VCall.intro (q1 _) ?_; conv => whnf) | (refine VCall.intro (vc_awake _) ?_; conv => whnf))
        all_goals try (first | exact VOut.same rfl | (rename_i hz; exact absurd rfl hz) | (exfalso; omega))
end Go.Proofs.Ytmpjpjfkbmlmfaa

open Go.Vm
namespace Go.Proofs.Ytmpjpjfkbmlmfaa
open Go.ChangeShapes Go.WideShapes Go.ChangeAt Go.RowKit

theorem open4p : OpenAll Try.prog Try.f4.params.toList (fun x : List Int × {n : Int // 0 ≤ n ∧ n ≤ 255} × {n : Int // 0 ≤ n ∧ n ≤ 255} × {n : Int // 0 ≤ n ∧ n ≤ 255} × Unit => [dU x.1, d8b x.2.1, d8b x.2.2.1, d8b x.2.2.2.1]) := by
  rw [Try.params4]
  exact OpenAll.cons openU (OpenAll.cons open8b (OpenAll.cons open8b (OpenAll.cons open8b (OpenAll.nil))))
set_option maxRecDepth 100000 in
theorem contract4 (H : Type) (enc : TypeId × Value → H) (W : World) (base : Nat) (args : Array Value) (ds gs : List (DataW H)) (before : List MemPlace)
    (hval : ∀ (j : Nat) t v, Try.f4.params[j]? = some t → args[j]? = some v → Value.okWide Try.prog W .any base t v)
    (hW : DataW.Whole enc Try.prog Try.f4.params.toList Rows.barterValuedSpec.vars false W args.toList ds gs before) :
    Calls Try.prog 4 args W fun e W' => ∃ v, e = .returned v ∧ Rows.barterValuedSpec.post enc Try.prog Try.f4 false true false false W args v W' := by
  refine contract_of_vc open4p (fun g => vc_BarterValued g.1 g.2.1.1 g.2.1.2 g.2.2.1.1 g.2.2.1.2 g.2.2.2.1.1 g.2.2.2.1.2 Hp.bare) laidOut ?_ (tb := 4) (by kernel_rfl) Try.underlying4 rfl ?_ hval hW
  · rw [Try.params4]
    intro t ht
    simp only [List.mem_cons, List.not_mem_nil, or_false] at ht
    rcases ht with rfl | rfl | rfl | rfl
    all_goals exact ⟨by kernel_rfl, of_decide_eq_true (by kernel_rfl)⟩
  · intro H dd hl
    rw [Try.params4] at hl
    match dd, hl with
    | [d0, d1, d2, d3], _ => rfl
set_option maxRecDepth 100000 in
theorem lifted4 (os : Os) (started : os.Started) (H : Type) (enc : TypeId × Value → H) :
    ReturnsInHanded {} Try.checked os 4 .any (Rows.barterValuedSpec.pre6 enc Try.prog Try.f4 Rows.barterValuedRow.domain false) (Rows.barterValuedSpec.post enc Try.prog Try.f4 false true false false) := by
  refine returnsInHanded_of_change (C := Try.checked) ownKn started (by kernel_rfl) Try.func4
    (ChangeSpec.witness6 (enc := enc) (C := Try.checked) false ⟨#[], #[.slice none 0 0, .int .u8 0, .int .u8 0, .int .u8 0], []⟩ 8 (by kernel_rfl) (by kernel_rfl) (by kernel_rfl) (by kernel_rfl)) ?_
  intro W base args ds gs before hval hW _ _
  exact contract4 H enc W base args ds gs before hval hW
theorem barterValued_said : Rows.BarterValuedSaid :=
  OpenClaim.holds_of_wide 4 Try.f4 rfl rfl rfl rfl rfl rfl rfl ⟨rfl, rfl, rfl, rfl, rfl⟩ rfl rfl rfl rfl rfl (by kernel_rfl) Try.func4 (by kernel_rfl)
    (of_decide_eq_true (by kernel_rfl)) (by unfold Func.isWrapper; first | (rw [if_pos (by decide +kernel)]; kernel_rfl) | (rw [if_neg (by decide +kernel)]; exact ⟨rfl, rfl⟩))
    (fun os started H enc _ => lifted4 os started H enc)
end Go.Proofs.Ytmpjpjfkbmlmfaa

