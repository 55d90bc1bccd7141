/- Part 5 of the proof that the exchange by which the South has the most is best. No condition. -/
import Derived.Test.YtmpjpjfkbmlmfaaMx4
set_option linter.unusedVariables false
set_option linter.unusedSimpArgs false
open Go.Vm
namespace Go.Proofs.Ytmpjpjfkbmlmfaa
set_option maxRecDepth 20000
set_option maxHeartbeats 4000000

/-! A land that is made of numbers. -/
abbrev DS := Nat × Int
def vIt (bs : List Int) (x : DS × List Int) : Nat → DS × List Int
  | 0 => x
  | k + 1 => ((dNx bs (vIt bs x k).1 2).2, (vIt bs x k).2 ++ [(dNx bs (vIt bs x k).1 2).1])
structure VOk (N k : Nat) (x : DS × List Int) : Prop where
  n : x.1.1 ≤ N + k
  len : x.2.length = k
  side : ∀ v ∈ x.2, v = 0 ∨ v = 1
theorem vIt_ok {bs : List Int} {x : DS × List Int} {N : Nat} (h : VOk N 0 x) : ∀ k, VOk N k (vIt bs x k)
  | 0 => h
  | k + 1 => by
    obtain ⟨h1, h2, h3⟩ := vIt_ok (bs := bs) h k
    obtain ⟨a1, a2, a3⟩ := dNx_bd bs (vIt bs x k).1 2
    rw [vIt]
    refine ⟨by dsimp only; omega, by simp [h2], fun v hv => ?_⟩
    rcases List.mem_append.1 hv with hv | hv
    · exact h3 v hv
    · rw [List.mem_singleton] at hv; omega
def sStr (vs : List Int) (ow no so v : Int) : Str := if v < vs.length then ⟨vAt vs v, no, so, v⟩ else ⟨ow, no, so, -1⟩
def sD1 (bs : List Int) (d : DS) : Int × DS := dNx bs d 2
def sD2 (bs : List Int) (d : DS) : Int × DS := dNx bs (sD1 bs d).2 (59 - 1 + 1)
def sD3 (bs : List Int) (d : DS) : Int × DS := dNx bs (sD2 bs d).2 (59 - 1 + 1)
def sD4 (bs : List Int) (d : DS) : Int × DS := dNx bs (sD3 bs d).2 20
def sIt (bs vs : List Int) (x : DS × List Str) : Nat → DS × List Str
  | 0 => x
  | k + 1 => ((sD4 bs (sIt bs vs x k).1).2, (sIt bs vs x k).2 ++ [sStr vs (sD1 bs (sIt bs vs x k).1).1 (1 + (sD2 bs (sIt bs vs x k).1).1) (1 + (sD3 bs (sIt bs vs x k).1).1) (sD4 bs (sIt bs vs x k).1).1])
structure SOk2 (vs : List Int) (s : Str) : Prop where
  ok : Sok vs s
  no : s.no ≤ 59
  so : s.so ≤ 59
structure SSk (vs : List Int) (N k : Nat) (x : DS × List Str) : Prop where
  n : x.1.1 ≤ N + 4 * k
  len : x.2.length = k
  ss : ∀ s ∈ x.2, SOk2 vs s
theorem sIt_ok {bs vs : List Int} {x : DS × List Str} {N : Nat} (hv : ∀ v ∈ vs, v = 0 ∨ v = 1) (h : SSk vs N 0 x) : ∀ k, SSk vs N k (sIt bs vs x k)
  | 0 => h
  | k + 1 => by
    obtain ⟨h1, h2, h3⟩ := sIt_ok (bs := bs) hv h k
    obtain ⟨a1, a2, a3⟩ := dNx_bd bs (sIt bs vs x k).1 2
    obtain ⟨b1, b2, b3⟩ := dNx_bd bs (sD1 bs (sIt bs vs x k).1).2 (59 - 1 + 1)
    obtain ⟨c1, c2, c3⟩ := dNx_bd bs (sD2 bs (sIt bs vs x k).1).2 (59 - 1 + 1)
    obtain ⟨d1, d2, d3⟩ := dNx_bd bs (sD3 bs (sIt bs vs x k).1).2 20
    have e1 : dNx bs (sIt bs vs x k).1 2 = sD1 bs (sIt bs vs x k).1 := rfl
    have e2 : dNx bs (sD1 bs (sIt bs vs x k).1).2 (59 - 1 + 1) = sD2 bs (sIt bs vs x k).1 := rfl
    have e3 : dNx bs (sD2 bs (sIt bs vs x k).1).2 (59 - 1 + 1) = sD3 bs (sIt bs vs x k).1 := rfl
    have e4 : dNx bs (sD3 bs (sIt bs vs x k).1).2 20 = sD4 bs (sIt bs vs x k).1 := rfl
    rw [e1] at a1 a2 a3
    rw [e2] at b1 b2 b3
    rw [e3] at c1 c2 c3
    rw [e4] at d1 d2 d3
    rw [sIt]
    generalize sD4 bs (sIt bs vs x k).1 = y4 at *
    generalize sD3 bs (sIt bs vs x k).1 = y3 at *
    generalize sD2 bs (sIt bs vs x k).1 = y2 at *
    generalize sD1 bs (sIt bs vs x k).1 = y1 at *
    refine ⟨by dsimp only; omega, by simp [h2], fun s hs => ?_⟩
    rcases List.mem_append.1 hs with hs | hs
    · exact h3 s hs
    · rw [List.mem_singleton] at hs
      subst hs
      unfold sStr
      split
      · rename_i hlt
        refine ⟨⟨?_, by dsimp only; omega, by dsimp only; omega, .inr ⟨d1, hlt, rfl⟩⟩, by dsimp only; omega, by dsimp only; omega⟩
        show vAt vs y4.1 = 0 ∨ vAt vs y4.1 = 1
        refine hv _ ?_
        unfold vAt
        rw [List.getD_eq_getElem?_getD, List.getElem?_eq_getElem (by omega), Option.getD_some]
        exact List.getElem_mem _
      · exact ⟨⟨by dsimp only; omega, by dsimp only; omega, by dsimp only; omega, .inl rfl⟩, by dsimp only; omega, by dsimp only; omega⟩
def mdV (bs : List Int) (d : DS) : DS × List Int := vIt bs ((dNx bs d 5).2, []) (dNx bs d 5).1.toNat
def mdN (bs : List Int) (d : DS) (most : Int) : Int × DS := dNx bs (mdV bs d).1 (most - 1 + 1)
def mdS (bs : List Int) (d : DS) (most : Int) : DS × List Str := sIt bs (mdV bs d).2 ((mdN bs d most).2, []) (1 + (mdN bs d most).1).toNat
def mdL (bs : List Int) (d : DS) (most : Int) : Lnd := ⟨(mdS bs d most).2, (mdV bs d).2⟩
structure MdOk (most : Int) (l : Lnd) : Prop where
  ok : Ok l
  n : (l.ss.length : Int) ≤ most
  v : l.vs.length ≤ 4
  ss : ∀ s ∈ l.ss, s.no ≤ 59 ∧ s.so ≤ 59
theorem mdV_ok (bs : List Int) (d : DS) : (mdV bs d).1.1 ≤ d.1 + 5 ∧ (mdV bs d).2.length = (dNx bs d 5).1.toNat ∧ (mdV bs d).2.length ≤ 4 ∧ ∀ v ∈ (mdV bs d).2, v = 0 ∨ v = 1 := by
  obtain ⟨a1, a2, a3⟩ := dNx_bd bs d 5
  unfold mdV
  have := vIt_ok (bs := bs) (x := ((dNx bs d 5).2, [])) (N := d.1 + 1) ⟨by dsimp only; omega, rfl, by simp⟩ (dNx bs d 5).1.toNat
  obtain ⟨h1, h2, h3⟩ := this
  exact ⟨by omega, h2, by omega, h3⟩
theorem mdL_ok (bs : List Int) (d : DS) {most : Int} (hm : 1 ≤ most ∧ most ≤ 16) : MdOk most (mdL bs d most) ∧ (mdS bs d most).1.1 ≤ d.1 + 100 := by
  obtain ⟨q1, q2, q3, q4⟩ := mdV_ok bs d
  obtain ⟨a1, a2, a3⟩ := dNx_bd bs (mdV bs d).1 (most - 1 + 1)
  have e : dNx bs (mdV bs d).1 (most - 1 + 1) = mdN bs d most := rfl
  rw [e] at a1 a2 a3
  have := sIt_ok (bs := bs) (vs := (mdV bs d).2) (x := ((mdN bs d most).2, [])) (N := (mdN bs d most).2.1) q4 ⟨by dsimp only; omega, rfl, by simp⟩ (1 + (mdN bs d most).1).toNat
  obtain ⟨h1, h2, h3⟩ := this
  have e2 : sIt bs (mdV bs d).2 ((mdN bs d most).2, []) (1 + (mdN bs d most).1).toNat = mdS bs d most := rfl
  rw [e2] at h1 h2 h3
  refine ⟨⟨⟨?_, ?_, q4, fun s hs => (h3 s hs).ok⟩, ?_, q3, fun s hs => ⟨(h3 s hs).no, (h3 s hs).so⟩⟩, ?_⟩
  · show 1 ≤ (mdS bs d most).2.length ∧ (mdS bs d most).2.length ≤ 16
    omega
  · show (mdV bs d).2.length ≤ 8
    omega
  · show ((mdS bs d most).2.length : Int) ≤ most
    omega
  · omega
theorem vc_Made (bs : List Int) (d : DS) (most : Int) (i : Vm.Id) (h : Hp) (hN : d.1 ≤ 1000000) (hm : 1 ≤ most ∧ most ≤ 16) (hd : h.get i = some (deckB bs d)) :
    VC Try.prog 24 [.ptr i 0, I most] h (vL (mdL bs d most)) (h.set i (deckB bs (mdS bs d most).1)) := by
  have e1 := dNx_bd bs d 5
  have c1 := fun (h2 : Hp) hh => vc_draw bs d 5 (.out i) h2 (by omega) hh
  obtain ⟨q1, q2, q3, q4⟩ := mdV_ok bs d
  have eL : mdL bs d most = ⟨(mdS bs d most).2, (mdV bs d).2⟩ := rfl
  rw [eL]
  unfold mdS mdN
  have hv0 : mdV bs d = vIt bs ((dNx bs d 5).2, []) (dNx bs d 5).1.toNat := rfl
  obtain ⟨x1, hx1⟩ : ∃ x, x = dNx bs d 5 := ⟨_, rfl⟩
  rw [← hx1] at e1 c1 q2 hv0
  have hVk := fun k => vIt_ok (bs := bs) (x := (x1.2, [])) (N := d.1 + 1) ⟨by dsimp only; omega, rfl, by simp⟩ k
  obtain ⟨n, hn⟩ : ∃ n : Nat, x1.1 = n := ⟨x1.1.toNat, by omega⟩
  rw [hn] at c1 q2 hv0
  rw [Int.toNat_natCast] at q2 hv0
  obtain ⟨W, hW⟩ : ∃ W, W = mdV bs d := ⟨_, rfl⟩
  rw [← hW] at q1 q2 q3 q4 hv0 ⊢
  have e2 := dNx_bd bs W.1 (most - 1 + 1)
  have c2 := fun (h2 : Hp) hh => vc_between bs W.1 1 most (.out i) h2 (by omega) (by omega) (by omega) hh
  obtain ⟨x2, hx2⟩ : ∃ x, x = dNx bs W.1 (most - 1 + 1) := ⟨_, rfl⟩
  rw [← hx2] at e2 c2 ⊢
  have hSk := fun k => sIt_ok (bs := bs) (vs := W.2) (x := (x2.2, [])) (N := x2.2.1) q4 ⟨by dsimp only; omega, rfl, by simp⟩ k
  obtain ⟨m, hm2⟩ : ∃ m : Nat, 1 + x2.1 = m := ⟨(1 + x2.1).toNat, by omega⟩
  rw [hm2] at c2 ⊢
  rw [Int.toNat_natCast]
  obtain ⟨R, hR⟩ : ∃ R, R = sIt bs W.2 (x2.2, []) m := ⟨_, rfl⟩
  rw [← hR]
  clear hx1 hx2 hW eL
  refine VC.body Try.func24 rfl Try.ntmps24 Try.call24 (h.grows_set _ _) rfl ?_
  conv => whnf
  repeat' (first | (refine VLd.intro rfl ?_; conv => whnf) | (refine VArith.i64 (by first | omega | (dsimp only; omega)) ?_; conv => whnf) | (refine VNeed.intro (by first | rfl | assumption | (simp; omega) | (simp; done)) ?_; conv => whnf) | (refine VMem.store rfl rfl rfl rfl ?_; conv => whnf) | (refine VSame.intro rfl ?_; conv => whnf) | (refine VDraw.go [] (by kernel_rfl) (by kernel_rfl) ?_; conv => whnf) | (refine VIte.dec (fun _ => ?_) (fun _ => ?_) <;> conv => whnf) | (refine VIte.ndec (fun _ => ?_) (fun _ => ?_) <;> conv => whnf) | (refine VIte.beq (fun _ => ?_) (fun _ => ?_) <;> conv => whnf) | (refine VIte.bne (fun _ => ?_) (fun _ => ?_) <;> conv => whnf) | (refine VIte.intro (fun _ => ?_) (fun _ => ?_) <;> conv => whnf) | (refine VCall.intro (c1 _ (get_out hd _)) ?_; conv => whnf))
  refine VCode.lpo (fun y : Nat × (DS × List Int) => [(0, .ptr (.out i) 0), (1, I most), (4, .ptr (.loc 0) 0), (5, .ptr (.loc 1) 0), (9, I n), (10, I y.1)]) (fun y => outW h.lift i (deckB bs y.2.1))
    (fun y => [.flat true [.nilslice, .nilslice], .cells true [.nilslice, .gl (.loc 2) 1 y.2.2.length], .flat true (y.2.2.flatMap encI)]) (fun y => y.1 ≤ n ∧ y.2 = vIt bs (x1.2, []) y.1) (fun y => n - y.1) (0, (x1.2, [])) ⟨Nat.zero_le _, rfl⟩ ?_ ?_ ?_
  · funext j; by_cases e : j = i <;> simp [outW, e, Hp.set]
  · conv => whnf
    refine Retell.turn ⟨[0,1,2], 2, [], []⟩ (TurnOk.mk' _ _ [] [] (OutOk.outW (OutOk.lift _) rfl) rfl (by decide) (by repeat' (first | exact BTos.nil | refine BTos.flat rfl rfl (by first | rfl | simp) ?_ | refine BTos.new rfl ?_ | refine BTos.dead rfl rfl ?_ | refine BTos.esE rfl rfl ?_ | refine BTos.row rfl rfl rfl (RowTo.snoc (RowTo.one rfl (by simp))) ?_ | refine BTos.cells rfl rfl rfl (by repeat' (first | exact VTo.undef | exact FrTo.leaf | refine FrTo.node ?_ ?_ ?_ | refine FrTo.none ?_ ?_ | exact VTo.sc (by first | rfl | (congr 1; omega) | (congr 1; simp; omega)) | exact VTos_dv _ _ | refine VTos.cons ?_ ?_ | exact VTos.nil | refine VTo.agg ?_ | refine VTo.tuple ?_ | refine VTo.func ?_ ?_ | exact VTo.fs | exact VTo.fp | exact VTo.nilptr | exact VTo.nilslice | exact VTo.nilfunc | exact VTo.ptr rfl | exact VTo.gl rfl | exact VTo.map rfl | exact VTo.yld rfl | exact VTo.fmMap rfl | exact VTo.fm | exact VTo.glNil' (by decide) rfl rfl | exact VTo.fsNil (by decide) | exact VTo.fsSl rfl rfl (by simp [flat_len encE_len]) | exact VTo.fpPtr rfl | exact VTo.fsGl rfl (by first | rfl | exact flat_len encI_len _ | exact flat_len encT_len _ | exact flat_len encS_len _ | exact flat_len encP_len _ | exact flat_len encL_len _ | exact flat_len encE_len _ | (simp [flat_len encP_len]; done) | simp [flat_len encI_len, flat_len encS_len]))) ?_)) trivial trivial rfl) (by repeat' (first | exact VTo.undef | exact FrTo.leaf | refine FrTo.node ?_ ?_ ?_ | refine FrTo.none ?_ ?_ | exact VTo.sc (by first | rfl | (congr 1; omega) | (congr 1; simp; omega)) | exact VTos_dv _ _ | refine VTos.cons ?_ ?_ | exact VTos.nil | refine VTo.agg ?_ | refine VTo.tuple ?_ | refine VTo.func ?_ ?_ | exact VTo.fs | exact VTo.fp | exact VTo.nilptr | exact VTo.nilslice | exact VTo.nilfunc | exact VTo.ptr rfl | exact VTo.gl rfl | exact VTo.map rfl | exact VTo.yld rfl | exact VTo.fmMap rfl | exact VTo.fm | exact VTo.glNil' (by decide) rfl rfl | exact VTo.fsNil (by decide) | exact VTo.fsSl rfl rfl (by simp [flat_len encE_len]) | exact VTo.fpPtr rfl | exact VTo.fsGl rfl (by first | rfl | exact flat_len encI_len _ | exact flat_len encT_len _ | exact flat_len encS_len _ | exact flat_len encP_len _ | exact flat_len encL_len _ | exact flat_len encE_len _ | (simp [flat_len encP_len]; done) | simp [flat_len encI_len, flat_len encS_len]))) (by first | rfl | (repeat' (first | exact MkTo.nil | refine MkTo.keep rfl ?_ | refine MkTo.drop (by decide) rfl ?_)))
  · rintro ⟨k, w⟩ ⟨hk, hw⟩
    dsimp only at hk hw
    have hwk := hVk k
    have hnx : vIt bs (x1.2, []) (k + 1) = ((dNx bs w.1 2).2, w.2 ++ [(dNx bs w.1 2).1]) := by rw [vIt, hw]
    rw [← hw] at hwk
    obtain ⟨n1, n2, n3⟩ := hwk
    have y1 := dNx_bd bs w.1 2
    have g1 := fun (h2 : Hp) hh => vc_draw bs w.1 2 (.out i) h2 (by omega) hh
    generalize dNx bs w.1 2 = z at y1 g1 hnx
    conv => whnf
    refine VIte.dec (fun h3 => ?_) (fun h3 => ?_)
    · conv => whnf
      refine VDraw.go [(1, 3)] (by kernel_rfl) (by kernel_rfl) ?_
      conv => whnf
      repeat' (first | (refine VLd.intro rfl ?_; conv => whnf) | (refine VArith.i64 (by first | omega | (dsimp only; omega)) ?_; conv => whnf) | (refine VNeed.intro (by first | rfl | assumption | (simp; omega) | (simp; done)) ?_; conv => whnf) | (refine VMem.store rfl rfl rfl rfl ?_; conv => whnf) | (refine VSame.intro rfl ?_; conv => whnf) | (refine VIte.dec (fun _ => ?_) (fun _ => ?_) <;> conv => whnf) | (refine VIte.ndec (fun _ => ?_) (fun _ => ?_) <;> conv => whnf) | (refine VIte.beq (fun _ => ?_) (fun _ => ?_) <;> conv => whnf) | (refine VIte.bne (fun _ => ?_) (fun _ => ?_) <;> conv => whnf) | (refine VIte.intro (fun _ => ?_) (fun _ => ?_) <;> conv => whnf) | (refine VCall.intro (g1 _ (outW_get _ _ _ _)) ?_; conv => whnf))
      refine VMem.app1 (l := w.2) z.1 encI_len rfl rfl rfl rfl rfl (by omega) ?_
      conv => whnf
      repeat' (first | (refine VLd.intro rfl ?_; conv => whnf) | (refine VArith.i64 (by first | omega | (dsimp only; omega)) ?_; conv => whnf) | (refine VNeed.intro (by first | rfl | assumption | (simp; omega) | (simp; done)) ?_; conv => whnf) | (refine VMem.store rfl rfl rfl rfl ?_; conv => whnf) | (refine VSame.intro rfl ?_; conv => whnf) | (refine VIte.dec (fun _ => ?_) (fun _ => ?_) <;> conv => whnf) | (refine VIte.ndec (fun _ => ?_) (fun _ => ?_) <;> conv => whnf) | (refine VIte.beq (fun _ => ?_) (fun _ => ?_) <;> conv => whnf) | (refine VIte.bne (fun _ => ?_) (fun _ => ?_) <;> conv => whnf) | (refine VIte.intro (fun _ => ?_) (fun _ => ?_) <;> conv => whnf))
      refine LEndO.intro (k + 1, _) ⟨by dsimp only; omega, hnx.symm⟩ (by dsimp only; omega) ?_ ?_
      · funext j; by_cases e : j = i <;> simp [outW, e, Hp.set]
      · conv => whnf
        rw [List.length_append]
        refine Retell.turn ⟨[0,1,4], 5, [], []⟩ (TurnOk.mk' _ _ [] [] (OutOk.outW (OutOk.lift _) rfl) rfl (by decide) (by repeat' (first | exact BTos.nil | refine BTos.flat rfl rfl (by first | rfl | simp) ?_ | refine BTos.new rfl ?_ | refine BTos.dead rfl rfl ?_ | refine BTos.esE rfl rfl ?_ | refine BTos.row rfl rfl rfl (RowTo.snoc (RowTo.one rfl (by simp))) ?_ | refine BTos.cells rfl rfl rfl (by repeat' (first | exact VTo.undef | exact FrTo.leaf | refine FrTo.node ?_ ?_ ?_ | refine FrTo.none ?_ ?_ | exact VTo.sc (by first | rfl | (congr 1; omega) | (congr 1; simp; omega)) | exact VTos_dv _ _ | refine VTos.cons ?_ ?_ | exact VTos.nil | refine VTo.agg ?_ | refine VTo.tuple ?_ | refine VTo.func ?_ ?_ | exact VTo.fs | exact VTo.fp | exact VTo.nilptr | exact VTo.nilslice | exact VTo.nilfunc | exact VTo.ptr rfl | exact VTo.gl rfl | exact VTo.map rfl | exact VTo.yld rfl | exact VTo.fmMap rfl | exact VTo.fm | exact VTo.glNil' (by decide) rfl rfl | exact VTo.fsNil (by decide) | exact VTo.fsSl rfl rfl (by simp [flat_len encE_len]) | exact VTo.fpPtr rfl | exact VTo.fsGl rfl (by first | rfl | exact flat_len encI_len _ | exact flat_len encT_len _ | exact flat_len encS_len _ | exact flat_len encP_len _ | exact flat_len encL_len _ | exact flat_len encE_len _ | (simp [flat_len encP_len]; done) | simp [flat_len encI_len, flat_len encS_len]))) ?_)) trivial trivial rfl) (by repeat' (first | exact VTo.undef | exact FrTo.leaf | refine FrTo.node ?_ ?_ ?_ | refine FrTo.none ?_ ?_ | exact VTo.sc (by first | rfl | (congr 1; omega) | (congr 1; simp; omega)) | exact VTos_dv _ _ | refine VTos.cons ?_ ?_ | exact VTos.nil | refine VTo.agg ?_ | refine VTo.tuple ?_ | refine VTo.func ?_ ?_ | exact VTo.fs | exact VTo.fp | exact VTo.nilptr | exact VTo.nilslice | exact VTo.nilfunc | exact VTo.ptr rfl | exact VTo.gl rfl | exact VTo.map rfl | exact VTo.yld rfl | exact VTo.fmMap rfl | exact VTo.fm | exact VTo.glNil' (by decide) rfl rfl | exact VTo.fsNil (by decide) | exact VTo.fsSl rfl rfl (by simp [flat_len encE_len]) | exact VTo.fpPtr rfl | exact VTo.fsGl rfl (by first | rfl | exact flat_len encI_len _ | exact flat_len encT_len _ | exact flat_len encS_len _ | exact flat_len encP_len _ | exact flat_len encL_len _ | exact flat_len encE_len _ | (simp [flat_len encP_len]; done) | simp [flat_len encI_len, flat_len encS_len]))) (by first | rfl | (repeat' (first | exact MkTo.nil | refine MkTo.keep rfl ?_ | refine MkTo.drop (by decide) rfl ?_)))
    · have hkn : k = n := by dsimp only at h3; omega
      subst hkn
      rw [← hv0] at hw
      subst hw
      conv => whnf
      repeat' (first | (refine VLd.intro rfl ?_; conv => whnf) | (refine VArith.i64 (by first | omega | (dsimp only; omega)) ?_; conv => whnf) | (refine VNeed.intro (by first | rfl | assumption | (simp; omega) | (simp; done)) ?_; conv => whnf) | (refine VMem.store rfl rfl rfl rfl ?_; conv => whnf) | (refine VSame.intro rfl ?_; conv => whnf) | (refine VIte.dec (fun _ => ?_) (fun _ => ?_) <;> conv => whnf) | (refine VIte.ndec (fun _ => ?_) (fun _ => ?_) <;> conv => whnf) | (refine VIte.beq (fun _ => ?_) (fun _ => ?_) <;> conv => whnf) | (refine VIte.bne (fun _ => ?_) (fun _ => ?_) <;> conv => whnf) | (refine VIte.intro (fun _ => ?_) (fun _ => ?_) <;> conv => whnf) | (refine VCall.intro (c2 _ (outW_get _ _ _ _)) ?_; conv => whnf))
      refine VCode.lpo (fun y : Nat × (DS × List Str) => [(0, .ptr (.out i) 0), (4, .ptr (.loc 0) 0), (5, .ptr (.loc 1) 0), (22, I m), (23, I y.1)]) (fun y => outW h.lift i (deckB bs y.2.1))
        (fun y => [.flat true [.nilslice, .nilslice], .cells true [.gl (.loc 2) 4 y.2.2.length, ints w.2], .flat true (y.2.2.flatMap encT)]) (fun y => y.1 ≤ m ∧ y.2 = sIt bs w.2 (x2.2, []) y.1) (fun y => m - y.1) (0, (x2.2, [])) ⟨Nat.zero_le _, rfl⟩ ?_ ?_ ?_
      · funext j; by_cases e : j = i <;> simp [outW, e, Hp.set]
      · conv => whnf
        refine Retell.turn ⟨[0,1,3], 3, [(2, w.2.flatMap encI)], []⟩ (TurnOk.mk' _ _ [(2, w.2.flatMap encI)] [] (OutOk.outW (OutOk.lift _) rfl) rfl (by decide) (by repeat' (first | exact BTos.nil | refine BTos.flat rfl rfl (by first | rfl | simp) ?_ | refine BTos.new rfl ?_ | refine BTos.dead rfl rfl ?_ | refine BTos.esE rfl rfl ?_ | refine BTos.row rfl rfl rfl (RowTo.snoc (RowTo.one rfl (by simp))) ?_ | refine BTos.cells rfl rfl rfl (by repeat' (first | exact VTo.undef | exact FrTo.leaf | refine FrTo.node ?_ ?_ ?_ | refine FrTo.none ?_ ?_ | exact VTo.sc (by first | rfl | (congr 1; omega) | (congr 1; simp; omega)) | exact VTos_dv _ _ | refine VTos.cons ?_ ?_ | exact VTos.nil | refine VTo.agg ?_ | refine VTo.tuple ?_ | refine VTo.func ?_ ?_ | exact VTo.fs | exact VTo.fp | exact VTo.nilptr | exact VTo.nilslice | exact VTo.nilfunc | exact VTo.ptr rfl | exact VTo.gl rfl | exact VTo.map rfl | exact VTo.yld rfl | exact VTo.fmMap rfl | exact VTo.fm | exact VTo.glNil' (by decide) rfl rfl | exact VTo.fsNil (by decide) | exact VTo.fsSl rfl rfl (by simp [flat_len encE_len]) | exact VTo.fpPtr rfl | exact VTo.fsGl rfl (by first | rfl | exact flat_len encI_len _ | exact flat_len encT_len _ | exact flat_len encS_len _ | exact flat_len encP_len _ | exact flat_len encL_len _ | exact flat_len encE_len _ | (simp [flat_len encP_len]; done) | simp [flat_len encI_len, flat_len encS_len]))) ?_)) (by repeat' (first | exact FzAll.nil | refine FzAll.flat rfl ?_ | refine FzAll.row rfl rfl (RowTo.one rfl (by simp)) ?_)) trivial rfl) (by repeat' (first | exact VTo.undef | exact FrTo.leaf | refine FrTo.node ?_ ?_ ?_ | refine FrTo.none ?_ ?_ | exact VTo.sc (by first | rfl | (congr 1; omega) | (congr 1; simp; omega)) | exact VTos_dv _ _ | refine VTos.cons ?_ ?_ | exact VTos.nil | refine VTo.agg ?_ | refine VTo.tuple ?_ | refine VTo.func ?_ ?_ | exact VTo.fs | exact VTo.fp | exact VTo.nilptr | exact VTo.nilslice | exact VTo.nilfunc | exact VTo.ptr rfl | exact VTo.gl rfl | exact VTo.map rfl | exact VTo.yld rfl | exact VTo.fmMap rfl | exact VTo.fm | exact VTo.glNil' (by decide) rfl rfl | exact VTo.fsNil (by decide) | exact VTo.fsSl rfl rfl (by simp [flat_len encE_len]) | exact VTo.fpPtr rfl | exact VTo.fsGl rfl (by first | rfl | exact flat_len encI_len _ | exact flat_len encT_len _ | exact flat_len encS_len _ | exact flat_len encP_len _ | exact flat_len encL_len _ | exact flat_len encE_len _ | (simp [flat_len encP_len]; done) | simp [flat_len encI_len, flat_len encS_len]))) (by first | rfl | (repeat' (first | exact MkTo.nil | refine MkTo.keep rfl ?_ | refine MkTo.drop (by decide) rfl ?_)))
      · rintro ⟨k, u⟩ ⟨hk, hu⟩
        dsimp only at hk hu
        have huk := hSk k
        have hnx : sIt bs w.2 (x2.2, []) (k + 1) = ((sD4 bs u.1).2, u.2 ++ [sStr w.2 (sD1 bs u.1).1 (1 + (sD2 bs u.1).1) (1 + (sD3 bs u.1).1) (sD4 bs u.1).1]) := by rw [sIt, hu]
        rw [← hu] at huk
        obtain ⟨n1, n2, n3⟩ := huk
        have km : k ≤ 16 := by omega
        unfold sD4 sD3 sD2 sD1 at hnx
        have y1 := dNx_bd bs u.1 2
        have g1 := fun (h2 : Hp) hh => vc_draw bs u.1 2 (.out i) h2 (by omega) hh
        generalize dNx bs u.1 2 = z1 at y1 g1 hnx
        have y2 := dNx_bd bs z1.2 (59 - 1 + 1)
        have g2 := fun (h2 : Hp) hh => vc_between bs z1.2 1 59 (.out i) h2 (by omega) (by omega) (by omega) hh
        generalize dNx bs z1.2 (59 - 1 + 1) = z2 at y2 g2 hnx
        have y3 := dNx_bd bs z2.2 (59 - 1 + 1)
        have g3 := fun (h2 : Hp) hh => vc_between bs z2.2 1 59 (.out i) h2 (by omega) (by omega) (by omega) hh
        generalize dNx bs z2.2 (59 - 1 + 1) = z3 at y3 g3 hnx
        have y4 := dNx_bd bs z3.2 20
        have g4 := fun (h2 : Hp) hh => vc_draw bs z3.2 20 (.out i) h2 (by omega) hh
        generalize dNx bs z3.2 20 = z4 at y4 g4 hnx
        conv => whnf
        refine VIte.dec (fun h3 => ?_) (fun h3 => ?_)
        · conv => whnf
          repeat' (first | (refine VLd.intro rfl ?_; conv => whnf) | (refine VArith.i64 (by first | omega | (dsimp only; omega)) ?_; conv => whnf) | (refine VNeed.intro (by first | rfl | assumption | (simp; omega) | (simp; done)) ?_; conv => whnf) | (refine VMem.store rfl rfl rfl rfl ?_; conv => whnf) | (refine VSame.intro rfl ?_; conv => whnf) | (refine VIte.dec (fun _ => ?_) (fun _ => ?_) <;> conv => whnf) | (refine VIte.ndec (fun _ => ?_) (fun _ => ?_) <;> conv => whnf) | (refine VIte.beq (fun _ => ?_) (fun _ => ?_) <;> conv => whnf) | (refine VIte.bne (fun _ => ?_) (fun _ => ?_) <;> conv => whnf) | (refine VIte.intro (fun _ => ?_) (fun _ => ?_) <;> conv => whnf) | (refine VCall.intro (g1 _ (outW_get _ _ _ _)) ?_; conv => whnf) | (refine VCall.intro (g2 _ (outW_get _ _ _ _)) ?_; conv => whnf) | (refine VCall.intro (g3 _ (outW_get _ _ _ _)) ?_; conv => whnf) | (refine VCall.intro (g4 _ (outW_get _ _ _ _)) ?_; conv => whnf))
          · rename_i h5
            obtain ⟨v, hv⟩ : ∃ v : Nat, z4.1 = v := ⟨z4.1.toNat, by omega⟩
            rw [hv] at hnx h5
            have hvl : v < w.2.length := by omega
            have hva : w.2[v]? = some (w.2[v]) := List.getElem?_eq_getElem hvl
            have hst : sStr w.2 z1.1 (1 + z2.1) (1 + z3.1) (v : Int) = ⟨w.2[v], 1 + z2.1, 1 + z3.1, v⟩ := by
              unfold sStr vAt
              rw [if_pos (by omega), Int.toNat_natCast, List.getD_eq_getElem?_getD, hva, Option.getD_some]
            rw [hst] at hnx
            generalize w.2[v] = e at hva hnx
            simp only [hv]
            refine VDraw.go [(2, 7), (5, 7)] (by kernel_rfl) (by kernel_rfl) ?_
            conv => whnf
            repeat' (first | (refine VLd.intro rfl ?_; conv => whnf) | (refine VArith.i64 (by first | omega | (dsimp only; omega)) ?_; conv => whnf) | (refine VNeed.intro (by first | rfl | assumption | (simp; omega) | (simp; done)) ?_; conv => whnf) | (refine VMem.store rfl rfl rfl rfl ?_; conv => whnf) | (refine VSame.intro rfl ?_; conv => whnf) | (refine VIte.dec (fun _ => ?_) (fun _ => ?_) <;> conv => whnf) | (refine VIte.ndec (fun _ => ?_) (fun _ => ?_) <;> conv => whnf) | (refine VIte.beq (fun _ => ?_) (fun _ => ?_) <;> conv => whnf) | (refine VIte.bne (fun _ => ?_) (fun _ => ?_) <;> conv => whnf) | (refine VIte.intro (fun _ => ?_) (fun _ => ?_) <;> conv => whnf) | (refine VAny.ix encI_len v rfl rfl hva ?_; conv => whnf))
            refine VMem.app1 (l := u.2) (⟨e, 1 + z2.1, 1 + z3.1, v⟩ : Str) encT_len rfl rfl rfl rfl rfl (by omega) ?_
            conv => whnf
            repeat' (first | (refine VLd.intro rfl ?_; conv => whnf) | (refine VArith.i64 (by first | omega | (dsimp only; omega)) ?_; conv => whnf) | (refine VNeed.intro (by first | rfl | assumption | (simp; omega) | (simp; done)) ?_; conv => whnf) | (refine VMem.store rfl rfl rfl rfl ?_; conv => whnf) | (refine VSame.intro rfl ?_; conv => whnf) | (refine VIte.dec (fun _ => ?_) (fun _ => ?_) <;> conv => whnf) | (refine VIte.ndec (fun _ => ?_) (fun _ => ?_) <;> conv => whnf) | (refine VIte.beq (fun _ => ?_) (fun _ => ?_) <;> conv => whnf) | (refine VIte.bne (fun _ => ?_) (fun _ => ?_) <;> conv => whnf) | (refine VIte.intro (fun _ => ?_) (fun _ => ?_) <;> conv => whnf))
            refine LEndO.intro (k + 1, _) ⟨by dsimp only; omega, hnx.symm⟩ (by dsimp only; omega) ?_ ?_
            · funext j; by_cases e : j = i <;> simp [outW, e, Hp.set]
            · conv => whnf
              rw [List.length_append]
              refine Retell.turn ⟨[0,1,5], 6, [], []⟩ (TurnOk.mk' _ _ [] [] (OutOk.outW (OutOk.lift _) rfl) rfl (by decide) (by repeat' (first | exact BTos.nil | refine BTos.flat rfl rfl (by first | rfl | simp) ?_ | refine BTos.new rfl ?_ | refine BTos.dead rfl rfl ?_ | refine BTos.esE rfl rfl ?_ | refine BTos.row rfl rfl rfl (RowTo.snoc (RowTo.one rfl (by simp))) ?_ | refine BTos.cells rfl rfl rfl (by repeat' (first | exact VTo.undef | exact FrTo.leaf | refine FrTo.node ?_ ?_ ?_ | refine FrTo.none ?_ ?_ | exact VTo.sc (by first | rfl | (congr 1; omega) | (congr 1; simp; omega)) | exact VTos_dv _ _ | refine VTos.cons ?_ ?_ | exact VTos.nil | refine VTo.agg ?_ | refine VTo.tuple ?_ | refine VTo.func ?_ ?_ | exact VTo.fs | exact VTo.fp | exact VTo.nilptr | exact VTo.nilslice | exact VTo.nilfunc | exact VTo.ptr rfl | exact VTo.gl rfl | exact VTo.map rfl | exact VTo.yld rfl | exact VTo.fmMap rfl | exact VTo.fm | exact VTo.glNil' (by decide) rfl rfl | exact VTo.fsNil (by decide) | exact VTo.fsSl rfl rfl (by simp [flat_len encE_len]) | exact VTo.fpPtr rfl | exact VTo.fsGl rfl (by first | rfl | exact flat_len encI_len _ | exact flat_len encT_len _ | exact flat_len encS_len _ | exact flat_len encP_len _ | exact flat_len encL_len _ | exact flat_len encE_len _ | (simp [flat_len encP_len]; done) | simp [flat_len encI_len, flat_len encS_len]))) ?_)) trivial trivial rfl) (by repeat' (first | exact VTo.undef | exact FrTo.leaf | refine FrTo.node ?_ ?_ ?_ | refine FrTo.none ?_ ?_ | exact VTo.sc (by first | rfl | (congr 1; omega) | (congr 1; simp; omega)) | exact VTos_dv _ _ | refine VTos.cons ?_ ?_ | exact VTos.nil | refine VTo.agg ?_ | refine VTo.tuple ?_ | refine VTo.func ?_ ?_ | exact VTo.fs | exact VTo.fp | exact VTo.nilptr | exact VTo.nilslice | exact VTo.nilfunc | exact VTo.ptr rfl | exact VTo.gl rfl | exact VTo.map rfl | exact VTo.yld rfl | exact VTo.fmMap rfl | exact VTo.fm | exact VTo.glNil' (by decide) rfl rfl | exact VTo.fsNil (by decide) | exact VTo.fsSl rfl rfl (by simp [flat_len encE_len]) | exact VTo.fpPtr rfl | exact VTo.fsGl rfl (by first | rfl | exact flat_len encI_len _ | exact flat_len encT_len _ | exact flat_len encS_len _ | exact flat_len encP_len _ | exact flat_len encL_len _ | exact flat_len encE_len _ | (simp [flat_len encP_len]; done) | simp [flat_len encI_len, flat_len encS_len]))) (by first | rfl | (repeat' (first | exact MkTo.nil | refine MkTo.keep rfl ?_ | refine MkTo.drop (by decide) rfl ?_)))
          · rename_i h5
            have hst : sStr w.2 z1.1 (1 + z2.1) (1 + z3.1) z4.1 = ⟨z1.1, 1 + z2.1, 1 + z3.1, -1⟩ := by
              unfold sStr; rw [if_neg h5]
            rw [hst] at hnx
            refine VMem.app1 (l := u.2) (⟨z1.1, 1 + z2.1, 1 + z3.1, -1⟩ : Str) encT_len rfl rfl rfl rfl rfl (by omega) ?_
            conv => whnf
            repeat' (first | (refine VLd.intro rfl ?_; conv => whnf) | (refine VArith.i64 (by first | omega | (dsimp only; omega)) ?_; conv => whnf) | (refine VNeed.intro (by first | rfl | assumption | (simp; omega) | (simp; done)) ?_; conv => whnf) | (refine VMem.store rfl rfl rfl rfl ?_; conv => whnf) | (refine VSame.intro rfl ?_; conv => whnf) | (refine VIte.dec (fun _ => ?_) (fun _ => ?_) <;> conv => whnf) | (refine VIte.ndec (fun _ => ?_) (fun _ => ?_) <;> conv => whnf) | (refine VIte.beq (fun _ => ?_) (fun _ => ?_) <;> conv => whnf) | (refine VIte.bne (fun _ => ?_) (fun _ => ?_) <;> conv => whnf) | (refine VIte.intro (fun _ => ?_) (fun _ => ?_) <;> conv => whnf))
            refine LEndO.intro (k + 1, _) ⟨by dsimp only; omega, hnx.symm⟩ (by dsimp only; omega) ?_ ?_
            · funext j; by_cases e : j = i <;> simp [outW, e, Hp.set]
            · conv => whnf
              rw [List.length_append]
              refine Retell.turn ⟨[0,1,5], 6, [], []⟩ (TurnOk.mk' _ _ [] [] (OutOk.outW (OutOk.lift _) rfl) rfl (by decide) (by repeat' (first | exact BTos.nil | refine BTos.flat rfl rfl (by first | rfl | simp) ?_ | refine BTos.new rfl ?_ | refine BTos.dead rfl rfl ?_ | refine BTos.esE rfl rfl ?_ | refine BTos.row rfl rfl rfl (RowTo.snoc (RowTo.one rfl (by simp))) ?_ | refine BTos.cells rfl rfl rfl (by repeat' (first | exact VTo.undef | exact FrTo.leaf | refine FrTo.node ?_ ?_ ?_ | refine FrTo.none ?_ ?_ | exact VTo.sc (by first | rfl | (congr 1; omega) | (congr 1; simp; omega)) | exact VTos_dv _ _ | refine VTos.cons ?_ ?_ | exact VTos.nil | refine VTo.agg ?_ | refine VTo.tuple ?_ | refine VTo.func ?_ ?_ | exact VTo.fs | exact VTo.fp | exact VTo.nilptr | exact VTo.nilslice | exact VTo.nilfunc | exact VTo.ptr rfl | exact VTo.gl rfl | exact VTo.map rfl | exact VTo.yld rfl | exact VTo.fmMap rfl | exact VTo.fm | exact VTo.glNil' (by decide) rfl rfl | exact VTo.fsNil (by decide) | exact VTo.fsSl rfl rfl (by simp [flat_len encE_len]) | exact VTo.fpPtr rfl | exact VTo.fsGl rfl (by first | rfl | exact flat_len encI_len _ | exact flat_len encT_len _ | exact flat_len encS_len _ | exact flat_len encP_len _ | exact flat_len encL_len _ | exact flat_len encE_len _ | (simp [flat_len encP_len]; done) | simp [flat_len encI_len, flat_len encS_len]))) ?_)) trivial trivial rfl) (by repeat' (first | exact VTo.undef | exact FrTo.leaf | refine FrTo.node ?_ ?_ ?_ | refine FrTo.none ?_ ?_ | exact VTo.sc (by first | rfl | (congr 1; omega) | (congr 1; simp; omega)) | exact VTos_dv _ _ | refine VTos.cons ?_ ?_ | exact VTos.nil | refine VTo.agg ?_ | refine VTo.tuple ?_ | refine VTo.func ?_ ?_ | exact VTo.fs | exact VTo.fp | exact VTo.nilptr | exact VTo.nilslice | exact VTo.nilfunc | exact VTo.ptr rfl | exact VTo.gl rfl | exact VTo.map rfl | exact VTo.yld rfl | exact VTo.fmMap rfl | exact VTo.fm | exact VTo.glNil' (by decide) rfl rfl | exact VTo.fsNil (by decide) | exact VTo.fsSl rfl rfl (by simp [flat_len encE_len]) | exact VTo.fpPtr rfl | exact VTo.fsGl rfl (by first | rfl | exact flat_len encI_len _ | exact flat_len encT_len _ | exact flat_len encS_len _ | exact flat_len encP_len _ | exact flat_len encL_len _ | exact flat_len encE_len _ | (simp [flat_len encP_len]; done) | simp [flat_len encI_len, flat_len encS_len]))) (by first | rfl | (repeat' (first | exact MkTo.nil | refine MkTo.keep rfl ?_ | refine MkTo.drop (by decide) rfl ?_)))
        · have hkm : k = m := by dsimp only at h3; omega
          subst hkm
          rw [← hR] at hu
          subst hu
          conv => whnf
          repeat' (first | (refine VLd.intro rfl ?_; conv => whnf) | (refine VArith.i64 (by first | omega | (dsimp only; omega)) ?_; conv => whnf) | (refine VNeed.intro (by first | rfl | assumption | (simp; omega) | (simp; done)) ?_; conv => whnf) | (refine VMem.store rfl rfl rfl rfl ?_; conv => whnf) | (refine VSame.intro rfl ?_; conv => whnf) | (refine VIte.dec (fun _ => ?_) (fun _ => ?_) <;> conv => whnf) | (refine VIte.ndec (fun _ => ?_) (fun _ => ?_) <;> conv => whnf) | (refine VIte.beq (fun _ => ?_) (fun _ => ?_) <;> conv => whnf) | (refine VIte.bne (fun _ => ?_) (fun _ => ?_) <;> conv => whnf) | (refine VIte.intro (fun _ => ?_) (fun _ => ?_) <;> conv => whnf))
          refine VOut.turn ⟨[], 3, [(2, u.2.flatMap encT)], []⟩ (loc' := []) (r1' := vL ⟨u.2, w.2⟩) (TurnOk.mk' [] 3 [(2, u.2.flatMap encT)] [] (OutOk.outW (OutOk.lift _) rfl) rfl List.nodup_nil BTos.nil (FzAll.flat rfl FzAll.nil) trivial rfl) (by repeat' (first | exact VTo.undef | exact FrTo.leaf | refine FrTo.node ?_ ?_ ?_ | refine FrTo.none ?_ ?_ | exact VTo.sc (by first | rfl | (congr 1; omega) | (congr 1; simp; omega)) | exact VTos_dv _ _ | refine VTos.cons ?_ ?_ | exact VTos.nil | refine VTo.agg ?_ | refine VTo.tuple ?_ | refine VTo.func ?_ ?_ | exact VTo.fs | exact VTo.fp | exact VTo.nilptr | exact VTo.nilslice | exact VTo.nilfunc | exact VTo.ptr rfl | exact VTo.gl rfl | exact VTo.map rfl | exact VTo.yld rfl | exact VTo.fmMap rfl | exact VTo.fm | exact VTo.glNil' (by decide) rfl rfl | exact VTo.fsNil (by decide) | exact VTo.fsSl rfl rfl (by simp [flat_len encE_len]) | exact VTo.fpPtr rfl | exact VTo.fsGl rfl (by first | rfl | exact flat_len encI_len _ | exact flat_len encT_len _ | exact flat_len encS_len _ | exact flat_len encP_len _ | exact flat_len encL_len _ | exact flat_len encE_len _ | (simp [flat_len encP_len]; done) | simp [flat_len encI_len, flat_len encS_len]))) ?_
          exact VOut.setF (L := 0) rfl hd fun _ => rfl
end Go.Proofs.Ytmpjpjfkbmlmfaa

open Go.Vm
namespace Go.Proofs.Ytmpjpjfkbmlmfaa
set_option maxRecDepth 20000
set_option maxHeartbeats 4000000

/-! An exchange that is dealt. -/
def t1 (bs : List Int) (w : Int) (d : DS) : Int × DS := dNx bs d (w + 1)
def t2 (bs : List Int) (w : Int) (d : DS) : Int × DS := dNx bs (t1 bs w d).2 2
def t3 (bs : List Int) (w : Int) (d : DS) : Int × DS := dNx bs (t2 bs w d).2 2
def tP (bs : List Int) (w : Int) (s : Str) (d : DS) : Int := bif isFree s then (bif (t2 bs w d).1 == 0 then w * (t3 bs w d).1 else (t1 bs w d).1) else w * (1 - s.ow)
def tD (bs : List Int) (w : Int) (d : DS) : DS := bif (t2 bs w d).1 == 0 then (t3 bs w d).2 else (t2 bs w d).2
def tIt (bs : List Int) (w : Int) : List Str → DS × List Int → DS × List Int
  | [], x => x
  | s :: ss, x => tIt bs w ss (tD bs w x.1, x.2 ++ [tP bs w s x.1])
def tW (bs : List Int) (d : DS) : Int × DS := dNx bs d (12 - 1 + 1)
def tR (bs : List Int) (d : DS) (l : Lnd) : DS × List Int := tIt bs (1 + (tW bs d).1) l.ss ((tW bs d).2, [])
def tX (bs : List Int) (d : DS) (l : Lnd) : Exc := ⟨1 + (tW bs d).1, (tR bs d l).2⟩
theorem t_bd (bs : List Int) {w : Int} (hw : 1 ≤ w ∧ w ≤ 12) {s : Str} (d : DS) (hs : s.ow = 0 ∨ s.ow = 1) : (tD bs w d).1 ≤ d.1 + 3 ∧ 0 ≤ tP bs w s d ∧ tP bs w s d ≤ w ∧ (isFree s = true ∨ tP bs w s d = w * (1 - s.ow)) := by
  obtain ⟨a1, a2, a3⟩ := dNx_bd bs d (w + 1)
  obtain ⟨b1, b2, b3⟩ := dNx_bd bs (t1 bs w d).2 2
  obtain ⟨c1, c2, c3⟩ := dNx_bd bs (t2 bs w d).2 2
  have e1 : dNx bs d (w + 1) = t1 bs w d := rfl
  have e2 : dNx bs (t1 bs w d).2 2 = t2 bs w d := rfl
  have e3 : dNx bs (t2 bs w d).2 2 = t3 bs w d := rfl
  rw [e1] at a1 a2 a3
  rw [e2] at b1 b2 b3
  rw [e3] at c1 c2 c3
  unfold tD tP
  generalize t3 bs w d = y3 at *
  generalize t2 bs w d = y2 at *
  generalize t1 bs w d = y1 at *
  have hm : 0 ≤ w * y3.1 ∧ w * y3.1 ≤ w := by
    have : y3.1 = 0 ∨ y3.1 = 1 := by omega
    rcases this with h | h <;> rw [h] <;> omega
  have ho : 0 ≤ w * (1 - s.ow) ∧ w * (1 - s.ow) ≤ w := by rcases hs with h | h <;> rw [h] <;> omega
  cases isFree s <;> cases y2.1 == 0 <;> simp only [cond_true, cond_false] <;> exact ⟨by omega, by omega, by omega, by simp⟩
structure TOk2 (w : Int) (N k : Nat) (x : DS × List Int) : Prop where
  n : x.1.1 ≤ N + 3 * k
  len : x.2.length = k
  ps : ∀ p ∈ x.2, 0 ≤ p ∧ p ≤ w
/-- What is dealt for the first ones. -/
theorem tIt_take (bs : List Int) (w : Int) {s : Str} : ∀ {ss : List Str} {k : Nat} {x : DS × List Int}, ss[k]? = some s → tIt bs w (ss.take (k + 1)) x = (tD bs w (tIt bs w (ss.take k) x).1, (tIt bs w (ss.take k) x).2 ++ [tP bs w s (tIt bs w (ss.take k) x).1])
  | [], _, _, h => by simp at h
  | t :: ss, 0, x, h => by simp at h; subst h; simp [tIt]
  | t :: ss, k + 1, x, h => by
    rw [List.take_succ_cons, List.take_succ_cons, tIt, tIt, tIt_take bs w (by simpa using h)]
structure TA (l : Lnd) (w : Int) (k : Nat) (ps : List Int) : Prop where
  al : ∀ (i : Nat) (s : Str) (p : Int), i < k → l.ss[i]? = some s → ps[i]? = some p → isFree s = true ∨ p = w * (1 - s.ow)
theorem tIt_ok {bs : List Int} {l : Lnd} (o : Ok l) {w : Int} (hw : 1 ≤ w ∧ w ≤ 12) {d : DS} : ∀ k, k ≤ l.ss.length → TOk2 w d.1 k (tIt bs w (l.ss.take k) (d, [])) ∧ TA l w k (tIt bs w (l.ss.take k) (d, [])).2
  | 0, _ => ⟨⟨by simp [tIt], by simp [tIt], by simp [tIt]⟩, ⟨fun i s p h => by omega⟩⟩
  | k + 1, hk => by
    obtain ⟨⟨h1, h2, h3⟩, ⟨h4⟩⟩ := tIt_ok (bs := bs) o hw (d := d) k (by omega)
    have hs : l.ss[k]? = some (l.ss[k]'(by omega)) := List.getElem?_eq_getElem _
    have os := (o.ss _ (List.getElem_mem (by omega : k < l.ss.length))).ow
    rw [tIt_take bs w hs]
    generalize l.ss[k]'(by omega) = s at hs os
    generalize tIt bs w (l.ss.take k) (d, []) = x at *
    obtain ⟨q1, q2, q3, q4⟩ := t_bd bs hw x.1 os
    refine ⟨⟨by dsimp only; omega, by simp [h2], fun p hp => ?_⟩, ⟨fun i s' p hi e1 e2 => ?_⟩⟩
    · rcases List.mem_append.1 hp with hp | hp
      · exact h3 p hp
      · rw [List.mem_singleton] at hp; omega
    · dsimp only at e2
      rcases Nat.eq_or_lt_of_le (Nat.le_of_lt_succ hi) with rfl | h
      · rw [hs] at e1; cases e1
        rw [List.getElem?_append_right (by omega), h2, Nat.sub_self] at e2
        simp at e2; subst e2
        exact q4
      · rw [List.getElem?_append_left (by omega)] at e2
        exact h4 i s' p h e1 e2
theorem tX_alw (bs : List Int) (d : DS) {l : Lnd} (o : Ok l) : Alw l (tX bs d l) ∧ (tR bs d l).1.1 ≤ d.1 + 60 ∧ (tX bs d l).w ≤ 12 := by
  obtain ⟨a1, a2, a3⟩ := dNx_bd bs d (12 - 1 + 1)
  have e : dNx bs d (12 - 1 + 1) = tW bs d := rfl
  rw [e] at a1 a2 a3
  have hw : 1 ≤ 1 + (tW bs d).1 ∧ 1 + (tW bs d).1 ≤ 12 := by omega
  have hn := o.n
  obtain ⟨⟨h1, h2, h3⟩, ⟨h4⟩⟩ := tIt_ok (bs := bs) o hw (d := (tW bs d).2) l.ss.length (Nat.le_refl _)
  rw [List.take_length] at h1 h2 h3 h4
  have e2 : tIt bs (1 + (tW bs d).1) l.ss ((tW bs d).2, []) = tR bs d l := rfl
  rw [e2] at h1 h2 h3 h4
  refine ⟨⟨⟨?_, h2, h3⟩, fun i s p hs hp => h4 i s p (List.getElem?_eq_some_iff.1 hs).1 hs hp⟩, by omega, hw.2⟩
  show 1 ≤ 1 + (tW bs d).1 ∧ 1 + (tW bs d).1 ≤ 2000
  omega
theorem vc_Tried (bs : List Int) (d : DS) (l : Lnd) (i : Vm.Id) (h : Hp) (o : Ok l) (hN : d.1 ≤ 1000000) (hd : h.get i = some (deckB bs d)) :
    VC Try.prog 28 [.ptr i 0, vL l] h (vX (tX bs d l)) (h.set i (deckB bs (tR bs d l).1)) := by
  have hn := o.n
  have y0 := dNx_bd bs d (12 - 1 + 1)
  have g0 := fun (h2 : Hp) hh => vc_between bs d 1 12 (.out i) h2 (by omega) (by omega) (by omega) hh
  unfold tX
  obtain ⟨R, hR⟩ : ∃ R, R = tR bs d l := ⟨_, rfl⟩
  rw [← hR]
  unfold tR at hR
  have e : dNx bs d (12 - 1 + 1) = tW bs d := rfl
  rw [e] at y0 g0
  generalize tW bs d = z0 at y0 g0 hR ⊢
  obtain ⟨w, hw⟩ : ∃ w, w = 1 + z0.1 := ⟨_, rfl⟩
  rw [← hw] at g0 hR ⊢
  have hw2 : 1 ≤ w ∧ w ≤ 12 := by omega
  have hT := fun k hk => (tIt_ok (bs := bs) o hw2 (d := z0.2) k hk).1
  refine VC.body Try.func28 rfl Try.ntmps28 Try.call28 (h.grows_set _ _) rfl ?_
  conv => whnf
  repeat' (first | (refine VLd.intro rfl ?_; conv => whnf) | (refine VArith.i64 (by first | omega | (dsimp only; omega)) ?_; conv => whnf) | (refine VNeed.intro (by first | rfl | assumption | (simp; omega) | (simp; done)) ?_; conv => whnf) | (refine VMem.store rfl rfl rfl rfl ?_; conv => whnf) | (refine VSame.intro rfl ?_; conv => whnf) | (refine VDraw.go [] (by kernel_rfl) (by kernel_rfl) ?_; conv => whnf) | (refine VIte.dec (fun _ => ?_) (fun _ => ?_) <;> conv => whnf) | (refine VIte.ndec (fun _ => ?_) (fun _ => ?_) <;> conv => whnf) | (refine VIte.beq (fun _ => ?_) (fun _ => ?_) <;> conv => whnf) | (refine VIte.bne (fun _ => ?_) (fun _ => ?_) <;> conv => whnf) | (refine VIte.intro (fun _ => ?_) (fun _ => ?_) <;> conv => whnf) | (refine VCall.intro (g0 _ (get_out hd _)) ?_; conv => whnf))
  refine VCode.lpo (fun y : Nat × (DS × List Int) => [(0, .ptr (.out i) 0), (4, .ptr (.loc 0) 0), (5, .ptr (.loc 1) 0), (13, strs l.ss), (14, I l.ss.length), (15, I y.1)]) (fun y => outW h.lift i (deckB bs y.2.1))
    (fun y => [.flat true [DI 0, .nilslice], .cells true [I w, .gl (.loc 2) 1 y.2.2.length], .flat true (y.2.2.flatMap encI)]) (fun y => y.1 ≤ l.ss.length ∧ y.2 = tIt bs w (l.ss.take y.1) (z0.2, [])) (fun y => l.ss.length - y.1) (0, (z0.2, [])) ⟨Nat.zero_le _, rfl⟩ ?_ ?_ ?_
  · funext j; by_cases e : j = i <;> simp [outW, e, Hp.set]
  · conv => whnf
    refine Retell.turn ⟨[1,2,3], 3, [], []⟩ (TurnOk.mk' _ _ [] [] (OutOk.outW (OutOk.lift _) rfl) rfl (by decide) (by repeat' (first | exact BTos.nil | refine BTos.flat rfl rfl (by first | rfl | simp) ?_ | refine BTos.new rfl ?_ | refine BTos.dead rfl rfl ?_ | refine BTos.esE rfl rfl ?_ | refine BTos.row rfl rfl rfl (RowTo.snoc (RowTo.one rfl (by simp))) ?_ | refine BTos.cells rfl rfl rfl (by repeat' (first | exact VTo.undef | exact FrTo.leaf | refine FrTo.node ?_ ?_ ?_ | refine FrTo.none ?_ ?_ | exact VTo.sc (by first | rfl | (congr 1; omega) | (congr 1; simp; omega)) | exact VTos_dv _ _ | refine VTos.cons ?_ ?_ | exact VTos.nil | refine VTo.agg ?_ | refine VTo.tuple ?_ | refine VTo.func ?_ ?_ | exact VTo.fs | exact VTo.fp | exact VTo.nilptr | exact VTo.nilslice | exact VTo.nilfunc | exact VTo.ptr rfl | exact VTo.gl rfl | exact VTo.map rfl | exact VTo.yld rfl | exact VTo.fmMap rfl | exact VTo.fm | exact VTo.glNil' (by decide) rfl rfl | exact VTo.fsNil (by decide) | exact VTo.fsSl rfl rfl (by simp [flat_len encE_len]) | exact VTo.fpPtr rfl | exact VTo.fsGl rfl (by first | rfl | exact flat_len encI_len _ | exact flat_len encT_len _ | exact flat_len encS_len _ | exact flat_len encP_len _ | exact flat_len encL_len _ | exact flat_len encE_len _ | (simp [flat_len encP_len]; done) | simp [flat_len encI_len, flat_len encS_len]))) ?_)) trivial trivial rfl) (by repeat' (first | exact VTo.undef | exact FrTo.leaf | refine FrTo.node ?_ ?_ ?_ | refine FrTo.none ?_ ?_ | exact VTo.sc (by first | rfl | (congr 1; omega) | (congr 1; simp; omega)) | exact VTos_dv _ _ | refine VTos.cons ?_ ?_ | exact VTos.nil | refine VTo.agg ?_ | refine VTo.tuple ?_ | refine VTo.func ?_ ?_ | exact VTo.fs | exact VTo.fp | exact VTo.nilptr | exact VTo.nilslice | exact VTo.nilfunc | exact VTo.ptr rfl | exact VTo.gl rfl | exact VTo.map rfl | exact VTo.yld rfl | exact VTo.fmMap rfl | exact VTo.fm | exact VTo.glNil' (by decide) rfl rfl | exact VTo.fsNil (by decide) | exact VTo.fsSl rfl rfl (by simp [flat_len encE_len]) | exact VTo.fpPtr rfl | exact VTo.fsGl rfl (by first | rfl | exact flat_len encI_len _ | exact flat_len encT_len _ | exact flat_len encS_len _ | exact flat_len encP_len _ | exact flat_len encL_len _ | exact flat_len encE_len _ | (simp [flat_len encP_len]; done) | simp [flat_len encI_len, flat_len encS_len]))) (by first | rfl | (repeat' (first | exact MkTo.nil | refine MkTo.keep rfl ?_ | refine MkTo.drop (by decide) rfl ?_)))
  · rintro ⟨k, u⟩ ⟨hk, hu⟩
    dsimp only at hk hu
    have huk := hT k hk
    rw [← hu] at huk
    obtain ⟨n1, n2, n3⟩ := huk
    conv => whnf
    refine VIte.dec (fun h3 => ?_) (fun h3 => ?_)
    · have hkl : k < l.ss.length := by omega
      have hs : l.ss[k]? = some l.ss[k] := List.getElem?_eq_getElem hkl
      have os := o.ss _ (List.getElem_mem hkl)
      have hnx := tIt_take bs w (x := (z0.2, [])) hs
      rw [← hu] at hnx
      generalize l.ss[k] = s at hs os hnx
      unfold tP tD t3 t2 t1 at hnx
      have how := os.ow
      have y1 := dNx_bd bs u.1 (w + 1)
      have g1 := fun (h2 : Hp) hh => vc_draw bs u.1 (w + 1) (.out i) h2 (by omega) hh
      generalize dNx bs u.1 (w + 1) = z1 at y1 g1 hnx
      have y2 := dNx_bd bs z1.2 2
      have g2 := fun (h2 : Hp) hh => vc_coin bs z1.2 2 (.out i) h2 (by omega) hh
      generalize dNx bs z1.2 2 = z2 at y2 g2 hnx
      have y3 := dNx_bd bs z2.2 2
      have g3 := fun (h2 : Hp) hh => vc_draw bs z2.2 2 (.out i) h2 (by omega) hh
      generalize dNx bs z2.2 2 = z3 at y3 g3 hnx
      have hm : 0 ≤ w * z3.1 ∧ w * z3.1 ≤ w := by
        have : z3.1 = 0 ∨ z3.1 = 1 := by omega
        rcases this with h | h <;> rw [h] <;> omega
      have ho : 0 ≤ w * (1 - s.ow) ∧ w * (1 - s.ow) ≤ w := by rcases how with h | h <;> rw [h] <;> omega
      generalize hc : (z2.1 == 0) = c at g2 hnx
      conv => whnf
      cases c
      · repeat' (first | (refine VLd.intro rfl ?_; conv => whnf) | (refine VArith.i64 (by first | omega | (dsimp only; omega)) ?_; conv => whnf) | (refine VNeed.intro (by first | rfl | assumption | (simp; omega) | (simp; done)) ?_; conv => whnf) | (refine VMem.store rfl rfl rfl rfl ?_; conv => whnf) | (refine VSame.intro rfl ?_; conv => whnf) | (refine VIte.dec (fun _ => ?_) (fun _ => ?_) <;> conv => whnf) | (refine VIte.ndec (fun _ => ?_) (fun _ => ?_) <;> conv => whnf) | (refine VIte.beq (fun _ => ?_) (fun _ => ?_) <;> conv => whnf) | (refine VIte.bne (fun _ => ?_) (fun _ => ?_) <;> conv => whnf) | (refine VIte.intro (fun _ => ?_) (fun _ => ?_) <;> conv => whnf) | (refine VCall.intro (g1 _ (outW_get _ _ _ _)) ?_; conv => whnf) | (refine VCall.intro (g2 _ (outW_get _ _ _ _)) ?_; conv => whnf) | (refine VAny.ix encT_len k rfl rfl hs ?_; conv => whnf))
        · rename_i h5
          have hf : isFree s = false := decide_eq_false h5
          rw [hf] at hnx
          simp only [cond_false] at hnx
          refine VMem.app1 (l := u.2) (w * (1 - s.ow)) encI_len rfl rfl rfl rfl rfl (by omega) ?_
          conv => whnf
          repeat' (first | (refine VLd.intro rfl ?_; conv => whnf) | (refine VArith.i64 (by first | omega | (dsimp only; omega)) ?_; conv => whnf) | (refine VNeed.intro (by first | rfl | assumption | (simp; omega) | (simp; done)) ?_; conv => whnf) | (refine VMem.store rfl rfl rfl rfl ?_; conv => whnf) | (refine VSame.intro rfl ?_; conv => whnf) | (refine VIte.dec (fun _ => ?_) (fun _ => ?_) <;> conv => whnf) | (refine VIte.ndec (fun _ => ?_) (fun _ => ?_) <;> conv => whnf) | (refine VIte.beq (fun _ => ?_) (fun _ => ?_) <;> conv => whnf) | (refine VIte.bne (fun _ => ?_) (fun _ => ?_) <;> conv => whnf) | (refine VIte.intro (fun _ => ?_) (fun _ => ?_) <;> conv => whnf))
          refine LEndO.intro (k + 1, _) ⟨by dsimp only; omega, hnx.symm⟩ (by dsimp only; omega) ?_ ?_
          · funext j; by_cases e : j = i <;> simp [outW, e, Hp.set]
          · conv => whnf
            rw [List.length_append]
            refine Retell.turn ⟨[0,1,5], 6, [], []⟩ (TurnOk.mk' _ _ [] [] (OutOk.outW (OutOk.lift _) rfl) rfl (by decide) (by repeat' (first | exact BTos.nil | refine BTos.flat rfl rfl (by first | rfl | simp) ?_ | refine BTos.new rfl ?_ | refine BTos.dead rfl rfl ?_ | refine BTos.esE rfl rfl ?_ | refine BTos.row rfl rfl rfl (RowTo.snoc (RowTo.one rfl (by simp))) ?_ | refine BTos.cells rfl rfl rfl (by repeat' (first | exact VTo.undef | exact FrTo.leaf | refine FrTo.node ?_ ?_ ?_ | refine FrTo.none ?_ ?_ | exact VTo.sc (by first | rfl | (congr 1; omega) | (congr 1; simp; omega)) | exact VTos_dv _ _ | refine VTos.cons ?_ ?_ | exact VTos.nil | refine VTo.agg ?_ | refine VTo.tuple ?_ | refine VTo.func ?_ ?_ | exact VTo.fs | exact VTo.fp | exact VTo.nilptr | exact VTo.nilslice | exact VTo.nilfunc | exact VTo.ptr rfl | exact VTo.gl rfl | exact VTo.map rfl | exact VTo.yld rfl | exact VTo.fmMap rfl | exact VTo.fm | exact VTo.glNil' (by decide) rfl rfl | exact VTo.fsNil (by decide) | exact VTo.fsSl rfl rfl (by simp [flat_len encE_len]) | exact VTo.fpPtr rfl | exact VTo.fsGl rfl (by first | rfl | exact flat_len encI_len _ | exact flat_len encT_len _ | exact flat_len encS_len _ | exact flat_len encP_len _ | exact flat_len encL_len _ | exact flat_len encE_len _ | (simp [flat_len encP_len]; done) | simp [flat_len encI_len, flat_len encS_len]))) ?_)) trivial trivial rfl) (by repeat' (first | exact VTo.undef | exact FrTo.leaf | refine FrTo.node ?_ ?_ ?_ | refine FrTo.none ?_ ?_ | exact VTo.sc (by first | rfl | (congr 1; omega) | (congr 1; simp; omega)) | exact VTos_dv _ _ | refine VTos.cons ?_ ?_ | exact VTos.nil | refine VTo.agg ?_ | refine VTo.tuple ?_ | refine VTo.func ?_ ?_ | exact VTo.fs | exact VTo.fp | exact VTo.nilptr | exact VTo.nilslice | exact VTo.nilfunc | exact VTo.ptr rfl | exact VTo.gl rfl | exact VTo.map rfl | exact VTo.yld rfl | exact VTo.fmMap rfl | exact VTo.fm | exact VTo.glNil' (by decide) rfl rfl | exact VTo.fsNil (by decide) | exact VTo.fsSl rfl rfl (by simp [flat_len encE_len]) | exact VTo.fpPtr rfl | exact VTo.fsGl rfl (by first | rfl | exact flat_len encI_len _ | exact flat_len encT_len _ | exact flat_len encS_len _ | exact flat_len encP_len _ | exact flat_len encL_len _ | exact flat_len encE_len _ | (simp [flat_len encP_len]; done) | simp [flat_len encI_len, flat_len encS_len]))) (by first | rfl | (repeat' (first | exact MkTo.nil | refine MkTo.keep rfl ?_ | refine MkTo.drop (by decide) rfl ?_)))
        · rename_i h5
          have hf : isFree s = true := decide_eq_true (by omega)
          rw [hf] at hnx
          simp only [cond_false, cond_true] at hnx
          refine VMem.app1 (l := u.2) (z1.1) encI_len rfl rfl rfl rfl rfl (by omega) ?_
          conv => whnf
          repeat' (first | (refine VLd.intro rfl ?_; conv => whnf) | (refine VArith.i64 (by first | omega | (dsimp only; omega)) ?_; conv => whnf) | (refine VNeed.intro (by first | rfl | assumption | (simp; omega) | (simp; done)) ?_; conv => whnf) | (refine VMem.store rfl rfl rfl rfl ?_; conv => whnf) | (refine VSame.intro rfl ?_; conv => whnf) | (refine VIte.dec (fun _ => ?_) (fun _ => ?_) <;> conv => whnf) | (refine VIte.ndec (fun _ => ?_) (fun _ => ?_) <;> conv => whnf) | (refine VIte.beq (fun _ => ?_) (fun _ => ?_) <;> conv => whnf) | (refine VIte.bne (fun _ => ?_) (fun _ => ?_) <;> conv => whnf) | (refine VIte.intro (fun _ => ?_) (fun _ => ?_) <;> conv => whnf))
          refine LEndO.intro (k + 1, _) ⟨by dsimp only; omega, hnx.symm⟩ (by dsimp only; omega) ?_ ?_
          · funext j; by_cases e : j = i <;> simp [outW, e, Hp.set]
          · conv => whnf
            rw [List.length_append]
            refine Retell.turn ⟨[0,1,5], 6, [], []⟩ (TurnOk.mk' _ _ [] [] (OutOk.outW (OutOk.lift _) rfl) rfl (by decide) (by repeat' (first | exact BTos.nil | refine BTos.flat rfl rfl (by first | rfl | simp) ?_ | refine BTos.new rfl ?_ | refine BTos.dead rfl rfl ?_ | refine BTos.esE rfl rfl ?_ | refine BTos.row rfl rfl rfl (RowTo.snoc (RowTo.one rfl (by simp))) ?_ | refine BTos.cells rfl rfl rfl (by repeat' (first | exact VTo.undef | exact FrTo.leaf | refine FrTo.node ?_ ?_ ?_ | refine FrTo.none ?_ ?_ | exact VTo.sc (by first | rfl | (congr 1; omega) | (congr 1; simp; omega)) | exact VTos_dv _ _ | refine VTos.cons ?_ ?_ | exact VTos.nil | refine VTo.agg ?_ | refine VTo.tuple ?_ | refine VTo.func ?_ ?_ | exact VTo.fs | exact VTo.fp | exact VTo.nilptr | exact VTo.nilslice | exact VTo.nilfunc | exact VTo.ptr rfl | exact VTo.gl rfl | exact VTo.map rfl | exact VTo.yld rfl | exact VTo.fmMap rfl | exact VTo.fm | exact VTo.glNil' (by decide) rfl rfl | exact VTo.fsNil (by decide) | exact VTo.fsSl rfl rfl (by simp [flat_len encE_len]) | exact VTo.fpPtr rfl | exact VTo.fsGl rfl (by first | rfl | exact flat_len encI_len _ | exact flat_len encT_len _ | exact flat_len encS_len _ | exact flat_len encP_len _ | exact flat_len encL_len _ | exact flat_len encE_len _ | (simp [flat_len encP_len]; done) | simp [flat_len encI_len, flat_len encS_len]))) ?_)) trivial trivial rfl) (by repeat' (first | exact VTo.undef | exact FrTo.leaf | refine FrTo.node ?_ ?_ ?_ | refine FrTo.none ?_ ?_ | exact VTo.sc (by first | rfl | (congr 1; omega) | (congr 1; simp; omega)) | exact VTos_dv _ _ | refine VTos.cons ?_ ?_ | exact VTos.nil | refine VTo.agg ?_ | refine VTo.tuple ?_ | refine VTo.func ?_ ?_ | exact VTo.fs | exact VTo.fp | exact VTo.nilptr | exact VTo.nilslice | exact VTo.nilfunc | exact VTo.ptr rfl | exact VTo.gl rfl | exact VTo.map rfl | exact VTo.yld rfl | exact VTo.fmMap rfl | exact VTo.fm | exact VTo.glNil' (by decide) rfl rfl | exact VTo.fsNil (by decide) | exact VTo.fsSl rfl rfl (by simp [flat_len encE_len]) | exact VTo.fpPtr rfl | exact VTo.fsGl rfl (by first | rfl | exact flat_len encI_len _ | exact flat_len encT_len _ | exact flat_len encS_len _ | exact flat_len encP_len _ | exact flat_len encL_len _ | exact flat_len encE_len _ | (simp [flat_len encP_len]; done) | simp [flat_len encI_len, flat_len encS_len]))) (by first | rfl | (repeat' (first | exact MkTo.nil | refine MkTo.keep rfl ?_ | refine MkTo.drop (by decide) rfl ?_)))
      · repeat' (first | (refine VLd.intro rfl ?_; conv => whnf) | (refine VArith.i64 (by first | omega | (dsimp only; omega)) ?_; conv => whnf) | (refine VNeed.intro (by first | rfl | assumption | (simp; omega) | (simp; done)) ?_; conv => whnf) | (refine VMem.store rfl rfl rfl rfl ?_; conv => whnf) | (refine VSame.intro rfl ?_; conv => whnf) | (refine VIte.dec (fun _ => ?_) (fun _ => ?_) <;> conv => whnf) | (refine VIte.ndec (fun _ => ?_) (fun _ => ?_) <;> conv => whnf) | (refine VIte.beq (fun _ => ?_) (fun _ => ?_) <;> conv => whnf) | (refine VIte.bne (fun _ => ?_) (fun _ => ?_) <;> conv => whnf) | (refine VIte.intro (fun _ => ?_) (fun _ => ?_) <;> conv => whnf) | (refine VCall.intro (g1 _ (outW_get _ _ _ _)) ?_; conv => whnf) | (refine VCall.intro (g2 _ (outW_get _ _ _ _)) ?_; conv => whnf) | (refine VAny.ix encT_len k rfl rfl hs ?_; conv => whnf))
        refine VDraw.go [(1, 3)] (by kernel_rfl) (by kernel_rfl) ?_
        conv => whnf
        repeat' (first | (refine VLd.intro rfl ?_; conv => whnf) | (refine VArith.i64 (by first | omega | (dsimp only; omega)) ?_; conv => whnf) | (refine VNeed.intro (by first | rfl | assumption | (simp; omega) | (simp; done)) ?_; conv => whnf) | (refine VMem.store rfl rfl rfl rfl ?_; conv => whnf) | (refine VSame.intro rfl ?_; conv => whnf) | (refine VIte.dec (fun _ => ?_) (fun _ => ?_) <;> conv => whnf) | (refine VIte.ndec (fun _ => ?_) (fun _ => ?_) <;> conv => whnf) | (refine VIte.beq (fun _ => ?_) (fun _ => ?_) <;> conv => whnf) | (refine VIte.bne (fun _ => ?_) (fun _ => ?_) <;> conv => whnf) | (refine VIte.intro (fun _ => ?_) (fun _ => ?_) <;> conv => whnf) | (refine VCall.intro (g3 _ (outW_get _ _ _ _)) ?_; conv => whnf))
        · rename_i h5
          have hf : isFree s = false := decide_eq_false h5
          rw [hf] at hnx
          simp only [cond_false, cond_true] at hnx
          refine VMem.app1 (l := u.2) (w * (1 - s.ow)) encI_len rfl rfl rfl rfl rfl (by omega) ?_
          conv => whnf
          repeat' (first | (refine VLd.intro rfl ?_; conv => whnf) | (refine VArith.i64 (by first | omega | (dsimp only; omega)) ?_; conv => whnf) | (refine VNeed.intro (by first | rfl | assumption | (simp; omega) | (simp; done)) ?_; conv => whnf) | (refine VMem.store rfl rfl rfl rfl ?_; conv => whnf) | (refine VSame.intro rfl ?_; conv => whnf) | (refine VIte.dec (fun _ => ?_) (fun _ => ?_) <;> conv => whnf) | (refine VIte.ndec (fun _ => ?_) (fun _ => ?_) <;> conv => whnf) | (refine VIte.beq (fun _ => ?_) (fun _ => ?_) <;> conv => whnf) | (refine VIte.bne (fun _ => ?_) (fun _ => ?_) <;> conv => whnf) | (refine VIte.intro (fun _ => ?_) (fun _ => ?_) <;> conv => whnf))
          refine LEndO.intro (k + 1, _) ⟨by dsimp only; omega, hnx.symm⟩ (by dsimp only; omega) ?_ ?_
          · funext j; by_cases e : j = i <;> simp [outW, e, Hp.set]
          · conv => whnf
            rw [List.length_append]
            refine Retell.turn ⟨[0,1,5], 6, [], []⟩ (TurnOk.mk' _ _ [] [] (OutOk.outW (OutOk.lift _) rfl) rfl (by decide) (by repeat' (first | exact BTos.nil | refine BTos.flat rfl rfl (by first | rfl | simp) ?_ | refine BTos.new rfl ?_ | refine BTos.dead rfl rfl ?_ | refine BTos.esE rfl rfl ?_ | refine BTos.row rfl rfl rfl (RowTo.snoc (RowTo.one rfl (by simp))) ?_ | refine BTos.cells rfl rfl rfl (by repeat' (first | exact VTo.undef | exact FrTo.leaf | refine FrTo.node ?_ ?_ ?_ | refine FrTo.none ?_ ?_ | exact VTo.sc (by first | rfl | (congr 1; omega) | (congr 1; simp; omega)) | exact VTos_dv _ _ | refine VTos.cons ?_ ?_ | exact VTos.nil | refine VTo.agg ?_ | refine VTo.tuple ?_ | refine VTo.func ?_ ?_ | exact VTo.fs | exact VTo.fp | exact VTo.nilptr | exact VTo.nilslice | exact VTo.nilfunc | exact VTo.ptr rfl | exact VTo.gl rfl | exact VTo.map rfl | exact VTo.yld rfl | exact VTo.fmMap rfl | exact VTo.fm | exact VTo.glNil' (by decide) rfl rfl | exact VTo.fsNil (by decide) | exact VTo.fsSl rfl rfl (by simp [flat_len encE_len]) | exact VTo.fpPtr rfl | exact VTo.fsGl rfl (by first | rfl | exact flat_len encI_len _ | exact flat_len encT_len _ | exact flat_len encS_len _ | exact flat_len encP_len _ | exact flat_len encL_len _ | exact flat_len encE_len _ | (simp [flat_len encP_len]; done) | simp [flat_len encI_len, flat_len encS_len]))) ?_)) trivial trivial rfl) (by repeat' (first | exact VTo.undef | exact FrTo.leaf | refine FrTo.node ?_ ?_ ?_ | refine FrTo.none ?_ ?_ | exact VTo.sc (by first | rfl | (congr 1; omega) | (congr 1; simp; omega)) | exact VTos_dv _ _ | refine VTos.cons ?_ ?_ | exact VTos.nil | refine VTo.agg ?_ | refine VTo.tuple ?_ | refine VTo.func ?_ ?_ | exact VTo.fs | exact VTo.fp | exact VTo.nilptr | exact VTo.nilslice | exact VTo.nilfunc | exact VTo.ptr rfl | exact VTo.gl rfl | exact VTo.map rfl | exact VTo.yld rfl | exact VTo.fmMap rfl | exact VTo.fm | exact VTo.glNil' (by decide) rfl rfl | exact VTo.fsNil (by decide) | exact VTo.fsSl rfl rfl (by simp [flat_len encE_len]) | exact VTo.fpPtr rfl | exact VTo.fsGl rfl (by first | rfl | exact flat_len encI_len _ | exact flat_len encT_len _ | exact flat_len encS_len _ | exact flat_len encP_len _ | exact flat_len encL_len _ | exact flat_len encE_len _ | (simp [flat_len encP_len]; done) | simp [flat_len encI_len, flat_len encS_len]))) (by first | rfl | (repeat' (first | exact MkTo.nil | refine MkTo.keep rfl ?_ | refine MkTo.drop (by decide) rfl ?_)))
        · rename_i h5
          have hf : isFree s = true := decide_eq_true (by omega)
          rw [hf] at hnx
          simp only [cond_false, cond_true] at hnx
          refine VMem.app1 (l := u.2) (w * z3.1) encI_len rfl rfl rfl rfl rfl (by omega) ?_
          conv => whnf
          repeat' (first | (refine VLd.intro rfl ?_; conv => whnf) | (refine VArith.i64 (by first | omega | (dsimp only; omega)) ?_; conv => whnf) | (refine VNeed.intro (by first | rfl | assumption | (simp; omega) | (simp; done)) ?_; conv => whnf) | (refine VMem.store rfl rfl rfl rfl ?_; conv => whnf) | (refine VSame.intro rfl ?_; conv => whnf) | (refine VIte.dec (fun _ => ?_) (fun _ => ?_) <;> conv => whnf) | (refine VIte.ndec (fun _ => ?_) (fun _ => ?_) <;> conv => whnf) | (refine VIte.beq (fun _ => ?_) (fun _ => ?_) <;> conv => whnf) | (refine VIte.bne (fun _ => ?_) (fun _ => ?_) <;> conv => whnf) | (refine VIte.intro (fun _ => ?_) (fun _ => ?_) <;> conv => whnf))
          refine LEndO.intro (k + 1, _) ⟨by dsimp only; omega, hnx.symm⟩ (by dsimp only; omega) ?_ ?_
          · funext j; by_cases e : j = i <;> simp [outW, e, Hp.set]
          · conv => whnf
            rw [List.length_append]
            refine Retell.turn ⟨[0,1,5], 6, [], []⟩ (TurnOk.mk' _ _ [] [] (OutOk.outW (OutOk.lift _) rfl) rfl (by decide) (by repeat' (first | exact BTos.nil | refine BTos.flat rfl rfl (by first | rfl | simp) ?_ | refine BTos.new rfl ?_ | refine BTos.dead rfl rfl ?_ | refine BTos.esE rfl rfl ?_ | refine BTos.row rfl rfl rfl (RowTo.snoc (RowTo.one rfl (by simp))) ?_ | refine BTos.cells rfl rfl rfl (by repeat' (first | exact VTo.undef | exact FrTo.leaf | refine FrTo.node ?_ ?_ ?_ | refine FrTo.none ?_ ?_ | exact VTo.sc (by first | rfl | (congr 1; omega) | (congr 1; simp; omega)) | exact VTos_dv _ _ | refine VTos.cons ?_ ?_ | exact VTos.nil | refine VTo.agg ?_ | refine VTo.tuple ?_ | refine VTo.func ?_ ?_ | exact VTo.fs | exact VTo.fp | exact VTo.nilptr | exact VTo.nilslice | exact VTo.nilfunc | exact VTo.ptr rfl | exact VTo.gl rfl | exact VTo.map rfl | exact VTo.yld rfl | exact VTo.fmMap rfl | exact VTo.fm | exact VTo.glNil' (by decide) rfl rfl | exact VTo.fsNil (by decide) | exact VTo.fsSl rfl rfl (by simp [flat_len encE_len]) | exact VTo.fpPtr rfl | exact VTo.fsGl rfl (by first | rfl | exact flat_len encI_len _ | exact flat_len encT_len _ | exact flat_len encS_len _ | exact flat_len encP_len _ | exact flat_len encL_len _ | exact flat_len encE_len _ | (simp [flat_len encP_len]; done) | simp [flat_len encI_len, flat_len encS_len]))) ?_)) trivial trivial rfl) (by repeat' (first | exact VTo.undef | exact FrTo.leaf | refine FrTo.node ?_ ?_ ?_ | refine FrTo.none ?_ ?_ | exact VTo.sc (by first | rfl | (congr 1; omega) | (congr 1; simp; omega)) | exact VTos_dv _ _ | refine VTos.cons ?_ ?_ | exact VTos.nil | refine VTo.agg ?_ | refine VTo.tuple ?_ | refine VTo.func ?_ ?_ | exact VTo.fs | exact VTo.fp | exact VTo.nilptr | exact VTo.nilslice | exact VTo.nilfunc | exact VTo.ptr rfl | exact VTo.gl rfl | exact VTo.map rfl | exact VTo.yld rfl | exact VTo.fmMap rfl | exact VTo.fm | exact VTo.glNil' (by decide) rfl rfl | exact VTo.fsNil (by decide) | exact VTo.fsSl rfl rfl (by simp [flat_len encE_len]) | exact VTo.fpPtr rfl | exact VTo.fsGl rfl (by first | rfl | exact flat_len encI_len _ | exact flat_len encT_len _ | exact flat_len encS_len _ | exact flat_len encP_len _ | exact flat_len encL_len _ | exact flat_len encE_len _ | (simp [flat_len encP_len]; done) | simp [flat_len encI_len, flat_len encS_len]))) (by first | rfl | (repeat' (first | exact MkTo.nil | refine MkTo.keep rfl ?_ | refine MkTo.drop (by decide) rfl ?_)))
    · have hkm : k = l.ss.length := by dsimp only at h3; omega
      subst hkm
      rw [List.take_length, ← hR] at hu
      subst hu
      conv => whnf
      repeat' (first | (refine VLd.intro rfl ?_; conv => whnf) | (refine VArith.i64 (by first | omega | (dsimp only; omega)) ?_; conv => whnf) | (refine VNeed.intro (by first | rfl | assumption | (simp; omega) | (simp; done)) ?_; conv => whnf) | (refine VMem.store rfl rfl rfl rfl ?_; conv => whnf) | (refine VSame.intro rfl ?_; conv => whnf) | (refine VIte.dec (fun _ => ?_) (fun _ => ?_) <;> conv => whnf) | (refine VIte.ndec (fun _ => ?_) (fun _ => ?_) <;> conv => whnf) | (refine VIte.beq (fun _ => ?_) (fun _ => ?_) <;> conv => whnf) | (refine VIte.bne (fun _ => ?_) (fun _ => ?_) <;> conv => whnf) | (refine VIte.intro (fun _ => ?_) (fun _ => ?_) <;> conv => whnf))
      refine VOut.turn ⟨[], 3, [(2, u.2.flatMap encI)], []⟩ (loc' := []) (r1' := vX ⟨w, u.2⟩) (TurnOk.mk' [] 3 [(2, u.2.flatMap encI)] [] (OutOk.outW (OutOk.lift _) rfl) rfl List.nodup_nil BTos.nil (FzAll.flat rfl FzAll.nil) trivial rfl) (by repeat' (first | exact VTo.undef | exact FrTo.leaf | refine FrTo.node ?_ ?_ ?_ | refine FrTo.none ?_ ?_ | exact VTo.sc (by first | rfl | (congr 1; omega) | (congr 1; simp; omega)) | exact VTos_dv _ _ | refine VTos.cons ?_ ?_ | exact VTos.nil | refine VTo.agg ?_ | refine VTo.tuple ?_ | refine VTo.func ?_ ?_ | exact VTo.fs | exact VTo.fp | exact VTo.nilptr | exact VTo.nilslice | exact VTo.nilfunc | exact VTo.ptr rfl | exact VTo.gl rfl | exact VTo.map rfl | exact VTo.yld rfl | exact VTo.fmMap rfl | exact VTo.fm | exact VTo.glNil' (by decide) rfl rfl | exact VTo.fsNil (by decide) | exact VTo.fsSl rfl rfl (by simp [flat_len encE_len]) | exact VTo.fpPtr rfl | exact VTo.fsGl rfl (by first | rfl | exact flat_len encI_len _ | exact flat_len encT_len _ | exact flat_len encS_len _ | exact flat_len encP_len _ | exact flat_len encL_len _ | exact flat_len encE_len _ | (simp [flat_len encP_len]; done) | simp [flat_len encI_len, flat_len encS_len]))) ?_
      exact VOut.setF (L := 0) rfl hd fun _ => rfl
end Go.Proofs.Ytmpjpjfkbmlmfaa

open Go.Vm
namespace Go.Proofs.Ytmpjpjfkbmlmfaa
set_option maxRecDepth 20000
set_option maxHeartbeats 4000000

theorem mulb {a b : Int} {A B : Int} (ha : -A ≤ a ∧ a ≤ A) (hb : 0 ≤ b ∧ b ≤ B) : -(A * B) ≤ a * b ∧ a * b ≤ A * B := by
  have h0 : 0 ≤ A := by omega
  have h1 : a * b ≤ A * b := Int.mul_le_mul_of_nonneg_right ha.2 hb.1
  have h2 : -A * b ≤ a * b := Int.mul_le_mul_of_nonneg_right ha.1 hb.1
  have h3 : A * b ≤ A * B := Int.mul_le_mul_of_nonneg_left hb.2 h0
  have h4 : -A * b = -(A * b) := Int.neg_mul _ _
  omega
end Go.Proofs.Ytmpjpjfkbmlmfaa

open Go.Vm
namespace Go.Proofs.Ytmpjpjfkbmlmfaa
open Go.ChangeShapes Go.WideShapes Go.ChangeAt Go.RowKit

def dU (l : List Int) : D := .sl 1 l.length (l.flatMap encU)
theorem openU : OpenV Try.prog 50 dU := OpenV.slice Try.underlying50 (Opens.slice Try.underlying50 encU_len (by kernel_rfl) (by decide) (Opens.int Try.underlying5))
def d16b (n : {n : Int // 0 ≤ n ∧ n ≤ 65535}) : D := .s (.int .u16 n.1)
theorem openV_u16 {P : Program} {t : TypeId} (ht : P.underlying t = some (.int .u16)) : OpenV P t d16b := by
  intro W base H en v dd ps hok ⟨fuel, ht2⟩
  obtain ⟨n, h2, _, hw⟩ := DataW.trod_int ht ht2
  have hb : 0 ≤ n ∧ n ≤ 65535 := by
    have hw2 : (decide ((0 : Int) ≤ n) && decide (n ≤ (65535 : Int))) = true := hw
    simpa using hw2
  unfold Value.okWide at hok
  rw [ht] at hok
  simp only [Cell.okWide, ht] at hok
  refine ⟨⟨n, hb⟩, ?_⟩
  cases v <;> simp [Cell.ok, ht] at hok
  simp [Value.cells] at h2
  simp only [d16b, DR, S.val]
  rw [h2.1, h2.2]
theorem open16b : OpenV Try.prog 60 d16b := openV_u16 Try.underlying60
end Go.Proofs.Ytmpjpjfkbmlmfaa

open Go.Vm
namespace Go.Proofs.Ytmpjpjfkbmlmfaa
set_option maxRecDepth 20000
set_option maxHeartbeats 4000000

theorem vc_BarterMost (ns ts : List Int) (g : Int) (hg : 0 ≤ g ∧ g ≤ 65535) (h : Hp) : VC Try.prog 5 [bytes ns, bytes ts, .s (.int .u16 g)] h (B true) h := by
  obtain ⟨⟨o, k2, k3, k4⟩, k5⟩ := mdL_ok ns (0, 9) (most := 12) (by omega)
  have cM := fun (i : Vm.Id) (h : Hp) hd => vc_Made ns (0, 9) 12 i h (by decide) (by omega) hd
  generalize mdL ns (0, 9) 12 = l at o k2 k3 k4 cM
  generalize (mdS ns (0, 9) 12).1 = dE at cM
  obtain ⟨G, hG⟩ : ∃ G, G = g.tmod 800 - 300 := ⟨_, rfl⟩
  have hGb : -300 ≤ G ∧ G ≤ 499 := by have := tmod_bd (a := g) (k := 800) (by omega) (by omega); omega
  have hdr := dNx_bd ts (0, 9) 40
  have cD := fun (i : Vm.Id) (h : Hp) hd => vc_draw ts (0, 9) 40 i h (by decide) hd
  generalize dNx ts (0, 9) 40 = z at hdr cD
  dsimp only at hdr
  have c18 := fun h => vc_Most_ok l G h o
  have c18' := fun h => vc_Most_ok l (G + 1 + z.1) h o
  have hyt := fun d => tX_alw ts d o
  have cT := fun (d : DS) (hN : d.1 ≤ 1000000) (i : Vm.Id) (h : Hp) hd => vc_Tried ts d l i h o hN hd
  have cYg := fun (y : Exc) (k : Alw l y) h => vc_Gains_ok l y h o k.ok
  unfold mxV at c18 c18'
  refine VC.bodyC 3 Try.func5 rfl Try.ntmps5 Try.call5 (h.grows_refl) rfl ?_; conv => whnf
  repeat' (first | (refine VLd.intro rfl ?_; conv => whnf) | (refine VArith.i64 (by first | omega | (dsimp only; omega)) ?_; conv => whnf) | (refine VNeed.intro (by first | rfl | assumption | (simp; omega) | (simp; done)) ?_; conv => whnf) | (refine VMem.store rfl rfl rfl rfl ?_; conv => whnf) | (refine VSame.intro rfl ?_; conv => whnf) | (refine VDraw.go [] (by kernel_rfl) (by kernel_rfl) ?_; conv => whnf) | (refine VIte.dec (fun _ => ?_) (fun _ => ?_) <;> conv => whnf) | (refine VIte.ndec (fun _ => ?_) (fun _ => ?_) <;> conv => whnf) | (refine VIte.beq (fun _ => ?_) (fun _ => ?_) <;> conv => whnf) | (refine VIte.bne (fun _ => ?_) (fun _ => ?_) <;> conv => whnf) | (refine VIte.intro (fun _ => ?_) (fun _ => ?_) <;> conv => whnf) | (refine VCall.intro (vc_Of _ _) ?_; conv => whnf) | (refine VCall.intro (cM _ _ rfl) ?_; conv => whnf))
  refine VCut.at' 2 [(2, .s (.int .u16 g)), (7, .fp (encN l)), (8, .ptr (.loc 0) 0)] [deckB ts (0, 9)] ?_ ?_
  · conv => whnf
    refine Retell.turn ⟨[2], 3, [(1, encN l)], []⟩ (TurnOk.mk' _ _ [(1, encN l)] [] (OutOk.lift _) rfl (by decide) (by repeat' (first | exact BTos.nil | refine BTos.flat rfl rfl (by first | rfl | simp) ?_ | refine BTos.new rfl ?_ | refine BTos.dead rfl rfl ?_ | refine BTos.esE rfl rfl ?_ | refine BTos.row rfl rfl rfl (RowTo.snoc (RowTo.one rfl (by simp))) ?_ | refine BTos.cells rfl rfl rfl (by repeat' (first | exact VTo.undef | exact FrTo.leaf | refine FrTo.node ?_ ?_ ?_ | refine FrTo.none ?_ ?_ | exact VTo.sc (by first | rfl | (congr 1; omega) | (congr 1; simp; omega)) | exact VTos_dv _ _ | refine VTos.cons ?_ ?_ | exact VTos.nil | refine VTo.agg ?_ | refine VTo.tuple ?_ | refine VTo.func ?_ ?_ | exact VTo.fs | exact VTo.fp | exact VTo.nilptr | exact VTo.nilslice | exact VTo.nilfunc | exact VTo.ptr rfl | exact VTo.gl rfl | exact VTo.map rfl | exact VTo.yld rfl | exact VTo.fmMap rfl | exact VTo.fm | exact VTo.glNil' (by decide) rfl rfl | exact VTo.fsNil (by decide) | exact VTo.fsSl rfl rfl (by simp [flat_len encE_len]) | exact VTo.fpPtr rfl | exact VTo.fsGl rfl (by first | rfl | exact flat_len encI_len _ | exact flat_len encT_len _ | exact flat_len encS_len _ | exact flat_len encP_len _ | exact flat_len encL_len _ | exact flat_len encE_len _ | (simp [flat_len encP_len]; done) | simp [flat_len encI_len, flat_len encS_len]))) ?_)) (by repeat' (first | exact FzAll.nil | refine FzAll.flat rfl ?_ | refine FzAll.row rfl rfl (RowTo.one rfl (by simp)) ?_)) trivial rfl) (by repeat' (first | exact VTo.undef | exact FrTo.leaf | refine FrTo.node ?_ ?_ ?_ | refine FrTo.none ?_ ?_ | exact VTo.sc (by first | rfl | (congr 1; omega) | (congr 1; simp; omega)) | exact VTos_dv _ _ | refine VTos.cons ?_ ?_ | exact VTos.nil | refine VTo.agg ?_ | refine VTo.tuple ?_ | refine VTo.func ?_ ?_ | exact VTo.fs | exact VTo.fp | exact VTo.nilptr | exact VTo.nilslice | exact VTo.nilfunc | exact VTo.ptr rfl | exact VTo.gl rfl | exact VTo.map rfl | exact VTo.yld rfl | exact VTo.fmMap rfl | exact VTo.fm | exact VTo.glNil' (by decide) rfl rfl | exact VTo.fsNil (by decide) | exact VTo.fsSl rfl rfl (by simp [flat_len encE_len]) | exact VTo.fpPtr rfl | exact VTo.fsGl rfl (by first | rfl | exact flat_len encI_len _ | exact flat_len encT_len _ | exact flat_len encS_len _ | exact flat_len encP_len _ | exact flat_len encL_len _ | exact flat_len encE_len _ | (simp [flat_len encP_len]; done) | simp [flat_len encI_len, flat_len encS_len]))) (by first | rfl | (repeat' (first | exact MkTo.nil | refine MkTo.keep rfl ?_ | refine MkTo.drop (by decide) rfl ?_)))
  · by_cases hall : G ≤ allN l
    · have S := mx_spec o hall
      rw [if_pos hall] at c18
      obtain ⟨a0, b0, ha0, hb0, P0⟩ := S.prc
      have ox := P0.ok
      have hB := (best_iff ox).2 (P0.best o (by omega) (by omega))
      have c26 := fun h => vc_Gains_ok l (mxX l G) h o ox
      have c29 := fun h => vc_Best_ok l (mxX l G) h o ox
      rw [hB] at c29
      have hmost := fun (y : Exc) (k : Alw l y) (hy : G * y.w ≤ gnN l y) => S.most o k hy
      have hge := S.ge
      have hmono := fun (hall' : G + 1 + z.1 ≤ allN l) => S.mono (mx_spec o hall') o (by omega)
      have bX := gn_b o ox
      have hxw := ox.w
      clear S P0 hB ox
      generalize mxX l G = x at *
      generalize gnN l x = XN at *
      generalize gnS l x = XS at *
      have hGx := mulb (A := 1000) (B := 2000) (show -1000 ≤ G ∧ G ≤ 1000 by omega) (show 0 ≤ x.w ∧ x.w ≤ 2000 by omega)
      conv => whnf
      repeat' (first | (refine VLd.intro rfl ?_; conv => whnf) | (refine VArith.i64 (by first | omega | (dsimp only; omega)) ?_; conv => whnf) | (refine VNeed.intro (by first | rfl | assumption | (simp; omega) | (simp; done)) ?_; conv => whnf) | (refine VMem.store rfl rfl rfl rfl ?_; conv => whnf) | (refine VSame.intro rfl ?_; conv => whnf) | (refine VIte.dec (fun _ => ?_) (fun _ => ?_) <;> conv => whnf) | (refine VIte.ndec (fun _ => ?_) (fun _ => ?_) <;> conv => whnf) | (refine VIte.beq (fun _ => ?_) (fun _ => ?_) <;> conv => whnf) | (refine VIte.bne (fun _ => ?_) (fun _ => ?_) <;> conv => whnf) | (refine VIte.intro (fun _ => ?_) (fun _ => ?_) <;> conv => whnf))
      rw [← hG]
      repeat' (first | (refine VLd.intro rfl ?_; conv => whnf) | (refine VArith.i64 (by first | omega | (dsimp only; omega)) ?_; conv => whnf) | (refine VNeed.intro (by first | rfl | assumption | (simp; omega) | (simp; done)) ?_; conv => whnf) | (refine VMem.store rfl rfl rfl rfl ?_; conv => whnf) | (refine VSame.intro rfl ?_; conv => whnf) | (refine VIte.dec (fun _ => ?_) (fun _ => ?_) <;> conv => whnf) | (refine VIte.ndec (fun _ => ?_) (fun _ => ?_) <;> conv => whnf) | (refine VIte.beq (fun _ => ?_) (fun _ => ?_) <;> conv => whnf) | (refine VIte.bne (fun _ => ?_) (fun _ => ?_) <;> conv => whnf) | (refine VIte.intro (fun _ => ?_) (fun _ => ?_) <;> conv => whnf) | (refine VCall.intro (c18 _) ?_; conv => whnf))
      refine VCut.at' 6 [(7, .fp (encN l)), (8, .ptr (.loc 0) 0), (9, I G), (10, .fp (encX x)), (11, I 0)] [deckB ts (0, 9)] ?_ ?_
      · conv => whnf
        refine Retell.turn ⟨[0], 2, [(1, encX x)], []⟩ (TurnOk.mk' _ _ [(1, encX x)] [] (OutOk.lift _) rfl (by decide) (by repeat' (first | exact BTos.nil | refine BTos.flat rfl rfl (by first | rfl | simp) ?_ | refine BTos.new rfl ?_ | refine BTos.dead rfl rfl ?_ | refine BTos.esE rfl rfl ?_ | refine BTos.row rfl rfl rfl (RowTo.snoc (RowTo.one rfl (by simp))) ?_ | refine BTos.cells rfl rfl rfl (by repeat' (first | exact VTo.undef | exact FrTo.leaf | refine FrTo.node ?_ ?_ ?_ | refine FrTo.none ?_ ?_ | exact VTo.sc (by first | rfl | (congr 1; omega) | (congr 1; simp; omega)) | exact VTos_dv _ _ | refine VTos.cons ?_ ?_ | exact VTos.nil | refine VTo.agg ?_ | refine VTo.tuple ?_ | refine VTo.func ?_ ?_ | exact VTo.fs | exact VTo.fp | exact VTo.nilptr | exact VTo.nilslice | exact VTo.nilfunc | exact VTo.ptr rfl | exact VTo.gl rfl | exact VTo.map rfl | exact VTo.yld rfl | exact VTo.fmMap rfl | exact VTo.fm | exact VTo.glNil' (by decide) rfl rfl | exact VTo.fsNil (by decide) | exact VTo.fsSl rfl rfl (by simp [flat_len encE_len]) | exact VTo.fpPtr rfl | exact VTo.fsGl rfl (by first | rfl | exact flat_len encI_len _ | exact flat_len encT_len _ | exact flat_len encS_len _ | exact flat_len encP_len _ | exact flat_len encL_len _ | exact flat_len encE_len _ | (simp [flat_len encP_len]; done) | simp [flat_len encI_len, flat_len encS_len]))) ?_)) (by repeat' (first | exact FzAll.nil | refine FzAll.flat rfl ?_ | refine FzAll.row rfl rfl (RowTo.one rfl (by simp)) ?_)) trivial rfl) (by repeat' (first | exact VTo.undef | exact FrTo.leaf | refine FrTo.node ?_ ?_ ?_ | refine FrTo.none ?_ ?_ | exact VTo.sc (by first | rfl | (congr 1; omega) | (congr 1; simp; omega)) | exact VTos_dv _ _ | refine VTos.cons ?_ ?_ | exact VTos.nil | refine VTo.agg ?_ | refine VTo.tuple ?_ | refine VTo.func ?_ ?_ | exact VTo.fs | exact VTo.fp | exact VTo.nilptr | exact VTo.nilslice | exact VTo.nilfunc | exact VTo.ptr rfl | exact VTo.gl rfl | exact VTo.map rfl | exact VTo.yld rfl | exact VTo.fmMap rfl | exact VTo.fm | exact VTo.glNil' (by decide) rfl rfl | exact VTo.fsNil (by decide) | exact VTo.fsSl rfl rfl (by simp [flat_len encE_len]) | exact VTo.fpPtr rfl | exact VTo.fsGl rfl (by first | rfl | exact flat_len encI_len _ | exact flat_len encT_len _ | exact flat_len encS_len _ | exact flat_len encP_len _ | exact flat_len encL_len _ | exact flat_len encE_len _ | (simp [flat_len encP_len]; done) | simp [flat_len encI_len, flat_len encS_len]))) (by first | rfl | (repeat' (first | exact MkTo.nil | refine MkTo.keep rfl ?_ | refine MkTo.drop (by decide) rfl ?_)))
      · clear c18
        have hsplit : (∃ (y : Exc) (YN YS : Int), (∀ h, VC Try.prog 18 [vL l, I (G + 1 + z.1)] h (.tuple [vX y, I 0]) h) ∧ (∀ h, VC Try.prog 26 [vL l, vX y] h (.tuple [I YN, I YS, I 0]) h) ∧ XN * y.w ≤ YN * x.w ∧ YS * x.w ≤ XS * y.w ∧ (-32000000 ≤ YN ∧ YN ≤ 32000000) ∧ (-32000000 ≤ YS ∧ YS ≤ 32000000) ∧ (1 ≤ y.w ∧ y.w ≤ 2000)) ∨ ∀ h, VC Try.prog 18 [vL l, I (G + 1 + z.1)] h (.tuple [.agg [I 0, .nilslice], I 7]) h := by
          by_cases hall' : G + 1 + z.1 ≤ allN l
          · rw [if_pos hall'] at c18'
            have S' := mx_spec o hall'
            obtain ⟨a1, b1, ha1, hb1, P1⟩ := S'.prc
            have oy := P1.ok
            have hge' := S'.ge
            have h0 := Int.mul_le_mul_of_nonneg_right (show G ≤ G + 1 + z.1 by omega) (show 0 ≤ (mxX l (G + 1 + z.1)).w by have := oy.w; omega)
            exact .inl ⟨_, _, _, c18', fun h => vc_Gains_ok l _ h o oy, hmono hall', hmost _ P1.alw (by omega), (gn_b o oy).1, (gn_b o oy).2, oy.w⟩
          · rw [if_neg hall'] at c18'
            exact .inr c18'
        clear c18' hmono
        apply suffices_
        · intro hrest
          have hs2 := hsplit
          rcases hs2 with ⟨y, YN, YS, c18x, cy, hm, hmo, bYN, bYS, hyw⟩ | c18x
          · have m1 := mulb (A := 32000000) (B := 2000) bX.1 (show 0 ≤ y.w ∧ y.w ≤ 2000 by omega)
            have m2 := mulb (A := 32000000) (B := 2000) bX.2 (show 0 ≤ y.w ∧ y.w ≤ 2000 by omega)
            have m3 := mulb (A := 32000000) (B := 2000) bYN (show 0 ≤ x.w ∧ x.w ≤ 2000 by omega)
            have m4 := mulb (A := 32000000) (B := 2000) bYS (show 0 ≤ x.w ∧ x.w ≤ 2000 by omega)
            conv => whnf
            refine VDraw.go [(0, 4)] (by kernel_rfl) (by kernel_rfl) ?_
            conv => whnf
            repeat' (first | (refine VLd.intro rfl ?_; conv => whnf) | (refine VArith.i64 (by first | omega | (dsimp only; omega)) ?_; conv => whnf) | (refine VNeed.intro (by first | rfl | assumption | (simp; omega) | (simp; done)) ?_; conv => whnf) | (refine VMem.store rfl rfl rfl rfl ?_; conv => whnf) | (refine VSame.intro rfl ?_; conv => whnf) | (refine VIte.dec (fun _ => ?_) (fun _ => ?_) <;> conv => whnf) | (refine VIte.ndec (fun _ => ?_) (fun _ => ?_) <;> conv => whnf) | (refine VIte.beq (fun _ => ?_) (fun _ => ?_) <;> conv => whnf) | (refine VIte.bne (fun _ => ?_) (fun _ => ?_) <;> conv => whnf) | (refine VIte.intro (fun _ => ?_) (fun _ => ?_) <;> conv => whnf) | (refine VCall.intro (cD _ _ rfl) ?_; conv => whnf) | (refine VCall.intro (c18x _) ?_; conv => whnf) | (refine VCall.intro (c26 _) ?_; conv => whnf) | (refine VCall.intro (c29 _) ?_; conv => whnf) | (refine VCall.intro (cy _) ?_; conv => whnf))
            all_goals try (first | (rename_i hz; exact absurd rfl hz) | (exfalso; omega))
            all_goals (
              refine VCut.at' (outer := h.lift) (marks := []) 99 [(7, .fp (encN l)), (8, .ptr (.loc 0) 0), (9, I G), (10, .fp (encX x)), (19, I XS)] [deckB ts z.2] ?_ hrest.out
              conv => whnf
              refine Retell.turn ⟨[0], 2, [], []⟩ (TurnOk.mk' _ _ [] [] (OutOk.lift _) rfl (by decide) (by repeat' (first | exact BTos.nil | refine BTos.flat rfl rfl (by first | rfl | simp) ?_ | refine BTos.new rfl ?_ | refine BTos.dead rfl rfl ?_ | refine BTos.esE rfl rfl ?_ | refine BTos.row rfl rfl rfl (RowTo.snoc (RowTo.one rfl (by simp))) ?_ | refine BTos.cells rfl rfl rfl (by repeat' (first | exact VTo.undef | exact FrTo.leaf | refine FrTo.node ?_ ?_ ?_ | refine FrTo.none ?_ ?_ | exact VTo.sc (by first | rfl | (congr 1; omega) | (congr 1; simp; omega)) | exact VTos_dv _ _ | refine VTos.cons ?_ ?_ | exact VTos.nil | refine VTo.agg ?_ | refine VTo.tuple ?_ | refine VTo.func ?_ ?_ | exact VTo.fs | exact VTo.fp | exact VTo.nilptr | exact VTo.nilslice | exact VTo.nilfunc | exact VTo.ptr rfl | exact VTo.gl rfl | exact VTo.map rfl | exact VTo.yld rfl | exact VTo.fmMap rfl | exact VTo.fm | exact VTo.glNil' (by decide) rfl rfl | exact VTo.fsNil (by decide) | exact VTo.fsSl rfl rfl (by simp [flat_len encE_len]) | exact VTo.fpPtr rfl | exact VTo.fsGl rfl (by first | rfl | exact flat_len encI_len _ | exact flat_len encT_len _ | exact flat_len encS_len _ | exact flat_len encP_len _ | exact flat_len encL_len _ | exact flat_len encE_len _ | (simp [flat_len encP_len]; done) | simp [flat_len encI_len, flat_len encS_len]))) ?_)) trivial trivial rfl) (by repeat' (first | exact VTo.undef | exact FrTo.leaf | refine FrTo.node ?_ ?_ ?_ | refine FrTo.none ?_ ?_ | exact VTo.sc (by first | rfl | (congr 1; omega) | (congr 1; simp; omega)) | exact VTos_dv _ _ | refine VTos.cons ?_ ?_ | exact VTos.nil | refine VTo.agg ?_ | refine VTo.tuple ?_ | refine VTo.func ?_ ?_ | exact VTo.fs | exact VTo.fp | exact VTo.nilptr | exact VTo.nilslice | exact VTo.nilfunc | exact VTo.ptr rfl | exact VTo.gl rfl | exact VTo.map rfl | exact VTo.yld rfl | exact VTo.fmMap rfl | exact VTo.fm | exact VTo.glNil' (by decide) rfl rfl | exact VTo.fsNil (by decide) | exact VTo.fsSl rfl rfl (by simp [flat_len encE_len]) | exact VTo.fpPtr rfl | exact VTo.fsGl rfl (by first | rfl | exact flat_len encI_len _ | exact flat_len encT_len _ | exact flat_len encS_len _ | exact flat_len encP_len _ | exact flat_len encL_len _ | exact flat_len encE_len _ | (simp [flat_len encP_len]; done) | simp [flat_len encI_len, flat_len encS_len]))) (by first | rfl | (repeat' (first | exact MkTo.nil | refine MkTo.keep rfl ?_ | refine MkTo.drop (by decide) rfl ?_))))
          · conv => whnf
            refine VDraw.go [(0, 4)] (by kernel_rfl) (by kernel_rfl) ?_
            conv => whnf
            repeat' (first | (refine VLd.intro rfl ?_; conv => whnf) | (refine VArith.i64 (by first | omega | (dsimp only; omega)) ?_; conv => whnf) | (refine VNeed.intro (by first | rfl | assumption | (simp; omega) | (simp; done)) ?_; conv => whnf) | (refine VMem.store rfl rfl rfl rfl ?_; conv => whnf) | (refine VSame.intro rfl ?_; conv => whnf) | (refine VIte.dec (fun _ => ?_) (fun _ => ?_) <;> conv => whnf) | (refine VIte.ndec (fun _ => ?_) (fun _ => ?_) <;> conv => whnf) | (refine VIte.beq (fun _ => ?_) (fun _ => ?_) <;> conv => whnf) | (refine VIte.bne (fun _ => ?_) (fun _ => ?_) <;> conv => whnf) | (refine VIte.intro (fun _ => ?_) (fun _ => ?_) <;> conv => whnf) | (refine VCall.intro (cD _ _ rfl) ?_; conv => whnf) | (refine VCall.intro (c18x _) ?_; conv => whnf) | (refine VCall.intro (c26 _) ?_; conv => whnf) | (refine VCall.intro (c29 _) ?_; conv => whnf))
            all_goals try (first | (rename_i hz; exact absurd rfl hz) | (exfalso; omega))
            all_goals (
              refine VCut.at' (outer := h.lift) (marks := []) 99 [(7, .fp (encN l)), (8, .ptr (.loc 0) 0), (9, I G), (10, .fp (encX x)), (19, I XS)] [deckB ts z.2] ?_ hrest.out
              conv => whnf
              refine Retell.turn ⟨[0], 2, [], []⟩ (TurnOk.mk' _ _ [] [] (OutOk.lift _) rfl (by decide) (by repeat' (first | exact BTos.nil | refine BTos.flat rfl rfl (by first | rfl | simp) ?_ | refine BTos.new rfl ?_ | refine BTos.dead rfl rfl ?_ | refine BTos.esE rfl rfl ?_ | refine BTos.row rfl rfl rfl (RowTo.snoc (RowTo.one rfl (by simp))) ?_ | refine BTos.cells rfl rfl rfl (by repeat' (first | exact VTo.undef | exact FrTo.leaf | refine FrTo.node ?_ ?_ ?_ | refine FrTo.none ?_ ?_ | exact VTo.sc (by first | rfl | (congr 1; omega) | (congr 1; simp; omega)) | exact VTos_dv _ _ | refine VTos.cons ?_ ?_ | exact VTos.nil | refine VTo.agg ?_ | refine VTo.tuple ?_ | refine VTo.func ?_ ?_ | exact VTo.fs | exact VTo.fp | exact VTo.nilptr | exact VTo.nilslice | exact VTo.nilfunc | exact VTo.ptr rfl | exact VTo.gl rfl | exact VTo.map rfl | exact VTo.yld rfl | exact VTo.fmMap rfl | exact VTo.fm | exact VTo.glNil' (by decide) rfl rfl | exact VTo.fsNil (by decide) | exact VTo.fsSl rfl rfl (by simp [flat_len encE_len]) | exact VTo.fpPtr rfl | exact VTo.fsGl rfl (by first | rfl | exact flat_len encI_len _ | exact flat_len encT_len _ | exact flat_len encS_len _ | exact flat_len encP_len _ | exact flat_len encL_len _ | exact flat_len encE_len _ | (simp [flat_len encP_len]; done) | simp [flat_len encI_len, flat_len encS_len]))) ?_)) trivial trivial rfl) (by repeat' (first | exact VTo.undef | exact FrTo.leaf | refine FrTo.node ?_ ?_ ?_ | refine FrTo.none ?_ ?_ | exact VTo.sc (by first | rfl | (congr 1; omega) | (congr 1; simp; omega)) | exact VTos_dv _ _ | refine VTos.cons ?_ ?_ | exact VTos.nil | refine VTo.agg ?_ | refine VTo.tuple ?_ | refine VTo.func ?_ ?_ | exact VTo.fs | exact VTo.fp | exact VTo.nilptr | exact VTo.nilslice | exact VTo.nilfunc | exact VTo.ptr rfl | exact VTo.gl rfl | exact VTo.map rfl | exact VTo.yld rfl | exact VTo.fmMap rfl | exact VTo.fm | exact VTo.glNil' (by decide) rfl rfl | exact VTo.fsNil (by decide) | exact VTo.fsSl rfl rfl (by simp [flat_len encE_len]) | exact VTo.fpPtr rfl | exact VTo.fsGl rfl (by first | rfl | exact flat_len encI_len _ | exact flat_len encT_len _ | exact flat_len encS_len _ | exact flat_len encP_len _ | exact flat_len encL_len _ | exact flat_len encE_len _ | (simp [flat_len encP_len]; done) | simp [flat_len encI_len, flat_len encS_len]))) (by first | rfl | (repeat' (first | exact MkTo.nil | refine MkTo.keep rfl ?_ | refine MkTo.drop (by decide) rfl ?_))))
        · conv => whnf
          repeat (first | (refine VLd.intro rfl ?_; conv => whnf) | (refine VArith.i64 (by first | omega | (dsimp only; omega)) ?_; conv => whnf) | (refine VNeed.intro (by first | rfl | assumption | (simp; omega) | (simp; done)) ?_; conv => whnf) | (refine VMem.store rfl rfl rfl rfl ?_; conv => whnf) | (refine VSame.intro rfl ?_; conv => whnf) | (refine VDraw.go [] (by kernel_rfl) (by kernel_rfl) ?_; conv => whnf))
          refine VCode.lp (fun y : Nat × DS => [(7, .fp (encN l)), (8, .ptr (.loc 0) 0), (9, I G), (10, .fp (encX x)), (19, I XS), (153, I y.1)]) (fun y => [deckB ts y.2]) (fun y => y.1 ≤ 6 ∧ y.2.1 ≤ 60 * y.1 + 1) (fun y => 6 - y.1) (0, z.2) ⟨Nat.zero_le _, by dsimp only; omega⟩ ?_ ?_
          · conv => whnf
            refine Retell.turn ⟨[0], 1, [], []⟩ (TurnOk.mk' _ _ [] [] (OutOk.lift _) rfl (by decide) (by repeat' (first | exact BTos.nil | refine BTos.flat rfl rfl (by first | rfl | simp) ?_ | refine BTos.new rfl ?_ | refine BTos.dead rfl rfl ?_ | refine BTos.esE rfl rfl ?_ | refine BTos.row rfl rfl rfl (RowTo.snoc (RowTo.one rfl (by simp))) ?_ | refine BTos.cells rfl rfl rfl (by repeat' (first | exact VTo.undef | exact FrTo.leaf | refine FrTo.node ?_ ?_ ?_ | refine FrTo.none ?_ ?_ | exact VTo.sc (by first | rfl | (congr 1; omega) | (congr 1; simp; omega)) | exact VTos_dv _ _ | refine VTos.cons ?_ ?_ | exact VTos.nil | refine VTo.agg ?_ | refine VTo.tuple ?_ | refine VTo.func ?_ ?_ | exact VTo.fs | exact VTo.fp | exact VTo.nilptr | exact VTo.nilslice | exact VTo.nilfunc | exact VTo.ptr rfl | exact VTo.gl rfl | exact VTo.map rfl | exact VTo.yld rfl | exact VTo.fmMap rfl | exact VTo.fm | exact VTo.glNil' (by decide) rfl rfl | exact VTo.fsNil (by decide) | exact VTo.fsSl rfl rfl (by simp [flat_len encE_len]) | exact VTo.fpPtr rfl | exact VTo.fsGl rfl (by first | rfl | exact flat_len encI_len _ | exact flat_len encT_len _ | exact flat_len encS_len _ | exact flat_len encP_len _ | exact flat_len encL_len _ | exact flat_len encE_len _ | (simp [flat_len encP_len]; done) | simp [flat_len encI_len, flat_len encS_len]))) ?_)) trivial trivial rfl) (by repeat' (first | exact VTo.undef | exact FrTo.leaf | refine FrTo.node ?_ ?_ ?_ | refine FrTo.none ?_ ?_ | exact VTo.sc (by first | rfl | (congr 1; omega) | (congr 1; simp; omega)) | exact VTos_dv _ _ | refine VTos.cons ?_ ?_ | exact VTos.nil | refine VTo.agg ?_ | refine VTo.tuple ?_ | refine VTo.func ?_ ?_ | exact VTo.fs | exact VTo.fp | exact VTo.nilptr | exact VTo.nilslice | exact VTo.nilfunc | exact VTo.ptr rfl | exact VTo.gl rfl | exact VTo.map rfl | exact VTo.yld rfl | exact VTo.fmMap rfl | exact VTo.fm | exact VTo.glNil' (by decide) rfl rfl | exact VTo.fsNil (by decide) | exact VTo.fsSl rfl rfl (by simp [flat_len encE_len]) | exact VTo.fpPtr rfl | exact VTo.fsGl rfl (by first | rfl | exact flat_len encI_len _ | exact flat_len encT_len _ | exact flat_len encS_len _ | exact flat_len encP_len _ | exact flat_len encL_len _ | exact flat_len encE_len _ | (simp [flat_len encP_len]; done) | simp [flat_len encI_len, flat_len encS_len]))) (by first | rfl | (repeat' (first | exact MkTo.nil | refine MkTo.keep rfl ?_ | refine MkTo.drop (by decide) rfl ?_)))
          · rintro ⟨k, d⟩ ⟨hk, hd⟩
            dsimp only at hk hd
            conv => whnf
            refine VIte.dec (fun h3 => ?_) (fun h3 => ?_)
            · obtain ⟨kA, kD, kW⟩ := hyt d
              have g28 := fun i h => cT d (by omega) i h
              have g26 := cYg _ kA
              have bG := gn_b o kA.ok
              have bW := kA.ok.w
              have hmo := hmost _ kA
              clear cYg cT hyt kA cD hmost c26 c29 hsplit
              generalize (tR ts d l).1 = d2 at *
              generalize tX ts d l = y at *
              generalize gnN l y = YN at *
              generalize gnS l y = YS at *
              have m0 := mulb (A := 1000) (B := 2000) (show -1000 ≤ G ∧ G ≤ 1000 by omega) (show 0 ≤ y.w ∧ y.w ≤ 2000 by omega)
              have m2 := mulb (A := 32000000) (B := 2000) bX.2 (show 0 ≤ y.w ∧ y.w ≤ 2000 by omega)
              have m4 := mulb (A := 32000000) (B := 2000) bG.2 (show 0 ≤ x.w ∧ x.w ≤ 2000 by omega)
              conv => whnf
              repeat' (first | (refine VLd.intro rfl ?_; conv => whnf) | (refine VArith.i64 (by first | omega | (dsimp only; omega)) ?_; conv => whnf) | (refine VNeed.intro (by first | rfl | assumption | (simp; omega) | (simp; done)) ?_; conv => whnf) | (refine VMem.store rfl rfl rfl rfl ?_; conv => whnf) | (refine VSame.intro rfl ?_; conv => whnf) | (refine VDraw.go [] (by kernel_rfl) (by kernel_rfl) ?_; conv => whnf) | (refine VIte.dec (fun _ => ?_) (fun _ => ?_) <;> conv => whnf) | (refine VIte.ndec (fun _ => ?_) (fun _ => ?_) <;> conv => whnf) | (refine VIte.beq (fun _ => ?_) (fun _ => ?_) <;> conv => whnf) | (refine VIte.bne (fun _ => ?_) (fun _ => ?_) <;> conv => whnf) | (refine VIte.intro (fun _ => ?_) (fun _ => ?_) <;> conv => whnf) | (refine VCall.intro (g28 _ _ rfl) ?_; conv => whnf) | (refine VCall.intro (g26 _) ?_; conv => whnf))
              all_goals try (exfalso; omega)
              all_goals (
                refine LEnd.intro (k + 1, d2) ⟨by dsimp only; omega, by dsimp only; omega⟩ (by dsimp only; omega) ?_
                conv => whnf
                refine Retell.turn ⟨[0], 2, [], []⟩ (TurnOk.mk' _ _ [] [] (OutOk.lift _) rfl (by decide) (by repeat' (first | exact BTos.nil | refine BTos.flat rfl rfl (by first | rfl | simp) ?_ | refine BTos.new rfl ?_ | refine BTos.dead rfl rfl ?_ | refine BTos.esE rfl rfl ?_ | refine BTos.row rfl rfl rfl (RowTo.snoc (RowTo.one rfl (by simp))) ?_ | refine BTos.cells rfl rfl rfl (by repeat' (first | exact VTo.undef | exact FrTo.leaf | refine FrTo.node ?_ ?_ ?_ | refine FrTo.none ?_ ?_ | exact VTo.sc (by first | rfl | (congr 1; omega) | (congr 1; simp; omega)) | exact VTos_dv _ _ | refine VTos.cons ?_ ?_ | exact VTos.nil | refine VTo.agg ?_ | refine VTo.tuple ?_ | refine VTo.func ?_ ?_ | exact VTo.fs | exact VTo.fp | exact VTo.nilptr | exact VTo.nilslice | exact VTo.nilfunc | exact VTo.ptr rfl | exact VTo.gl rfl | exact VTo.map rfl | exact VTo.yld rfl | exact VTo.fmMap rfl | exact VTo.fm | exact VTo.glNil' (by decide) rfl rfl | exact VTo.fsNil (by decide) | exact VTo.fsSl rfl rfl (by simp [flat_len encE_len]) | exact VTo.fpPtr rfl | exact VTo.fsGl rfl (by first | rfl | exact flat_len encI_len _ | exact flat_len encT_len _ | exact flat_len encS_len _ | exact flat_len encP_len _ | exact flat_len encL_len _ | exact flat_len encE_len _ | (simp [flat_len encP_len]; done) | simp [flat_len encI_len, flat_len encS_len]))) ?_)) trivial trivial rfl) (by repeat' (first | exact VTo.undef | exact FrTo.leaf | refine FrTo.node ?_ ?_ ?_ | refine FrTo.none ?_ ?_ | exact VTo.sc (by first | rfl | (congr 1; omega) | (congr 1; simp; omega)) | exact VTos_dv _ _ | refine VTos.cons ?_ ?_ | exact VTos.nil | refine VTo.agg ?_ | refine VTo.tuple ?_ | refine VTo.func ?_ ?_ | exact VTo.fs | exact VTo.fp | exact VTo.nilptr | exact VTo.nilslice | exact VTo.nilfunc | exact VTo.ptr rfl | exact VTo.gl rfl | exact VTo.map rfl | exact VTo.yld rfl | exact VTo.fmMap rfl | exact VTo.fm | exact VTo.glNil' (by decide) rfl rfl | exact VTo.fsNil (by decide) | exact VTo.fsSl rfl rfl (by simp [flat_len encE_len]) | exact VTo.fpPtr rfl | exact VTo.fsGl rfl (by first | rfl | exact flat_len encI_len _ | exact flat_len encT_len _ | exact flat_len encS_len _ | exact flat_len encP_len _ | exact flat_len encL_len _ | exact flat_len encE_len _ | (simp [flat_len encP_len]; done) | simp [flat_len encI_len, flat_len encS_len]))) (by first | rfl | (repeat' (first | exact MkTo.nil | refine MkTo.keep rfl ?_ | refine MkTo.drop (by decide) rfl ?_))))
            · conv => whnf
              repeat' (first | (refine VLd.intro rfl ?_; conv => whnf) | (refine VArith.i64 (by first | omega | (dsimp only; omega)) ?_; conv => whnf) | (refine VNeed.intro (by first | rfl | assumption | (simp; omega) | (simp; done)) ?_; conv => whnf) | (refine VMem.store rfl rfl rfl rfl ?_; conv => whnf) | (refine VSame.intro rfl ?_; conv => whnf) | (refine VDraw.go [] (by kernel_rfl) (by kernel_rfl) ?_; conv => whnf) | (refine VIte.dec (fun _ => ?_) (fun _ => ?_) <;> conv => whnf) | (refine VIte.ndec (fun _ => ?_) (fun _ => ?_) <;> conv => whnf) | (refine VIte.beq (fun _ => ?_) (fun _ => ?_) <;> conv => whnf) | (refine VIte.bne (fun _ => ?_) (fun _ => ?_) <;> conv => whnf) | (refine VIte.intro (fun _ => ?_) (fun _ => ?_) <;> conv => whnf) | (refine VCall.intro (vc_awake _) ?_; conv => whnf))
              exact VOut.same rfl
    · rw [if_neg hall] at c18
      rw [if_neg (by omega)] at c18'
      conv => whnf
      repeat' (first | (refine VLd.intro rfl ?_; conv => whnf) | (refine VArith.i64 (by first | omega | (dsimp only; omega)) ?_; conv => whnf) | (refine VNeed.intro (by first | rfl | assumption | (simp; omega) | (simp; done)) ?_; conv => whnf) | (refine VMem.store rfl rfl rfl rfl ?_; conv => whnf) | (refine VSame.intro rfl ?_; conv => whnf) | (refine VIte.dec (fun _ => ?_) (fun _ => ?_) <;> conv => whnf) | (refine VIte.ndec (fun _ => ?_) (fun _ => ?_) <;> conv => whnf) | (refine VIte.beq (fun _ => ?_) (fun _ => ?_) <;> conv => whnf) | (refine VIte.bne (fun _ => ?_) (fun _ => ?_) <;> conv => whnf) | (refine VIte.intro (fun _ => ?_) (fun _ => ?_) <;> conv => whnf))
      rw [← hG]
      repeat' (first | (refine VLd.intro rfl ?_; conv => whnf) | (refine VArith.i64 (by first | omega | (dsimp only; omega)) ?_; conv => whnf) | (refine VNeed.intro (by first | rfl | assumption | (simp; omega) | (simp; done)) ?_; conv => whnf) | (refine VMem.store rfl rfl rfl rfl ?_; conv => whnf) | (refine VSame.intro rfl ?_; conv => whnf) | (refine VIte.dec (fun _ => ?_) (fun _ => ?_) <;> conv => whnf) | (refine VIte.ndec (fun _ => ?_) (fun _ => ?_) <;> conv => whnf) | (refine VIte.beq (fun _ => ?_) (fun _ => ?_) <;> conv => whnf) | (refine VIte.bne (fun _ => ?_) (fun _ => ?_) <;> conv => whnf) | (refine VIte.intro (fun _ => ?_) (fun _ => ?_) <;> conv => whnf) | (refine VCall.intro (c18 _) ?_; conv => whnf))
      refine VCut.at' 99 [(7, .fp (encN l)), (8, .ptr (.loc 0) 0), (9, I G), (11, I 7)] [deckB ts (0, 9)] ?_ ?_
      · conv => whnf
        refine Retell.turn ⟨[0], 2, [], []⟩ (TurnOk.mk' _ _ [] [] (OutOk.lift _) rfl (by decide) (by repeat' (first | exact BTos.nil | refine BTos.flat rfl rfl (by first | rfl | simp) ?_ | refine BTos.new rfl ?_ | refine BTos.dead rfl rfl ?_ | refine BTos.esE rfl rfl ?_ | refine BTos.row rfl rfl rfl (RowTo.snoc (RowTo.one rfl (by simp))) ?_ | refine BTos.cells rfl rfl rfl (by repeat' (first | exact VTo.undef | exact FrTo.leaf | refine FrTo.node ?_ ?_ ?_ | refine FrTo.none ?_ ?_ | exact VTo.sc (by first | rfl | (congr 1; omega) | (congr 1; simp; omega)) | exact VTos_dv _ _ | refine VTos.cons ?_ ?_ | exact VTos.nil | refine VTo.agg ?_ | refine VTo.tuple ?_ | refine VTo.func ?_ ?_ | exact VTo.fs | exact VTo.fp | exact VTo.nilptr | exact VTo.nilslice | exact VTo.nilfunc | exact VTo.ptr rfl | exact VTo.gl rfl | exact VTo.map rfl | exact VTo.yld rfl | exact VTo.fmMap rfl | exact VTo.fm | exact VTo.glNil' (by decide) rfl rfl | exact VTo.fsNil (by decide) | exact VTo.fsSl rfl rfl (by simp [flat_len encE_len]) | exact VTo.fpPtr rfl | exact VTo.fsGl rfl (by first | rfl | exact flat_len encI_len _ | exact flat_len encT_len _ | exact flat_len encS_len _ | exact flat_len encP_len _ | exact flat_len encL_len _ | exact flat_len encE_len _ | (simp [flat_len encP_len]; done) | simp [flat_len encI_len, flat_len encS_len]))) ?_)) trivial trivial rfl) (by repeat' (first | exact VTo.undef | exact FrTo.leaf | refine FrTo.node ?_ ?_ ?_ | refine FrTo.none ?_ ?_ | exact VTo.sc (by first | rfl | (congr 1; omega) | (congr 1; simp; omega)) | exact VTos_dv _ _ | refine VTos.cons ?_ ?_ | exact VTos.nil | refine VTo.agg ?_ | refine VTo.tuple ?_ | refine VTo.func ?_ ?_ | exact VTo.fs | exact VTo.fp | exact VTo.nilptr | exact VTo.nilslice | exact VTo.nilfunc | exact VTo.ptr rfl | exact VTo.gl rfl | exact VTo.map rfl | exact VTo.yld rfl | exact VTo.fmMap rfl | exact VTo.fm | exact VTo.glNil' (by decide) rfl rfl | exact VTo.fsNil (by decide) | exact VTo.fsSl rfl rfl (by simp [flat_len encE_len]) | exact VTo.fpPtr rfl | exact VTo.fsGl rfl (by first | rfl | exact flat_len encI_len _ | exact flat_len encT_len _ | exact flat_len encS_len _ | exact flat_len encP_len _ | exact flat_len encL_len _ | exact flat_len encE_len _ | (simp [flat_len encP_len]; done) | simp [flat_len encI_len, flat_len encS_len]))) (by first | rfl | (repeat' (first | exact MkTo.nil | refine MkTo.keep rfl ?_ | refine MkTo.drop (by decide) rfl ?_)))
      · conv => whnf
        repeat' (first | (refine VLd.intro rfl ?_; conv => whnf) | (refine VArith.i64 (by first | omega | (dsimp only; omega)) ?_; conv => whnf) | (refine VNeed.intro (by first | rfl | assumption | (simp; omega) | (simp; done)) ?_; conv => whnf) | (refine VMem.store rfl rfl rfl rfl ?_; conv => whnf) | (refine VSame.intro rfl ?_; conv => whnf) | (refine VIte.dec (fun _ => ?_) (fun _ => ?_) <;> conv => whnf) | (refine VIte.ndec (fun _ => ?_) (fun _ => ?_) <;> conv => whnf) | (refine VIte.beq (fun _ => ?_) (fun _ => ?_) <;> conv => whnf) | (refine VIte.bne (fun _ => ?_) (fun _ => ?_) <;> conv => whnf) | (refine VIte.intro (fun _ => ?_) (fun _ => ?_) <;> conv => whnf))
        refine VDraw.go [(0, 4)] (by kernel_rfl) (by kernel_rfl) ?_
        conv => whnf
        repeat' (first | (refine VLd.intro rfl ?_; conv => whnf) | (refine VArith.i64 (by first | omega | (dsimp only; omega)) ?_; conv => whnf) | (refine VNeed.intro (by first | rfl | assumption | (simp; omega) | (simp; done)) ?_; conv => whnf) | (refine VMem.store rfl rfl rfl rfl ?_; conv => whnf) | (refine VSame.intro rfl ?_; conv => whnf) | (refine VIte.dec (fun _ => ?_) (fun _ => ?_) <;> conv => whnf) | (refine VIte.ndec (fun _ => ?_) (fun _ => ?_) <;> conv => whnf) | (refine VIte.beq (fun _ => ?_) (fun _ => ?_) <;> conv => whnf) | (refine VIte.bne (fun _ => ?_) (fun _ => ?_) <;> conv => whnf) | (refine VIte.intro (fun _ => ?_) (fun _ => ?_) <;> conv => whnf) | (refine VCall.intro (cD _ _ rfl) ?_; conv => whnf) | (refine VCall.intro (c18' _) ?_; conv => whnf))
        all_goals try (first | (rename_i hz; exact absurd rfl hz) | (exfalso; omega))
        refine VCode.lp (fun y : Nat × DS => [(7, .fp (encN l)), (8, .ptr (.loc 0) 0), (9, I G), (63, I y.1)]) (fun y => [deckB ts y.2]) (fun y => y.1 ≤ 4 ∧ y.2.1 ≤ 60 * y.1 + 1) (fun y => 4 - y.1) (0, z.2) ⟨Nat.zero_le _, by dsimp only; omega⟩ ?_ ?_
        · conv => whnf
          refine Retell.turn ⟨[0], 2, [], []⟩ (TurnOk.mk' _ _ [] [] (OutOk.lift _) rfl (by decide) (by repeat' (first | exact BTos.nil | refine BTos.flat rfl rfl (by first | rfl | simp) ?_ | refine BTos.new rfl ?_ | refine BTos.dead rfl rfl ?_ | refine BTos.esE rfl rfl ?_ | refine BTos.row rfl rfl rfl (RowTo.snoc (RowTo.one rfl (by simp))) ?_ | refine BTos.cells rfl rfl rfl (by repeat' (first | exact VTo.undef | exact FrTo.leaf | refine FrTo.node ?_ ?_ ?_ | refine FrTo.none ?_ ?_ | exact VTo.sc (by first | rfl | (congr 1; omega) | (congr 1; simp; omega)) | exact VTos_dv _ _ | refine VTos.cons ?_ ?_ | exact VTos.nil | refine VTo.agg ?_ | refine VTo.tuple ?_ | refine VTo.func ?_ ?_ | exact VTo.fs | exact VTo.fp | exact VTo.nilptr | exact VTo.nilslice | exact VTo.nilfunc | exact VTo.ptr rfl | exact VTo.gl rfl | exact VTo.map rfl | exact VTo.yld rfl | exact VTo.fmMap rfl | exact VTo.fm | exact VTo.glNil' (by decide) rfl rfl | exact VTo.fsNil (by decide) | exact VTo.fsSl rfl rfl (by simp [flat_len encE_len]) | exact VTo.fpPtr rfl | exact VTo.fsGl rfl (by first | rfl | exact flat_len encI_len _ | exact flat_len encT_len _ | exact flat_len encS_len _ | exact flat_len encP_len _ | exact flat_len encL_len _ | exact flat_len encE_len _ | (simp [flat_len encP_len]; done) | simp [flat_len encI_len, flat_len encS_len]))) ?_)) trivial trivial rfl) (by repeat' (first | exact VTo.undef | exact FrTo.leaf | refine FrTo.node ?_ ?_ ?_ | refine FrTo.none ?_ ?_ | exact VTo.sc (by first | rfl | (congr 1; omega) | (congr 1; simp; omega)) | exact VTos_dv _ _ | refine VTos.cons ?_ ?_ | exact VTos.nil | refine VTo.agg ?_ | refine VTo.tuple ?_ | refine VTo.func ?_ ?_ | exact VTo.fs | exact VTo.fp | exact VTo.nilptr | exact VTo.nilslice | exact VTo.nilfunc | exact VTo.ptr rfl | exact VTo.gl rfl | exact VTo.map rfl | exact VTo.yld rfl | exact VTo.fmMap rfl | exact VTo.fm | exact VTo.glNil' (by decide) rfl rfl | exact VTo.fsNil (by decide) | exact VTo.fsSl rfl rfl (by simp [flat_len encE_len]) | exact VTo.fpPtr rfl | exact VTo.fsGl rfl (by first | rfl | exact flat_len encI_len _ | exact flat_len encT_len _ | exact flat_len encS_len _ | exact flat_len encP_len _ | exact flat_len encL_len _ | exact flat_len encE_len _ | (simp [flat_len encP_len]; done) | simp [flat_len encI_len, flat_len encS_len]))) (by first | rfl | (repeat' (first | exact MkTo.nil | refine MkTo.keep rfl ?_ | refine MkTo.drop (by decide) rfl ?_)))
        · rintro ⟨k, d⟩ ⟨hk, hd⟩
          dsimp only at hk hd
          conv => whnf
          refine VIte.dec (fun h3 => ?_) (fun h3 => ?_)
          · obtain ⟨kA, kD, kW⟩ := hyt d
            have g28 := fun i h => cT d (by omega) i h
            have g26 := cYg _ kA
            have bG := gn_b o kA.ok
            have bW := kA.ok.w
            have hlt := xKn_gn o kA
            have hm := Int.mul_le_mul_of_nonneg_right (show allN l + 1 ≤ G by omega) (show 0 ≤ (tX ts d l).w by omega)
            rw [Int.add_mul, Int.one_mul] at hm
            have hmb := mulb (A := 1000) (B := 2000) (show -1000 ≤ G ∧ G ≤ 1000 by omega) (show 0 ≤ (tX ts d l).w ∧ (tX ts d l).w ≤ 2000 by omega)
            clear cYg cT hyt kA cD c18 c18'
            generalize (tR ts d l).1 = d2 at *
            generalize tX ts d l = y at *
            generalize gnN l y = YN at *
            generalize gnS l y = YS at *
            conv => whnf
            repeat' (first | (refine VLd.intro rfl ?_; conv => whnf) | (refine VArith.i64 (by first | omega | (dsimp only; omega)) ?_; conv => whnf) | (refine VNeed.intro (by first | rfl | assumption | (simp; omega) | (simp; done)) ?_; conv => whnf) | (refine VMem.store rfl rfl rfl rfl ?_; conv => whnf) | (refine VSame.intro rfl ?_; conv => whnf) | (refine VDraw.go [] (by kernel_rfl) (by kernel_rfl) ?_; conv => whnf) | (refine VIte.dec (fun _ => ?_) (fun _ => ?_) <;> conv => whnf) | (refine VIte.ndec (fun _ => ?_) (fun _ => ?_) <;> conv => whnf) | (refine VIte.beq (fun _ => ?_) (fun _ => ?_) <;> conv => whnf) | (refine VIte.bne (fun _ => ?_) (fun _ => ?_) <;> conv => whnf) | (refine VIte.intro (fun _ => ?_) (fun _ => ?_) <;> conv => whnf) | (refine VCall.intro (g28 _ _ rfl) ?_; conv => whnf) | (refine VCall.intro (g26 _) ?_; conv => whnf))
            all_goals try (exfalso; omega)
            all_goals (
              refine LEnd.intro (k + 1, d2) ⟨by dsimp only; omega, by dsimp only; omega⟩ (by dsimp only; omega) ?_
              conv => whnf
              refine Retell.turn ⟨[0], 2, [], []⟩ (TurnOk.mk' _ _ [] [] (OutOk.lift _) rfl (by decide) (by repeat' (first | exact BTos.nil | refine BTos.flat rfl rfl (by first | rfl | simp) ?_ | refine BTos.new rfl ?_ | refine BTos.dead rfl rfl ?_ | refine BTos.esE rfl rfl ?_ | refine BTos.row rfl rfl rfl (RowTo.snoc (RowTo.one rfl (by simp))) ?_ | refine BTos.cells rfl rfl rfl (by repeat' (first | exact VTo.undef | exact FrTo.leaf | refine FrTo.node ?_ ?_ ?_ | refine FrTo.none ?_ ?_ | exact VTo.sc (by first | rfl | (congr 1; omega) | (congr 1; simp; omega)) | exact VTos_dv _ _ | refine VTos.cons ?_ ?_ | exact VTos.nil | refine VTo.agg ?_ | refine VTo.tuple ?_ | refine VTo.func ?_ ?_ | exact VTo.fs | exact VTo.fp | exact VTo.nilptr | exact VTo.nilslice | exact VTo.nilfunc | exact VTo.ptr rfl | exact VTo.gl rfl | exact VTo.map rfl | exact VTo.yld rfl | exact VTo.fmMap rfl | exact VTo.fm | exact VTo.glNil' (by decide) rfl rfl | exact VTo.fsNil (by decide) | exact VTo.fsSl rfl rfl (by simp [flat_len encE_len]) | exact VTo.fpPtr rfl | exact VTo.fsGl rfl (by first | rfl | exact flat_len encI_len _ | exact flat_len encT_len _ | exact flat_len encS_len _ | exact flat_len encP_len _ | exact flat_len encL_len _ | exact flat_len encE_len _ | (simp [flat_len encP_len]; done) | simp [flat_len encI_len, flat_len encS_len]))) ?_)) trivial trivial rfl) (by repeat' (first | exact VTo.undef | exact FrTo.leaf | refine FrTo.node ?_ ?_ ?_ | refine FrTo.none ?_ ?_ | exact VTo.sc (by first | rfl | (congr 1; omega) | (congr 1; simp; omega)) | exact VTos_dv _ _ | refine VTos.cons ?_ ?_ | exact VTos.nil | refine VTo.agg ?_ | refine VTo.tuple ?_ | refine VTo.func ?_ ?_ | exact VTo.fs | exact VTo.fp | exact VTo.nilptr | exact VTo.nilslice | exact VTo.nilfunc | exact VTo.ptr rfl | exact VTo.gl rfl | exact VTo.map rfl | exact VTo.yld rfl | exact VTo.fmMap rfl | exact VTo.fm | exact VTo.glNil' (by decide) rfl rfl | exact VTo.fsNil (by decide) | exact VTo.fsSl rfl rfl (by simp [flat_len encE_len]) | exact VTo.fpPtr rfl | exact VTo.fsGl rfl (by first | rfl | exact flat_len encI_len _ | exact flat_len encT_len _ | exact flat_len encS_len _ | exact flat_len encP_len _ | exact flat_len encL_len _ | exact flat_len encE_len _ | (simp [flat_len encP_len]; done) | simp [flat_len encI_len, flat_len encS_len]))) (by first | rfl | (repeat' (first | exact MkTo.nil | refine MkTo.keep rfl ?_ | refine MkTo.drop (by decide) rfl ?_))))
          · conv => whnf
            repeat' (first | (refine VLd.intro rfl ?_; conv => whnf) | (refine VArith.i64 (by first | omega | (dsimp only; omega)) ?_; conv => whnf) | (refine VNeed.intro (by first | rfl | assumption | (simp; omega) | (simp; done)) ?_; conv => whnf) | (refine VMem.store rfl rfl rfl rfl ?_; conv => whnf) | (refine VSame.intro rfl ?_; conv => whnf) | (refine VDraw.go [] (by kernel_rfl) (by kernel_rfl) ?_; conv => whnf) | (refine VIte.dec (fun _ => ?_) (fun _ => ?_) <;> conv => whnf) | (refine VIte.ndec (fun _ => ?_) (fun _ => ?_) <;> conv => whnf) | (refine VIte.beq (fun _ => ?_) (fun _ => ?_) <;> conv => whnf) | (refine VIte.bne (fun _ => ?_) (fun _ => ?_) <;> conv => whnf) | (refine VIte.intro (fun _ => ?_) (fun _ => ?_) <;> conv => whnf) | (refine VCall.intro (vc_awake _) ?_; conv => whnf))
            exact VOut.same rfl
end Go.Proofs.Ytmpjpjfkbmlmfaa

open Go.Vm
namespace Go.Proofs.Ytmpjpjfkbmlmfaa
open Go.ChangeShapes Go.WideShapes Go.ChangeAt Go.RowKit

theorem open5p : OpenAll Try.prog Try.f5.params.toList (fun x : List Int × List Int × {n : Int // 0 ≤ n ∧ n ≤ 65535} × Unit => [dU x.1, dU x.2.1, d16b x.2.2.1]) := by
  rw [Try.params5]
  exact OpenAll.cons openU (OpenAll.cons openU (OpenAll.cons open16b (OpenAll.nil)))
set_option maxRecDepth 100000 in
theorem contract5 (H : Type) (enc : TypeId × Value → H) (W : World) (base : Nat) (args : Array Value) (ds gs : List (DataW H)) (before : List MemPlace)
    (hval : ∀ (j : Nat) t v, Try.f5.params[j]? = some t → args[j]? = some v → Value.okWide Try.prog W .any base t v)
    (hW : DataW.Whole enc Try.prog Try.f5.params.toList Rows.barterMostSpec.vars false W args.toList ds gs before) :
    Calls Try.prog 5 args W fun e W' => ∃ v, e = .returned v ∧ Rows.barterMostSpec.post enc Try.prog Try.f5 false true false false W args v W' := by
  refine contract_of_vc open5p (fun g => vc_BarterMost g.1 g.2.1 g.2.2.1.1 g.2.2.1.2 Hp.bare) laidOut ?_ (tb := 4) (by kernel_rfl) Try.underlying4 rfl ?_ hval hW
  · rw [Try.params5]
    intro t ht
    simp only [List.mem_cons, List.not_mem_nil, or_false] at ht
    rcases ht with rfl | rfl | rfl
    all_goals exact ⟨by kernel_rfl, of_decide_eq_true (by kernel_rfl)⟩
  · intro H dd hl
    rw [Try.params5] at hl
    match dd, hl with
    | [d0, d1, d2], _ => rfl
set_option maxRecDepth 100000 in
theorem lifted5 (os : Os) (started : os.Started) (H : Type) (enc : TypeId × Value → H) :
    ReturnsInHanded {} Try.checked os 5 .any (Rows.barterMostSpec.pre6 enc Try.prog Try.f5 Rows.barterMostRow.domain false) (Rows.barterMostSpec.post enc Try.prog Try.f5 false true false false) := by
  refine returnsInHanded_of_change (C := Try.checked) ownKn started (by kernel_rfl) Try.func5
    (ChangeSpec.witness6 (enc := enc) (C := Try.checked) false ⟨#[], #[.slice none 0 0, .slice none 0 0, .int .u16 0], []⟩ 8 (by kernel_rfl) (by kernel_rfl) (by kernel_rfl) (by kernel_rfl)) ?_
  intro W base args ds gs before hval hW _ _
  exact contract5 H enc W base args ds gs before hval hW
theorem barterMost_said : Rows.BarterMostSaid :=
  OpenClaim.holds_of_wide 5 Try.f5 rfl rfl rfl rfl rfl rfl rfl ⟨rfl, rfl, rfl, rfl, rfl⟩ rfl rfl rfl rfl rfl (by kernel_rfl) Try.func5 (by kernel_rfl)
    (of_decide_eq_true (by kernel_rfl)) (by unfold Func.isWrapper; first | (rw [if_pos (by decide +kernel)]; kernel_rfl) | (rw [if_neg (by decide +kernel)]; exact ⟨rfl, rfl⟩))
    (fun os started H enc _ => lifted5 os started H enc)
end Go.Proofs.Ytmpjpjfkbmlmfaa

