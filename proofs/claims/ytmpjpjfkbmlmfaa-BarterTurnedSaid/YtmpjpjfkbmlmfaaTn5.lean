/- Part 5 of the proof that sides that are called otherwise gain as much. No condition. -/
import Derived.Test.YtmpjpjfkbmlmfaaTn4
set_option linter.unusedVariables false
set_option linter.unusedSimpArgs false
open Go.Vm
namespace Go.Proofs.Ytmpjpjfkbmlmfaa
set_option maxRecDepth 20000
set_option maxHeartbeats 4000000

/-! A land that is made of numbers. -/
abbrev DS := Nat × Int
def vIt (bs : List Int) (x : DS × List Int) : Nat → DS × List Int
  | 0 => x
  | k + 1 => ((dNx bs (vIt bs x k).1 2).2, (vIt bs x k).2 ++ [(dNx bs (vIt bs x k).1 2).1])
structure VOk (N k : Nat) (x : DS × List Int) : Prop where
  n : x.1.1 ≤ N + k
  len : x.2.length = k
  side : ∀ v ∈ x.2, v = 0 ∨ v = 1
theorem vIt_ok {bs : List Int} {x : DS × List Int} {N : Nat} (h : VOk N 0 x) : ∀ k, VOk N k (vIt bs x k)
  | 0 => h
  | k + 1 => by
    obtain ⟨h1, h2, h3⟩ := vIt_ok (bs := bs) h k
    obtain ⟨a1, a2, a3⟩ := dNx_bd bs (vIt bs x k).1 2
    rw [vIt]
    refine ⟨by dsimp only; omega, by simp [h2], fun v hv => ?_⟩
    rcases List.mem_append.1 hv with hv | hv
    · exact h3 v hv
    · rw [List.mem_singleton] at hv; omega
def sStr (vs : List Int) (ow no so v : Int) : Str := if v < vs.length then ⟨vAt vs v, no, so, v⟩ else ⟨ow, no, so, -1⟩
def sD1 (bs : List Int) (d : DS) : Int × DS := dNx bs d 2
def sD2 (bs : List Int) (d : DS) : Int × DS := dNx bs (sD1 bs d).2 (59 - 1 + 1)
def sD3 (bs : List Int) (d : DS) : Int × DS := dNx bs (sD2 bs d).2 (59 - 1 + 1)
def sD4 (bs : List Int) (d : DS) : Int × DS := dNx bs (sD3 bs d).2 20
def sIt (bs vs : List Int) (x : DS × List Str) : Nat → DS × List Str
  | 0 => x
  | k + 1 => ((sD4 bs (sIt bs vs x k).1).2, (sIt bs vs x k).2 ++ [sStr vs (sD1 bs (sIt bs vs x k).1).1 (1 + (sD2 bs (sIt bs vs x k).1).1) (1 + (sD3 bs (sIt bs vs x k).1).1) (sD4 bs (sIt bs vs x k).1).1])
structure SOk2 (vs : List Int) (s : Str) : Prop where
  ok : Sok vs s
  no : s.no ≤ 59
  so : s.so ≤ 59
structure SSk (vs : List Int) (N k : Nat) (x : DS × List Str) : Prop where
  n : x.1.1 ≤ N + 4 * k
  len : x.2.length = k
  ss : ∀ s ∈ x.2, SOk2 vs s
theorem sIt_ok {bs vs : List Int} {x : DS × List Str} {N : Nat} (hv : ∀ v ∈ vs, v = 0 ∨ v = 1) (h : SSk vs N 0 x) : ∀ k, SSk vs N k (sIt bs vs x k)
  | 0 => h
  | k + 1 => by
    obtain ⟨h1, h2, h3⟩ := sIt_ok (bs := bs) hv h k
    obtain ⟨a1, a2, a3⟩ := dNx_bd bs (sIt bs vs x k).1 2
    obtain ⟨b1, b2, b3⟩ := dNx_bd bs (sD1 bs (sIt bs vs x k).1).2 (59 - 1 + 1)
    obtain ⟨c1, c2, c3⟩ := dNx_bd bs (sD2 bs (sIt bs vs x k).1).2 (59 - 1 + 1)
    obtain ⟨d1, d2, d3⟩ := dNx_bd bs (sD3 bs (sIt bs vs x k).1).2 20
    have e1 : dNx bs (sIt bs vs x k).1 2 = sD1 bs (sIt bs vs x k).1 := rfl
    have e2 : dNx bs (sD1 bs (sIt bs vs x k).1).2 (59 - 1 + 1) = sD2 bs (sIt bs vs x k).1 := rfl
    have e3 : dNx bs (sD2 bs (sIt bs vs x k).1).2 (59 - 1 + 1) = sD3 bs (sIt bs vs x k).1 := rfl
    have e4 : dNx bs (sD3 bs (sIt bs vs x k).1).2 20 = sD4 bs (sIt bs vs x k).1 := rfl
    rw [e1] at a1 a2 a3
    rw [e2] at b1 b2 b3
    rw [e3] at c1 c2 c3
    rw [e4] at d1 d2 d3
    rw [sIt]
    generalize sD4 bs (sIt bs vs x k).1 = y4 at *
    generalize sD3 bs (sIt bs vs x k).1 = y3 at *
    generalize sD2 bs (sIt bs vs x k).1 = y2 at *
    generalize sD1 bs (sIt bs vs x k).1 = y1 at *
    refine ⟨by dsimp only; omega, by simp [h2], fun s hs => ?_⟩
    rcases List.mem_append.1 hs with hs | hs
    · exact h3 s hs
    · rw [List.mem_singleton] at hs
      subst hs
      unfold sStr
      split
      · rename_i hlt
        refine ⟨⟨?_, by dsimp only; omega, by dsimp only; omega, .inr ⟨d1, hlt, rfl⟩⟩, by dsimp only; omega, by dsimp only; omega⟩
        show vAt vs y4.1 = 0 ∨ vAt vs y4.1 = 1
        refine hv _ ?_
        unfold vAt
        rw [List.getD_eq_getElem?_getD, List.getElem?_eq_getElem (by omega), Option.getD_some]
        exact List.getElem_mem _
      · exact ⟨⟨by dsimp only; omega, by dsimp only; omega, by dsimp only; omega, .inl rfl⟩, by dsimp only; omega, by dsimp only; omega⟩
def mdV (bs : List Int) (d : DS) : DS × List Int := vIt bs ((dNx bs d 5).2, []) (dNx bs d 5).1.toNat
def mdN (bs : List Int) (d : DS) (most : Int) : Int × DS := dNx bs (mdV bs d).1 (most - 1 + 1)
def mdS (bs : List Int) (d : DS) (most : Int) : DS × List Str := sIt bs (mdV bs d).2 ((mdN bs d most).2, []) (1 + (mdN bs d most).1).toNat
def mdL (bs : List Int) (d : DS) (most : Int) : Lnd := ⟨(mdS bs d most).2, (mdV bs d).2⟩
structure MdOk (most : Int) (l : Lnd) : Prop where
  ok : Ok l
  n : (l.ss.length : Int) ≤ most
  v : l.vs.length ≤ 4
  ss : ∀ s ∈ l.ss, s.no ≤ 59 ∧ s.so ≤ 59
theorem mdV_ok (bs : List Int) (d : DS) : (mdV bs d).1.1 ≤ d.1 + 5 ∧ (mdV bs d).2.length = (dNx bs d 5).1.toNat ∧ (mdV bs d).2.length ≤ 4 ∧ ∀ v ∈ (mdV bs d).2, v = 0 ∨ v = 1 := by
  obtain ⟨a1, a2, a3⟩ := dNx_bd bs d 5
  unfold mdV
  have := vIt_ok (bs := bs) (x := ((dNx bs d 5).2, [])) (N := d.1 + 1) ⟨by dsimp only; omega, rfl, by simp⟩ (dNx bs d 5).1.toNat
  obtain ⟨h1, h2, h3⟩ := this
  exact ⟨by omega, h2, by omega, h3⟩
theorem mdL_ok (bs : List Int) (d : DS) {most : Int} (hm : 1 ≤ most ∧ most ≤ 16) : MdOk most (mdL bs d most) ∧ (mdS bs d most).1.1 ≤ d.1 + 100 := by
  obtain ⟨q1, q2, q3, q4⟩ := mdV_ok bs d
  obtain ⟨a1, a2, a3⟩ := dNx_bd bs (mdV bs d).1 (most - 1 + 1)
  have e : dNx bs (mdV bs d).1 (most - 1 + 1) = mdN bs d most := rfl
  rw [e] at a1 a2 a3
  have := sIt_ok (bs := bs) (vs := (mdV bs d).2) (x := ((mdN bs d most).2, [])) (N := (mdN bs d most).2.1) q4 ⟨by dsimp only; omega, rfl, by simp⟩ (1 + (mdN bs d most).1).toNat
  obtain ⟨h1, h2, h3⟩ := this
  have e2 : sIt bs (mdV bs d).2 ((mdN bs d most).2, []) (1 + (mdN bs d most).1).toNat = mdS bs d most := rfl
  rw [e2] at h1 h2 h3
  refine ⟨⟨⟨?_, ?_, q4, fun s hs => (h3 s hs).ok⟩, ?_, q3, fun s hs => ⟨(h3 s hs).no, (h3 s hs).so⟩⟩, ?_⟩
  · show 1 ≤ (mdS bs d most).2.length ∧ (mdS bs d most).2.length ≤ 16
    omega
  · show (mdV bs d).2.length ≤ 8
    omega
  · show ((mdS bs d most).2.length : Int) ≤ most
    omega
  · omega
theorem vc_Made (bs : List Int) (d : DS) (most : Int) (i : Vm.Id) (h : Hp) (hN : d.1 ≤ 1000000) (hm : 1 ≤ most ∧ most ≤ 16) (hd : h.get i = some (deckB bs d)) :
    VC Try.prog 24 [.ptr i 0, I most] h (vL (mdL bs d most)) (h.set i (deckB bs (mdS bs d most).1)) := by
  have e1 := dNx_bd bs d 5
  have c1 := fun (h2 : Hp) hh => vc_draw bs d 5 (.out i) h2 (by omega) hh
  obtain ⟨q1, q2, q3, q4⟩ := mdV_ok bs d
  have eL : mdL bs d most = ⟨(mdS bs d most).2, (mdV bs d).2⟩ := rfl
  rw [eL]
  unfold mdS mdN
  have hv0 : mdV bs d = vIt bs ((dNx bs d 5).2, []) (dNx bs d 5).1.toNat := rfl
  obtain ⟨x1, hx1⟩ : ∃ x, x = dNx bs d 5 := ⟨_, rfl⟩
  rw [← hx1] at e1 c1 q2 hv0
  have hVk := fun k => vIt_ok (bs := bs) (x := (x1.2, [])) (N := d.1 + 1) ⟨by dsimp only; omega, rfl, by simp⟩ k
  obtain ⟨n, hn⟩ : ∃ n : Nat, x1.1 = n := ⟨x1.1.toNat, by omega⟩
  rw [hn] at c1 q2 hv0
  rw [Int.toNat_natCast] at q2 hv0
  obtain ⟨W, hW⟩ : ∃ W, W = mdV bs d := ⟨_, rfl⟩
  rw [← hW] at q1 q2 q3 q4 hv0 ⊢
  have e2 := dNx_bd bs W.1 (most - 1 + 1)
  have c2 := fun (h2 : Hp) hh => vc_between bs W.1 1 most (.out i) h2 (by omega) (by omega) (by omega) hh
  obtain ⟨x2, hx2⟩ : ∃ x, x = dNx bs W.1 (most - 1 + 1) := ⟨_, rfl⟩
  rw [← hx2] at e2 c2 ⊢
  have hSk := fun k => sIt_ok (bs := bs) (vs := W.2) (x := (x2.2, [])) (N := x2.2.1) q4 ⟨by dsimp only; omega, rfl, by simp⟩ k
  obtain ⟨m, hm2⟩ : ∃ m : Nat, 1 + x2.1 = m := ⟨(1 + x2.1).toNat, by omega⟩
  rw [hm2] at c2 ⊢
  rw [Int.toNat_natCast]
  obtain ⟨R, hR⟩ : ∃ R, R = sIt bs W.2 (x2.2, []) m := ⟨_, rfl⟩
  rw [← hR]
  clear hx1 hx2 hW eL
  refine VC.body Try.func24 rfl Try.ntmps24 Try.call24 (h.grows_set _ _) rfl ?_
  conv => whnf
  repeat' (first | (refine VLd.intro rfl ?_; conv => whnf) | (refine VArith.i64 (by first | omega | (dsimp only; omega)) ?_; conv => whnf) | (refine VNeed.intro (by first | rfl | assumption | (simp; omega) | (simp; done)) ?_; conv => whnf) | (refine VMem.store rfl rfl rfl rfl ?_; conv => whnf) | (refine VSame.intro rfl ?_; conv => whnf) | (refine VDraw.go [] (by kernel_rfl) (by kernel_rfl) ?_; conv => whnf) | (refine VIte.dec (fun _ => ?_) (fun _ => ?_) <;> conv => whnf) | (refine VIte.ndec (fun _ => ?_) (fun _ => ?_) <;> conv => whnf) | (refine VIte.beq (fun _ => ?_) (fun _ => ?_) <;> conv => whnf) | (refine VIte.bne (fun _ => ?_) (fun _ => ?_) <;> conv => whnf) | (refine VIte.intro (fun _ => ?_) (fun _ => ?_) <;> conv => whnf) | (refine VCall.intro (c1 _ (get_out hd _)) ?_; conv => whnf))
  refine VCode.lpo (fun y : Nat × (DS × List Int) => [(0, .ptr (.out i) 0), (1, I most), (4, .ptr (.loc 0) 0), (5, .ptr (.loc 1) 0), (9, I n), (10, I y.1)]) (fun y => outW h.lift i (deckB bs y.2.1))
    (fun y => [.flat true [.nilslice, .nilslice], .cells true [.nilslice, .gl (.loc 2) 1 y.2.2.length], .flat true (y.2.2.flatMap encI)]) (fun y => y.1 ≤ n ∧ y.2 = vIt bs (x1.2, []) y.1) (fun y => n - y.1) (0, (x1.2, [])) ⟨Nat.zero_le _, rfl⟩ ?_ ?_ ?_
  · funext j; by_cases e : j = i <;> simp [outW, e, Hp.set]
  · conv => whnf
    refine Retell.turn ⟨[0,1,2], 2, [], []⟩ (TurnOk.mk' _ _ [] [] (OutOk.outW (OutOk.lift _) rfl) rfl (by decide) (by repeat' (first | exact BTos.nil | refine BTos.flat rfl rfl (by first | rfl | simp) ?_ | refine BTos.new rfl ?_ | refine BTos.dead rfl rfl ?_ | refine BTos.esE rfl rfl ?_ | refine BTos.row rfl rfl rfl (RowTo.snoc (RowTo.one rfl (by simp))) ?_ | refine BTos.cells rfl rfl rfl (by repeat' (first | exact VTo.undef | exact FrTo.leaf | refine FrTo.node ?_ ?_ ?_ | refine FrTo.none ?_ ?_ | exact VTo.sc (by first | rfl | (congr 1; omega) | (congr 1; simp; omega)) | exact VTos_dv _ _ | refine VTos.cons ?_ ?_ | exact VTos.nil | refine VTo.agg ?_ | refine VTo.tuple ?_ | refine VTo.func ?_ ?_ | exact VTo.fs | exact VTo.fp | exact VTo.nilptr | exact VTo.nilslice | exact VTo.nilfunc | exact VTo.ptr rfl | exact VTo.gl rfl | exact VTo.map rfl | exact VTo.yld rfl | exact VTo.fmMap rfl | exact VTo.fm | exact VTo.glNil' (by decide) rfl rfl | exact VTo.fsNil (by decide) | exact VTo.fsSl rfl rfl (by simp [flat_len encE_len]) | exact VTo.fpPtr rfl | exact VTo.fsGl rfl (by first | rfl | exact flat_len encI_len _ | exact flat_len encT_len _ | exact flat_len encS_len _ | exact flat_len encP_len _ | exact flat_len encL_len _ | exact flat_len encE_len _ | (simp [flat_len encP_len]; done) | simp [flat_len encI_len, flat_len encS_len]))) ?_)) trivial trivial rfl) (by repeat' (first | exact VTo.undef | exact FrTo.leaf | refine FrTo.node ?_ ?_ ?_ | refine FrTo.none ?_ ?_ | exact VTo.sc (by first | rfl | (congr 1; omega) | (congr 1; simp; omega)) | exact VTos_dv _ _ | refine VTos.cons ?_ ?_ | exact VTos.nil | refine VTo.agg ?_ | refine VTo.tuple ?_ | refine VTo.func ?_ ?_ | exact VTo.fs | exact VTo.fp | exact VTo.nilptr | exact VTo.nilslice | exact VTo.nilfunc | exact VTo.ptr rfl | exact VTo.gl rfl | exact VTo.map rfl | exact VTo.yld rfl | exact VTo.fmMap rfl | exact VTo.fm | exact VTo.glNil' (by decide) rfl rfl | exact VTo.fsNil (by decide) | exact VTo.fsSl rfl rfl (by simp [flat_len encE_len]) | exact VTo.fpPtr rfl | exact VTo.fsGl rfl (by first | rfl | exact flat_len encI_len _ | exact flat_len encT_len _ | exact flat_len encS_len _ | exact flat_len encP_len _ | exact flat_len encL_len _ | exact flat_len encE_len _ | (simp [flat_len encP_len]; done) | simp [flat_len encI_len, flat_len encS_len]))) (by first | rfl | (repeat' (first | exact MkTo.nil | refine MkTo.keep rfl ?_ | refine MkTo.drop (by decide) rfl ?_)))
  · rintro ⟨k, w⟩ ⟨hk, hw⟩
    dsimp only at hk hw
    have hwk := hVk k
    have hnx : vIt bs (x1.2, []) (k + 1) = ((dNx bs w.1 2).2, w.2 ++ [(dNx bs w.1 2).1]) := by rw [vIt, hw]
    rw [← hw] at hwk
    obtain ⟨n1, n2, n3⟩ := hwk
    have y1 := dNx_bd bs w.1 2
    have g1 := fun (h2 : Hp) hh => vc_draw bs w.1 2 (.out i) h2 (by omega) hh
    generalize dNx bs w.1 2 = z at y1 g1 hnx
    conv => whnf
    refine VIte.dec (fun h3 => ?_) (fun h3 => ?_)
    · conv => whnf
      refine VDraw.go [(1, 3)] (by kernel_rfl) (by kernel_rfl) ?_
      conv => whnf
      repeat' (first | (refine VLd.intro rfl ?_; conv => whnf) | (refine VArith.i64 (by first | omega | (dsimp only; omega)) ?_; conv => whnf) | (refine VNeed.intro (by first | rfl | assumption | (simp; omega) | (simp; done)) ?_; conv => whnf) | (refine VMem.store rfl rfl rfl rfl ?_; conv => whnf) | (refine VSame.intro rfl ?_; conv => whnf) | (refine VIte.dec (fun _ => ?_) (fun _ => ?_) <;> conv => whnf) | (refine VIte.ndec (fun _ => ?_) (fun _ => ?_) <;> conv => whnf) | (refine VIte.beq (fun _ => ?_) (fun _ => ?_) <;> conv => whnf) | (refine VIte.bne (fun _ => ?_) (fun _ => ?_) <;> conv => whnf) | (refine VIte.intro (fun _ => ?_) (fun _ => ?_) <;> conv => whnf) | (refine VCall.intro (g1 _ (outW_get _ _ _ _)) ?_; conv => whnf))
      refine VMem.app1 (l := w.2) z.1 encI_len rfl rfl rfl rfl rfl (by omega) ?_
      conv => whnf
      repeat' (first | (refine VLd.intro rfl ?_; conv => whnf) | (refine VArith.i64 (by first | omega | (dsimp only; omega)) ?_; conv => whnf) | (refine VNeed.intro (by first | rfl | assumption | (simp; omega) | (simp; done)) ?_; conv => whnf) | (refine VMem.store rfl rfl rfl rfl ?_; conv => whnf) | (refine VSame.intro rfl ?_; conv => whnf) | (refine VIte.dec (fun _ => ?_) (fun _ => ?_) <;> conv => whnf) | (refine VIte.ndec (fun _ => ?_) (fun _ => ?_) <;> conv => whnf) | (refine VIte.beq (fun _ => ?_) (fun _ => ?_) <;> conv => whnf) | (refine VIte.bne (fun _ => ?_) (fun _ => ?_) <;> conv => whnf) | (refine VIte.intro (fun _ => ?_) (fun _ => ?_) <;> conv => whnf))
      refine LEndO.intro (k + 1, _) ⟨by dsimp only; omega, hnx.symm⟩ (by dsimp only; omega) ?_ ?_
      · funext j; by_cases e : j = i <;> simp [outW, e, Hp.set]
      · conv => whnf
        rw [List.length_append]
        refine Retell.turn ⟨[0,1,4], 5, [], []⟩ (TurnOk.mk' _ _ [] [] (OutOk.outW (OutOk.lift _) rfl) rfl (by decide) (by repeat' (first | exact BTos.nil | refine BTos.flat rfl rfl (by first | rfl | simp) ?_ | refine BTos.new rfl ?_ | refine BTos.dead rfl rfl ?_ | refine BTos.esE rfl rfl ?_ | refine BTos.row rfl rfl rfl (RowTo.snoc (RowTo.one rfl (by simp))) ?_ | refine BTos.cells rfl rfl rfl (by repeat' (first | exact VTo.undef | exact FrTo.leaf | refine FrTo.node ?_ ?_ ?_ | refine FrTo.none ?_ ?_ | exact VTo.sc (by first | rfl | (congr 1; omega) | (congr 1; simp; omega)) | exact VTos_dv _ _ | refine VTos.cons ?_ ?_ | exact VTos.nil | refine VTo.agg ?_ | refine VTo.tuple ?_ | refine VTo.func ?_ ?_ | exact VTo.fs | exact VTo.fp | exact VTo.nilptr | exact VTo.nilslice | exact VTo.nilfunc | exact VTo.ptr rfl | exact VTo.gl rfl | exact VTo.map rfl | exact VTo.yld rfl | exact VTo.fmMap rfl | exact VTo.fm | exact VTo.glNil' (by decide) rfl rfl | exact VTo.fsNil (by decide) | exact VTo.fsSl rfl rfl (by simp [flat_len encE_len]) | exact VTo.fpPtr rfl | exact VTo.fsGl rfl (by first | rfl | exact flat_len encI_len _ | exact flat_len encT_len _ | exact flat_len encS_len _ | exact flat_len encP_len _ | exact flat_len encL_len _ | exact flat_len encE_len _ | (simp [flat_len encP_len]; done) | simp [flat_len encI_len, flat_len encS_len]))) ?_)) trivial trivial rfl) (by repeat' (first | exact VTo.undef | exact FrTo.leaf | refine FrTo.node ?_ ?_ ?_ | refine FrTo.none ?_ ?_ | exact VTo.sc (by first | rfl | (congr 1; omega) | (congr 1; simp; omega)) | exact VTos_dv _ _ | refine VTos.cons ?_ ?_ | exact VTos.nil | refine VTo.agg ?_ | refine VTo.tuple ?_ | refine VTo.func ?_ ?_ | exact VTo.fs | exact VTo.fp | exact VTo.nilptr | exact VTo.nilslice | exact VTo.nilfunc | exact VTo.ptr rfl | exact VTo.gl rfl | exact VTo.map rfl | exact VTo.yld rfl | exact VTo.fmMap rfl | exact VTo.fm | exact VTo.glNil' (by decide) rfl rfl | exact VTo.fsNil (by decide) | exact VTo.fsSl rfl rfl (by simp [flat_len encE_len]) | exact VTo.fpPtr rfl | exact VTo.fsGl rfl (by first | rfl | exact flat_len encI_len _ | exact flat_len encT_len _ | exact flat_len encS_len _ | exact flat_len encP_len _ | exact flat_len encL_len _ | exact flat_len encE_len _ | (simp [flat_len encP_len]; done) | simp [flat_len encI_len, flat_len encS_len]))) (by first | rfl | (repeat' (first | exact MkTo.nil | refine MkTo.keep rfl ?_ | refine MkTo.drop (by decide) rfl ?_)))
    · have hkn : k = n := by dsimp only at h3; omega
      subst hkn
      rw [← hv0] at hw
      subst hw
      conv => whnf
      repeat' (first | (refine VLd.intro rfl ?_; conv => whnf) | (refine VArith.i64 (by first | omega | (dsimp only; omega)) ?_; conv => whnf) | (refine VNeed.intro (by first | rfl | assumption | (simp; omega) | (simp; done)) ?_; conv => whnf) | (refine VMem.store rfl rfl rfl rfl ?_; conv => whnf) | (refine VSame.intro rfl ?_; conv => whnf) | (refine VIte.dec (fun _ => ?_) (fun _ => ?_) <;> conv => whnf) | (refine VIte.ndec (fun _ => ?_) (fun _ => ?_) <;> conv => whnf) | (refine VIte.beq (fun _ => ?_) (fun _ => ?_) <;> conv => whnf) | (refine VIte.bne (fun _ => ?_) (fun _ => ?_) <;> conv => whnf) | (refine VIte.intro (fun _ => ?_) (fun _ => ?_) <;> conv => whnf) | (refine VCall.intro (c2 _ (outW_get _ _ _ _)) ?_; conv => whnf))
      refine VCode.lpo (fun y : Nat × (DS × List Str) => [(0, .ptr (.out i) 0), (4, .ptr (.loc 0) 0), (5, .ptr (.loc 1) 0), (22, I m), (23, I y.1)]) (fun y => outW h.lift i (deckB bs y.2.1))
        (fun y => [.flat true [.nilslice, .nilslice], .cells true [.gl (.loc 2) 4 y.2.2.length, ints w.2], .flat true (y.2.2.flatMap encT)]) (fun y => y.1 ≤ m ∧ y.2 = sIt bs w.2 (x2.2, []) y.1) (fun y => m - y.1) (0, (x2.2, [])) ⟨Nat.zero_le _, rfl⟩ ?_ ?_ ?_
      · funext j; by_cases e : j = i <;> simp [outW, e, Hp.set]
      · conv => whnf
        refine Retell.turn ⟨[0,1,3], 3, [(2, w.2.flatMap encI)], []⟩ (TurnOk.mk' _ _ [(2, w.2.flatMap encI)] [] (OutOk.outW (OutOk.lift _) rfl) rfl (by decide) (by repeat' (first | exact BTos.nil | refine BTos.flat rfl rfl (by first | rfl | simp) ?_ | refine BTos.new rfl ?_ | refine BTos.dead rfl rfl ?_ | refine BTos.esE rfl rfl ?_ | refine BTos.row rfl rfl rfl (RowTo.snoc (RowTo.one rfl (by simp))) ?_ | refine BTos.cells rfl rfl rfl (by repeat' (first | exact VTo.undef | exact FrTo.leaf | refine FrTo.node ?_ ?_ ?_ | refine FrTo.none ?_ ?_ | exact VTo.sc (by first | rfl | (congr 1; omega) | (congr 1; simp; omega)) | exact VTos_dv _ _ | refine VTos.cons ?_ ?_ | exact VTos.nil | refine VTo.agg ?_ | refine VTo.tuple ?_ | refine VTo.func ?_ ?_ | exact VTo.fs | exact VTo.fp | exact VTo.nilptr | exact VTo.nilslice | exact VTo.nilfunc | exact VTo.ptr rfl | exact VTo.gl rfl | exact VTo.map rfl | exact VTo.yld rfl | exact VTo.fmMap rfl | exact VTo.fm | exact VTo.glNil' (by decide) rfl rfl | exact VTo.fsNil (by decide) | exact VTo.fsSl rfl rfl (by simp [flat_len encE_len]) | exact VTo.fpPtr rfl | exact VTo.fsGl rfl (by first | rfl | exact flat_len encI_len _ | exact flat_len encT_len _ | exact flat_len encS_len _ | exact flat_len encP_len _ | exact flat_len encL_len _ | exact flat_len encE_len _ | (simp [flat_len encP_len]; done) | simp [flat_len encI_len, flat_len encS_len]))) ?_)) (by repeat' (first | exact FzAll.nil | refine FzAll.flat rfl ?_ | refine FzAll.row rfl rfl (RowTo.one rfl (by simp)) ?_)) trivial rfl) (by repeat' (first | exact VTo.undef | exact FrTo.leaf | refine FrTo.node ?_ ?_ ?_ | refine FrTo.none ?_ ?_ | exact VTo.sc (by first | rfl | (congr 1; omega) | (congr 1; simp; omega)) | exact VTos_dv _ _ | refine VTos.cons ?_ ?_ | exact VTos.nil | refine VTo.agg ?_ | refine VTo.tuple ?_ | refine VTo.func ?_ ?_ | exact VTo.fs | exact VTo.fp | exact VTo.nilptr | exact VTo.nilslice | exact VTo.nilfunc | exact VTo.ptr rfl | exact VTo.gl rfl | exact VTo.map rfl | exact VTo.yld rfl | exact VTo.fmMap rfl | exact VTo.fm | exact VTo.glNil' (by decide) rfl rfl | exact VTo.fsNil (by decide) | exact VTo.fsSl rfl rfl (by simp [flat_len encE_len]) | exact VTo.fpPtr rfl | exact VTo.fsGl rfl (by first | rfl | exact flat_len encI_len _ | exact flat_len encT_len _ | exact flat_len encS_len _ | exact flat_len encP_len _ | exact flat_len encL_len _ | exact flat_len encE_len _ | (simp [flat_len encP_len]; done) | simp [flat_len encI_len, flat_len encS_len]))) (by first | rfl | (repeat' (first | exact MkTo.nil | refine MkTo.keep rfl ?_ | refine MkTo.drop (by decide) rfl ?_)))
      · rintro ⟨k, u⟩ ⟨hk, hu⟩
        dsimp only at hk hu
        have huk := hSk k
        have hnx : sIt bs w.2 (x2.2, []) (k + 1) = ((sD4 bs u.1).2, u.2 ++ [sStr w.2 (sD1 bs u.1).1 (1 + (sD2 bs u.1).1) (1 + (sD3 bs u.1).1) (sD4 bs u.1).1]) := by rw [sIt, hu]
        rw [← hu] at huk
        obtain ⟨n1, n2, n3⟩ := huk
        have km : k ≤ 16 := by omega
        unfold sD4 sD3 sD2 sD1 at hnx
        have y1 := dNx_bd bs u.1 2
        have g1 := fun (h2 : Hp) hh => vc_draw bs u.1 2 (.out i) h2 (by omega) hh
        generalize dNx bs u.1 2 = z1 at y1 g1 hnx
        have y2 := dNx_bd bs z1.2 (59 - 1 + 1)
        have g2 := fun (h2 : Hp) hh => vc_between bs z1.2 1 59 (.out i) h2 (by omega) (by omega) (by omega) hh
        generalize dNx bs z1.2 (59 - 1 + 1) = z2 at y2 g2 hnx
        have y3 := dNx_bd bs z2.2 (59 - 1 + 1)
        have g3 := fun (h2 : Hp) hh => vc_between bs z2.2 1 59 (.out i) h2 (by omega) (by omega) (by omega) hh
        generalize dNx bs z2.2 (59 - 1 + 1) = z3 at y3 g3 hnx
        have y4 := dNx_bd bs z3.2 20
        have g4 := fun (h2 : Hp) hh => vc_draw bs z3.2 20 (.out i) h2 (by omega) hh
        generalize dNx bs z3.2 20 = z4 at y4 g4 hnx
        conv => whnf
        refine VIte.dec (fun h3 => ?_) (fun h3 => ?_)
        · conv => whnf
          repeat' (first | (refine VLd.intro rfl ?_; conv => whnf) | (refine VArith.i64 (by first | omega | (dsimp only; omega)) ?_; conv => whnf) | (refine VNeed.intro (by first | rfl | assumption | (simp; omega) | (simp; done)) ?_; conv => whnf) | (refine VMem.store rfl rfl rfl rfl ?_; conv => whnf) | (refine VSame.intro rfl ?_; conv => whnf) | (refine VIte.dec (fun _ => ?_) (fun _ => ?_) <;> conv => whnf) | (refine VIte.ndec (fun _ => ?_) (fun _ => ?_) <;> conv => whnf) | (refine VIte.beq (fun _ => ?_) (fun _ => ?_) <;> conv => whnf) | (refine VIte.bne (fun _ => ?_) (fun _ => ?_) <;> conv => whnf) | (refine VIte.intro (fun _ => ?_) (fun _ => ?_) <;> conv => whnf) | (refine VCall.intro (g1 _ (outW_get _ _ _ _)) ?_; conv => whnf) | (refine VCall.intro (g2 _ (outW_get _ _ _ _)) ?_; conv => whnf) | (refine VCall.intro (g3 _ (outW_get _ _ _ _)) ?_; conv => whnf) | (refine VCall.intro (g4 _ (outW_get _ _ _ _)) ?_; conv => whnf))
          · rename_i h5
            obtain ⟨v, hv⟩ : ∃ v : Nat, z4.1 = v := ⟨z4.1.toNat, by omega⟩
            rw [hv] at hnx h5
            have hvl : v < w.2.length := by omega
            have hva : w.2[v]? = some (w.2[v]) := List.getElem?_eq_getElem hvl
            have hst : sStr w.2 z1.1 (1 + z2.1) (1 + z3.1) (v : Int) = ⟨w.2[v], 1 + z2.1, 1 + z3.1, v⟩ := by
              unfold sStr vAt
              rw [if_pos (by omega), Int.toNat_natCast, List.getD_eq_getElem?_getD, hva, Option.getD_some]
            rw [hst] at hnx
            generalize w.2[v] = e at hva hnx
            simp only [hv]
            refine VDraw.go [(2, 7), (5, 7)] (by kernel_rfl) (by kernel_rfl) ?_
            conv => whnf
            repeat' (first | (refine VLd.intro rfl ?_; conv => whnf) | (refine VArith.i64 (by first | omega | (dsimp only; omega)) ?_; conv => whnf) | (refine VNeed.intro (by first | rfl | assumption | (simp; omega) | (simp; done)) ?_; conv => whnf) | (refine VMem.store rfl rfl rfl rfl ?_; conv => whnf) | (refine VSame.intro rfl ?_; conv => whnf) | (refine VIte.dec (fun _ => ?_) (fun _ => ?_) <;> conv => whnf) | (refine VIte.ndec (fun _ => ?_) (fun _ => ?_) <;> conv => whnf) | (refine VIte.beq (fun _ => ?_) (fun _ => ?_) <;> conv => whnf) | (refine VIte.bne (fun _ => ?_) (fun _ => ?_) <;> conv => whnf) | (refine VIte.intro (fun _ => ?_) (fun _ => ?_) <;> conv => whnf) | (refine VAny.ix encI_len v rfl rfl hva ?_; conv => whnf))
            refine VMem.app1 (l := u.2) (⟨e, 1 + z2.1, 1 + z3.1, v⟩ : Str) encT_len rfl rfl rfl rfl rfl (by omega) ?_
            conv => whnf
            repeat' (first | (refine VLd.intro rfl ?_; conv => whnf) | (refine VArith.i64 (by first | omega | (dsimp only; omega)) ?_; conv => whnf) | (refine VNeed.intro (by first | rfl | assumption | (simp; omega) | (simp; done)) ?_; conv => whnf) | (refine VMem.store rfl rfl rfl rfl ?_; conv => whnf) | (refine VSame.intro rfl ?_; conv => whnf) | (refine VIte.dec (fun _ => ?_) (fun _ => ?_) <;> conv => whnf) | (refine VIte.ndec (fun _ => ?_) (fun _ => ?_) <;> conv => whnf) | (refine VIte.beq (fun _ => ?_) (fun _ => ?_) <;> conv => whnf) | (refine VIte.bne (fun _ => ?_) (fun _ => ?_) <;> conv => whnf) | (refine VIte.intro (fun _ => ?_) (fun _ => ?_) <;> conv => whnf))
            refine LEndO.intro (k + 1, _) ⟨by dsimp only; omega, hnx.symm⟩ (by dsimp only; omega) ?_ ?_
            · funext j; by_cases e : j = i <;> simp [outW, e, Hp.set]
            · conv => whnf
              rw [List.length_append]
              refine Retell.turn ⟨[0,1,5], 6, [], []⟩ (TurnOk.mk' _ _ [] [] (OutOk.outW (OutOk.lift _) rfl) rfl (by decide) (by repeat' (first | exact BTos.nil | refine BTos.flat rfl rfl (by first | rfl | simp) ?_ | refine BTos.new rfl ?_ | refine BTos.dead rfl rfl ?_ | refine BTos.esE rfl rfl ?_ | refine BTos.row rfl rfl rfl (RowTo.snoc (RowTo.one rfl (by simp))) ?_ | refine BTos.cells rfl rfl rfl (by repeat' (first | exact VTo.undef | exact FrTo.leaf | refine FrTo.node ?_ ?_ ?_ | refine FrTo.none ?_ ?_ | exact VTo.sc (by first | rfl | (congr 1; omega) | (congr 1; simp; omega)) | exact VTos_dv _ _ | refine VTos.cons ?_ ?_ | exact VTos.nil | refine VTo.agg ?_ | refine VTo.tuple ?_ | refine VTo.func ?_ ?_ | exact VTo.fs | exact VTo.fp | exact VTo.nilptr | exact VTo.nilslice | exact VTo.nilfunc | exact VTo.ptr rfl | exact VTo.gl rfl | exact VTo.map rfl | exact VTo.yld rfl | exact VTo.fmMap rfl | exact VTo.fm | exact VTo.glNil' (by decide) rfl rfl | exact VTo.fsNil (by decide) | exact VTo.fsSl rfl rfl (by simp [flat_len encE_len]) | exact VTo.fpPtr rfl | exact VTo.fsGl rfl (by first | rfl | exact flat_len encI_len _ | exact flat_len encT_len _ | exact flat_len encS_len _ | exact flat_len encP_len _ | exact flat_len encL_len _ | exact flat_len encE_len _ | (simp [flat_len encP_len]; done) | simp [flat_len encI_len, flat_len encS_len]))) ?_)) trivial trivial rfl) (by repeat' (first | exact VTo.undef | exact FrTo.leaf | refine FrTo.node ?_ ?_ ?_ | refine FrTo.none ?_ ?_ | exact VTo.sc (by first | rfl | (congr 1; omega) | (congr 1; simp; omega)) | exact VTos_dv _ _ | refine VTos.cons ?_ ?_ | exact VTos.nil | refine VTo.agg ?_ | refine VTo.tuple ?_ | refine VTo.func ?_ ?_ | exact VTo.fs | exact VTo.fp | exact VTo.nilptr | exact VTo.nilslice | exact VTo.nilfunc | exact VTo.ptr rfl | exact VTo.gl rfl | exact VTo.map rfl | exact VTo.yld rfl | exact VTo.fmMap rfl | exact VTo.fm | exact VTo.glNil' (by decide) rfl rfl | exact VTo.fsNil (by decide) | exact VTo.fsSl rfl rfl (by simp [flat_len encE_len]) | exact VTo.fpPtr rfl | exact VTo.fsGl rfl (by first | rfl | exact flat_len encI_len _ | exact flat_len encT_len _ | exact flat_len encS_len _ | exact flat_len encP_len _ | exact flat_len encL_len _ | exact flat_len encE_len _ | (simp [flat_len encP_len]; done) | simp [flat_len encI_len, flat_len encS_len]))) (by first | rfl | (repeat' (first | exact MkTo.nil | refine MkTo.keep rfl ?_ | refine MkTo.drop (by decide) rfl ?_)))
          · rename_i h5
            have hst : sStr w.2 z1.1 (1 + z2.1) (1 + z3.1) z4.1 = ⟨z1.1, 1 + z2.1, 1 + z3.1, -1⟩ := by
              unfold sStr; rw [if_neg h5]
            rw [hst] at hnx
            refine VMem.app1 (l := u.2) (⟨z1.1, 1 + z2.1, 1 + z3.1, -1⟩ : Str) encT_len rfl rfl rfl rfl rfl (by omega) ?_
            conv => whnf
            repeat' (first | (refine VLd.intro rfl ?_; conv => whnf) | (refine VArith.i64 (by first | omega | (dsimp only; omega)) ?_; conv => whnf) | (refine VNeed.intro (by first | rfl | assumption | (simp; omega) | (simp; done)) ?_; conv => whnf) | (refine VMem.store rfl rfl rfl rfl ?_; conv => whnf) | (refine VSame.intro rfl ?_; conv => whnf) | (refine VIte.dec (fun _ => ?_) (fun _ => ?_) <;> conv => whnf) | (refine VIte.ndec (fun _ => ?_) (fun _ => ?_) <;> conv => whnf) | (refine VIte.beq (fun _ => ?_) (fun _ => ?_) <;> conv => whnf) | (refine VIte.bne (fun _ => ?_) (fun _ => ?_) <;> conv => whnf) | (refine VIte.intro (fun _ => ?_) (fun _ => ?_) <;> conv => whnf))
            refine LEndO.intro (k + 1, _) ⟨by dsimp only; omega, hnx.symm⟩ (by dsimp only; omega) ?_ ?_
            · funext j; by_cases e : j = i <;> simp [outW, e, Hp.set]
            · conv => whnf
              rw [List.length_append]
              refine Retell.turn ⟨[0,1,5], 6, [], []⟩ (TurnOk.mk' _ _ [] [] (OutOk.outW (OutOk.lift _) rfl) rfl (by decide) (by repeat' (first | exact BTos.nil | refine BTos.flat rfl rfl (by first | rfl | simp) ?_ | refine BTos.new rfl ?_ | refine BTos.dead rfl rfl ?_ | refine BTos.esE rfl rfl ?_ | refine BTos.row rfl rfl rfl (RowTo.snoc (RowTo.one rfl (by simp))) ?_ | refine BTos.cells rfl rfl rfl (by repeat' (first | exact VTo.undef | exact FrTo.leaf | refine FrTo.node ?_ ?_ ?_ | refine FrTo.none ?_ ?_ | exact VTo.sc (by first | rfl | (congr 1; omega) | (congr 1; simp; omega)) | exact VTos_dv _ _ | refine VTos.cons ?_ ?_ | exact VTos.nil | refine VTo.agg ?_ | refine VTo.tuple ?_ | refine VTo.func ?_ ?_ | exact VTo.fs | exact VTo.fp | exact VTo.nilptr | exact VTo.nilslice | exact VTo.nilfunc | exact VTo.ptr rfl | exact VTo.gl rfl | exact VTo.map rfl | exact VTo.yld rfl | exact VTo.fmMap rfl | exact VTo.fm | exact VTo.glNil' (by decide) rfl rfl | exact VTo.fsNil (by decide) | exact VTo.fsSl rfl rfl (by simp [flat_len encE_len]) | exact VTo.fpPtr rfl | exact VTo.fsGl rfl (by first | rfl | exact flat_len encI_len _ | exact flat_len encT_len _ | exact flat_len encS_len _ | exact flat_len encP_len _ | exact flat_len encL_len _ | exact flat_len encE_len _ | (simp [flat_len encP_len]; done) | simp [flat_len encI_len, flat_len encS_len]))) ?_)) trivial trivial rfl) (by repeat' (first | exact VTo.undef | exact FrTo.leaf | refine FrTo.node ?_ ?_ ?_ | refine FrTo.none ?_ ?_ | exact VTo.sc (by first | rfl | (congr 1; omega) | (congr 1; simp; omega)) | exact VTos_dv _ _ | refine VTos.cons ?_ ?_ | exact VTos.nil | refine VTo.agg ?_ | refine VTo.tuple ?_ | refine VTo.func ?_ ?_ | exact VTo.fs | exact VTo.fp | exact VTo.nilptr | exact VTo.nilslice | exact VTo.nilfunc | exact VTo.ptr rfl | exact VTo.gl rfl | exact VTo.map rfl | exact VTo.yld rfl | exact VTo.fmMap rfl | exact VTo.fm | exact VTo.glNil' (by decide) rfl rfl | exact VTo.fsNil (by decide) | exact VTo.fsSl rfl rfl (by simp [flat_len encE_len]) | exact VTo.fpPtr rfl | exact VTo.fsGl rfl (by first | rfl | exact flat_len encI_len _ | exact flat_len encT_len _ | exact flat_len encS_len _ | exact flat_len encP_len _ | exact flat_len encL_len _ | exact flat_len encE_len _ | (simp [flat_len encP_len]; done) | simp [flat_len encI_len, flat_len encS_len]))) (by first | rfl | (repeat' (first | exact MkTo.nil | refine MkTo.keep rfl ?_ | refine MkTo.drop (by decide) rfl ?_)))
        · have hkm : k = m := by dsimp only at h3; omega
          subst hkm
          rw [← hR] at hu
          subst hu
          conv => whnf
          repeat' (first | (refine VLd.intro rfl ?_; conv => whnf) | (refine VArith.i64 (by first | omega | (dsimp only; omega)) ?_; conv => whnf) | (refine VNeed.intro (by first | rfl | assumption | (simp; omega) | (simp; done)) ?_; conv => whnf) | (refine VMem.store rfl rfl rfl rfl ?_; conv => whnf) | (refine VSame.intro rfl ?_; conv => whnf) | (refine VIte.dec (fun _ => ?_) (fun _ => ?_) <;> conv => whnf) | (refine VIte.ndec (fun _ => ?_) (fun _ => ?_) <;> conv => whnf) | (refine VIte.beq (fun _ => ?_) (fun _ => ?_) <;> conv => whnf) | (refine VIte.bne (fun _ => ?_) (fun _ => ?_) <;> conv => whnf) | (refine VIte.intro (fun _ => ?_) (fun _ => ?_) <;> conv => whnf))
          refine VOut.turn ⟨[], 3, [(2, u.2.flatMap encT)], []⟩ (loc' := []) (r1' := vL ⟨u.2, w.2⟩) (TurnOk.mk' [] 3 [(2, u.2.flatMap encT)] [] (OutOk.outW (OutOk.lift _) rfl) rfl List.nodup_nil BTos.nil (FzAll.flat rfl FzAll.nil) trivial rfl) (by repeat' (first | exact VTo.undef | exact FrTo.leaf | refine FrTo.node ?_ ?_ ?_ | refine FrTo.none ?_ ?_ | exact VTo.sc (by first | rfl | (congr 1; omega) | (congr 1; simp; omega)) | exact VTos_dv _ _ | refine VTos.cons ?_ ?_ | exact VTos.nil | refine VTo.agg ?_ | refine VTo.tuple ?_ | refine VTo.func ?_ ?_ | exact VTo.fs | exact VTo.fp | exact VTo.nilptr | exact VTo.nilslice | exact VTo.nilfunc | exact VTo.ptr rfl | exact VTo.gl rfl | exact VTo.map rfl | exact VTo.yld rfl | exact VTo.fmMap rfl | exact VTo.fm | exact VTo.glNil' (by decide) rfl rfl | exact VTo.fsNil (by decide) | exact VTo.fsSl rfl rfl (by simp [flat_len encE_len]) | exact VTo.fpPtr rfl | exact VTo.fsGl rfl (by first | rfl | exact flat_len encI_len _ | exact flat_len encT_len _ | exact flat_len encS_len _ | exact flat_len encP_len _ | exact flat_len encL_len _ | exact flat_len encE_len _ | (simp [flat_len encP_len]; done) | simp [flat_len encI_len, flat_len encS_len]))) ?_
          exact VOut.setF (L := 0) rfl hd fun _ => rfl
end Go.Proofs.Ytmpjpjfkbmlmfaa

open Go.Vm
namespace Go.Proofs.Ytmpjpjfkbmlmfaa
set_option maxRecDepth 20000
set_option maxHeartbeats 4000000

/-! An exchange that is dealt. -/
def t1 (bs : List Int) (w : Int) (d : DS) : Int × DS := dNx bs d (w + 1)
def t2 (bs : List Int) (w : Int) (d : DS) : Int × DS := dNx bs (t1 bs w d).2 2
def t3 (bs : List Int) (w : Int) (d : DS) : Int × DS := dNx bs (t2 bs w d).2 2
def tP (bs : List Int) (w : Int) (s : Str) (d : DS) : Int := bif isFree s then (bif (t2 bs w d).1 == 0 then w * (t3 bs w d).1 else (t1 bs w d).1) else w * (1 - s.ow)
def tD (bs : List Int) (w : Int) (d : DS) : DS := bif (t2 bs w d).1 == 0 then (t3 bs w d).2 else (t2 bs w d).2
def tIt (bs : List Int) (w : Int) : List Str → DS × List Int → DS × List Int
  | [], x => x
  | s :: ss, x => tIt bs w ss (tD bs w x.1, x.2 ++ [tP bs w s x.1])
def tW (bs : List Int) (d : DS) : Int × DS := dNx bs d (12 - 1 + 1)
def tR (bs : List Int) (d : DS) (l : Lnd) : DS × List Int := tIt bs (1 + (tW bs d).1) l.ss ((tW bs d).2, [])
def tX (bs : List Int) (d : DS) (l : Lnd) : Exc := ⟨1 + (tW bs d).1, (tR bs d l).2⟩
theorem t_bd (bs : List Int) {w : Int} (hw : 1 ≤ w ∧ w ≤ 12) {s : Str} (d : DS) (hs : s.ow = 0 ∨ s.ow = 1) : (tD bs w d).1 ≤ d.1 + 3 ∧ 0 ≤ tP bs w s d ∧ tP bs w s d ≤ w ∧ (isFree s = true ∨ tP bs w s d = w * (1 - s.ow)) := by
  obtain ⟨a1, a2, a3⟩ := dNx_bd bs d (w + 1)
  obtain ⟨b1, b2, b3⟩ := dNx_bd bs (t1 bs w d).2 2
  obtain ⟨c1, c2, c3⟩ := dNx_bd bs (t2 bs w d).2 2
  have e1 : dNx bs d (w + 1) = t1 bs w d := rfl
  have e2 : dNx bs (t1 bs w d).2 2 = t2 bs w d := rfl
  have e3 : dNx bs (t2 bs w d).2 2 = t3 bs w d := rfl
  rw [e1] at a1 a2 a3
  rw [e2] at b1 b2 b3
  rw [e3] at c1 c2 c3
  unfold tD tP
  generalize t3 bs w d = y3 at *
  generalize t2 bs w d = y2 at *
  generalize t1 bs w d = y1 at *
  have hm : 0 ≤ w * y3.1 ∧ w * y3.1 ≤ w := by
    have : y3.1 = 0 ∨ y3.1 = 1 := by omega
    rcases this with h | h <;> rw [h] <;> omega
  have ho : 0 ≤ w * (1 - s.ow) ∧ w * (1 - s.ow) ≤ w := by rcases hs with h | h <;> rw [h] <;> omega
  cases isFree s <;> cases y2.1 == 0 <;> simp only [cond_true, cond_false] <;> exact ⟨by omega, by omega, by omega, by simp⟩
structure TOk2 (w : Int) (N k : Nat) (x : DS × List Int) : Prop where
  n : x.1.1 ≤ N + 3 * k
  len : x.2.length = k
  ps : ∀ p ∈ x.2, 0 ≤ p ∧ p ≤ w
/-- What is dealt for the first ones. -/
theorem tIt_take (bs : List Int) (w : Int) {s : Str} : ∀ {ss : List Str} {k : Nat} {x : DS × List Int}, ss[k]? = some s → tIt bs w (ss.take (k + 1)) x = (tD bs w (tIt bs w (ss.take k) x).1, (tIt bs w (ss.take k) x).2 ++ [tP bs w s (tIt bs w (ss.take k) x).1])
  | [], _, _, h => by simp at h
  | t :: ss, 0, x, h => by simp at h; subst h; simp [tIt]
  | t :: ss, k + 1, x, h => by
    rw [List.take_succ_cons, List.take_succ_cons, tIt, tIt, tIt_take bs w (by simpa using h)]
structure TA (l : Lnd) (w : Int) (k : Nat) (ps : List Int) : Prop where
  al : ∀ (i : Nat) (s : Str) (p : Int), i < k → l.ss[i]? = some s → ps[i]? = some p → isFree s = true ∨ p = w * (1 - s.ow)
theorem tIt_ok {bs : List Int} {l : Lnd} (o : Ok l) {w : Int} (hw : 1 ≤ w ∧ w ≤ 12) {d : DS} : ∀ k, k ≤ l.ss.length → TOk2 w d.1 k (tIt bs w (l.ss.take k) (d, [])) ∧ TA l w k (tIt bs w (l.ss.take k) (d, [])).2
  | 0, _ => ⟨⟨by simp [tIt], by simp [tIt], by simp [tIt]⟩, ⟨fun i s p h => by omega⟩⟩
  | k + 1, hk => by
    obtain ⟨⟨h1, h2, h3⟩, ⟨h4⟩⟩ := tIt_ok (bs := bs) o hw (d := d) k (by omega)
    have hs : l.ss[k]? = some (l.ss[k]'(by omega)) := List.getElem?_eq_getElem _
    have os := (o.ss _ (List.getElem_mem (by omega : k < l.ss.length))).ow
    rw [tIt_take bs w hs]
    generalize l.ss[k]'(by omega) = s at hs os
    generalize tIt bs w (l.ss.take k) (d, []) = x at *
    obtain ⟨q1, q2, q3, q4⟩ := t_bd bs hw x.1 os
    refine ⟨⟨by dsimp only; omega, by simp [h2], fun p hp => ?_⟩, ⟨fun i s' p hi e1 e2 => ?_⟩⟩
    · rcases List.mem_append.1 hp with hp | hp
      · exact h3 p hp
      · rw [List.mem_singleton] at hp; omega
    · dsimp only at e2
      rcases Nat.eq_or_lt_of_le (Nat.le_of_lt_succ hi) with rfl | h
      · rw [hs] at e1; cases e1
        rw [List.getElem?_append_right (by omega), h2, Nat.sub_self] at e2
        simp at e2; subst e2
        exact q4
      · rw [List.getElem?_append_left (by omega)] at e2
        exact h4 i s' p h e1 e2
theorem tX_alw (bs : List Int) (d : DS) {l : Lnd} (o : Ok l) : Alw l (tX bs d l) ∧ (tR bs d l).1.1 ≤ d.1 + 60 ∧ (tX bs d l).w ≤ 12 := by
  obtain ⟨a1, a2, a3⟩ := dNx_bd bs d (12 - 1 + 1)
  have e : dNx bs d (12 - 1 + 1) = tW bs d := rfl
  rw [e] at a1 a2 a3
  have hw : 1 ≤ 1 + (tW bs d).1 ∧ 1 + (tW bs d).1 ≤ 12 := by omega
  have hn := o.n
  obtain ⟨⟨h1, h2, h3⟩, ⟨h4⟩⟩ := tIt_ok (bs := bs) o hw (d := (tW bs d).2) l.ss.length (Nat.le_refl _)
  rw [List.take_length] at h1 h2 h3 h4
  have e2 : tIt bs (1 + (tW bs d).1) l.ss ((tW bs d).2, []) = tR bs d l := rfl
  rw [e2] at h1 h2 h3 h4
  refine ⟨⟨⟨?_, h2, h3⟩, fun i s p hs hp => h4 i s p (List.getElem?_eq_some_iff.1 hs).1 hs hp⟩, by omega, hw.2⟩
  show 1 ≤ 1 + (tW bs d).1 ∧ 1 + (tW bs d).1 ≤ 2000
  omega
theorem vc_Tried (bs : List Int) (d : DS) (l : Lnd) (i : Vm.Id) (h : Hp) (o : Ok l) (hN : d.1 ≤ 1000000) (hd : h.get i = some (deckB bs d)) :
    VC Try.prog 28 [.ptr i 0, vL l] h (vX (tX bs d l)) (h.set i (deckB bs (tR bs d l).1)) := by
  have hn := o.n
  have y0 := dNx_bd bs d (12 - 1 + 1)
  have g0 := fun (h2 : Hp) hh => vc_between bs d 1 12 (.out i) h2 (by omega) (by omega) (by omega) hh
  unfold tX
  obtain ⟨R, hR⟩ : ∃ R, R = tR bs d l := ⟨_, rfl⟩
  rw [← hR]
  unfold tR at hR
  have e : dNx bs d (12 - 1 + 1) = tW bs d := rfl
  rw [e] at y0 g0
  generalize tW bs d = z0 at y0 g0 hR ⊢
  obtain ⟨w, hw⟩ : ∃ w, w = 1 + z0.1 := ⟨_, rfl⟩
  rw [← hw] at g0 hR ⊢
  have hw2 : 1 ≤ w ∧ w ≤ 12 := by omega
  have hT := fun k hk => (tIt_ok (bs := bs) o hw2 (d := z0.2) k hk).1
  refine VC.body Try.func28 rfl Try.ntmps28 Try.call28 (h.grows_set _ _) rfl ?_
  conv => whnf
  repeat' (first | (refine VLd.intro rfl ?_; conv => whnf) | (refine VArith.i64 (by first | omega | (dsimp only; omega)) ?_; conv => whnf) | (refine VNeed.intro (by first | rfl | assumption | (simp; omega) | (simp; done)) ?_; conv => whnf) | (refine VMem.store rfl rfl rfl rfl ?_; conv => whnf) | (refine VSame.intro rfl ?_; conv => whnf) | (refine VDraw.go [] (by kernel_rfl) (by kernel_rfl) ?_; conv => whnf) | (refine VIte.dec (fun _ => ?_) (fun _ => ?_) <;> conv => whnf) | (refine VIte.ndec (fun _ => ?_) (fun _ => ?_) <;> conv => whnf) | (refine VIte.beq (fun _ => ?_) (fun _ => ?_) <;> conv => whnf) | (refine VIte.bne (fun _ => ?_) (fun _ => ?_) <;> conv => whnf) | (refine VIte.intro (fun _ => ?_) (fun _ => ?_) <;> conv => whnf) | (refine VCall.intro (g0 _ (get_out hd _)) ?_; conv => whnf))
  refine VCode.lpo (fun y : Nat × (DS × List Int) => [(0, .ptr (.out i) 0), (4, .ptr (.loc 0) 0), (5, .ptr (.loc 1) 0), (13, strs l.ss), (14, I l.ss.length), (15, I y.1)]) (fun y => outW h.lift i (deckB bs y.2.1))
    (fun y => [.flat true [DI 0, .nilslice], .cells true [I w, .gl (.loc 2) 1 y.2.2.length], .flat true (y.2.2.flatMap encI)]) (fun y => y.1 ≤ l.ss.length ∧ y.2 = tIt bs w (l.ss.take y.1) (z0.2, [])) (fun y => l.ss.length - y.1) (0, (z0.2, [])) ⟨Nat.zero_le _, rfl⟩ ?_ ?_ ?_
  · funext j; by_cases e : j = i <;> simp [outW, e, Hp.set]
  · conv => whnf
    refine Retell.turn ⟨[1,2,3], 3, [], []⟩ (TurnOk.mk' _ _ [] [] (OutOk.outW (OutOk.lift _) rfl) rfl (by decide) (by repeat' (first | exact BTos.nil | refine BTos.flat rfl rfl (by first | rfl | simp) ?_ | refine BTos.new rfl ?_ | refine BTos.dead rfl rfl ?_ | refine BTos.esE rfl rfl ?_ | refine BTos.row rfl rfl rfl (RowTo.snoc (RowTo.one rfl (by simp))) ?_ | refine BTos.cells rfl rfl rfl (by repeat' (first | exact VTo.undef | exact FrTo.leaf | refine FrTo.node ?_ ?_ ?_ | refine FrTo.none ?_ ?_ | exact VTo.sc (by first | rfl | (congr 1; omega) | (congr 1; simp; omega)) | exact VTos_dv _ _ | refine VTos.cons ?_ ?_ | exact VTos.nil | refine VTo.agg ?_ | refine VTo.tuple ?_ | refine VTo.func ?_ ?_ | exact VTo.fs | exact VTo.fp | exact VTo.nilptr | exact VTo.nilslice | exact VTo.nilfunc | exact VTo.ptr rfl | exact VTo.gl rfl | exact VTo.map rfl | exact VTo.yld rfl | exact VTo.fmMap rfl | exact VTo.fm | exact VTo.glNil' (by decide) rfl rfl | exact VTo.fsNil (by decide) | exact VTo.fsSl rfl rfl (by simp [flat_len encE_len]) | exact VTo.fpPtr rfl | exact VTo.fsGl rfl (by first | rfl | exact flat_len encI_len _ | exact flat_len encT_len _ | exact flat_len encS_len _ | exact flat_len encP_len _ | exact flat_len encL_len _ | exact flat_len encE_len _ | (simp [flat_len encP_len]; done) | simp [flat_len encI_len, flat_len encS_len]))) ?_)) trivial trivial rfl) (by repeat' (first | exact VTo.undef | exact FrTo.leaf | refine FrTo.node ?_ ?_ ?_ | refine FrTo.none ?_ ?_ | exact VTo.sc (by first | rfl | (congr 1; omega) | (congr 1; simp; omega)) | exact VTos_dv _ _ | refine VTos.cons ?_ ?_ | exact VTos.nil | refine VTo.agg ?_ | refine VTo.tuple ?_ | refine VTo.func ?_ ?_ | exact VTo.fs | exact VTo.fp | exact VTo.nilptr | exact VTo.nilslice | exact VTo.nilfunc | exact VTo.ptr rfl | exact VTo.gl rfl | exact VTo.map rfl | exact VTo.yld rfl | exact VTo.fmMap rfl | exact VTo.fm | exact VTo.glNil' (by decide) rfl rfl | exact VTo.fsNil (by decide) | exact VTo.fsSl rfl rfl (by simp [flat_len encE_len]) | exact VTo.fpPtr rfl | exact VTo.fsGl rfl (by first | rfl | exact flat_len encI_len _ | exact flat_len encT_len _ | exact flat_len encS_len _ | exact flat_len encP_len _ | exact flat_len encL_len _ | exact flat_len encE_len _ | (simp [flat_len encP_len]; done) | simp [flat_len encI_len, flat_len encS_len]))) (by first | rfl | (repeat' (first | exact MkTo.nil | refine MkTo.keep rfl ?_ | refine MkTo.drop (by decide) rfl ?_)))
  · rintro ⟨k, u⟩ ⟨hk, hu⟩
    dsimp only at hk hu
    have huk := hT k hk
    rw [← hu] at huk
    obtain ⟨n1, n2, n3⟩ := huk
    conv => whnf
    refine VIte.dec (fun h3 => ?_) (fun h3 => ?_)
    · have hkl : k < l.ss.length := by omega
      have hs : l.ss[k]? = some l.ss[k] := List.getElem?_eq_getElem hkl
      have os := o.ss _ (List.getElem_mem hkl)
      have hnx := tIt_take bs w (x := (z0.2, [])) hs
      rw [← hu] at hnx
      generalize l.ss[k] = s at hs os hnx
      unfold tP tD t3 t2 t1 at hnx
      have how := os.ow
      have y1 := dNx_bd bs u.1 (w + 1)
      have g1 := fun (h2 : Hp) hh => vc_draw bs u.1 (w + 1) (.out i) h2 (by omega) hh
      generalize dNx bs u.1 (w + 1) = z1 at y1 g1 hnx
      have y2 := dNx_bd bs z1.2 2
      have g2 := fun (h2 : Hp) hh => vc_coin bs z1.2 2 (.out i) h2 (by omega) hh
      generalize dNx bs z1.2 2 = z2 at y2 g2 hnx
      have y3 := dNx_bd bs z2.2 2
      have g3 := fun (h2 : Hp) hh => vc_draw bs z2.2 2 (.out i) h2 (by omega) hh
      generalize dNx bs z2.2 2 = z3 at y3 g3 hnx
      have hm : 0 ≤ w * z3.1 ∧ w * z3.1 ≤ w := by
        have : z3.1 = 0 ∨ z3.1 = 1 := by omega
        rcases this with h | h <;> rw [h] <;> omega
      have ho : 0 ≤ w * (1 - s.ow) ∧ w * (1 - s.ow) ≤ w := by rcases how with h | h <;> rw [h] <;> omega
      generalize hc : (z2.1 == 0) = c at g2 hnx
      conv => whnf
      cases c
      · repeat' (first | (refine VLd.intro rfl ?_; conv => whnf) | (refine VArith.i64 (by first | omega | (dsimp only; omega)) ?_; conv => whnf) | (refine VNeed.intro (by first | rfl | assumption | (simp; omega) | (simp; done)) ?_; conv => whnf) | (refine VMem.store rfl rfl rfl rfl ?_; conv => whnf) | (refine VSame.intro rfl ?_; conv => whnf) | (refine VIte.dec (fun _ => ?_) (fun _ => ?_) <;> conv => whnf) | (refine VIte.ndec (fun _ => ?_) (fun _ => ?_) <;> conv => whnf) | (refine VIte.beq (fun _ => ?_) (fun _ => ?_) <;> conv => whnf) | (refine VIte.bne (fun _ => ?_) (fun _ => ?_) <;> conv => whnf) | (refine VIte.intro (fun _ => ?_) (fun _ => ?_) <;> conv => whnf) | (refine VCall.intro (g1 _ (outW_get _ _ _ _)) ?_; conv => whnf) | (refine VCall.intro (g2 _ (outW_get _ _ _ _)) ?_; conv => whnf) | (refine VAny.ix encT_len k rfl rfl hs ?_; conv => whnf))
        · rename_i h5
          have hf : isFree s = false := decide_eq_false h5
          rw [hf] at hnx
          simp only [cond_false] at hnx
          refine VMem.app1 (l := u.2) (w * (1 - s.ow)) encI_len rfl rfl rfl rfl rfl (by omega) ?_
          conv => whnf
          repeat' (first | (refine VLd.intro rfl ?_; conv => whnf) | (refine VArith.i64 (by first | omega | (dsimp only; omega)) ?_; conv => whnf) | (refine VNeed.intro (by first | rfl | assumption | (simp; omega) | (simp; done)) ?_; conv => whnf) | (refine VMem.store rfl rfl rfl rfl ?_; conv => whnf) | (refine VSame.intro rfl ?_; conv => whnf) | (refine VIte.dec (fun _ => ?_) (fun _ => ?_) <;> conv => whnf) | (refine VIte.ndec (fun _ => ?_) (fun _ => ?_) <;> conv => whnf) | (refine VIte.beq (fun _ => ?_) (fun _ => ?_) <;> conv => whnf) | (refine VIte.bne (fun _ => ?_) (fun _ => ?_) <;> conv => whnf) | (refine VIte.intro (fun _ => ?_) (fun _ => ?_) <;> conv => whnf))
          refine LEndO.intro (k + 1, _) ⟨by dsimp only; omega, hnx.symm⟩ (by dsimp only; omega) ?_ ?_
          · funext j; by_cases e : j = i <;> simp [outW, e, Hp.set]
          · conv => whnf
            rw [List.length_append]
            refine Retell.turn ⟨[0,1,5], 6, [], []⟩ (TurnOk.mk' _ _ [] [] (OutOk.outW (OutOk.lift _) rfl) rfl (by decide) (by repeat' (first | exact BTos.nil | refine BTos.flat rfl rfl (by first | rfl | simp) ?_ | refine BTos.new rfl ?_ | refine BTos.dead rfl rfl ?_ | refine BTos.esE rfl rfl ?_ | refine BTos.row rfl rfl rfl (RowTo.snoc (RowTo.one rfl (by simp))) ?_ | refine BTos.cells rfl rfl rfl (by repeat' (first | exact VTo.undef | exact FrTo.leaf | refine FrTo.node ?_ ?_ ?_ | refine FrTo.none ?_ ?_ | exact VTo.sc (by first | rfl | (congr 1; omega) | (congr 1; simp; omega)) | exact VTos_dv _ _ | refine VTos.cons ?_ ?_ | exact VTos.nil | refine VTo.agg ?_ | refine VTo.tuple ?_ | refine VTo.func ?_ ?_ | exact VTo.fs | exact VTo.fp | exact VTo.nilptr | exact VTo.nilslice | exact VTo.nilfunc | exact VTo.ptr rfl | exact VTo.gl rfl | exact VTo.map rfl | exact VTo.yld rfl | exact VTo.fmMap rfl | exact VTo.fm | exact VTo.glNil' (by decide) rfl rfl | exact VTo.fsNil (by decide) | exact VTo.fsSl rfl rfl (by simp [flat_len encE_len]) | exact VTo.fpPtr rfl | exact VTo.fsGl rfl (by first | rfl | exact flat_len encI_len _ | exact flat_len encT_len _ | exact flat_len encS_len _ | exact flat_len encP_len _ | exact flat_len encL_len _ | exact flat_len encE_len _ | (simp [flat_len encP_len]; done) | simp [flat_len encI_len, flat_len encS_len]))) ?_)) trivial trivial rfl) (by repeat' (first | exact VTo.undef | exact FrTo.leaf | refine FrTo.node ?_ ?_ ?_ | refine FrTo.none ?_ ?_ | exact VTo.sc (by first | rfl | (congr 1; omega) | (congr 1; simp; omega)) | exact VTos_dv _ _ | refine VTos.cons ?_ ?_ | exact VTos.nil | refine VTo.agg ?_ | refine VTo.tuple ?_ | refine VTo.func ?_ ?_ | exact VTo.fs | exact VTo.fp | exact VTo.nilptr | exact VTo.nilslice | exact VTo.nilfunc | exact VTo.ptr rfl | exact VTo.gl rfl | exact VTo.map rfl | exact VTo.yld rfl | exact VTo.fmMap rfl | exact VTo.fm | exact VTo.glNil' (by decide) rfl rfl | exact VTo.fsNil (by decide) | exact VTo.fsSl rfl rfl (by simp [flat_len encE_len]) | exact VTo.fpPtr rfl | exact VTo.fsGl rfl (by first | rfl | exact flat_len encI_len _ | exact flat_len encT_len _ | exact flat_len encS_len _ | exact flat_len encP_len _ | exact flat_len encL_len _ | exact flat_len encE_len _ | (simp [flat_len encP_len]; done) | simp [flat_len encI_len, flat_len encS_len]))) (by first | rfl | (repeat' (first | exact MkTo.nil | refine MkTo.keep rfl ?_ | refine MkTo.drop (by decide) rfl ?_)))
        · rename_i h5
          have hf : isFree s = true := decide_eq_true (by omega)
          rw [hf] at hnx
          simp only [cond_false, cond_true] at hnx
          refine VMem.app1 (l := u.2) (z1.1) encI_len rfl rfl rfl rfl rfl (by omega) ?_
          conv => whnf
          repeat' (first | (refine VLd.intro rfl ?_; conv => whnf) | (refine VArith.i64 (by first | omega | (dsimp only; omega)) ?_; conv => whnf) | (refine VNeed.intro (by first | rfl | assumption | (simp; omega) | (simp; done)) ?_; conv => whnf) | (refine VMem.store rfl rfl rfl rfl ?_; conv => whnf) | (refine VSame.intro rfl ?_; conv => whnf) | (refine VIte.dec (fun _ => ?_) (fun _ => ?_) <;> conv => whnf) | (refine VIte.ndec (fun _ => ?_) (fun _ => ?_) <;> conv => whnf) | (refine VIte.beq (fun _ => ?_) (fun _ => ?_) <;> conv => whnf) | (refine VIte.bne (fun _ => ?_) (fun _ => ?_) <;> conv => whnf) | (refine VIte.intro (fun _ => ?_) (fun _ => ?_) <;> conv => whnf))
          refine LEndO.intro (k + 1, _) ⟨by dsimp only; omega, hnx.symm⟩ (by dsimp only; omega) ?_ ?_
          · funext j; by_cases e : j = i <;> simp [outW, e, Hp.set]
          · conv => whnf
            rw [List.length_append]
            refine Retell.turn ⟨[0,1,5], 6, [], []⟩ (TurnOk.mk' _ _ [] [] (OutOk.outW (OutOk.lift _) rfl) rfl (by decide) (by repeat' (first | exact BTos.nil | refine BTos.flat rfl rfl (by first | rfl | simp) ?_ | refine BTos.new rfl ?_ | refine BTos.dead rfl rfl ?_ | refine BTos.esE rfl rfl ?_ | refine BTos.row rfl rfl rfl (RowTo.snoc (RowTo.one rfl (by simp))) ?_ | refine BTos.cells rfl rfl rfl (by repeat' (first | exact VTo.undef | exact FrTo.leaf | refine FrTo.node ?_ ?_ ?_ | refine FrTo.none ?_ ?_ | exact VTo.sc (by first | rfl | (congr 1; omega) | (congr 1; simp; omega)) | exact VTos_dv _ _ | refine VTos.cons ?_ ?_ | exact VTos.nil | refine VTo.agg ?_ | refine VTo.tuple ?_ | refine VTo.func ?_ ?_ | exact VTo.fs | exact VTo.fp | exact VTo.nilptr | exact VTo.nilslice | exact VTo.nilfunc | exact VTo.ptr rfl | exact VTo.gl rfl | exact VTo.map rfl | exact VTo.yld rfl | exact VTo.fmMap rfl | exact VTo.fm | exact VTo.glNil' (by decide) rfl rfl | exact VTo.fsNil (by decide) | exact VTo.fsSl rfl rfl (by simp [flat_len encE_len]) | exact VTo.fpPtr rfl | exact VTo.fsGl rfl (by first | rfl | exact flat_len encI_len _ | exact flat_len encT_len _ | exact flat_len encS_len _ | exact flat_len encP_len _ | exact flat_len encL_len _ | exact flat_len encE_len _ | (simp [flat_len encP_len]; done) | simp [flat_len encI_len, flat_len encS_len]))) ?_)) trivial trivial rfl) (by repeat' (first | exact VTo.undef | exact FrTo.leaf | refine FrTo.node ?_ ?_ ?_ | refine FrTo.none ?_ ?_ | exact VTo.sc (by first | rfl | (congr 1; omega) | (congr 1; simp; omega)) | exact VTos_dv _ _ | refine VTos.cons ?_ ?_ | exact VTos.nil | refine VTo.agg ?_ | refine VTo.tuple ?_ | refine VTo.func ?_ ?_ | exact VTo.fs | exact VTo.fp | exact VTo.nilptr | exact VTo.nilslice | exact VTo.nilfunc | exact VTo.ptr rfl | exact VTo.gl rfl | exact VTo.map rfl | exact VTo.yld rfl | exact VTo.fmMap rfl | exact VTo.fm | exact VTo.glNil' (by decide) rfl rfl | exact VTo.fsNil (by decide) | exact VTo.fsSl rfl rfl (by simp [flat_len encE_len]) | exact VTo.fpPtr rfl | exact VTo.fsGl rfl (by first | rfl | exact flat_len encI_len _ | exact flat_len encT_len _ | exact flat_len encS_len _ | exact flat_len encP_len _ | exact flat_len encL_len _ | exact flat_len encE_len _ | (simp [flat_len encP_len]; done) | simp [flat_len encI_len, flat_len encS_len]))) (by first | rfl | (repeat' (first | exact MkTo.nil | refine MkTo.keep rfl ?_ | refine MkTo.drop (by decide) rfl ?_)))
      · repeat' (first | (refine VLd.intro rfl ?_; conv => whnf) | (refine VArith.i64 (by first | omega | (dsimp only; omega)) ?_; conv => whnf) | (refine VNeed.intro (by first | rfl | assumption | (simp; omega) | (simp; done)) ?_; conv => whnf) | (refine VMem.store rfl rfl rfl rfl ?_; conv => whnf) | (refine VSame.intro rfl ?_; conv => whnf) | (refine VIte.dec (fun _ => ?_) (fun _ => ?_) <;> conv => whnf) | (refine VIte.ndec (fun _ => ?_) (fun _ => ?_) <;> conv => whnf) | (refine VIte.beq (fun _ => ?_) (fun _ => ?_) <;> conv => whnf) | (refine VIte.bne (fun _ => ?_) (fun _ => ?_) <;> conv => whnf) | (refine VIte.intro (fun _ => ?_) (fun _ => ?_) <;> conv => whnf) | (refine VCall.intro (g1 _ (outW_get _ _ _ _)) ?_; conv => whnf) | (refine VCall.intro (g2 _ (outW_get _ _ _ _)) ?_; conv => whnf) | (refine VAny.ix encT_len k rfl rfl hs ?_; conv => whnf))
        refine VDraw.go [(1, 3)] (by kernel_rfl) (by kernel_rfl) ?_
        conv => whnf
        repeat' (first | (refine VLd.intro rfl ?_; conv => whnf) | (refine VArith.i64 (by first | omega | (dsimp only; omega)) ?_; conv => whnf) | (refine VNeed.intro (by first | rfl | assumption | (simp; omega) | (simp; done)) ?_; conv => whnf) | (refine VMem.store rfl rfl rfl rfl ?_; conv => whnf) | (refine VSame.intro rfl ?_; conv => whnf) | (refine VIte.dec (fun _ => ?_) (fun _ => ?_) <;> conv => whnf) | (refine VIte.ndec (fun _ => ?_) (fun _ => ?_) <;> conv => whnf) | (refine VIte.beq (fun _ => ?_) (fun _ => ?_) <;> conv => whnf) | (refine VIte.bne (fun _ => ?_) (fun _ => ?_) <;> conv => whnf) | (refine VIte.intro (fun _ => ?_) (fun _ => ?_) <;> conv => whnf) | (refine VCall.intro (g3 _ (outW_get _ _ _ _)) ?_; conv => whnf))
        · rename_i h5
          have hf : isFree s = false := decide_eq_false h5
          rw [hf] at hnx
          simp only [cond_false, cond_true] at hnx
          refine VMem.app1 (l := u.2) (w * (1 - s.ow)) encI_len rfl rfl rfl rfl rfl (by omega) ?_
          conv => whnf
          repeat' (first | (refine VLd.intro rfl ?_; conv => whnf) | (refine VArith.i64 (by first | omega | (dsimp only; omega)) ?_; conv => whnf) | (refine VNeed.intro (by first | rfl | assumption | (simp; omega) | (simp; done)) ?_; conv => whnf) | (refine VMem.store rfl rfl rfl rfl ?_; conv => whnf) | (refine VSame.intro rfl ?_; conv => whnf) | (refine VIte.dec (fun _ => ?_) (fun _ => ?_) <;> conv => whnf) | (refine VIte.ndec (fun _ => ?_) (fun _ => ?_) <;> conv => whnf) | (refine VIte.beq (fun _ => ?_) (fun _ => ?_) <;> conv => whnf) | (refine VIte.bne (fun _ => ?_) (fun _ => ?_) <;> conv => whnf) | (refine VIte.intro (fun _ => ?_) (fun _ => ?_) <;> conv => whnf))
          refine LEndO.intro (k + 1, _) ⟨by dsimp only; omega, hnx.symm⟩ (by dsimp only; omega) ?_ ?_
          · funext j; by_cases e : j = i <;> simp [outW, e, Hp.set]
          · conv => whnf
            rw [List.length_append]
            refine Retell.turn ⟨[0,1,5], 6, [], []⟩ (TurnOk.mk' _ _ [] [] (OutOk.outW (OutOk.lift _) rfl) rfl (by decide) (by repeat' (first | exact BTos.nil | refine BTos.flat rfl rfl (by first | rfl | simp) ?_ | refine BTos.new rfl ?_ | refine BTos.dead rfl rfl ?_ | refine BTos.esE rfl rfl ?_ | refine BTos.row rfl rfl rfl (RowTo.snoc (RowTo.one rfl (by simp))) ?_ | refine BTos.cells rfl rfl rfl (by repeat' (first | exact VTo.undef | exact FrTo.leaf | refine FrTo.node ?_ ?_ ?_ | refine FrTo.none ?_ ?_ | exact VTo.sc (by first | rfl | (congr 1; omega) | (congr 1; simp; omega)) | exact VTos_dv _ _ | refine VTos.cons ?_ ?_ | exact VTos.nil | refine VTo.agg ?_ | refine VTo.tuple ?_ | refine VTo.func ?_ ?_ | exact VTo.fs | exact VTo.fp | exact VTo.nilptr | exact VTo.nilslice | exact VTo.nilfunc | exact VTo.ptr rfl | exact VTo.gl rfl | exact VTo.map rfl | exact VTo.yld rfl | exact VTo.fmMap rfl | exact VTo.fm | exact VTo.glNil' (by decide) rfl rfl | exact VTo.fsNil (by decide) | exact VTo.fsSl rfl rfl (by simp [flat_len encE_len]) | exact VTo.fpPtr rfl | exact VTo.fsGl rfl (by first | rfl | exact flat_len encI_len _ | exact flat_len encT_len _ | exact flat_len encS_len _ | exact flat_len encP_len _ | exact flat_len encL_len _ | exact flat_len encE_len _ | (simp [flat_len encP_len]; done) | simp [flat_len encI_len, flat_len encS_len]))) ?_)) trivial trivial rfl) (by repeat' (first | exact VTo.undef | exact FrTo.leaf | refine FrTo.node ?_ ?_ ?_ | refine FrTo.none ?_ ?_ | exact VTo.sc (by first | rfl | (congr 1; omega) | (congr 1; simp; omega)) | exact VTos_dv _ _ | refine VTos.cons ?_ ?_ | exact VTos.nil | refine VTo.agg ?_ | refine VTo.tuple ?_ | refine VTo.func ?_ ?_ | exact VTo.fs | exact VTo.fp | exact VTo.nilptr | exact VTo.nilslice | exact VTo.nilfunc | exact VTo.ptr rfl | exact VTo.gl rfl | exact VTo.map rfl | exact VTo.yld rfl | exact VTo.fmMap rfl | exact VTo.fm | exact VTo.glNil' (by decide) rfl rfl | exact VTo.fsNil (by decide) | exact VTo.fsSl rfl rfl (by simp [flat_len encE_len]) | exact VTo.fpPtr rfl | exact VTo.fsGl rfl (by first | rfl | exact flat_len encI_len _ | exact flat_len encT_len _ | exact flat_len encS_len _ | exact flat_len encP_len _ | exact flat_len encL_len _ | exact flat_len encE_len _ | (simp [flat_len encP_len]; done) | simp [flat_len encI_len, flat_len encS_len]))) (by first | rfl | (repeat' (first | exact MkTo.nil | refine MkTo.keep rfl ?_ | refine MkTo.drop (by decide) rfl ?_)))
        · rename_i h5
          have hf : isFree s = true := decide_eq_true (by omega)
          rw [hf] at hnx
          simp only [cond_false, cond_true] at hnx
          refine VMem.app1 (l := u.2) (w * z3.1) encI_len rfl rfl rfl rfl rfl (by omega) ?_
          conv => whnf
          repeat' (first | (refine VLd.intro rfl ?_; conv => whnf) | (refine VArith.i64 (by first | omega | (dsimp only; omega)) ?_; conv => whnf) | (refine VNeed.intro (by first | rfl | assumption | (simp; omega) | (simp; done)) ?_; conv => whnf) | (refine VMem.store rfl rfl rfl rfl ?_; conv => whnf) | (refine VSame.intro rfl ?_; conv => whnf) | (refine VIte.dec (fun _ => ?_) (fun _ => ?_) <;> conv => whnf) | (refine VIte.ndec (fun _ => ?_) (fun _ => ?_) <;> conv => whnf) | (refine VIte.beq (fun _ => ?_) (fun _ => ?_) <;> conv => whnf) | (refine VIte.bne (fun _ => ?_) (fun _ => ?_) <;> conv => whnf) | (refine VIte.intro (fun _ => ?_) (fun _ => ?_) <;> conv => whnf))
          refine LEndO.intro (k + 1, _) ⟨by dsimp only; omega, hnx.symm⟩ (by dsimp only; omega) ?_ ?_
          · funext j; by_cases e : j = i <;> simp [outW, e, Hp.set]
          · conv => whnf
            rw [List.length_append]
            refine Retell.turn ⟨[0,1,5], 6, [], []⟩ (TurnOk.mk' _ _ [] [] (OutOk.outW (OutOk.lift _) rfl) rfl (by decide) (by repeat' (first | exact BTos.nil | refine BTos.flat rfl rfl (by first | rfl | simp) ?_ | refine BTos.new rfl ?_ | refine BTos.dead rfl rfl ?_ | refine BTos.esE rfl rfl ?_ | refine BTos.row rfl rfl rfl (RowTo.snoc (RowTo.one rfl (by simp))) ?_ | refine BTos.cells rfl rfl rfl (by repeat' (first | exact VTo.undef | exact FrTo.leaf | refine FrTo.node ?_ ?_ ?_ | refine FrTo.none ?_ ?_ | exact VTo.sc (by first | rfl | (congr 1; omega) | (congr 1; simp; omega)) | exact VTos_dv _ _ | refine VTos.cons ?_ ?_ | exact VTos.nil | refine VTo.agg ?_ | refine VTo.tuple ?_ | refine VTo.func ?_ ?_ | exact VTo.fs | exact VTo.fp | exact VTo.nilptr | exact VTo.nilslice | exact VTo.nilfunc | exact VTo.ptr rfl | exact VTo.gl rfl | exact VTo.map rfl | exact VTo.yld rfl | exact VTo.fmMap rfl | exact VTo.fm | exact VTo.glNil' (by decide) rfl rfl | exact VTo.fsNil (by decide) | exact VTo.fsSl rfl rfl (by simp [flat_len encE_len]) | exact VTo.fpPtr rfl | exact VTo.fsGl rfl (by first | rfl | exact flat_len encI_len _ | exact flat_len encT_len _ | exact flat_len encS_len _ | exact flat_len encP_len _ | exact flat_len encL_len _ | exact flat_len encE_len _ | (simp [flat_len encP_len]; done) | simp [flat_len encI_len, flat_len encS_len]))) ?_)) trivial trivial rfl) (by repeat' (first | exact VTo.undef | exact FrTo.leaf | refine FrTo.node ?_ ?_ ?_ | refine FrTo.none ?_ ?_ | exact VTo.sc (by first | rfl | (congr 1; omega) | (congr 1; simp; omega)) | exact VTos_dv _ _ | refine VTos.cons ?_ ?_ | exact VTos.nil | refine VTo.agg ?_ | refine VTo.tuple ?_ | refine VTo.func ?_ ?_ | exact VTo.fs | exact VTo.fp | exact VTo.nilptr | exact VTo.nilslice | exact VTo.nilfunc | exact VTo.ptr rfl | exact VTo.gl rfl | exact VTo.map rfl | exact VTo.yld rfl | exact VTo.fmMap rfl | exact VTo.fm | exact VTo.glNil' (by decide) rfl rfl | exact VTo.fsNil (by decide) | exact VTo.fsSl rfl rfl (by simp [flat_len encE_len]) | exact VTo.fpPtr rfl | exact VTo.fsGl rfl (by first | rfl | exact flat_len encI_len _ | exact flat_len encT_len _ | exact flat_len encS_len _ | exact flat_len encP_len _ | exact flat_len encL_len _ | exact flat_len encE_len _ | (simp [flat_len encP_len]; done) | simp [flat_len encI_len, flat_len encS_len]))) (by first | rfl | (repeat' (first | exact MkTo.nil | refine MkTo.keep rfl ?_ | refine MkTo.drop (by decide) rfl ?_)))
    · have hkm : k = l.ss.length := by dsimp only at h3; omega
      subst hkm
      rw [List.take_length, ← hR] at hu
      subst hu
      conv => whnf
      repeat' (first | (refine VLd.intro rfl ?_; conv => whnf) | (refine VArith.i64 (by first | omega | (dsimp only; omega)) ?_; conv => whnf) | (refine VNeed.intro (by first | rfl | assumption | (simp; omega) | (simp; done)) ?_; conv => whnf) | (refine VMem.store rfl rfl rfl rfl ?_; conv => whnf) | (refine VSame.intro rfl ?_; conv => whnf) | (refine VIte.dec (fun _ => ?_) (fun _ => ?_) <;> conv => whnf) | (refine VIte.ndec (fun _ => ?_) (fun _ => ?_) <;> conv => whnf) | (refine VIte.beq (fun _ => ?_) (fun _ => ?_) <;> conv => whnf) | (refine VIte.bne (fun _ => ?_) (fun _ => ?_) <;> conv => whnf) | (refine VIte.intro (fun _ => ?_) (fun _ => ?_) <;> conv => whnf))
      refine VOut.turn ⟨[], 3, [(2, u.2.flatMap encI)], []⟩ (loc' := []) (r1' := vX ⟨w, u.2⟩) (TurnOk.mk' [] 3 [(2, u.2.flatMap encI)] [] (OutOk.outW (OutOk.lift _) rfl) rfl List.nodup_nil BTos.nil (FzAll.flat rfl FzAll.nil) trivial rfl) (by repeat' (first | exact VTo.undef | exact FrTo.leaf | refine FrTo.node ?_ ?_ ?_ | refine FrTo.none ?_ ?_ | exact VTo.sc (by first | rfl | (congr 1; omega) | (congr 1; simp; omega)) | exact VTos_dv _ _ | refine VTos.cons ?_ ?_ | exact VTos.nil | refine VTo.agg ?_ | refine VTo.tuple ?_ | refine VTo.func ?_ ?_ | exact VTo.fs | exact VTo.fp | exact VTo.nilptr | exact VTo.nilslice | exact VTo.nilfunc | exact VTo.ptr rfl | exact VTo.gl rfl | exact VTo.map rfl | exact VTo.yld rfl | exact VTo.fmMap rfl | exact VTo.fm | exact VTo.glNil' (by decide) rfl rfl | exact VTo.fsNil (by decide) | exact VTo.fsSl rfl rfl (by simp [flat_len encE_len]) | exact VTo.fpPtr rfl | exact VTo.fsGl rfl (by first | rfl | exact flat_len encI_len _ | exact flat_len encT_len _ | exact flat_len encS_len _ | exact flat_len encP_len _ | exact flat_len encL_len _ | exact flat_len encE_len _ | (simp [flat_len encP_len]; done) | simp [flat_len encI_len, flat_len encS_len]))) ?_
      exact VOut.setF (L := 0) rfl hd fun _ => rfl
end Go.Proofs.Ytmpjpjfkbmlmfaa

open Go.Vm
namespace Go.Proofs.Ytmpjpjfkbmlmfaa
set_option maxRecDepth 20000
set_option maxHeartbeats 4000000

theorem mulb {a b : Int} {A B : Int} (ha : -A ≤ a ∧ a ≤ A) (hb : 0 ≤ b ∧ b ≤ B) : -(A * B) ≤ a * b ∧ a * b ≤ A * B := by
  have h0 : 0 ≤ A := by omega
  have h1 : a * b ≤ A * b := Int.mul_le_mul_of_nonneg_right ha.2 hb.1
  have h2 : -A * b ≤ a * b := Int.mul_le_mul_of_nonneg_right ha.1 hb.1
  have h3 : A * b ≤ A * B := Int.mul_le_mul_of_nonneg_left hb.2 h0
  have h4 : -A * b = -(A * b) := Int.neg_mul _ _
  omega
end Go.Proofs.Ytmpjpjfkbmlmfaa

open Go.Vm
namespace Go.Proofs.Ytmpjpjfkbmlmfaa
open Go.ChangeShapes Go.WideShapes Go.ChangeAt Go.RowKit

def dU (l : List Int) : D := .sl 1 l.length (l.flatMap encU)
theorem openU : OpenV Try.prog 50 dU := OpenV.slice Try.underlying50 (Opens.slice Try.underlying50 encU_len (by kernel_rfl) (by decide) (Opens.int Try.underlying5))
end Go.Proofs.Ytmpjpjfkbmlmfaa

open Go.Vm
namespace Go.Vm

/-- An empty list with room. -/
theorem VMem.make0 {P : Program} {t : TypeId} {e esz bytes : Nat} {zero : List V} {s_ : Nat} {a_ : Bool} {z_ : V} {h : Hp} {n : Nat} {c : Int} {K : V → Hp → Prop} (hTt : tiOf P t = some ⟨.slice e esz bytes zero, s_, a_, z_⟩)
    (hc : c = n) (hby : Nat.ble bytes 1048576 = true) (h63 : n ≤ 134217728) (hK : K (.gl h.fresh esz 0) (h.push (.flat true []))) : VMem P (opMakeSlice t) [.s (.int .i64 0), .s (.int .i64 c)] h K := by
  subst hc
  have hbd := mul_bd hby h63
  refine VMem.intro (does_makeSlice (b' := .flat true []) (zs := []) (tiOf_ok P) hTt ⟨Int.le_refl _, by omega⟩ (by have h7 := Int.ofNat_le.2 hbd; rw [Int.natCast_mul] at h7; exact h7) (by omega) rfl ?_) hK
  simp [zeroAt]
end Go.Vm
namespace Go.Proofs.Ytmpjpjfkbmlmfaa
set_option maxRecDepth 20000
set_option maxHeartbeats 4000000

/-! A deck that is shuffled. -/
def swp (l : List Int) (i k : Nat) : List Int := (l.set i (l.getD k 0)).set k (l.getD i 0)
def shGo (bs : List Int) : Nat → DS × List Int → DS × List Int
  | 0, x => x
  | m + 1, x => if m = 0 then x else shGo bs m ((dNx bs x.1 ((m + 1 : Nat) : Int)).2, swp x.2 m (dNx bs x.1 ((m + 1 : Nat) : Int)).1.toNat)
def shX (bs : List Int) (d : DS) (n : Nat) : DS × List Int := shGo bs n (d, (List.range n).map (fun i : Nat => (i : Int)))
theorem perm_sum {α : Type} (f : α → Int) {a b : List α} (h : a.Perm b) : (a.map f).sum = (b.map f).sum := by
  induction h with
  | nil => rfl
  | cons x _ ih => simp [ih]
  | swap x y l => simp; omega
  | trans _ _ h1 h2 => exact h1.trans h2
/-- All numbers, once each. -/
structure Prm (n : Nat) (l : List Int) : Prop where
  perm : l.Perm ((List.range n).map (fun i : Nat => (i : Int)))
theorem Prm.len {n : Nat} {l : List Int} (h : Prm n l) : l.length = n := by
  rw [h.perm.length_eq]; simp
theorem Prm.mem {n : Nat} {l : List Int} (h : Prm n l) {x : Int} : x ∈ l ↔ ∃ j : Nat, j < n ∧ x = j := by
  rw [h.perm.mem_iff, List.mem_map]
  constructor
  · rintro ⟨j, hj, rfl⟩; exact ⟨j, List.mem_range.1 hj, rfl⟩
  · rintro ⟨j, hj, rfl⟩; exact ⟨j, List.mem_range.2 hj, rfl⟩
theorem Prm.swp {n : Nat} {l : List Int} (h : Prm n l) {i k : Nat} (hi : i < n) (hk : k < n) : Prm n (swp l i k) := by
  have hi' : i < l.length := by rw [h.len]; exact hi
  have hk' : k < l.length := by rw [h.len]; exact hk
  refine ⟨List.Perm.trans ?_ h.perm⟩
  unfold Go.Proofs.Ytmpjpjfkbmlmfaa.swp
  have e1 : l.getD k 0 = l[k] := by rw [List.getD_eq_getElem?_getD, List.getElem?_eq_getElem hk']; rfl
  have e2 : l.getD i 0 = l[i] := by rw [List.getD_eq_getElem?_getD, List.getElem?_eq_getElem hi']; rfl
  rw [e1, e2]
  exact List.set_set_perm hi' hk'
theorem range_prm (n : Nat) : Prm n ((List.range n).map (fun i : Nat => (i : Int))) := ⟨List.Perm.refl _⟩
theorem shGo_prm {bs : List Int} {n : Nat} : ∀ (m : Nat) (x : DS × List Int), m ≤ n → Prm n x.2 → Prm n (shGo bs m x).2 ∧ (shGo bs m x).1.1 ≤ x.1.1 + m
  | 0, x, _, h => ⟨h, by simp [shGo]⟩
  | m + 1, x, hm, h => by
    rw [shGo]
    split
    · exact ⟨h, by omega⟩
    · obtain ⟨a1, a2, a3⟩ := dNx_bd bs x.1 ((m + 1 : Nat) : Int)
      have := shGo_prm (bs := bs) m ((dNx bs x.1 ((m + 1 : Nat) : Int)).2, swp x.2 m (dNx bs x.1 ((m + 1 : Nat) : Int)).1.toNat) (by omega) (h.swp (by omega) (by omega))
      exact ⟨this.1, by have := this.2; dsimp only at this; omega⟩
theorem shX_prm (bs : List Int) (d : DS) (n : Nat) : Prm n (shX bs d n).2 ∧ (shX bs d n).1.1 ≤ d.1 + n := shGo_prm n _ (Nat.le_refl _) (range_prm n)
theorem vc_Shuffle (bs : List Int) (d : DS) (n : Nat) (i : Vm.Id) (h : Hp) (hn : n ≤ 1000) (hN : d.1 ≤ 1000000) (hd : h.get i = some (deckB bs d)) : VC Try.prog 30 [.ptr i 0, I n] h (ints (shX bs d n).2) (h.set i (deckB bs (shX bs d n).1)) := by
  obtain ⟨R, hR⟩ : ∃ R, R = shX bs d n := ⟨_, rfl⟩
  rw [← hR]
  unfold shX at hR
  have hmx : max 0 (n : Int) = n := by omega
  refine VC.body Try.func30 rfl Try.ntmps30 Try.call30 (h.grows_set _ _) rfl ?_
  conv => whnf
  repeat' (first | (refine VLd.intro rfl ?_; conv => whnf) | (refine VArith.i64 (by first | omega | (dsimp only; omega)) ?_; conv => whnf) | (refine VNeed.intro (by first | rfl | assumption | (simp; omega) | (simp; done)) ?_; conv => whnf) | (refine VMem.store rfl rfl rfl rfl ?_; conv => whnf) | (refine VSame.intro (by (conv => lhs; whnf); (conv => rhs; whnf); try rfl) ?_; conv => whnf) | (refine VDraw.go [] (by kernel_rfl) (by kernel_rfl) ?_; conv => whnf) | (refine VIte.dec (fun _ => ?_) (fun _ => ?_) <;> conv => whnf) | (refine VIte.ndec (fun _ => ?_) (fun _ => ?_) <;> conv => whnf) | (refine VIte.beq (fun _ => ?_) (fun _ => ?_) <;> conv => whnf) | (refine VIte.bne (fun _ => ?_) (fun _ => ?_) <;> conv => whnf) | (refine VIte.intro (fun _ => ?_) (fun _ => ?_) <;> conv => whnf))
  rw [hmx]
  refine VMem.make0 rfl rfl rfl (by omega) ?_
  conv => whnf
  repeat (first | (refine VLd.intro rfl ?_; conv => whnf) | (refine VArith.i64 (by first | omega | (dsimp only; omega)) ?_; conv => whnf) | (refine VNeed.intro (by first | rfl | assumption | (simp; omega) | (simp; done)) ?_; conv => whnf) | (refine VMem.store rfl rfl rfl rfl ?_; conv => whnf) | (refine VSame.intro (by (conv => lhs; whnf); (conv => rhs; whnf); try rfl) ?_; conv => whnf) | (refine VDraw.go [] (by kernel_rfl) (by kernel_rfl) ?_; conv => whnf))
  rw [hmx]
  refine VCode.lp (fun k : Nat => [(0, .ptr (.out i) 0), (5, .gl (.loc 0) 1 k), (13, I n), (14, I k)]) (fun k => [.flat true ((((List.range n).map (fun i : Nat => (i : Int))).take k).flatMap encI)]) (fun k => k ≤ n) (fun k => n - k) 0 (Nat.zero_le _) ?_ ?_
  · conv => whnf
    refine Retell.turn ⟨[0], 1, [], []⟩ (TurnOk.mk' _ _ [] [] (OutOk.lift _) rfl (by decide) (by repeat' (first | exact BTos.nil | refine BTos.flat rfl rfl (by first | rfl | simp) ?_ | refine BTos.new rfl ?_ | refine BTos.dead rfl rfl ?_ | refine BTos.esE rfl rfl ?_ | refine BTos.row rfl rfl rfl (RowTo.snoc (RowTo.one rfl (by simp))) ?_ | refine BTos.cells rfl rfl rfl (by repeat' (first | exact VTo.undef | exact FrTo.leaf | refine FrTo.node ?_ ?_ ?_ | refine FrTo.none ?_ ?_ | exact VTo.sc (by first | rfl | (congr 1; omega) | (congr 1; simp; omega)) | exact VTos_dv _ _ | refine VTos.cons ?_ ?_ | exact VTos.nil | refine VTo.agg ?_ | refine VTo.tuple ?_ | refine VTo.func ?_ ?_ | exact VTo.fs | exact VTo.fp | exact VTo.nilptr | exact VTo.nilslice | exact VTo.nilfunc | exact VTo.ptr rfl | exact VTo.gl rfl | exact VTo.map rfl | exact VTo.yld rfl | exact VTo.fmMap rfl | exact VTo.fm | exact VTo.glNil' (by decide) rfl rfl | exact VTo.fsNil (by decide) | exact VTo.fsSl rfl rfl (by simp [flat_len encE_len]) | exact VTo.fpPtr rfl | exact VTo.fsGl rfl (by first | rfl | assumption | exact flat_len encI_len _ | exact flat_len encT_len _ | exact flat_len encS_len _ | exact flat_len encP_len _ | exact flat_len encL_len _ | exact flat_len encE_len _ | (simp [flat_len encP_len]; done) | simp [flat_len encI_len, flat_len encS_len]))) ?_)) trivial trivial rfl) (by repeat' (first | exact VTo.undef | exact FrTo.leaf | refine FrTo.node ?_ ?_ ?_ | refine FrTo.none ?_ ?_ | exact VTo.sc (by first | rfl | (congr 1; omega) | (congr 1; simp; omega)) | exact VTos_dv _ _ | refine VTos.cons ?_ ?_ | exact VTos.nil | refine VTo.agg ?_ | refine VTo.tuple ?_ | refine VTo.func ?_ ?_ | exact VTo.fs | exact VTo.fp | exact VTo.nilptr | exact VTo.nilslice | exact VTo.nilfunc | exact VTo.ptr rfl | exact VTo.gl rfl | exact VTo.map rfl | exact VTo.yld rfl | exact VTo.fmMap rfl | exact VTo.fm | exact VTo.glNil' (by decide) rfl rfl | exact VTo.fsNil (by decide) | exact VTo.fsSl rfl rfl (by simp [flat_len encE_len]) | exact VTo.fpPtr rfl | exact VTo.fsGl rfl (by first | rfl | assumption | exact flat_len encI_len _ | exact flat_len encT_len _ | exact flat_len encS_len _ | exact flat_len encP_len _ | exact flat_len encL_len _ | exact flat_len encE_len _ | (simp [flat_len encP_len]; done) | simp [flat_len encI_len, flat_len encS_len]))) (by first | rfl | (repeat' (first | exact MkTo.nil | refine MkTo.keep rfl ?_ | refine MkTo.drop (by decide) rfl ?_)))
  · intro k hk
    have hlen : (((List.range n).map (fun i : Nat => (i : Int))).take k).length = k := by rw [List.length_take, List.length_map, List.length_range]; omega
    conv => whnf
    refine VIte.dec (fun h3 => ?_) (fun h3 => ?_)
    · have htk : ((List.range n).map (fun i : Nat => (i : Int))).take (k + 1) = ((List.range n).map (fun i : Nat => (i : Int))).take k ++ [(k : Int)] := by
        rw [List.take_add_one, List.getElem?_map, List.getElem?_range (by omega)]; rfl
      conv => whnf
      repeat' (first | (refine VLd.intro rfl ?_; conv => whnf) | (refine VArith.i64 (by first | omega | (dsimp only; omega)) ?_; conv => whnf) | (refine VNeed.intro (by first | rfl | assumption | (simp; omega) | (simp; done)) ?_; conv => whnf) | (refine VMem.store rfl rfl rfl rfl ?_; conv => whnf) | (refine VSame.intro (by (conv => lhs; whnf); (conv => rhs; whnf); try rfl) ?_; conv => whnf) | (refine VIte.dec (fun _ => ?_) (fun _ => ?_) <;> conv => whnf) | (refine VIte.ndec (fun _ => ?_) (fun _ => ?_) <;> conv => whnf) | (refine VIte.beq (fun _ => ?_) (fun _ => ?_) <;> conv => whnf) | (refine VIte.bne (fun _ => ?_) (fun _ => ?_) <;> conv => whnf) | (refine VIte.intro (fun _ => ?_) (fun _ => ?_) <;> conv => whnf))
      refine VMem.app1 (l := ((List.range n).map (fun i : Nat => (i : Int))).take k) (k : Int) encI_len rfl rfl rfl hlen.symm rfl (by omega) ?_
      rw [← htk]
      conv => whnf
      repeat' (first | (refine VLd.intro rfl ?_; conv => whnf) | (refine VArith.i64 (by first | omega | (dsimp only; omega)) ?_; conv => whnf) | (refine VNeed.intro (by first | rfl | assumption | (simp; omega) | (simp; done)) ?_; conv => whnf) | (refine VMem.store rfl rfl rfl rfl ?_; conv => whnf) | (refine VSame.intro (by (conv => lhs; whnf); (conv => rhs; whnf); try rfl) ?_; conv => whnf) | (refine VIte.dec (fun _ => ?_) (fun _ => ?_) <;> conv => whnf) | (refine VIte.ndec (fun _ => ?_) (fun _ => ?_) <;> conv => whnf) | (refine VIte.beq (fun _ => ?_) (fun _ => ?_) <;> conv => whnf) | (refine VIte.bne (fun _ => ?_) (fun _ => ?_) <;> conv => whnf) | (refine VIte.intro (fun _ => ?_) (fun _ => ?_) <;> conv => whnf))
      refine LEnd.intro (k + 1) (by omega) (by omega) ?_
      conv => whnf
      refine Retell.turn ⟨[2], 3, [], []⟩ (TurnOk.mk' _ _ [] [] (OutOk.lift _) rfl (by decide) (by repeat' (first | exact BTos.nil | refine BTos.flat rfl rfl (by first | rfl | simp) ?_ | refine BTos.new rfl ?_ | refine BTos.dead rfl rfl ?_ | refine BTos.esE rfl rfl ?_ | refine BTos.row rfl rfl rfl (RowTo.snoc (RowTo.one rfl (by simp))) ?_ | refine BTos.cells rfl rfl rfl (by repeat' (first | exact VTo.undef | exact FrTo.leaf | refine FrTo.node ?_ ?_ ?_ | refine FrTo.none ?_ ?_ | exact VTo.sc (by first | rfl | (congr 1; omega) | (congr 1; simp; omega)) | exact VTos_dv _ _ | refine VTos.cons ?_ ?_ | exact VTos.nil | refine VTo.agg ?_ | refine VTo.tuple ?_ | refine VTo.func ?_ ?_ | exact VTo.fs | exact VTo.fp | exact VTo.nilptr | exact VTo.nilslice | exact VTo.nilfunc | exact VTo.ptr rfl | exact VTo.gl rfl | exact VTo.map rfl | exact VTo.yld rfl | exact VTo.fmMap rfl | exact VTo.fm | exact VTo.glNil' (by decide) rfl rfl | exact VTo.fsNil (by decide) | exact VTo.fsSl rfl rfl (by simp [flat_len encE_len]) | exact VTo.fpPtr rfl | exact VTo.fsGl rfl (by first | rfl | assumption | exact flat_len encI_len _ | exact flat_len encT_len _ | exact flat_len encS_len _ | exact flat_len encP_len _ | exact flat_len encL_len _ | exact flat_len encE_len _ | (simp [flat_len encP_len]; done) | simp [flat_len encI_len, flat_len encS_len]))) ?_)) trivial trivial rfl) (by repeat' (first | exact VTo.undef | exact FrTo.leaf | refine FrTo.node ?_ ?_ ?_ | refine FrTo.none ?_ ?_ | exact VTo.sc (by first | rfl | (congr 1; omega) | (congr 1; simp; omega)) | exact VTos_dv _ _ | refine VTos.cons ?_ ?_ | exact VTos.nil | refine VTo.agg ?_ | refine VTo.tuple ?_ | refine VTo.func ?_ ?_ | exact VTo.fs | exact VTo.fp | exact VTo.nilptr | exact VTo.nilslice | exact VTo.nilfunc | exact VTo.ptr rfl | exact VTo.gl rfl | exact VTo.map rfl | exact VTo.yld rfl | exact VTo.fmMap rfl | exact VTo.fm | exact VTo.glNil' (by decide) rfl rfl | exact VTo.fsNil (by decide) | exact VTo.fsSl rfl rfl (by simp [flat_len encE_len]) | exact VTo.fpPtr rfl | exact VTo.fsGl rfl (by first | rfl | assumption | exact flat_len encI_len _ | exact flat_len encT_len _ | exact flat_len encS_len _ | exact flat_len encP_len _ | exact flat_len encL_len _ | exact flat_len encE_len _ | (simp [flat_len encP_len]; done) | simp [flat_len encI_len, flat_len encS_len]))) (by first | rfl | (repeat' (first | exact MkTo.nil | refine MkTo.keep rfl ?_ | refine MkTo.drop (by decide) rfl ?_)))
    · have hkn : k = n := by omega
      subst hkn
      rw [show ((List.range k).map (fun i : Nat => (i : Int))).take k = (List.range k).map (fun i : Nat => (i : Int)) by rw [List.take_of_length_le (by simp)]]
      conv => whnf
      repeat' (first | (refine VLd.intro rfl ?_; conv => whnf) | (refine VArith.i64 (by first | omega | (dsimp only; omega)) ?_; conv => whnf) | (refine VNeed.intro (by first | rfl | assumption | (simp; omega) | (simp; done)) ?_; conv => whnf) | (refine VMem.store rfl rfl rfl rfl ?_; conv => whnf) | (refine VSame.intro (by (conv => lhs; whnf); (conv => rhs; whnf); try rfl) ?_; conv => whnf) | (refine VIte.dec (fun _ => ?_) (fun _ => ?_) <;> conv => whnf) | (refine VIte.ndec (fun _ => ?_) (fun _ => ?_) <;> conv => whnf) | (refine VIte.beq (fun _ => ?_) (fun _ => ?_) <;> conv => whnf) | (refine VIte.bne (fun _ => ?_) (fun _ => ?_) <;> conv => whnf) | (refine VIte.intro (fun _ => ?_) (fun _ => ?_) <;> conv => whnf))
      refine VCode.lpo (fun y : Nat × (DS × List Int) => [(0, .ptr (.out i) 0), (5, .gl (.loc 0) 1 k), (7, I y.1)]) (fun y => outW h.lift i (deckB bs y.2.1)) (fun y => [.flat true (y.2.2.flatMap encI)]) (fun y => y.1 ≤ k ∧ Prm k y.2.2 ∧ R = shGo bs y.1 y.2 ∧ y.2.1.1 + y.1 ≤ d.1 + k) (fun y => y.1) (k, (d, (List.range k).map (fun i : Nat => (i : Int)))) ⟨Nat.le_refl _, range_prm k, hR, Nat.le_refl _⟩ ?_ ?_ ?_
      · exact outW_id (o := h.lift) (get_out hd [])
      · conv => whnf
        refine Retell.turn ⟨[0], 1, [], []⟩ (TurnOk.mk' _ _ [] [] (OutOk.outW (OutOk.lift _) rfl) rfl (by decide) (by repeat' (first | exact BTos.nil | refine BTos.flat rfl rfl (by first | rfl | simp) ?_ | refine BTos.new rfl ?_ | refine BTos.dead rfl rfl ?_ | refine BTos.esE rfl rfl ?_ | refine BTos.row rfl rfl rfl (RowTo.snoc (RowTo.one rfl (by simp))) ?_ | refine BTos.cells rfl rfl rfl (by repeat' (first | exact VTo.undef | exact FrTo.leaf | refine FrTo.node ?_ ?_ ?_ | refine FrTo.none ?_ ?_ | exact VTo.sc (by first | rfl | (congr 1; omega) | (congr 1; simp; omega)) | exact VTos_dv _ _ | refine VTos.cons ?_ ?_ | exact VTos.nil | refine VTo.agg ?_ | refine VTo.tuple ?_ | refine VTo.func ?_ ?_ | exact VTo.fs | exact VTo.fp | exact VTo.nilptr | exact VTo.nilslice | exact VTo.nilfunc | exact VTo.ptr rfl | exact VTo.gl rfl | exact VTo.map rfl | exact VTo.yld rfl | exact VTo.fmMap rfl | exact VTo.fm | exact VTo.glNil' (by decide) rfl rfl | exact VTo.fsNil (by decide) | exact VTo.fsSl rfl rfl (by simp [flat_len encE_len]) | exact VTo.fpPtr rfl | exact VTo.fsGl rfl (by first | rfl | assumption | exact flat_len encI_len _ | exact flat_len encT_len _ | exact flat_len encS_len _ | exact flat_len encP_len _ | exact flat_len encL_len _ | exact flat_len encE_len _ | (simp [flat_len encP_len]; done) | simp [flat_len encI_len, flat_len encS_len]))) ?_)) trivial trivial rfl) (by repeat' (first | exact VTo.undef | exact FrTo.leaf | refine FrTo.node ?_ ?_ ?_ | refine FrTo.none ?_ ?_ | exact VTo.sc (by first | rfl | (congr 1; omega) | (congr 1; simp; omega)) | exact VTos_dv _ _ | refine VTos.cons ?_ ?_ | exact VTos.nil | refine VTo.agg ?_ | refine VTo.tuple ?_ | refine VTo.func ?_ ?_ | exact VTo.fs | exact VTo.fp | exact VTo.nilptr | exact VTo.nilslice | exact VTo.nilfunc | exact VTo.ptr rfl | exact VTo.gl rfl | exact VTo.map rfl | exact VTo.yld rfl | exact VTo.fmMap rfl | exact VTo.fm | exact VTo.glNil' (by decide) rfl rfl | exact VTo.fsNil (by decide) | exact VTo.fsSl rfl rfl (by simp [flat_len encE_len]) | exact VTo.fpPtr rfl | exact VTo.fsGl rfl (by first | rfl | assumption | exact flat_len encI_len _ | exact flat_len encT_len _ | exact flat_len encS_len _ | exact flat_len encP_len _ | exact flat_len encL_len _ | exact flat_len encE_len _ | (simp [flat_len encP_len]; done) | simp [flat_len encI_len, flat_len encS_len]))) (by first | rfl | (repeat' (first | exact MkTo.nil | refine MkTo.keep rfl ?_ | refine MkTo.drop (by decide) rfl ?_)))
      · rintro ⟨m, e, l⟩ ⟨h1, h2, h4, h5⟩
        dsimp only at h1 h2 h4 h5
        conv => whnf
        refine VIte.dec (fun h3 => ?_) (fun h3 => ?_)
        · obtain ⟨q, rfl⟩ : ∃ q, m = q + 1 := ⟨m - 1, by omega⟩
          rw [shGo, if_neg (by omega)] at h4
          have y1 := dNx_bd bs e ((q + 1 : Nat) : Int)
          have g1 := fun (h2 : Hp) hh => vc_draw bs e ((q + 1 : Nat) : Int) (.out i) h2 (by omega) hh
          dsimp only at h4
          generalize dNx bs e ((q + 1 : Nat) : Int) = z at y1 g1 h4
          obtain ⟨u, hu⟩ : ∃ u : Nat, z.1 = u := ⟨z.1.toNat, by omega⟩
          rw [hu] at g1
          rw [hu, Int.toNat_natCast] at h4
          have hp := h2.swp (i := q) (k := u) (by omega) (by omega)
          have hll := h2.len
          have lq : l[q]? = some l[q] := List.getElem?_eq_getElem (by omega)
          have lu : l[u]? = some l[u] := List.getElem?_eq_getElem (by omega)
          have dq : l.getD q 0 = l[q] := by rw [List.getD_eq_getElem?_getD, lq]; rfl
          have du : l.getD u 0 = l[u] := by rw [List.getD_eq_getElem?_getD, lu]; rfl
          unfold swp at hp h4
          rw [dq, du] at hp h4
          have lu2 : ∃ a, (l.set q l[u])[u]? = some a := ⟨_, List.getElem?_eq_getElem (by rw [List.length_set]; omega)⟩
          obtain ⟨a2, lu2⟩ := lu2
          generalize l[q] = A at *
          generalize l[u] = B at *
          conv => whnf
          repeat' (first | (refine VLd.intro rfl ?_; conv => whnf) | (refine VArith.i64 (by first | omega | (dsimp only; omega)) ?_; conv => whnf) | (refine VNeed.intro (by first | rfl | assumption | (simp; omega) | (simp; done)) ?_; conv => whnf) | (refine VMem.store rfl rfl rfl rfl ?_; conv => whnf) | (refine VSame.intro (by (conv => lhs; whnf); (conv => rhs; whnf); try rfl) ?_; conv => whnf) | (refine VIte.dec (fun _ => ?_) (fun _ => ?_) <;> conv => whnf) | (refine VIte.ndec (fun _ => ?_) (fun _ => ?_) <;> conv => whnf) | (refine VIte.beq (fun _ => ?_) (fun _ => ?_) <;> conv => whnf) | (refine VIte.bne (fun _ => ?_) (fun _ => ?_) <;> conv => whnf) | (refine VIte.intro (fun _ => ?_) (fun _ => ?_) <;> conv => whnf) | (refine VCall.intro (g1 _ (outW_get _ _ _ _)) ?_; conv => whnf))
          refine VDraw.go [] (by kernel_rfl) (by kernel_rfl) ?_
          conv => whnf
          repeat' (first | (refine VLd.intro rfl ?_; conv => whnf) | (refine VArith.i64 (by first | omega | (dsimp only; omega)) ?_; conv => whnf) | (refine VNeed.intro (by first | rfl | assumption | (simp; omega) | (simp; done)) ?_; conv => whnf) | (refine VMem.store rfl rfl rfl rfl ?_; conv => whnf) | (refine VSame.intro (by (conv => lhs; whnf); (conv => rhs; whnf); try rfl) ?_; conv => whnf) | (refine VIte.dec (fun _ => ?_) (fun _ => ?_) <;> conv => whnf) | (refine VIte.ndec (fun _ => ?_) (fun _ => ?_) <;> conv => whnf) | (refine VIte.beq (fun _ => ?_) (fun _ => ?_) <;> conv => whnf) | (refine VIte.bne (fun _ => ?_) (fun _ => ?_) <;> conv => whnf) | (refine VIte.intro (fun _ => ?_) (fun _ => ?_) <;> conv => whnf) | (refine VLd.recc encI_len u 0 rfl rfl rfl lu (by decide) rfl (by simp only [Nat.zero_add, Nat.mul_one]; omega) ?_; conv => whnf) | (refine VLd.recc encI_len q 0 rfl rfl rfl lq (by decide) rfl (by simp only [Nat.zero_add, Nat.mul_one]; omega) ?_; conv => whnf))
          refine VMem.setRec encI_len q 0 B rfl rfl rfl lq (by decide) rfl (by simp only [Nat.zero_add, Nat.mul_one]; omega) ?_
          conv => whnf
          repeat' (first | (refine VLd.intro rfl ?_; conv => whnf) | (refine VArith.i64 (by first | omega | (dsimp only; omega)) ?_; conv => whnf) | (refine VNeed.intro (by first | rfl | assumption | (simp; omega) | (simp; done)) ?_; conv => whnf) | (refine VMem.store rfl rfl rfl rfl ?_; conv => whnf) | (refine VSame.intro (by (conv => lhs; whnf); (conv => rhs; whnf); try rfl) ?_; conv => whnf) | (refine VIte.dec (fun _ => ?_) (fun _ => ?_) <;> conv => whnf) | (refine VIte.ndec (fun _ => ?_) (fun _ => ?_) <;> conv => whnf) | (refine VIte.beq (fun _ => ?_) (fun _ => ?_) <;> conv => whnf) | (refine VIte.bne (fun _ => ?_) (fun _ => ?_) <;> conv => whnf) | (refine VIte.intro (fun _ => ?_) (fun _ => ?_) <;> conv => whnf))
          refine VMem.setRec encI_len u 0 A rfl rfl rfl lu2 (by decide) rfl (by simp only [Nat.zero_add, Nat.mul_one]; omega) ?_
          conv => whnf
          repeat' (first | (refine VLd.intro rfl ?_; conv => whnf) | (refine VArith.i64 (by first | omega | (dsimp only; omega)) ?_; conv => whnf) | (refine VNeed.intro (by first | rfl | assumption | (simp; omega) | (simp; done)) ?_; conv => whnf) | (refine VMem.store rfl rfl rfl rfl ?_; conv => whnf) | (refine VSame.intro (by (conv => lhs; whnf); (conv => rhs; whnf); try rfl) ?_; conv => whnf) | (refine VIte.dec (fun _ => ?_) (fun _ => ?_) <;> conv => whnf) | (refine VIte.ndec (fun _ => ?_) (fun _ => ?_) <;> conv => whnf) | (refine VIte.beq (fun _ => ?_) (fun _ => ?_) <;> conv => whnf) | (refine VIte.bne (fun _ => ?_) (fun _ => ?_) <;> conv => whnf) | (refine VIte.intro (fun _ => ?_) (fun _ => ?_) <;> conv => whnf))
          refine LEndO.intro (q, _) ⟨by dsimp only; omega, hp, h4, by dsimp only; omega⟩ (by dsimp only; omega) ?_ ?_
          · funext j; by_cases e : j = i <;> simp [outW, e, Hp.set]
          · conv => whnf
            refine Retell.turn ⟨[0], 1, [], []⟩ (TurnOk.mk' _ _ [] [] (OutOk.outW (OutOk.lift _) rfl) rfl (by decide) (by repeat' (first | exact BTos.nil | refine BTos.flat rfl rfl (by first | rfl | simp) ?_ | refine BTos.new rfl ?_ | refine BTos.dead rfl rfl ?_ | refine BTos.esE rfl rfl ?_ | refine BTos.row rfl rfl rfl (RowTo.snoc (RowTo.one rfl (by simp))) ?_ | refine BTos.cells rfl rfl rfl (by repeat' (first | exact VTo.undef | exact FrTo.leaf | refine FrTo.node ?_ ?_ ?_ | refine FrTo.none ?_ ?_ | exact VTo.sc (by first | rfl | (congr 1; omega) | (congr 1; simp; omega)) | exact VTos_dv _ _ | refine VTos.cons ?_ ?_ | exact VTos.nil | refine VTo.agg ?_ | refine VTo.tuple ?_ | refine VTo.func ?_ ?_ | exact VTo.fs | exact VTo.fp | exact VTo.nilptr | exact VTo.nilslice | exact VTo.nilfunc | exact VTo.ptr rfl | exact VTo.gl rfl | exact VTo.map rfl | exact VTo.yld rfl | exact VTo.fmMap rfl | exact VTo.fm | exact VTo.glNil' (by decide) rfl rfl | exact VTo.fsNil (by decide) | exact VTo.fsSl rfl rfl (by simp [flat_len encE_len]) | exact VTo.fpPtr rfl | exact VTo.fsGl rfl (by first | rfl | assumption | exact flat_len encI_len _ | exact flat_len encT_len _ | exact flat_len encS_len _ | exact flat_len encP_len _ | exact flat_len encL_len _ | exact flat_len encE_len _ | (simp [flat_len encP_len]; done) | simp [flat_len encI_len, flat_len encS_len]))) ?_)) trivial trivial rfl) (by repeat' (first | exact VTo.undef | exact FrTo.leaf | refine FrTo.node ?_ ?_ ?_ | refine FrTo.none ?_ ?_ | exact VTo.sc (by first | rfl | (congr 1; omega) | (congr 1; simp; omega)) | exact VTos_dv _ _ | refine VTos.cons ?_ ?_ | exact VTos.nil | refine VTo.agg ?_ | refine VTo.tuple ?_ | refine VTo.func ?_ ?_ | exact VTo.fs | exact VTo.fp | exact VTo.nilptr | exact VTo.nilslice | exact VTo.nilfunc | exact VTo.ptr rfl | exact VTo.gl rfl | exact VTo.map rfl | exact VTo.yld rfl | exact VTo.fmMap rfl | exact VTo.fm | exact VTo.glNil' (by decide) rfl rfl | exact VTo.fsNil (by decide) | exact VTo.fsSl rfl rfl (by simp [flat_len encE_len]) | exact VTo.fpPtr rfl | exact VTo.fsGl rfl (by first | rfl | assumption | exact flat_len encI_len _ | exact flat_len encT_len _ | exact flat_len encS_len _ | exact flat_len encP_len _ | exact flat_len encL_len _ | exact flat_len encE_len _ | (simp [flat_len encP_len]; done) | simp [flat_len encI_len, flat_len encS_len]))) (by first | rfl | (repeat' (first | exact MkTo.nil | refine MkTo.keep rfl ?_ | refine MkTo.drop (by decide) rfl ?_)))
        · have hm : m = 0 ∨ m = 1 := by omega
          have hRl : R = (e, l) := by
            rcases hm with rfl | rfl
            · rw [h4, shGo]
            · rw [h4, shGo, if_pos rfl]
          subst hRl
          have hlk := h2.len
          rw [← hlk]
          conv => whnf
          repeat' (first | (refine VLd.intro rfl ?_; conv => whnf) | (refine VArith.i64 (by first | omega | (dsimp only; omega)) ?_; conv => whnf) | (refine VNeed.intro (by first | rfl | assumption | (simp; omega) | (simp; done)) ?_; conv => whnf) | (refine VMem.store rfl rfl rfl rfl ?_; conv => whnf) | (refine VSame.intro (by (conv => lhs; whnf); (conv => rhs; whnf); try rfl) ?_; conv => whnf) | (refine VIte.dec (fun _ => ?_) (fun _ => ?_) <;> conv => whnf) | (refine VIte.ndec (fun _ => ?_) (fun _ => ?_) <;> conv => whnf) | (refine VIte.beq (fun _ => ?_) (fun _ => ?_) <;> conv => whnf) | (refine VIte.bne (fun _ => ?_) (fun _ => ?_) <;> conv => whnf) | (refine VIte.intro (fun _ => ?_) (fun _ => ?_) <;> conv => whnf))
          refine VOut.turn ⟨[], 1, [(0, l.flatMap encI)], []⟩ (loc' := []) (r1' := ints l) (TurnOk.mk' [] 1 [(0, l.flatMap encI)] [] (OutOk.outW (OutOk.lift _) rfl) rfl List.nodup_nil BTos.nil (FzAll.flat rfl FzAll.nil) trivial rfl) (by repeat' (first | exact VTo.undef | exact FrTo.leaf | refine FrTo.node ?_ ?_ ?_ | refine FrTo.none ?_ ?_ | exact VTo.sc (by first | rfl | (congr 1; omega) | (congr 1; simp; omega)) | exact VTos_dv _ _ | refine VTos.cons ?_ ?_ | exact VTos.nil | refine VTo.agg ?_ | refine VTo.tuple ?_ | refine VTo.func ?_ ?_ | exact VTo.fs | exact VTo.fp | exact VTo.nilptr | exact VTo.nilslice | exact VTo.nilfunc | exact VTo.ptr rfl | exact VTo.gl rfl | exact VTo.map rfl | exact VTo.yld rfl | exact VTo.fmMap rfl | exact VTo.fm | exact VTo.glNil' (by decide) rfl rfl | exact VTo.fsNil (by decide) | exact VTo.fsSl rfl rfl (by simp [flat_len encE_len]) | exact VTo.fpPtr rfl | exact VTo.fsGl rfl (by first | rfl | assumption | exact flat_len encI_len _ | exact flat_len encT_len _ | exact flat_len encS_len _ | exact flat_len encP_len _ | exact flat_len encL_len _ | exact flat_len encE_len _ | (simp [flat_len encP_len]; done) | simp [flat_len encI_len, flat_len encS_len]))) ?_
          exact VOut.setF (L := 0) rfl hd fun _ => rfl
end Go.Proofs.Ytmpjpjfkbmlmfaa

open Go.Vm
namespace Go.Proofs.Ytmpjpjfkbmlmfaa
set_option maxRecDepth 20000
set_option maxHeartbeats 1000000

/-! Sides that are called otherwise, and stretches in another order. -/
def flS (s : Str) : Str := ⟨1 - s.ow, s.so, s.no, s.we⟩
def tnL (l : Lnd) (σ : List Int) : Lnd := ⟨σ.map fun i => flS (sAt l i.toNat), l.vs.map fun v => 1 - v⟩
def tnX (x : Exc) (σ : List Int) : Exc := ⟨x.w, σ.map fun i => x.w - pAt x i.toNat⟩
theorem hN_sum (f : Int → Str) (g : Int → Int) : ∀ σ : List Int, hN (σ.map f) (σ.map g) = (σ.map fun i => (f i).no * g i).sum
  | [] => rfl
  | i :: σ => by simp only [List.map_cons, hN, List.sum_cons, hN_sum f g σ]
theorem hS_sum (w : Int) (f : Int → Str) (g : Int → Int) : ∀ σ : List Int, hS w (σ.map f) (σ.map g) = (σ.map fun i => (f i).so * (w - g i)).sum
  | [] => rfl
  | i :: σ => by simp only [List.map_cons, hS, List.sum_cons, hS_sum w f g σ]
theorem ss_range {l : Lnd} : l.ss = ((List.range l.ss.length).map (fun i : Nat => (i : Int))).map fun i => sAt l i.toNat := by
  apply List.ext_getElem?
  intro i
  rw [List.getElem?_map, List.getElem?_map]
  by_cases h : i < l.ss.length
  · rw [List.getElem?_range h]
    have hs : l.ss[i]? = some l.ss[i] := List.getElem?_eq_getElem h
    rw [hs]
    show _ = some (sAt l (i : Int).toNat)
    rw [Int.toNat_natCast, sAt_eq hs]
  · rw [List.getElem?_eq_none (by omega), List.getElem?_eq_none (by simp; omega)]; rfl
theorem ps_range {l : Lnd} {x : Exc} (ox : XOk l x) : x.ps = ((List.range l.ss.length).map (fun i : Nat => (i : Int))).map fun i => pAt x i.toNat := by
  apply List.ext_getElem?
  intro i
  rw [List.getElem?_map, List.getElem?_map]
  have hl := ox.len
  by_cases h : i < l.ss.length
  · rw [List.getElem?_range h]
    have hs : x.ps[i]? = some (x.ps[i]'(by omega)) := List.getElem?_eq_getElem _
    rw [hs]
    show _ = some (pAt x (i : Int).toNat)
    rw [Int.toNat_natCast, pAt_eq hs]
  · rw [List.getElem?_eq_none (by omega), List.getElem?_eq_none (by simp; omega)]; rfl
theorem tn_has {l : Lnd} {σ : List Int} (P : Prm l.ss.length σ) {x : Exc} (ox : XOk l x) : hasN (tnL l σ) (tnX x σ) = hasS l x ∧ hasS (tnL l σ) (tnX x σ) = hasN l x := by
  have e1 : hasN (tnL l σ) (tnX x σ) = hN (σ.map fun i => flS (sAt l i.toNat)) (σ.map fun i => x.w - pAt x i.toNat) := rfl
  have e2 : hasS (tnL l σ) (tnX x σ) = hS x.w (σ.map fun i => flS (sAt l i.toNat)) (σ.map fun i => x.w - pAt x i.toNat) := rfl
  have e3 : hasN l x = hN l.ss x.ps := rfl
  have e4 : hasS l x = hS x.w l.ss x.ps := rfl
  rw [e1, e2, e3, e4]
  conv => rhs; rw [ss_range (l := l), ps_range ox]
  conv => lhs; rhs; rw [ss_range (l := l), ps_range ox]
  rw [hN_sum, hS_sum, hN_sum, hS_sum, perm_sum _ P.perm, perm_sum _ P.perm]
  constructor
  · rfl
  · congr 1
    refine List.map_congr_left fun i _ => ?_
    show (sAt l i.toNat).no * (x.w - (x.w - pAt x i.toNat)) = _
    congr 1; omega
theorem tn_now {l : Lnd} (o : Ok l) {σ : List Int} (P : Prm l.ss.length σ) : nowX (tnL l σ) = tnX (nowX l) σ := by
  unfold nowX tnX
  have e : nowP (tnL l σ) = σ.map fun i => 1 - pAt ⟨1, nowP l⟩ i.toNat := by
    show (σ.map fun i => flS (sAt l i.toNat)).map _ = _
    rw [List.map_map]
    refine List.map_congr_left fun i hi => ?_
    obtain ⟨j, hj, rfl⟩ := P.mem.1 hi
    have hs : l.ss[j]? = some l.ss[j] := List.getElem?_eq_getElem hj
    have hp : (nowP l)[j]? = some (1 - l.ss[j].ow) := by simp [nowP, hs]
    rw [Int.toNat_natCast, pAt_eq (x := ⟨1, nowP l⟩) hp]
    show 1 - (1 - (sAt l j).ow) = _
    rw [sAt_eq hs]
  rw [e]
theorem tn_gn {l : Lnd} (o : Ok l) {σ : List Int} (P : Prm l.ss.length σ) {x : Exc} (ox : XOk l x) : gnN (tnL l σ) (tnX x σ) = gnS l x ∧ gnS (tnL l σ) (tnX x σ) = gnN l x := by
  obtain ⟨a, b⟩ := tn_has P ox
  obtain ⟨c, d⟩ := tn_has P (now_ok o)
  have ew : (tnX x σ).w = x.w := rfl
  unfold gnN gnS
  rw [tn_now o P, a, b, c, d, ew]
  exact ⟨rfl, rfl⟩
/-- What stands at a place. -/
theorem tn_at {l : Lnd} {σ : List Int} (P : Prm l.ss.length σ) {x : Exc} (ox : XOk l x) {j : Nat} {s' : Str} {p' : Int} (hs : (tnL l σ).ss[j]? = some s') (hp : (tnX x σ).ps[j]? = some p') : ∃ (i : Nat) (s : Str) (p : Int), l.ss[i]? = some s ∧ x.ps[i]? = some p ∧ s' = flS s ∧ p' = x.w - p := by
  have hs : (σ.map fun i => flS (sAt l i.toNat))[j]? = some s' := hs
  have hp : (σ.map fun i => x.w - pAt x i.toNat)[j]? = some p' := hp
  rw [List.getElem?_map] at hs hp
  cases hσ : σ[j]? with
  | none => rw [hσ] at hs; simp at hs
  | some v =>
    obtain ⟨i, hi, rfl⟩ := P.mem.1 (List.mem_of_getElem? hσ)
    rw [hσ] at hs hp
    have h1 : l.ss[i]? = some l.ss[i] := List.getElem?_eq_getElem hi
    have h2 : x.ps[i]? = some (x.ps[i]'(by have := ox.len; omega)) := List.getElem?_eq_getElem _
    simp only [Option.map_some, Option.some.injEq, Int.toNat_natCast] at hs hp
    rw [sAt_eq h1] at hs
    rw [pAt_eq h2] at hp
    exact ⟨i, _, _, h1, h2, hs.symm, hp.symm⟩
theorem tn_of {l : Lnd} {σ : List Int} (P : Prm l.ss.length σ) {x : Exc} {i : Nat} {s : Str} {p : Int} (hs : l.ss[i]? = some s) (hp : x.ps[i]? = some p) : ∃ j : Nat, (tnL l σ).ss[j]? = some (flS s) ∧ (tnX x σ).ps[j]? = some (x.w - p) := by
  have hm : (i : Int) ∈ σ := P.mem.2 ⟨i, (List.getElem?_eq_some_iff.1 hs).1, rfl⟩
  obtain ⟨j, hj⟩ := List.getElem?_of_mem hm
  refine ⟨j, ?_, ?_⟩
  · show (σ.map fun i => flS (sAt l i.toNat))[j]? = _
    rw [List.getElem?_map, hj]
    simp [sAt_eq hs]
  · show (σ.map fun i => x.w - pAt x i.toNat)[j]? = _
    rw [List.getElem?_map, hj]
    simp [pAt_eq hp]
theorem tn_ok {l : Lnd} (o : Ok l) {σ : List Int} (P : Prm l.ss.length σ) : Ok (tnL l σ) := by
  have hl : (tnL l σ).ss.length = l.ss.length := by show (σ.map _).length = _; rw [List.length_map, P.len]
  have hv : (tnL l σ).vs.length = l.vs.length := List.length_map _
  refine ⟨by rw [hl]; exact o.n, by rw [hv]; exact o.v, fun v hv => ?_, fun s' hs' => ?_⟩
  · obtain ⟨u, hu, rfl⟩ := List.mem_map.1 hv
    rcases o.side u hu with h | h <;> rw [h] <;> simp
  · obtain ⟨v, hσ, rfl⟩ := List.mem_map.1 hs'
    obtain ⟨i, hi, rfl⟩ := P.mem.1 hσ
    have os := sAt_ok o hi
    rw [Int.toNat_natCast]
    generalize sAt l i = s at os
    have how := os.ow
    refine ⟨by show 1 - s.ow = 0 ∨ 1 - s.ow = 1; omega, os.so, os.no, ?_⟩
    rcases os.we with h | ⟨h1, h2, h3⟩
    · exact .inl h
    · refine .inr ⟨h1, by rw [hv]; exact h2, ?_⟩
      show vAt (l.vs.map fun v => 1 - v) s.we = 1 - s.ow
      unfold vAt at h3 ⊢
      have hlt : s.we.toNat < l.vs.length := by omega
      rw [List.getD_eq_getElem?_getD, List.getElem?_map, List.getElem?_eq_getElem hlt]
      rw [List.getD_eq_getElem?_getD, List.getElem?_eq_getElem hlt] at h3
      simp only [Option.map_some, Option.getD_some] at h3 ⊢
      rw [h3]
theorem tn_xok {l : Lnd} {σ : List Int} (P : Prm l.ss.length σ) {x : Exc} (ox : XOk l x) : XOk (tnL l σ) (tnX x σ) := by
  refine ⟨ox.w, ?_, fun p' hp => ?_⟩
  · show (σ.map _).length = (σ.map _).length
    rw [List.length_map, List.length_map]
  · obtain ⟨v, hσ, rfl⟩ := List.mem_map.1 hp
    obtain ⟨i, hi, rfl⟩ := P.mem.1 hσ
    have h2 : x.ps[i]? = some (x.ps[i]'(by have := ox.len; omega)) := List.getElem?_eq_getElem _
    have := ox.ps _ (List.mem_of_getElem? h2)
    rw [Int.toNat_natCast, pAt_eq h2]
    show 0 ≤ x.w - _ ∧ x.w - _ ≤ x.w
    omega
theorem al_fl {s : Str} {p w : Int} : (isFree (flS s) = true ∨ w - p = w * (1 - (flS s).ow)) ↔ (isFree s = true ∨ p = w * (1 - s.ow)) := by
  have e1 : isFree (flS s) = isFree s := rfl
  have e2 : w * (1 - (flS s).ow) = w - w * (1 - s.ow) := by
    show w * (1 - (1 - s.ow)) = _
    simp only [Int.mul_sub]; omega
  rw [e1, e2]
  constructor
  · rintro (h | h)
    · exact .inl h
    · right; omega
  · rintro (h | h)
    · exact .inl h
    · right; omega
theorem tn_alw {l : Lnd} {σ : List Int} (P : Prm l.ss.length σ) {x : Exc} (h : Alw l x) : Alw (tnL l σ) (tnX x σ) := by
  refine ⟨tn_xok P h.ok, fun j s' p' hs hp => ?_⟩
  obtain ⟨i, s, p, h1, h2, rfl, rfl⟩ := tn_at P h.ok hs hp
  exact al_fl.2 (h.al i s p h1 h2)
theorem tn_prc {l : Lnd} {σ : List Int} (P : Prm l.ss.length σ) {x : Exc} {a b : Int} (h : Prc l x a b) : Prc (tnL l σ) (tnX x σ) b a := by
  have A := tn_alw P h.alw
  refine ⟨A.ok, A.al, fun j s' p' hs hp hf => ?_⟩
  obtain ⟨i, s, p, h1, h2, rfl, rfl⟩ := tn_at P h.ok hs hp
  obtain ⟨q1, q2⟩ := h.pr i s p h1 h2 hf
  have bp := h.ok.ps p (List.mem_of_getElem? h2)
  have ew : (tnX x σ).w = x.w := rfl
  rw [ew]
  show (0 < s.so * b - s.no * a → x.w ≤ x.w - p) ∧ (s.so * b - s.no * a < 0 → x.w - p ≤ 0)
  exact ⟨fun hh => by have := q2 (by omega); omega, fun hh => by have := q1 (by omega); omega⟩
theorem tn_bst {l : Lnd} {σ : List Int} (P : Prm l.ss.length σ) {x : Exc} (ox : XOk l x) : Bst (tnL l σ) (tnX x σ) ↔ Bst l x := by
  constructor
  · intro h
    refine ⟨ox, fun i s p hs hp => ?_, fun i k s t p q hs ht hp hq fs ft h1 h2 => ?_⟩
    · obtain ⟨j, e1, e2⟩ := tn_of P hs hp
      exact al_fl.1 (h.al j _ _ e1 e2)
    · obtain ⟨j, e1, e2⟩ := tn_of P hs hp
      obtain ⟨j', e3, e4⟩ := tn_of P ht hq
      have ew : (tnX x σ).w = x.w := rfl
      have := h.no j' j _ _ _ _ e3 e1 e4 e2 ft fs (by rw [ew]; omega) (by omega)
      have e : t.so * s.no ≤ t.no * s.so := this
      rw [Int.mul_comm s.no, Int.mul_comm s.so]; exact e
  · intro h
    have A := tn_alw P h.alw
    refine ⟨A.ok, A.al, fun j j' s' t' p' q' hs ht hp hq fs ft h1 h2 => ?_⟩
    obtain ⟨i, s, p, e1, e2, rfl, rfl⟩ := tn_at P ox hs hp
    obtain ⟨k, t, q, e3, e4, rfl, rfl⟩ := tn_at P ox ht hq
    have ew : (tnX x σ).w = x.w := rfl
    rw [ew] at h1
    have := h.no k i t s q p e3 e1 e4 e2 ft fs (by omega) (by omega)
    show s.so * t.no ≤ s.no * t.so
    rw [Int.mul_comm s.so, Int.mul_comm s.no]; exact this
theorem tn_best {l : Lnd} {σ : List Int} (P : Prm l.ss.length σ) {x : Exc} (ox : XOk l x) : (alB (tnL l σ) (tnX x σ) && (wst (tnL l σ) (tnX x σ)).isNone) = (alB l x && (wst l x).isNone) := by
  have h := (best_iff (tn_xok P ox)).trans ((tn_bst P ox).trans (best_iff ox).symm)
  cases h1 : (alB (tnL l σ) (tnX x σ) && (wst (tnL l σ) (tnX x σ)).isNone) <;> cases h2 : (alB l x && (wst l x).isNone)
  · rfl
  · rw [h1, h2] at h; exact absurd (h.2 rfl) (by decide)
  · rw [h1, h2] at h; exact absurd (h.1 rfl) (by decide)
  · rfl
theorem tn_even {l : Lnd} (o : Ok l) {σ : List Int} (P : Prm l.ss.length σ) : gnN l (evX l) * (evX (tnL l σ)).w = gnN (tnL l σ) (evX (tnL l σ)) * (evX l).w := by
  have E := ev_spec o
  have E' := ev_spec (tn_ok o P)
  obtain ⟨a, b, ha, hb, Q⟩ := E.prc
  obtain ⟨a', b', ha', hb', Q'⟩ := E'.prc
  have Qt := tn_prc P Q
  obtain ⟨g1, g2⟩ := tn_gn o P Q.ok
  have h1 := not_both Q' (tn_alw P Q.alw) ha'.1 hb'.1
  have h2 := not_both Qt Q'.alw hb.1 ha.1
  have ew : (tnX (evX l) σ).w = (evX l).w := rfl
  rw [g1, g2, ← E'.eq, E.eq, ew] at h1 h2
  rw [E.eq]
  omega
end Go.Proofs.Ytmpjpjfkbmlmfaa

open Go.Vm
namespace Go.Proofs.Ytmpjpjfkbmlmfaa
set_option maxRecDepth 20000
set_option maxHeartbeats 4000000

theorem vc_BarterTurned (ns os : List Int) (h : Hp) : VC Try.prog 6 [bytes ns, bytes os] h (B true) h := by
  obtain ⟨⟨o, k2, k3, k4⟩, k5⟩ := mdL_ok ns (0, 9) (most := 12) (by omega)
  have cM := fun (i : Vm.Id) (h : Hp) hd => vc_Made ns (0, 9) 12 i h (by decide) (by omega) hd
  generalize mdL ns (0, 9) 12 = l at o k2 k3 k4 cM
  generalize (mdS ns (0, 9) 12).1 = dE at cM
  have hn := o.n
  obtain ⟨kA, kD, kW⟩ := tX_alw os (0, 9) o
  have g28 := fun (i : Vm.Id) (h : Hp) hd => vc_Tried os (0, 9) l i h o (by decide) hd
  generalize tX os (0, 9) l = x at kA kW g28
  generalize (tR os (0, 9) l).1 = d2 at kD g28
  have ox := kA.ok
  have hxl := ox.len
  have hxw := ox.w
  obtain ⟨P, sD⟩ := shX_prm os d2 l.ss.length
  have g30 := fun (i : Vm.Id) (h : Hp) hd => vc_Shuffle os d2 l.ss.length i h (by omega) (by omega) hd
  generalize (shX os d2 l.ss.length).1 = d3 at g30
  generalize (shX os d2 l.ss.length).2 = σ at P g30
  have hσ := P.len
  have T := tn_ok o P
  have Tx := tn_xok P ox
  obtain ⟨h1, h2⟩ := tn_has P ox
  have E := ev_spec o
  have ET := ev_spec T
  have ev := tn_even o P
  have ou : XOk l (evX l) := by obtain ⟨a, b, _, _, Q⟩ := E.prc; exact Q.ok
  have oT : XOk (tnL l σ) (evX (tnL l σ)) := by obtain ⟨a, b, _, _, Q⟩ := ET.prc; exact Q.ok
  have c31 := fun h => vc_Has_ok l x h o ox
  have c31t := fun h => vc_Has_ok (tnL l σ) (tnX x σ) h T Tx
  have c29 := fun h => vc_Best_ok l x h o ox
  have c29t := fun h => vc_Best_ok (tnL l σ) (tnX x σ) h T Tx
  have c21 := fun h => vc_Even_ok l h o
  have c21t := fun h => vc_Even_ok (tnL l σ) h T
  have c26 := fun h => vc_Gains_ok l (evX l) h o ou
  have c26t := fun h => vc_Gains_ok (tnL l σ) (evX (tnL l σ)) h T oT
  rw [h1, h2] at c31t
  rw [tn_best P ox] at c29t
  have hvl : (l.vs.map fun v => 1 - v).length = l.vs.length := List.length_map _
  have hsl : (σ.map fun i => flS (sAt l i.toNat)).length = σ.length := List.length_map _
  have hpl : (σ.map fun i => x.w - pAt x i.toNat).length = σ.length := List.length_map _
  have eT : vL (tnL l σ) = .agg [.fs 4 σ.length ((σ.map fun i => flS (sAt l i.toNat)).flatMap encT), .fs 1 l.vs.length ((l.vs.map fun v => 1 - v).flatMap encI)] := by
    show V.agg [.fs 4 (σ.map _).length _, .fs 1 (l.vs.map _).length _] = _
    rw [hvl, hsl]; rfl
  have eX : vX (tnX x σ) = .agg [I x.w, .fs 1 σ.length ((σ.map fun i => x.w - pAt x i.toNat).flatMap encI)] := by
    show V.agg [_, .fs 1 (σ.map _).length _] = _
    rw [hpl]; rfl
  rw [eT] at c31t c29t c21t c26t
  rw [eX] at c31t c29t
  have fs1 : ((σ.map fun i => flS (sAt l i.toNat)).flatMap encT).length = σ.length * 4 := by rw [flat_len encT_len, hsl]
  have fs2 : ((l.vs.map fun v => 1 - v).flatMap encI).length = l.vs.length * 1 := by rw [flat_len encI_len, hvl]
  have fs3 : ((σ.map fun i => x.w - pAt x i.toNat).flatMap encI).length = σ.length * 1 := by rw [flat_len encI_len, hpl]
  have b1 := gn_b o ou
  have b2 := gn_b T oT
  have w1 := ou.w
  have w2 := oT.w
  have hside := o.side
  have hsok := fun (i : Nat) (hi : i < l.ss.length) => sAt_ok o hi
  have hpok : ∀ i : Nat, i < l.ss.length → 0 ≤ pAt x i ∧ pAt x i ≤ x.w := fun i hi => by
    have hp : x.ps[i]? = some (x.ps[i]'(by omega)) := List.getElem?_eq_getElem _
    rw [pAt_eq hp]; exact ox.ps _ (List.mem_of_getElem? hp)
  clear eT eX h1 h2 E ET T Tx oT ou k4 kA
  generalize gnN (tnL l σ) (evX (tnL l σ)) = TN at *
  generalize gnS (tnL l σ) (evX (tnL l σ)) = TS at *
  generalize evX (tnL l σ) = v at *
  generalize gnN l (evX l) = XN at *
  generalize gnS l (evX l) = XS at *
  generalize evX l = u at *
  generalize hasN l x = HN at *
  generalize hasS l x = HS at *
  generalize (alB l x && (wst l x).isNone) = bb at *
  have m1 := mulb (A := 32000000) (B := 2000) b1.1 (show 0 ≤ v.w ∧ v.w ≤ 2000 by omega)
  have m2 := mulb (A := 32000000) (B := 2000) b2.1 (show 0 ≤ u.w ∧ u.w ≤ 2000 by omega)
  refine VC.bodyC 4 Try.func6 rfl Try.ntmps6 Try.call6 (h.grows_refl) rfl ?_; conv => whnf
  repeat' (first | (refine VLd.intro rfl ?_; conv => whnf) | (refine VArith.i64 (by first | omega | (dsimp only; omega)) ?_; conv => whnf) | (refine VNeed.intro (by first | rfl | assumption | (simp; omega) | (simp; done)) ?_; conv => whnf) | (refine VMem.store rfl rfl rfl rfl ?_; conv => whnf) | (refine VSame.intro (by (conv => lhs; whnf); (conv => rhs; whnf); try rfl) ?_; conv => whnf) | (refine VDraw.go [] (by kernel_rfl) (by kernel_rfl) ?_; conv => whnf) | (refine VIte.dec (fun _ => ?_) (fun _ => ?_) <;> conv => whnf) | (refine VIte.ndec (fun _ => ?_) (fun _ => ?_) <;> conv => whnf) | (refine VIte.beq (fun _ => ?_) (fun _ => ?_) <;> conv => whnf) | (refine VIte.bne (fun _ => ?_) (fun _ => ?_) <;> conv => whnf) | (refine VIte.intro (fun _ => ?_) (fun _ => ?_) <;> conv => whnf) | (refine VCall.intro (vc_Of _ _) ?_; conv => whnf) | (refine VCall.intro (cM _ _ rfl) ?_; conv => whnf) | (refine VCall.intro (g28 _ _ rfl) ?_; conv => whnf))
  refine VCut.at' 4 [(5, .ptr (.loc 0) 0), (6, .fp (encN l)), (7, .fp (encX x))] [deckB os d2] ?_ ?_
  · conv => whnf
    refine Retell.turn ⟨[0], 4, [(2, encN l), (3, encX x)], []⟩ (TurnOk.mk' _ _ [(2, encN l), (3, encX x)] [] (OutOk.lift _) rfl (by decide) (by repeat' (first | exact BTos.nil | refine BTos.flat rfl rfl (by first | rfl | simp) ?_ | refine BTos.new rfl ?_ | refine BTos.dead rfl rfl ?_ | refine BTos.esE rfl rfl ?_ | refine BTos.row rfl rfl rfl (RowTo.snoc (RowTo.one rfl (by simp))) ?_ | refine BTos.cells rfl rfl rfl (by repeat' (first | exact VTo.undef | exact FrTo.leaf | refine FrTo.node ?_ ?_ ?_ | refine FrTo.none ?_ ?_ | exact VTo.sc (by first | rfl | (congr 1; omega) | (congr 1; simp; omega)) | exact VTos_dv _ _ | refine VTos.cons ?_ ?_ | exact VTos.nil | refine VTo.agg ?_ | refine VTo.tuple ?_ | refine VTo.func ?_ ?_ | exact VTo.fs | exact VTo.fp | exact VTo.nilptr | exact VTo.nilslice | exact VTo.nilfunc | exact VTo.ptr rfl | exact VTo.gl rfl | exact VTo.map rfl | exact VTo.yld rfl | exact VTo.fmMap rfl | exact VTo.fm | exact VTo.glNil' (by decide) rfl rfl | exact VTo.fsNil (by decide) | exact VTo.fsSl rfl rfl (by simp [flat_len encE_len]) | exact VTo.fpPtr rfl | exact VTo.fsGl rfl (by first | rfl | assumption | exact flat_len encI_len _ | exact flat_len encT_len _ | exact flat_len encS_len _ | exact flat_len encP_len _ | exact flat_len encL_len _ | exact flat_len encE_len _ | (simp [flat_len encP_len]; done) | simp [flat_len encI_len, flat_len encS_len]))) ?_)) (by repeat' (first | exact FzAll.nil | refine FzAll.flat rfl ?_ | refine FzAll.row rfl rfl (RowTo.one rfl (by simp)) ?_)) trivial rfl) (by repeat' (first | exact VTo.undef | exact FrTo.leaf | refine FrTo.node ?_ ?_ ?_ | refine FrTo.none ?_ ?_ | exact VTo.sc (by first | rfl | (congr 1; omega) | (congr 1; simp; omega)) | exact VTos_dv _ _ | refine VTos.cons ?_ ?_ | exact VTos.nil | refine VTo.agg ?_ | refine VTo.tuple ?_ | refine VTo.func ?_ ?_ | exact VTo.fs | exact VTo.fp | exact VTo.nilptr | exact VTo.nilslice | exact VTo.nilfunc | exact VTo.ptr rfl | exact VTo.gl rfl | exact VTo.map rfl | exact VTo.yld rfl | exact VTo.fmMap rfl | exact VTo.fm | exact VTo.glNil' (by decide) rfl rfl | exact VTo.fsNil (by decide) | exact VTo.fsSl rfl rfl (by simp [flat_len encE_len]) | exact VTo.fpPtr rfl | exact VTo.fsGl rfl (by first | rfl | assumption | exact flat_len encI_len _ | exact flat_len encT_len _ | exact flat_len encS_len _ | exact flat_len encP_len _ | exact flat_len encL_len _ | exact flat_len encE_len _ | (simp [flat_len encP_len]; done) | simp [flat_len encI_len, flat_len encS_len]))) (by first | rfl | (repeat' (first | exact MkTo.nil | refine MkTo.keep rfl ?_ | refine MkTo.drop (by decide) rfl ?_)))
  · conv => whnf
    repeat' (first | (refine VLd.intro rfl ?_; conv => whnf) | (refine VArith.i64 (by first | omega | (dsimp only; omega)) ?_; conv => whnf) | (refine VNeed.intro (by first | rfl | assumption | (simp; omega) | (simp; done)) ?_; conv => whnf) | (refine VMem.store rfl rfl rfl rfl ?_; conv => whnf) | (refine VSame.intro (by (conv => lhs; whnf); (conv => rhs; whnf); try rfl) ?_; conv => whnf) | (refine VDraw.go [] (by kernel_rfl) (by kernel_rfl) ?_; conv => whnf) | (refine VIte.dec (fun _ => ?_) (fun _ => ?_) <;> conv => whnf) | (refine VIte.ndec (fun _ => ?_) (fun _ => ?_) <;> conv => whnf) | (refine VIte.beq (fun _ => ?_) (fun _ => ?_) <;> conv => whnf) | (refine VIte.bne (fun _ => ?_) (fun _ => ?_) <;> conv => whnf) | (refine VIte.intro (fun _ => ?_) (fun _ => ?_) <;> conv => whnf))
    refine VCode.lp (fun j : Nat => [(5, .ptr (.loc 0) 0), (6, .fp (encN l)), (7, .fp (encX x)), (8, .ptr (.loc 1) 0), (9, .ptr (.loc 2) 0), (41, ints l.vs), (42, I l.vs.length), (43, I j)]) (fun j => [deckB os d2, .cells true [.nilslice, .gl (.loc 3) 1 j], .flat true [DI x.w, .nilslice], .flat true (((l.vs.map fun v => 1 - v).take j).flatMap encI)]) (fun j => j ≤ l.vs.length) (fun j => l.vs.length - j) 0 (Nat.zero_le _) ?_ ?_
    · conv => whnf
      refine Retell.turn ⟨[0,1,2,3], 3, [], []⟩ (TurnOk.mk' _ _ [] [] (OutOk.lift _) rfl (by decide) (by repeat' (first | exact BTos.nil | refine BTos.flat rfl rfl (by first | rfl | simp) ?_ | refine BTos.new rfl ?_ | refine BTos.dead rfl rfl ?_ | refine BTos.esE rfl rfl ?_ | refine BTos.row rfl rfl rfl (RowTo.snoc (RowTo.one rfl (by simp))) ?_ | refine BTos.cells rfl rfl rfl (by repeat' (first | exact VTo.undef | exact FrTo.leaf | refine FrTo.node ?_ ?_ ?_ | refine FrTo.none ?_ ?_ | exact VTo.sc (by first | rfl | (congr 1; omega) | (congr 1; simp; omega)) | exact VTos_dv _ _ | refine VTos.cons ?_ ?_ | exact VTos.nil | refine VTo.agg ?_ | refine VTo.tuple ?_ | refine VTo.func ?_ ?_ | exact VTo.fs | exact VTo.fp | exact VTo.nilptr | exact VTo.nilslice | exact VTo.nilfunc | exact VTo.ptr rfl | exact VTo.gl rfl | exact VTo.map rfl | exact VTo.yld rfl | exact VTo.fmMap rfl | exact VTo.fm | exact VTo.glNil' (by decide) rfl rfl | exact VTo.fsNil (by decide) | exact VTo.fsSl rfl rfl (by simp [flat_len encE_len]) | exact VTo.fpPtr rfl | exact VTo.fsGl rfl (by first | rfl | assumption | exact flat_len encI_len _ | exact flat_len encT_len _ | exact flat_len encS_len _ | exact flat_len encP_len _ | exact flat_len encL_len _ | exact flat_len encE_len _ | (simp [flat_len encP_len]; done) | simp [flat_len encI_len, flat_len encS_len]))) ?_)) trivial trivial rfl) (by repeat' (first | exact VTo.undef | exact FrTo.leaf | refine FrTo.node ?_ ?_ ?_ | refine FrTo.none ?_ ?_ | exact VTo.sc (by first | rfl | (congr 1; omega) | (congr 1; simp; omega)) | exact VTos_dv _ _ | refine VTos.cons ?_ ?_ | exact VTos.nil | refine VTo.agg ?_ | refine VTo.tuple ?_ | refine VTo.func ?_ ?_ | exact VTo.fs | exact VTo.fp | exact VTo.nilptr | exact VTo.nilslice | exact VTo.nilfunc | exact VTo.ptr rfl | exact VTo.gl rfl | exact VTo.map rfl | exact VTo.yld rfl | exact VTo.fmMap rfl | exact VTo.fm | exact VTo.glNil' (by decide) rfl rfl | exact VTo.fsNil (by decide) | exact VTo.fsSl rfl rfl (by simp [flat_len encE_len]) | exact VTo.fpPtr rfl | exact VTo.fsGl rfl (by first | rfl | assumption | exact flat_len encI_len _ | exact flat_len encT_len _ | exact flat_len encS_len _ | exact flat_len encP_len _ | exact flat_len encL_len _ | exact flat_len encE_len _ | (simp [flat_len encP_len]; done) | simp [flat_len encI_len, flat_len encS_len]))) (by first | rfl | (repeat' (first | exact MkTo.nil | refine MkTo.keep rfl ?_ | refine MkTo.drop (by decide) rfl ?_)))
    · intro j hj
      have hjl : ((l.vs.map fun v => 1 - v).take j).length = j := by rw [List.length_take, List.length_map]; omega
      conv => whnf
      refine VIte.dec (fun h3 => ?_) (fun h3 => ?_)
      · have hr : l.vs[j]? = some l.vs[j] := List.getElem?_eq_getElem (by omega)
        have br := hside _ (List.getElem_mem (by omega : j < l.vs.length))
        have htk : (l.vs.map fun v => 1 - v).take (j + 1) = (l.vs.map fun v => 1 - v).take j ++ [1 - l.vs[j]] := by
          rw [List.take_add_one, List.getElem?_map, hr]; rfl
        generalize l.vs[j] = r at hr br htk
        conv => whnf
        repeat' (first | (refine VLd.intro rfl ?_; conv => whnf) | (refine VArith.i64 (by first | omega | (dsimp only; omega)) ?_; conv => whnf) | (refine VNeed.intro (by first | rfl | assumption | (simp; omega) | (simp; done)) ?_; conv => whnf) | (refine VMem.store rfl rfl rfl rfl ?_; conv => whnf) | (refine VSame.intro (by (conv => lhs; whnf); (conv => rhs; whnf); try rfl) ?_; conv => whnf) | (refine VIte.dec (fun _ => ?_) (fun _ => ?_) <;> conv => whnf) | (refine VIte.ndec (fun _ => ?_) (fun _ => ?_) <;> conv => whnf) | (refine VIte.beq (fun _ => ?_) (fun _ => ?_) <;> conv => whnf) | (refine VIte.bne (fun _ => ?_) (fun _ => ?_) <;> conv => whnf) | (refine VIte.intro (fun _ => ?_) (fun _ => ?_) <;> conv => whnf) | (refine VAny.ix encI_len j rfl rfl hr ?_; conv => whnf))
        refine VMem.app1 (l := (l.vs.map fun v => 1 - v).take j) (1 - r) encI_len rfl rfl rfl hjl.symm rfl (by omega) ?_
        rw [← htk]
        conv => whnf
        repeat' (first | (refine VLd.intro rfl ?_; conv => whnf) | (refine VArith.i64 (by first | omega | (dsimp only; omega)) ?_; conv => whnf) | (refine VNeed.intro (by first | rfl | assumption | (simp; omega) | (simp; done)) ?_; conv => whnf) | (refine VMem.store rfl rfl rfl rfl ?_; conv => whnf) | (refine VSame.intro (by (conv => lhs; whnf); (conv => rhs; whnf); try rfl) ?_; conv => whnf) | (refine VIte.dec (fun _ => ?_) (fun _ => ?_) <;> conv => whnf) | (refine VIte.ndec (fun _ => ?_) (fun _ => ?_) <;> conv => whnf) | (refine VIte.beq (fun _ => ?_) (fun _ => ?_) <;> conv => whnf) | (refine VIte.bne (fun _ => ?_) (fun _ => ?_) <;> conv => whnf) | (refine VIte.intro (fun _ => ?_) (fun _ => ?_) <;> conv => whnf))
        refine LEnd.intro (j + 1) (by omega) (by omega) ?_
        conv => whnf
        refine Retell.turn ⟨[0,1,2,5], 6, [], []⟩ (TurnOk.mk' _ _ [] [] (OutOk.lift _) rfl (by decide) (by repeat' (first | exact BTos.nil | refine BTos.flat rfl rfl (by first | rfl | simp) ?_ | refine BTos.new rfl ?_ | refine BTos.dead rfl rfl ?_ | refine BTos.esE rfl rfl ?_ | refine BTos.row rfl rfl rfl (RowTo.snoc (RowTo.one rfl (by simp))) ?_ | refine BTos.cells rfl rfl rfl (by repeat' (first | exact VTo.undef | exact FrTo.leaf | refine FrTo.node ?_ ?_ ?_ | refine FrTo.none ?_ ?_ | exact VTo.sc (by first | rfl | (congr 1; omega) | (congr 1; simp; omega)) | exact VTos_dv _ _ | refine VTos.cons ?_ ?_ | exact VTos.nil | refine VTo.agg ?_ | refine VTo.tuple ?_ | refine VTo.func ?_ ?_ | exact VTo.fs | exact VTo.fp | exact VTo.nilptr | exact VTo.nilslice | exact VTo.nilfunc | exact VTo.ptr rfl | exact VTo.gl rfl | exact VTo.map rfl | exact VTo.yld rfl | exact VTo.fmMap rfl | exact VTo.fm | exact VTo.glNil' (by decide) rfl rfl | exact VTo.fsNil (by decide) | exact VTo.fsSl rfl rfl (by simp [flat_len encE_len]) | exact VTo.fpPtr rfl | exact VTo.fsGl rfl (by first | rfl | assumption | exact flat_len encI_len _ | exact flat_len encT_len _ | exact flat_len encS_len _ | exact flat_len encP_len _ | exact flat_len encL_len _ | exact flat_len encE_len _ | (simp [flat_len encP_len]; done) | simp [flat_len encI_len, flat_len encS_len]))) ?_)) trivial trivial rfl) (by repeat' (first | exact VTo.undef | exact FrTo.leaf | refine FrTo.node ?_ ?_ ?_ | refine FrTo.none ?_ ?_ | exact VTo.sc (by first | rfl | (congr 1; omega) | (congr 1; simp; omega)) | exact VTos_dv _ _ | refine VTos.cons ?_ ?_ | exact VTos.nil | refine VTo.agg ?_ | refine VTo.tuple ?_ | refine VTo.func ?_ ?_ | exact VTo.fs | exact VTo.fp | exact VTo.nilptr | exact VTo.nilslice | exact VTo.nilfunc | exact VTo.ptr rfl | exact VTo.gl rfl | exact VTo.map rfl | exact VTo.yld rfl | exact VTo.fmMap rfl | exact VTo.fm | exact VTo.glNil' (by decide) rfl rfl | exact VTo.fsNil (by decide) | exact VTo.fsSl rfl rfl (by simp [flat_len encE_len]) | exact VTo.fpPtr rfl | exact VTo.fsGl rfl (by first | rfl | assumption | exact flat_len encI_len _ | exact flat_len encT_len _ | exact flat_len encS_len _ | exact flat_len encP_len _ | exact flat_len encL_len _ | exact flat_len encE_len _ | (simp [flat_len encP_len]; done) | simp [flat_len encI_len, flat_len encS_len]))) (by first | rfl | (repeat' (first | exact MkTo.nil | refine MkTo.keep rfl ?_ | refine MkTo.drop (by decide) rfl ?_)))
      · have hjn : j = l.vs.length := by omega
        subst hjn
        rw [show (l.vs.map fun v => 1 - v).take l.vs.length = l.vs.map fun v => 1 - v by rw [List.take_of_length_le (by simp)]]
        conv => whnf
        repeat' (first | (refine VLd.intro rfl ?_; conv => whnf) | (refine VArith.i64 (by first | omega | (dsimp only; omega)) ?_; conv => whnf) | (refine VNeed.intro (by first | rfl | assumption | (simp; omega) | (simp; done)) ?_; conv => whnf) | (refine VMem.store rfl rfl rfl rfl ?_; conv => whnf) | (refine VSame.intro (by (conv => lhs; whnf); (conv => rhs; whnf); try rfl) ?_; conv => whnf) | (refine VIte.dec (fun _ => ?_) (fun _ => ?_) <;> conv => whnf) | (refine VIte.ndec (fun _ => ?_) (fun _ => ?_) <;> conv => whnf) | (refine VIte.beq (fun _ => ?_) (fun _ => ?_) <;> conv => whnf) | (refine VIte.bne (fun _ => ?_) (fun _ => ?_) <;> conv => whnf) | (refine VIte.intro (fun _ => ?_) (fun _ => ?_) <;> conv => whnf) | (refine VCall.intro (g30 _ _ rfl) ?_; conv => whnf))
        refine VCode.lp (fun j : Nat => [(6, .fp (encN l)), (7, .fp (encX x)), (8, .ptr (.loc 0) 0), (9, .ptr (.loc 1) 0), (59, ints σ), (60, I σ.length), (61, I j)]) (fun j => [.cells true [.gl (.loc 2) 4 j, .fs 1 l.vs.length ((l.vs.map fun v => 1 - v).flatMap encI)], .cells true [I x.w, .gl (.loc 3) 1 j], .flat true (((σ.map fun i => flS (sAt l i.toNat)).take j).flatMap encT), .flat true (((σ.map fun i => x.w - pAt x i.toNat).take j).flatMap encI)]) (fun j => j ≤ σ.length) (fun j => σ.length - j) 0 (Nat.zero_le _) ?_ ?_
        · conv => whnf
          refine Retell.turn ⟨[1,2,4,5], 4, [(3, (l.vs.map fun v => 1 - v).flatMap encI)], []⟩ (TurnOk.mk' _ _ [(3, (l.vs.map fun v => 1 - v).flatMap encI)] [] (OutOk.lift _) rfl (by decide) (by repeat' (first | exact BTos.nil | refine BTos.flat rfl rfl (by first | rfl | simp) ?_ | refine BTos.new rfl ?_ | refine BTos.dead rfl rfl ?_ | refine BTos.esE rfl rfl ?_ | refine BTos.row rfl rfl rfl (RowTo.snoc (RowTo.one rfl (by simp))) ?_ | refine BTos.cells rfl rfl rfl (by repeat' (first | exact VTo.undef | exact FrTo.leaf | refine FrTo.node ?_ ?_ ?_ | refine FrTo.none ?_ ?_ | exact VTo.sc (by first | rfl | (congr 1; omega) | (congr 1; simp; omega)) | exact VTos_dv _ _ | refine VTos.cons ?_ ?_ | exact VTos.nil | refine VTo.agg ?_ | refine VTo.tuple ?_ | refine VTo.func ?_ ?_ | exact VTo.fs | exact VTo.fp | exact VTo.nilptr | exact VTo.nilslice | exact VTo.nilfunc | exact VTo.ptr rfl | exact VTo.gl rfl | exact VTo.map rfl | exact VTo.yld rfl | exact VTo.fmMap rfl | exact VTo.fm | exact VTo.glNil' (by decide) rfl rfl | exact VTo.fsNil (by decide) | exact VTo.fsSl rfl rfl (by simp [flat_len encE_len]) | exact VTo.fpPtr rfl | exact VTo.fsGl rfl (by first | rfl | assumption | exact flat_len encI_len _ | exact flat_len encT_len _ | exact flat_len encS_len _ | exact flat_len encP_len _ | exact flat_len encL_len _ | exact flat_len encE_len _ | (simp [flat_len encP_len]; done) | simp [flat_len encI_len, flat_len encS_len]))) ?_)) (by repeat' (first | exact FzAll.nil | refine FzAll.flat rfl ?_ | refine FzAll.row rfl rfl (RowTo.one rfl (by simp)) ?_)) trivial rfl) (by repeat' (first | exact VTo.undef | exact FrTo.leaf | refine FrTo.node ?_ ?_ ?_ | refine FrTo.none ?_ ?_ | exact VTo.sc (by first | rfl | (congr 1; omega) | (congr 1; simp; omega)) | exact VTos_dv _ _ | refine VTos.cons ?_ ?_ | exact VTos.nil | refine VTo.agg ?_ | refine VTo.tuple ?_ | refine VTo.func ?_ ?_ | exact VTo.fs | exact VTo.fp | exact VTo.nilptr | exact VTo.nilslice | exact VTo.nilfunc | exact VTo.ptr rfl | exact VTo.gl rfl | exact VTo.map rfl | exact VTo.yld rfl | exact VTo.fmMap rfl | exact VTo.fm | exact VTo.glNil' (by decide) rfl rfl | exact VTo.fsNil (by decide) | exact VTo.fsSl rfl rfl (by simp [flat_len encE_len]) | exact VTo.fpPtr rfl | exact VTo.fsGl rfl (by first | rfl | assumption | exact flat_len encI_len _ | exact flat_len encT_len _ | exact flat_len encS_len _ | exact flat_len encP_len _ | exact flat_len encL_len _ | exact flat_len encE_len _ | (simp [flat_len encP_len]; done) | simp [flat_len encI_len, flat_len encS_len]))) (by first | rfl | (repeat' (first | exact MkTo.nil | refine MkTo.keep rfl ?_ | refine MkTo.drop (by decide) rfl ?_)))
        · intro j hj
          have hjl : ((σ.map fun i => flS (sAt l i.toNat)).take j).length = j := by rw [List.length_take, List.length_map]; omega
          have hjl2 : ((σ.map fun i => x.w - pAt x i.toNat).take j).length = j := by rw [List.length_take, List.length_map]; omega
          conv => whnf
          refine VIte.dec (fun h3 => ?_) (fun h3 => ?_)
          · have hv : σ[j]? = some σ[j] := List.getElem?_eq_getElem (by omega)
            obtain ⟨i, hi, hvi⟩ := P.mem.1 (List.getElem_mem (by omega : j < σ.length))
            have htk : (σ.map fun i => flS (sAt l i.toNat)).take (j + 1) = (σ.map fun i => flS (sAt l i.toNat)).take j ++ [flS (sAt l i)] := by
              rw [List.take_add_one, List.getElem?_map, hv, hvi]; rfl
            have htk2 : (σ.map fun i => x.w - pAt x i.toNat).take (j + 1) = (σ.map fun i => x.w - pAt x i.toNat).take j ++ [x.w - pAt x i] := by
              rw [List.take_add_one, List.getElem?_map, hv, hvi]; rfl
            rw [hvi] at hv
            have hs : l.ss[i]? = some l.ss[i] := List.getElem?_eq_getElem hi
            have hp : x.ps[i]? = some (x.ps[i]'(by omega)) := List.getElem?_eq_getElem _
            have os := hsok i hi
            have bp := hpok i hi
            rw [sAt_eq hs] at htk os
            rw [pAt_eq hp] at htk2 bp
            generalize l.ss[i] = s at hs htk os
            generalize x.ps[i]'(by omega) = p at hp htk2 bp
            have how := os.ow
            conv => whnf
            repeat' (first | (refine VLd.intro rfl ?_; conv => whnf) | (refine VArith.i64 (by first | omega | (dsimp only; omega)) ?_; conv => whnf) | (refine VNeed.intro (by first | rfl | assumption | (simp; omega) | (simp; done)) ?_; conv => whnf) | (refine VMem.store rfl rfl rfl rfl ?_; conv => whnf) | (refine VSame.intro (by (conv => lhs; whnf); (conv => rhs; whnf); try rfl) ?_; conv => whnf) | (refine VIte.dec (fun _ => ?_) (fun _ => ?_) <;> conv => whnf) | (refine VIte.ndec (fun _ => ?_) (fun _ => ?_) <;> conv => whnf) | (refine VIte.beq (fun _ => ?_) (fun _ => ?_) <;> conv => whnf) | (refine VIte.bne (fun _ => ?_) (fun _ => ?_) <;> conv => whnf) | (refine VIte.intro (fun _ => ?_) (fun _ => ?_) <;> conv => whnf) | (refine VAny.ix encI_len j rfl rfl hv ?_; conv => whnf) | (refine VAny.ix encT_len i rfl rfl hs ?_; conv => whnf))
            refine VMem.app1 (l := (σ.map fun i => flS (sAt l i.toNat)).take j) (flS s) encT_len rfl rfl rfl hjl.symm rfl (by omega) ?_
            rw [← htk]
            conv => whnf
            repeat' (first | (refine VLd.intro rfl ?_; conv => whnf) | (refine VArith.i64 (by first | omega | (dsimp only; omega)) ?_; conv => whnf) | (refine VNeed.intro (by first | rfl | assumption | (simp; omega) | (simp; done)) ?_; conv => whnf) | (refine VMem.store rfl rfl rfl rfl ?_; conv => whnf) | (refine VSame.intro (by (conv => lhs; whnf); (conv => rhs; whnf); try rfl) ?_; conv => whnf) | (refine VIte.dec (fun _ => ?_) (fun _ => ?_) <;> conv => whnf) | (refine VIte.ndec (fun _ => ?_) (fun _ => ?_) <;> conv => whnf) | (refine VIte.beq (fun _ => ?_) (fun _ => ?_) <;> conv => whnf) | (refine VIte.bne (fun _ => ?_) (fun _ => ?_) <;> conv => whnf) | (refine VIte.intro (fun _ => ?_) (fun _ => ?_) <;> conv => whnf))
            refine VDraw.go [] (by kernel_rfl) (by kernel_rfl) ?_
            conv => whnf
            repeat' (first | (refine VLd.intro rfl ?_; conv => whnf) | (refine VArith.i64 (by first | omega | (dsimp only; omega)) ?_; conv => whnf) | (refine VNeed.intro (by first | rfl | assumption | (simp; omega) | (simp; done)) ?_; conv => whnf) | (refine VMem.store rfl rfl rfl rfl ?_; conv => whnf) | (refine VSame.intro (by (conv => lhs; whnf); (conv => rhs; whnf); try rfl) ?_; conv => whnf) | (refine VIte.dec (fun _ => ?_) (fun _ => ?_) <;> conv => whnf) | (refine VIte.ndec (fun _ => ?_) (fun _ => ?_) <;> conv => whnf) | (refine VIte.beq (fun _ => ?_) (fun _ => ?_) <;> conv => whnf) | (refine VIte.bne (fun _ => ?_) (fun _ => ?_) <;> conv => whnf) | (refine VIte.intro (fun _ => ?_) (fun _ => ?_) <;> conv => whnf) | (refine VAny.ix encI_len i rfl rfl hp ?_; conv => whnf))
            refine VMem.app1 (l := (σ.map fun i => x.w - pAt x i.toNat).take j) (x.w - p) encI_len rfl rfl rfl hjl2.symm rfl (by omega) ?_
            rw [← htk2]
            conv => whnf
            repeat' (first | (refine VLd.intro rfl ?_; conv => whnf) | (refine VArith.i64 (by first | omega | (dsimp only; omega)) ?_; conv => whnf) | (refine VNeed.intro (by first | rfl | assumption | (simp; omega) | (simp; done)) ?_; conv => whnf) | (refine VMem.store rfl rfl rfl rfl ?_; conv => whnf) | (refine VSame.intro (by (conv => lhs; whnf); (conv => rhs; whnf); try rfl) ?_; conv => whnf) | (refine VIte.dec (fun _ => ?_) (fun _ => ?_) <;> conv => whnf) | (refine VIte.ndec (fun _ => ?_) (fun _ => ?_) <;> conv => whnf) | (refine VIte.beq (fun _ => ?_) (fun _ => ?_) <;> conv => whnf) | (refine VIte.bne (fun _ => ?_) (fun _ => ?_) <;> conv => whnf) | (refine VIte.intro (fun _ => ?_) (fun _ => ?_) <;> conv => whnf))
            refine LEnd.intro (j + 1) (by omega) (by omega) ?_
            conv => whnf
            refine Retell.turn ⟨[0,1,6,8], 9, [], []⟩ (TurnOk.mk' _ _ [] [] (OutOk.lift _) rfl (by decide) (by repeat' (first | exact BTos.nil | refine BTos.flat rfl rfl (by first | rfl | simp) ?_ | refine BTos.new rfl ?_ | refine BTos.dead rfl rfl ?_ | refine BTos.esE rfl rfl ?_ | refine BTos.row rfl rfl rfl (RowTo.snoc (RowTo.one rfl (by simp))) ?_ | refine BTos.cells rfl rfl rfl (by repeat' (first | exact VTo.undef | exact FrTo.leaf | refine FrTo.node ?_ ?_ ?_ | refine FrTo.none ?_ ?_ | exact VTo.sc (by first | rfl | (congr 1; omega) | (congr 1; simp; omega)) | exact VTos_dv _ _ | refine VTos.cons ?_ ?_ | exact VTos.nil | refine VTo.agg ?_ | refine VTo.tuple ?_ | refine VTo.func ?_ ?_ | exact VTo.fs | exact VTo.fp | exact VTo.nilptr | exact VTo.nilslice | exact VTo.nilfunc | exact VTo.ptr rfl | exact VTo.gl rfl | exact VTo.map rfl | exact VTo.yld rfl | exact VTo.fmMap rfl | exact VTo.fm | exact VTo.glNil' (by decide) rfl rfl | exact VTo.fsNil (by decide) | exact VTo.fsSl rfl rfl (by simp [flat_len encE_len]) | exact VTo.fpPtr rfl | exact VTo.fsGl rfl (by first | rfl | assumption | exact flat_len encI_len _ | exact flat_len encT_len _ | exact flat_len encS_len _ | exact flat_len encP_len _ | exact flat_len encL_len _ | exact flat_len encE_len _ | (simp [flat_len encP_len]; done) | simp [flat_len encI_len, flat_len encS_len]))) ?_)) trivial trivial rfl) (by repeat' (first | exact VTo.undef | exact FrTo.leaf | refine FrTo.node ?_ ?_ ?_ | refine FrTo.none ?_ ?_ | exact VTo.sc (by first | rfl | (congr 1; omega) | (congr 1; simp; omega)) | exact VTos_dv _ _ | refine VTos.cons ?_ ?_ | exact VTos.nil | refine VTo.agg ?_ | refine VTo.tuple ?_ | refine VTo.func ?_ ?_ | exact VTo.fs | exact VTo.fp | exact VTo.nilptr | exact VTo.nilslice | exact VTo.nilfunc | exact VTo.ptr rfl | exact VTo.gl rfl | exact VTo.map rfl | exact VTo.yld rfl | exact VTo.fmMap rfl | exact VTo.fm | exact VTo.glNil' (by decide) rfl rfl | exact VTo.fsNil (by decide) | exact VTo.fsSl rfl rfl (by simp [flat_len encE_len]) | exact VTo.fpPtr rfl | exact VTo.fsGl rfl (by first | rfl | assumption | exact flat_len encI_len _ | exact flat_len encT_len _ | exact flat_len encS_len _ | exact flat_len encP_len _ | exact flat_len encL_len _ | exact flat_len encE_len _ | (simp [flat_len encP_len]; done) | simp [flat_len encI_len, flat_len encS_len]))) (by first | rfl | (repeat' (first | exact MkTo.nil | refine MkTo.keep rfl ?_ | refine MkTo.drop (by decide) rfl ?_)))
          · have hjn : j = σ.length := by omega
            subst hjn
            rw [show (σ.map fun i => flS (sAt l i.toNat)).take σ.length = σ.map fun i => flS (sAt l i.toNat) by rw [List.take_of_length_le (by simp)], show (σ.map fun i => x.w - pAt x i.toNat).take σ.length = σ.map fun i => x.w - pAt x i.toNat by rw [List.take_of_length_le (by simp)]]
            conv => whnf
            repeat' (first | (refine VLd.intro rfl ?_; conv => whnf) | (refine VArith.i64 (by first | omega | (dsimp only; omega)) ?_; conv => whnf) | (refine VNeed.intro (by first | rfl | assumption | (simp; omega) | (simp; done)) ?_; conv => whnf) | (refine VMem.store rfl rfl rfl rfl ?_; conv => whnf) | (refine VSame.intro (by (conv => lhs; whnf); (conv => rhs; whnf); try rfl) ?_; conv => whnf) | (refine VIte.dec (fun _ => ?_) (fun _ => ?_) <;> conv => whnf) | (refine VIte.ndec (fun _ => ?_) (fun _ => ?_) <;> conv => whnf) | (refine VIte.beq (fun _ => ?_) (fun _ => ?_) <;> conv => whnf) | (refine VIte.bne (fun _ => ?_) (fun _ => ?_) <;> conv => whnf) | (refine VIte.intro (fun _ => ?_) (fun _ => ?_) <;> conv => whnf))
            refine VCut.at' 99 [(6, .fp (encN l)), (7, .fp (encX x)), (8, .fp [.sl 4 σ.length ((σ.map fun i => flS (sAt l i.toNat)).flatMap encT), .sl 1 l.vs.length ((l.vs.map fun v => 1 - v).flatMap encI)]), (9, .fp [DI x.w, .sl 1 σ.length ((σ.map fun i => x.w - pAt x i.toNat).flatMap encI)])] [] ?_ ?_
            · conv => whnf
              refine Retell.turn ⟨[], 4, [(2, (σ.map fun i => flS (sAt l i.toNat)).flatMap encT), (3, (σ.map fun i => x.w - pAt x i.toNat).flatMap encI), (0, [.sl 4 σ.length ((σ.map fun i => flS (sAt l i.toNat)).flatMap encT), .sl 1 l.vs.length ((l.vs.map fun v => 1 - v).flatMap encI)]), (1, [DI x.w, .sl 1 σ.length ((σ.map fun i => x.w - pAt x i.toNat).flatMap encI)])], []⟩ (TurnOk.mk' _ _ [(2, (σ.map fun i => flS (sAt l i.toNat)).flatMap encT), (3, (σ.map fun i => x.w - pAt x i.toNat).flatMap encI), (0, [.sl 4 σ.length ((σ.map fun i => flS (sAt l i.toNat)).flatMap encT), .sl 1 l.vs.length ((l.vs.map fun v => 1 - v).flatMap encI)]), (1, [DI x.w, .sl 1 σ.length ((σ.map fun i => x.w - pAt x i.toNat).flatMap encI)])] [] (OutOk.lift _) rfl (by decide) (by repeat' (first | exact BTos.nil | refine BTos.flat rfl rfl (by first | rfl | simp) ?_ | refine BTos.new rfl ?_ | refine BTos.dead rfl rfl ?_ | refine BTos.esE rfl rfl ?_ | refine BTos.row rfl rfl rfl (RowTo.snoc (RowTo.one rfl (by simp))) ?_ | refine BTos.cells rfl rfl rfl (by repeat' (first | exact VTo.undef | exact FrTo.leaf | refine FrTo.node ?_ ?_ ?_ | refine FrTo.none ?_ ?_ | exact VTo.sc (by first | rfl | (congr 1; omega) | (congr 1; simp; omega)) | exact VTos_dv _ _ | refine VTos.cons ?_ ?_ | exact VTos.nil | refine VTo.agg ?_ | refine VTo.tuple ?_ | refine VTo.func ?_ ?_ | exact VTo.fs | exact VTo.fp | exact VTo.nilptr | exact VTo.nilslice | exact VTo.nilfunc | exact VTo.ptr rfl | exact VTo.gl rfl | exact VTo.map rfl | exact VTo.yld rfl | exact VTo.fmMap rfl | exact VTo.fm | exact VTo.glNil' (by decide) rfl rfl | exact VTo.fsNil (by decide) | exact VTo.fsSl rfl rfl (by simp [flat_len encE_len]) | exact VTo.fpPtr rfl | exact VTo.fsGl rfl (by first | rfl | assumption | exact flat_len encI_len _ | exact flat_len encT_len _ | exact flat_len encS_len _ | exact flat_len encP_len _ | exact flat_len encL_len _ | exact flat_len encE_len _ | (simp [flat_len encP_len]; done) | simp [flat_len encI_len, flat_len encS_len]))) ?_)) (by repeat' (first | exact FzAll.nil | refine FzAll.flat rfl ?_ | refine FzAll.row rfl rfl (RowTo.one rfl (by simp)) ?_ | refine FzAll.row rfl rfl (RowTo.vtos (by repeat' (first | exact VTo.undef | exact FrTo.leaf | refine FrTo.node ?_ ?_ ?_ | refine FrTo.none ?_ ?_ | exact VTo.sc (by first | rfl | (congr 1; omega) | (congr 1; simp; omega)) | exact VTos_dv _ _ | refine VTos.cons ?_ ?_ | exact VTos.nil | refine VTo.agg ?_ | refine VTo.tuple ?_ | refine VTo.func ?_ ?_ | exact VTo.fs | exact VTo.fp | exact VTo.nilptr | exact VTo.nilslice | exact VTo.nilfunc | exact VTo.ptr rfl | exact VTo.gl rfl | exact VTo.map rfl | exact VTo.yld rfl | exact VTo.fmMap rfl | exact VTo.fm | exact VTo.glNil' (by decide) rfl rfl | exact VTo.fsNil (by decide) | exact VTo.fsSl rfl rfl (by simp [flat_len encE_len]) | exact VTo.fpPtr rfl | exact VTo.fsGl rfl (by first | rfl | assumption | exact flat_len encI_len _ | exact flat_len encT_len _ | exact flat_len encS_len _ | exact flat_len encP_len _ | exact flat_len encL_len _ | exact flat_len encE_len _ | (simp [flat_len encP_len]; done) | simp [flat_len encI_len, flat_len encS_len])))) ?_)) trivial rfl) (by repeat' (first | exact VTo.undef | exact FrTo.leaf | refine FrTo.node ?_ ?_ ?_ | refine FrTo.none ?_ ?_ | exact VTo.sc (by first | rfl | (congr 1; omega) | (congr 1; simp; omega)) | exact VTos_dv _ _ | refine VTos.cons ?_ ?_ | exact VTos.nil | refine VTo.agg ?_ | refine VTo.tuple ?_ | refine VTo.func ?_ ?_ | exact VTo.fs | exact VTo.fp | exact VTo.nilptr | exact VTo.nilslice | exact VTo.nilfunc | exact VTo.ptr rfl | exact VTo.gl rfl | exact VTo.map rfl | exact VTo.yld rfl | exact VTo.fmMap rfl | exact VTo.fm | exact VTo.glNil' (by decide) rfl rfl | exact VTo.fsNil (by decide) | exact VTo.fsSl rfl rfl (by simp [flat_len encE_len]) | exact VTo.fpPtr rfl | exact VTo.fsGl rfl (by first | rfl | assumption | exact flat_len encI_len _ | exact flat_len encT_len _ | exact flat_len encS_len _ | exact flat_len encP_len _ | exact flat_len encL_len _ | exact flat_len encE_len _ | (simp [flat_len encP_len]; done) | simp [flat_len encI_len, flat_len encS_len]))) (by first | rfl | (repeat' (first | exact MkTo.nil | refine MkTo.keep rfl ?_ | refine MkTo.drop (by decide) rfl ?_)))
            · conv => whnf
              repeat' (first | (refine VLd.intro rfl ?_; conv => whnf) | (refine VArith.i64 (by first | omega | (dsimp only; omega)) ?_; conv => whnf) | (refine VNeed.intro (by first | rfl | assumption | (simp; omega) | (simp; done)) ?_; conv => whnf) | (refine VMem.store rfl rfl rfl rfl ?_; conv => whnf) | (refine VSame.intro (by (conv => lhs; whnf); (conv => rhs; whnf); try rfl) ?_; conv => whnf) | (refine VDraw.go [] (by kernel_rfl) (by kernel_rfl) ?_; conv => whnf) | (refine VIte.dec (fun _ => ?_) (fun _ => ?_) <;> conv => whnf) | (refine VIte.ndec (fun _ => ?_) (fun _ => ?_) <;> conv => whnf) | (refine VIte.beq (fun _ => ?_) (fun _ => ?_) <;> conv => whnf) | (refine VIte.bne (fun _ => ?_) (fun _ => ?_) <;> conv => whnf) | (refine VIte.intro (fun _ => ?_) (fun _ => ?_) <;> conv => whnf) | (refine VCall.intro (c31 _) ?_; conv => whnf) | (refine VCall.intro (c31t _) ?_; conv => whnf) | (refine VCall.intro (c29 _) ?_; conv => whnf) | (refine VCall.intro (c29t _) ?_; conv => whnf) | (refine VCall.intro (c21 _) ?_; conv => whnf) | (refine VCall.intro (c21t _) ?_; conv => whnf) | (refine VCall.intro (c26 _) ?_; conv => whnf) | (refine VCall.intro (c26t _) ?_; conv => whnf) | (refine VCall.intro (vc_awake _) ?_; conv => whnf))
              all_goals try (first | exact VOut.same rfl | (rename_i hz; exact absurd rfl hz) | (exfalso; omega))
end Go.Proofs.Ytmpjpjfkbmlmfaa

open Go.Vm
namespace Go.Proofs.Ytmpjpjfkbmlmfaa
open Go.ChangeShapes Go.WideShapes Go.ChangeAt Go.RowKit

theorem open6p : OpenAll Try.prog Try.f6.params.toList (fun x : List Int × List Int × Unit => [dU x.1, dU x.2.1]) := by
  rw [Try.params6]
  exact OpenAll.cons openU (OpenAll.cons openU (OpenAll.nil))
set_option maxRecDepth 100000 in
theorem contract6 (H : Type) (enc : TypeId × Value → H) (W : World) (base : Nat) (args : Array Value) (ds gs : List (DataW H)) (before : List MemPlace)
    (hval : ∀ (j : Nat) t v, Try.f6.params[j]? = some t → args[j]? = some v → Value.okWide Try.prog W .any base t v)
    (hW : DataW.Whole enc Try.prog Try.f6.params.toList Rows.barterTurnedSpec.vars false W args.toList ds gs before) :
    Calls Try.prog 6 args W fun e W' => ∃ v, e = .returned v ∧ Rows.barterTurnedSpec.post enc Try.prog Try.f6 false true false false W args v W' := by
  refine contract_of_vc open6p (fun g => vc_BarterTurned g.1 g.2.1 Hp.bare) laidOut ?_ (tb := 4) (by kernel_rfl) Try.underlying4 rfl ?_ hval hW
  · rw [Try.params6]
    intro t ht
    simp only [List.mem_cons, List.not_mem_nil, or_false] at ht
    rcases ht with rfl | rfl
    all_goals exact ⟨by kernel_rfl, of_decide_eq_true (by kernel_rfl)⟩
  · intro H dd hl
    rw [Try.params6] at hl
    match dd, hl with
    | [d0, d1], _ => rfl
set_option maxRecDepth 100000 in
theorem lifted6 (os : Os) (started : os.Started) (H : Type) (enc : TypeId × Value → H) :
    ReturnsInHanded {} Try.checked os 6 .any (Rows.barterTurnedSpec.pre6 enc Try.prog Try.f6 Rows.barterTurnedRow.domain false) (Rows.barterTurnedSpec.post enc Try.prog Try.f6 false true false false) := by
  refine returnsInHanded_of_change (C := Try.checked) ownKn started (by kernel_rfl) Try.func6
    (ChangeSpec.witness6 (enc := enc) (C := Try.checked) false ⟨#[], #[.slice none 0 0, .slice none 0 0], []⟩ 8 (by kernel_rfl) (by kernel_rfl) (by kernel_rfl) (by kernel_rfl)) ?_
  intro W base args ds gs before hval hW _ _
  exact contract6 H enc W base args ds gs before hval hW
theorem barterTurned_said : Rows.BarterTurnedSaid :=
  OpenClaim.holds_of_wide 6 Try.f6 rfl rfl rfl rfl rfl rfl rfl ⟨rfl, rfl, rfl, rfl, rfl⟩ rfl rfl rfl rfl rfl (by kernel_rfl) Try.func6 (by kernel_rfl)
    (of_decide_eq_true (by kernel_rfl)) (by unfold Func.isWrapper; first | (rw [if_pos (by decide +kernel)]; kernel_rfl) | (rw [if_neg (by decide +kernel)]; exact ⟨rfl, rfl⟩))
    (fun os started H enc _ => lifted6 os started H enc)
end Go.Proofs.Ytmpjpjfkbmlmfaa

