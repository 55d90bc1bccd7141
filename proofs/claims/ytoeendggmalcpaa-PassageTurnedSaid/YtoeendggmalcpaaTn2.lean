/- Part 2 of the proof that PassageTurned holds: heads that go the other way are as many, other numbers and joined pastures change nothing. No condition. -/
import Derived.Test.YtoeendggmalcpaaTn1
set_option linter.unusedVariables false
set_option linter.unusedSimpArgs false
open Go.Vm
open Psg
namespace Psg
theorem Mn.names {n : Nat} {ws vs : List Wy} {a b A B : List Int} {v : Int} {u w : Int → Int} (h : Mn ws a b v) (hN : InN n ws) (hp : vs.Perm (ws.map (Wy.nam u))) (hA : ∀ x, x ∈ A ↔ ∃ p ∈ a, u p = x) (hB : ∀ x, x ∈ B ↔ ∃ p ∈ b, u p = x) (ha : ∀ p ∈ a, 0 ≤ p ∧ p < n) (hb : ∀ p ∈ b, 0 ≤ p ∧ p < n) (hw : ∀ q, 0 ≤ q → q < (n : Int) → w (u q) = q) : Mn vs A B v := by
  obtain ⟨S, h1, h2⟩ := h.ex
  constructor
  · refine ⟨fun x => S (w x), ⟨fun x hx => ?_, fun x hx => ?_⟩, ?_⟩
    · obtain ⟨p, hp, rfl⟩ := (hA x).1 hx
      show S (w (u p)) = true
      rw [hw p (ha p hp).1 (ha p hp).2]; exact h1.src p hp
    · obtain ⟨p, hp, rfl⟩ := (hB x).1 hx
      show S (w (u p)) = false
      rw [hw p (hb p hp).1 (hb p hp).2]; exact h1.gls p hp
    · rw [bar_perm _ hp, bar_nam, ← h2]
      exact bar_congr (n := n) (fun q h0 h1 => by show S (w (u q)) = S q; rw [hw q h0 h1]) ws hN
  · intro T hT
    have := h.le (fun q => T (u q)) ⟨fun p hp => hT.src _ ((hA _).2 ⟨p, hp, rfl⟩), fun p hp => hT.gls _ ((hB _).2 ⟨p, hp, rfl⟩)⟩
    rw [bar_perm _ hp, bar_nam]; exact this
theorem bar_small (S : Int → Bool) : ∀ ws : List Wy, (∀ w ∈ ws, 0 ≤ w.h ∧ w.h ≤ 19) → bar S ws ≤ 19 * ws.length
  | [], _ => Int.le_refl _
  | w :: ws, h => by
    have ih := bar_small S ws fun v hv => h v (List.mem_cons_of_mem _ hv)
    have := h w List.mem_cons_self
    simp only [bar, List.length_cons]
    cases S w.f && !S w.t <;> simp [one] <;> omega
end Psg
namespace Go.Proofs.Ytoeendggmalcpaa
set_option maxRecDepth 20000
set_option maxHeartbeats 4000000
structure SmR (n : Nat) (N : Nt) (a b : List Int) (m : Nat) (W : Nt) (A B : List Int) : Prop where
  ok : NOk m W
  pas : pas W A B = 0
  same : (dvP W A B).2.1 = (dvP N a b).2.1
theorem back_ok {n : Nat} {N : Nt} {a b : List Int} (hN : NOk n N) (hP : Ps n N.ws a b) (h0 : pas N a b = 0) : SmR n N a b n ⟨N.p, N.ws.map Wy.back⟩ b a := by
  obtain ⟨_, _, _, q3, q4, q5, q6⟩ := pas_ok h0
  have hW : NOk n ⟨N.p, N.ws.map Wy.back⟩ := by
    refine ⟨hN.p, hN.n1, by dsimp only; rw [List.length_map]; exact hN.len, fun w hw => ?_, fun w hw => ?_⟩
    · obtain ⟨v, hv, rfl⟩ := List.mem_map.1 hw
      have := hN.ws v hv
      exact ⟨this.t, this.f, this.d, this.h, this.n, this.g, this.lo, this.hi⟩
    · obtain ⟨v, hv, rfl⟩ := List.mem_map.1 hw
      exact fun e => hN.ne v hv e.symm
  have hp := pas_of hW hP.gin (fun x hx => hP.smt.inN x hx) q4 q3 q6 q5 (fun x hx hy => hP.dis x hy hx)
  have hP2 : Ps n (N.ws.map Wy.back) b a := by
    obtain ⟨n2, hN2, h2, _⟩ := pas_ok hp
    have e1 := hN2.p
    have e2 := hN.p
    have : n2 = n := by dsimp only at e1; omega
    subst this; exact h2
  exact ⟨hW, hp, ((dvP_ok hW hP2).mn hP2).uniq (((dvP_ok hN hP).mn hP).back)⟩
def nmU (name : List Int) (q : Int) : Int := name.getD q.toNat 0
def nmV (name : List Int) (x : Int) : Int := (name.idxOf x : Nat)
structure NmI (n : Nat) (name : List Int) : Prop where
  inv : ∀ q, 0 ≤ q → q < (n : Int) → nmV name (nmU name q) = q
  up : ∀ q, 0 ≤ q → q < (n : Int) → 0 ≤ nmU name q ∧ nmU name q < n
theorem nm_ok {n : Nat} {name : List Int} (h : Prm n name) : NmI n name := by
  have hl := h.len
  refine ⟨fun q h0 h1 => ?_, fun q h0 h1 => ?_⟩
  · unfold nmV nmU
    rw [List.getD_eq_getElem?_getD, List.getElem?_eq_getElem (by omega)]
    show ((name.idxOf (name[q.toNat]'(by omega)) : Nat) : Int) = q
    rw [h.nd.idxOf_getElem]
    omega
  · unfold nmU
    rw [List.getD_eq_getElem?_getD, List.getElem?_eq_getElem (by omega)]
    obtain ⟨j, hj, e⟩ := h.mem.1 (List.getElem_mem (l := name) (n := q.toNat) (by omega))
    show 0 ≤ name[q.toNat]'(by omega) ∧ name[q.toNat]'(by omega) < _
    rw [e]; omega
def nmW (N : Nt) (name idx : List Int) : List Wy := idx.map fun i => (N.ws.getD i.toNat wy0).nam (nmU name)
theorem nmW_perm {N : Nt} {name idx : List Int} (h : Prm N.ws.length idx) : (nmW N name idx).Perm (N.ws.map (Wy.nam (nmU name))) := by
  have h1 := h.perm.map fun i => (N.ws.getD i.toNat wy0).nam (nmU name)
  have e : ((List.range N.ws.length).map fun i : Nat => (i : Int)).map (fun i => (N.ws.getD i.toNat wy0).nam (nmU name)) = N.ws.map (Wy.nam (nmU name)) := by
    apply List.ext_getElem
    · simp
    · intro i h1 h2
      simp only [List.length_map] at h2
      simp [List.getD_eq_getElem?_getD, List.getElem?_eq_getElem h2]
  rw [e] at h1
  exact h1
theorem nam_back {n : Nat} {name : List Int} {w : Wy} (h : NmI n name) (hw : WOk n w) : (w.nam (nmU name)).nam (nmV name) = w := by
  have h1 := h.inv w.f hw.f.1 hw.f.2
  have h2 := h.inv w.t hw.t.1 hw.t.2
  cases w
  unfold Wy.nam
  dsimp only at h1 h2 ⊢
  rw [h1, h2]
theorem named_ok {n : Nat} {N : Nt} {a b name idx : List Int} (hN : NOk n N) (hP : Ps n N.ws a b) (h0 : pas N a b = 0) (hn : Prm n name) (hi : Prm N.ws.length idx) : SmR n N a b n ⟨N.p, nmW N name idx⟩ (srt (a.map (nmU name))) (srt (b.map (nmU name))) := by
  obtain ⟨_, _, _, q3, q4, q5, q6⟩ := pas_ok h0
  have hI := nm_ok hn
  have hperm := nmW_perm (name := name) hi
  have hmem : ∀ w ∈ nmW N name idx, ∃ v ∈ N.ws, v.nam (nmU name) = w := fun w hw => List.mem_map.1 (hperm.mem_iff.1 hw)
  have hinj : ∀ p q : Int, (0 ≤ p ∧ p < n) → (0 ≤ q ∧ q < n) → nmU name p = nmU name q → p = q := fun p q hp hq e => by
    have := hI.inv p hp.1 hp.2
    rw [e, hI.inv q hq.1 hq.2] at this
    exact this.symm
  have hW : NOk n ⟨N.p, nmW N name idx⟩ := by
    refine ⟨hN.p, hN.n1, by dsimp only; rw [hperm.length_eq, List.length_map]; exact hN.len, fun w hw => ?_, fun w hw => ?_⟩
    · obtain ⟨v, hv, rfl⟩ := hmem w hw
      have := hN.ws v hv
      exact ⟨hI.up _ this.f.1 this.f.2, hI.up _ this.t.1 this.t.2, this.d, this.h, this.n, this.g, this.lo, this.hi⟩
    · obtain ⟨v, hv, rfl⟩ := hmem w hw
      have := hN.ws v hv
      exact fun e => hN.ne v hv (hinj _ _ this.f this.t e)
  have hA : ∀ x, x ∈ srt (a.map (nmU name)) ↔ ∃ p ∈ a, nmU name p = x := fun x => by rw [mem_srt, List.mem_map]
  have hB : ∀ x, x ∈ srt (b.map (nmU name)) ↔ ∃ p ∈ b, nmU name p = x := fun x => by rw [mem_srt, List.mem_map]
  have hnd : ∀ l : List Int, l.Nodup → (∀ x ∈ l, 0 ≤ x ∧ x < n) → (l.map (nmU name)).Nodup := fun l hl hr => by
    rw [List.nodup_iff_pairwise_ne, List.pairwise_map]
    exact (List.nodup_iff_pairwise_ne.1 hl).imp_of_mem fun {x y} hx hy h e => h (hinj x y (hr x hx) (hr y hy) e)
  have han : a.Nodup := hP.smt.nd
  have hbn : b.Nodup := List.nodup_iff_pairwise_ne.2 (q6.imp fun h e => by omega)
  have hp := pas_of (a := srt (a.map (nmU name))) (b := srt (b.map (nmU name))) hW
    (fun x hx => by obtain ⟨p, hp, rfl⟩ := (hA x).1 hx; have := hP.smt.inN p hp; exact hI.up p this.1 this.2)
    (fun x hx => by obtain ⟨p, hp, rfl⟩ := (hB x).1 hx; have := hP.gin p hp; exact hI.up p this.1 this.2)
    (by rw [srt_len, List.length_map]; exact q3) (by rw [srt_len, List.length_map]; exact q4)
    (srt_lt (hnd a han fun x hx => hP.smt.inN x hx)) (srt_lt (hnd b hbn hP.gin))
    (fun x hx hy => by
      obtain ⟨p, hp, rfl⟩ := (hA x).1 hx
      obtain ⟨q, hq, e⟩ := (hB _).1 hy
      have := hinj _ _ (hP.gin q hq) (hP.smt.inN p hp) e
      subst this
      exact hP.dis _ hp hq)
  have hP2 : Ps n (nmW N name idx) (srt (a.map (nmU name))) (srt (b.map (nmU name))) := by
    obtain ⟨n2, hN2, h2, _⟩ := pas_ok hp
    have e1 := hN2.p
    have e2 := hN.p
    have : n2 = n := by dsimp only at e1; omega
    subst this; exact h2
  exact ⟨hW, hp, ((dvP_ok hW hP2).mn hP2).uniq (((dvP_ok hN hP).mn hP).names hN.inN hperm hA hB (fun x hx => hP.smt.inN x hx) hP.gin hI.inv)⟩
theorem named_day {n : Nat} {N : Nt} {x : Hd} {name idx : List Int} (hN : NOk n N) (hW : NOk n ⟨N.p, nmW N name idx⟩) (hx : HOk n x) (hn : Prm n name) (hi : Prm N.ws.length idx) : HOk n ⟨nmU name x.p, x.d, x.s⟩ ∧ ∀ p : Nat, p < n → dyP ⟨N.p, nmW N name idx⟩ ⟨nmU name x.p, x.d, x.s⟩ (nmU name p).toNat = dyP N x p := by
  have hI := nm_ok hn
  have hperm := nmW_perm (name := name) hi
  have hg : HOk n ⟨nmU name x.p, x.d, x.s⟩ := ⟨hI.up _ hx.p.1 hx.p.2, hx.d, hx.s⟩
  refine ⟨hg, fun p hp => ?_⟩
  have hD := bgn_lst hN.n1.2 hN.ws hx
  have hE := bgn_lst hW.n1.2 hW.ws hg
  have := day_same (u := nmU name) (v := nmV name) hN.ws hW.ws hx hg hI.inv hI.up (fun w hw => hperm.mem_iff.2 (List.mem_map.2 ⟨w, hw, rfl⟩)) (fun w hw => by
    obtain ⟨v, hv, rfl⟩ := List.mem_map.1 (hperm.mem_iff.1 hw)
    rw [nam_back hI (hN.ws v hv)]; exact hv) hD hE (p := (p : Int)) (by omega)
  have hu := hI.up p (by omega) (by omega)
  unfold dyP
  rw [Int.toNat_of_nonneg hu.1]
  exact this
theorem nodup_two {n : Nat} {a b : List Int} (ha : a.Nodup) (hb : b.Nodup) (h1 : ∀ x ∈ a, 0 ≤ x ∧ x < (n : Int)) (h2 : ∀ x ∈ b, 0 ≤ x ∧ x < (n : Int)) (hd : ∀ x ∈ a, x ∉ b) : a.length + b.length ≤ n := by
  have hM : Mt n (a ++ b) := by
    refine ⟨List.nodup_append.2 ⟨ha, hb, fun x hx y hy e => by subst e; exact hd x hx hy⟩, fun x hx => ?_⟩
    rcases List.mem_append.1 hx with hx | hx
    · exact h1 x hx
    · exact h2 x hx
  have := hM.len
  rw [List.length_append] at this
  exact this
theorem join_ok {n : Nat} {N : Nt} {a b : List Int} (hN : NOk n N) (hn : n ≤ 7) (hw : N.ws.length ≤ 14) (hs : ∀ w ∈ N.ws, w.h ≤ 19) (hP : Ps n N.ws a b) (h0 : pas N a b = 0) : SmR n N a b (n + 2) ⟨N.p + 2, joinW n N.ws a b⟩ [(n : Int)] [(n : Int) + 1] := by
  obtain ⟨_, _, _, q3, q4, q5, q6⟩ := pas_ok h0
  have hpn := hN.p
  have hbn : b.Nodup := List.nodup_iff_pairwise_ne.2 (q6.imp fun h e => by omega)
  have hab := nodup_two hP.smt.nd hbn (fun x hx => hP.smt.inN x hx) hP.gin hP.dis
  have hjl : (joinW n N.ws a b).length = N.ws.length + a.length + b.length := by
    unfold joinW; simp only [List.length_append, List.length_map]
  have hmem : ∀ w ∈ joinW n N.ws a b, WOk (n + 2) w ∧ w.f ≠ w.t := fun w hw => by
    unfold joinW at hw
    rcases List.mem_append.1 hw with hw | hw
    · rcases List.mem_append.1 hw with hw | hw
      · have := hN.ws w hw
        have h1 := this.f
        have h2 := this.t
        exact ⟨⟨by omega, by omega, this.d, this.h, this.n, this.g, this.lo, this.hi⟩, hN.ne w hw⟩
      · obtain ⟨p, hp, rfl⟩ := List.mem_map.1 hw
        have := hP.smt.inN p hp
        unfold jS
        exact ⟨⟨by dsimp only; omega, by dsimp only; omega, by dsimp only; omega, by dsimp only; omega, ⟨by dsimp only; omega, by dsimp only; omega⟩, ⟨by dsimp only; omega, by dsimp only; omega⟩, by dsimp only; omega, by dsimp only; omega⟩, by dsimp only; omega⟩
    · obtain ⟨p, hp, rfl⟩ := List.mem_map.1 hw
      have := hP.gin p hp
      unfold jG
      exact ⟨⟨by dsimp only; omega, by dsimp only; omega, by dsimp only; omega, by dsimp only; omega, ⟨by dsimp only; omega, by dsimp only; omega⟩, ⟨by dsimp only; omega, by dsimp only; omega⟩, by dsimp only; omega, by dsimp only; omega⟩, by dsimp only; omega⟩
  have hW : NOk (n + 2) ⟨N.p + 2, joinW n N.ws a b⟩ := ⟨by dsimp only; omega, by have := hN.n1; omega, by dsimp only; omega, fun w hw => (hmem w hw).1, fun w hw => (hmem w hw).2⟩
  have hp := pas_of (a := [(n : Int)]) (b := [(n : Int) + 1]) hW (fun x hx => by rw [List.mem_singleton.1 hx]; omega) (fun x hx => by rw [List.mem_singleton.1 hx]; omega) (by simp) (by simp) (by simp) (by simp) (fun x hx hy => by
    have e1 := List.mem_singleton.1 hx
    have e2 := List.mem_singleton.1 hy
    omega)
  have hP2 : Ps (n + 2) (joinW n N.ws a b) [(n : Int)] [(n : Int) + 1] := by
    obtain ⟨n2, hN2, h2, _⟩ := pas_ok hp
    have e1 := hN2.p
    have : n2 = n + 2 := by dsimp only at e1; omega
    subst this; exact h2
  have hm := (dvP_ok hN hP).mn hP
  have hv : (dvP N a b).2.1 ≤ 1000 := by
    obtain ⟨S, _, h2⟩ := hm.ex
    have := bar_small S N.ws fun w hw => ⟨(hN.ws w hw).h.1, hs w hw⟩
    omega
  exact ⟨hW, hp, ((dvP_ok hW hP2).mn hP2).uniq (hm.join hN.inN (fun w hw => (hN.ws w hw).h.1) (fun x hx => hP.smt.inN x hx) hP.gin hv)⟩
end Go.Proofs.Ytoeendggmalcpaa

