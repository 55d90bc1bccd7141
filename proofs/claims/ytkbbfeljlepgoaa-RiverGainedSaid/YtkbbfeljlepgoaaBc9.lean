/- Part 9 of the proof that answers about rivers are as the given statements say. No condition. -/
import Derived.Test.YtkbbfeljlepgoaaBc8
set_option linter.unusedVariables false
set_option linter.unusedSimpArgs false
open Go.Vm
open Riv
namespace Go.Vm
theorem Hp.set_self {h : Hp} {i : Id} {b : Blk} (hb : h.get i = some b) : h.set i b = h := by
  cases i with
  | out i =>
    obtain ⟨o, l⟩ := h
    simp only [Hp.set, Hp.get] at hb ⊢
    congr 1
    funext j
    split
    · rename_i e; rw [e, hb]
    · rfl
  | loc k =>
    obtain ⟨o, l⟩ := h
    simp only [Hp.set, Hp.get] at hb ⊢
    congr 1
    obtain ⟨hlt, e⟩ := List.getElem?_eq_some_iff.1 hb
    rw [← e]; exact List.set_getElem_self hlt
theorem VTo.sl {c : TCtx} {i i' : Id} {o o' e e' n n' m m' : Nat} (hi : i' = c.ρ i) (ho : o' = o) (he : e' = e) (hn : n' = n) (hm : m' = m) : VTo c (.slice i' o' e' n' (some m')) (.slice i o e n (some m)) := by
  subst hi ho he hn hm; simp only [VTo]
theorem zvL {p : Prop} (h : p := by repeat' (first | refine FrTo.node ?_ ?_ ?_ | refine FrTo.none ?_ ?_ | exact FrTo.leaf | exact VTo.undef | refine VTo.sl rfl ?_ ?_ ?_ ?_ | rfl | omega | (simp only [Nat.zero_add, Nat.mul_one]; omega) | exact VTo.sc (by first | rfl | (congr 1; omega)))) : p := h
end Go.Vm
namespace Go.Proofs.Ytkbbfeljlepgoaa
set_option maxRecDepth 20000
set_option maxHeartbeats 4000000

def cpS (acc : List Int) (x : Int) : List Int := if acc.getLast? = some x then acc else acc ++ [x]
def cpI (l : List Int) : List Int := l.foldl cpS []
theorem cpS_last (acc : List Int) (x : Int) : (cpS acc x).getLast? = some x := by
  unfold cpS
  split
  · assumption
  · rw [List.getLast?_append]; rfl
theorem cpI_snoc (l : List Int) (x : Int) : cpI (l ++ [x]) = cpS (cpI l) x := by unfold cpI; rw [List.foldl_append]; rfl
theorem take_snoc {l : List Int} {k : Nat} {a : Int} (h : l[k]? = some a) : l.take (k + 1) = l.take k ++ [a] := by
  rw [List.take_add_one, h]; rfl
theorem cpI_last {l : List Int} {k : Nat} {a : Int} (h : l[k]? = some a) : (cpI (l.take (k + 1))).getLast? = some a := by
  rw [take_snoc h, cpI_snoc]; exact cpS_last _ _
theorem cpI_one {l : List Int} {a : Int} (h : l[0]? = some a) : cpI (l.take 1) = [a] := by
  rw [take_snoc h, List.take_zero]; rfl
theorem cpI_next {l : List Int} {k : Nat} {a b : Int} (ha : l[k]? = some a) (hb : l[k + 1]? = some b) : cpI (l.take (k + 2)) = if a = b then cpI (l.take (k + 1)) else cpI (l.take (k + 1)) ++ [b] := by
  rw [take_snoc hb, cpI_snoc]
  unfold cpS
  rw [cpI_last ha]
  by_cases h : a = b
  · rw [if_pos h, if_pos (by rw [h])]
  · rw [if_neg h, if_neg (fun e => h (by cases e; rfl))]
theorem cpI_len : ∀ l : List Int, (cpI l).length ≤ l.length := by
  intro l
  have : ∀ (l acc : List Int), (l.foldl cpS acc).length ≤ acc.length + l.length := by
    intro l
    induction l with
    | nil => intro acc; simp
    | cons x l ih =>
      intro acc
      rw [List.foldl_cons]
      have h1 := ih (cpS acc x)
      have h2 : (cpS acc x).length ≤ acc.length + 1 := by unfold cpS; split <;> simp
      rw [List.length_cons]; omega
  have := this l []
  rw [List.length_nil, Nat.zero_add] at this
  exact this
structure CpJ (l : List Int) (j m : Nat) (l' : List Int) : Prop where
  len : l'.length = l.length
  m1 : 1 ≤ m
  mj : m + 1 ≤ j
  jl : j ≤ l.length
  hd : l'.take m = cpI (l.take j)
  tl : ∀ k, j ≤ k + 1 → l'[k]? = l[k]?
theorem CpJ.same {l : List Int} {j m : Nat} {l' : List Int} (h : CpJ l j m l') {a : Int} (hj : 1 ≤ j) (ha : l[j - 1]? = some a) (hb : l[j]? = some a) : CpJ l (j + 1) m l' := by
  obtain ⟨i, rfl⟩ : ∃ i, j = i + 1 := ⟨j - 1, by omega⟩
  have := (List.getElem?_eq_some_iff.1 hb).1
  refine ⟨h.len, h.m1, by have := h.mj; omega, this, ?_, fun k hk => h.tl k (by omega)⟩
  rw [h.hd, show i + 1 + 1 = i + 2 from rfl, cpI_next (k := i) ha hb, if_pos rfl]
theorem CpJ.write {l : List Int} {j m : Nat} {l' : List Int} (h : CpJ l j m l') {a b : Int} (ha : l[j - 1]? = some a) (hb : l[j]? = some b) (hab : a ≠ b) : CpJ l (j + 1) (m + 1) (l'.set m b) := by
  have hj := h.mj
  obtain ⟨i, rfl⟩ : ∃ i, j = i + 1 := ⟨j - 1, by omega⟩
  have hjl := (List.getElem?_eq_some_iff.1 hb).1
  refine ⟨by rw [List.length_set]; exact h.len, by omega, by omega, hjl, ?_, fun k hk => ?_⟩
  · rw [show i + 1 + 1 = i + 2 from rfl, cpI_next (k := i) ha hb, if_neg hab, ← h.hd]
    have hm : (l'.set m b)[m]? = some b := by rw [List.getElem?_set, if_pos rfl, if_pos (by rw [h.len]; omega)]
    rw [take_snoc hm, List.take_set_of_le (Nat.le_refl m)]
  · rw [List.getElem?_set, if_neg (by omega)]
    exact h.tl k (by omega)
theorem VOut.setSl {h : Hp} {loc : List Blk} {i : Vm.Id} {b0 : Blk} {l : List D} {rw : Bool} {o e n : Nat} {m : Option Nat} {L : Nat} (hL : Nat.ble loc.length L = true) (hb : h.get i = some b0) : VOut h ⟨outW h.lift i (.flat rw l), loc⟩ (.slice (.out i) o e n m) (.slice i o e n m) (h.set i (.flat rw l)) := by
  have hd : ∀ p ∈ [(i, Blk.flat rw l)], h.get p.1 ≠ none := by
    intro p hp
    simp only [List.mem_cons, List.not_mem_nil, or_false] at hp
    subst hp; simp only; rw [hb]; simp
  have := VOut.upd (loc := loc) (r1 := .slice (.out i) o e n m) (r := .slice i o e n m) [(i, .flat rw l)] [] [] L hL hd (by simp) rfl (by intro k b hk; simp at hk) (fun σ x hx => by
    have hρ : backR h.loc.length [] L i = .out i := by
      cases i with
      | out i => rfl
      | loc k =>
        have hk : k < h.loc.length := (List.getElem?_eq_some_iff.1 (show h.loc[k]? = some b0 from hb)).1
        simp [backR, hk]
    simp only [V.ren, hρ]; exact hx) (outer := outW h.lift i (.flat rw l)) rfl
  have he : (h.sets [(i, Blk.flat rw l)]).pushes [] = h.set i (.flat rw l) := by simp [Hp.sets, Hp.pushes]
  rw [he] at this
  exact this
theorem vc_CompactS (l : List Int) (c : Nat) (i : Vm.Id) (h : Hp) (hb : h.get i = some (.flat true (l.flatMap Vm.encI))) (h0 : 0 < l.length) (hc : l.length ≤ c) (hl : l.length ≤ 4000000) :
    VC Try.prog 62 [.slice i 0 1 l.length (some c)] h (.slice i 0 1 (cpI l).length (some c)) (h.set i (.flat true ((cpI l).flatMap Vm.encI))) := by
  refine VC.body Try.func62 rfl Try.ntmps62 Try.call62 (h.grows_set _ _) rfl ?_
  have hlift : h.lift i = some (.flat true (l.flatMap Vm.encI)) := get_out hb []
  have hn : h.get i ≠ none := by rw [hb]; simp
  have hself : h.set i (.flat true (l.flatMap Vm.encI)) = h := Hp.set_self hb
  conv => whnf
  repeat' (first | ((first | refine zs1 ?_ | refine zs2 ?_ | refine zs3 ?_ | refine zs4 ?_ | refine zs5 ?_); conv => whnf) | ((first | apply zi1 | apply zi2 | apply zi3 | apply zi4 | apply zi5) <;> intro _ <;> conv => whnf))
  · have h1 : l.length = 1 := by omega
    have e : cpI l = l := by
      match l, h1 with
      | [a], _ => rfl
    rw [e, hself]
    exact VOut.same rfl
  refine VCode.lpC (outer := h.lift) (marks := []) 99 (fun k : Nat => [(0, .slice (.out i) 0 1 l.length (some c)), (3, I k)]) (fun k => []) (fun k => 1 ≤ k ∧ k ≤ l.length ∧ cpI (l.take k) = l.take k) (fun k => l.length - k) 1 ⟨by omega, by omega, ?_⟩ ?_ ?_
  · have := cpI_one (List.getElem?_eq_getElem (show 0 < l.length by omega))
    rw [this, take_snoc (List.getElem?_eq_getElem (show 0 < l.length by omega)), List.take_zero]; rfl
  · conv => whnf
    refine Retell.turn ⟨[], 9, [], []⟩ (TurnOk.mk' _ _ [] [] (OutOk.lift _) rfl (by decide) zb trivial trivial rfl) zvL zm
  rintro k ⟨k1, k2, k3⟩
  rcases Nat.lt_or_ge k l.length with k4 | k4
  · obtain ⟨p, rfl⟩ : ∃ p, k = p + 1 := ⟨k - 1, by omega⟩
    have ha : l[p]? = some l[p] := List.getElem?_eq_getElem (by omega)
    have hc2 : l[p + 1]? = some l[p + 1] := List.getElem?_eq_getElem (by omega)
    generalize l[p] = a at ha
    generalize l[p + 1] = b at hc2
    by_cases hab : b = a
    · subst hab
      conv => whnf
      repeat' (first | ((first | refine zs1 ?_ | refine zs2 ?_ | refine zs3 ?_ | refine zs4 ?_ | refine zs5 ?_); conv => whnf) | ((first | apply zi1 | apply zi2 | apply zi3 | apply zi4 | apply zi5) <;> intro _ <;> conv => whnf))
      all_goals try (exfalso; omega)
      refine zs6 [] ?_
      conv => whnf
      repeat' (first | ((first | refine zs1 ?_ | refine zs2 ?_ | refine zs3 ?_ | refine zs4 ?_ | refine zs5 ?_); conv => whnf) | ((first | apply zi1 | apply zi2 | apply zi3 | apply zi4 | apply zi5) <;> intro _ <;> first | (exfalso; omega) | contradiction | (conv => whnf)) | (refine VLd.recc encI_len (p + 1) 0 rfl rfl (get_out hb _) hc2 (by decide) rfl (by simp only [Nat.zero_add, Nat.mul_one]; omega) ?_; conv => whnf) | (refine VLd.recc encI_len p 0 rfl rfl (get_out hb _) ha (by decide) rfl (by simp only [Nat.zero_add, Nat.mul_one]; omega) ?_; conv => whnf))
      refine VCode.lpo (fun x : Nat × Nat × List Int => [(0, .slice (.out i) 0 1 l.length (some c)), (3, I x.2.1), (4, .slice (.out i) (p + 1) 1 (l.length - (p + 1)) (some (c - (p + 1)))), (5, I x.1)]) (fun x => outW h.lift i (.flat true (x.2.2.flatMap Vm.encI))) (fun _ => []) (fun x => 1 ≤ x.1 ∧ CpJ l (p + 1 + x.1) x.2.1 x.2.2) (fun x => l.length - x.1) (1, p + 1, l) ⟨Nat.le_refl 1, ⟨rfl, Nat.le_add_left 1 p, Nat.le_refl _, by show p + 1 + 1 ≤ l.length; omega, ?_, fun _ _ => rfl⟩⟩ (outW_id hlift) ?_ ?_
      · show l.take (p + 1) = cpI (l.take (p + 1 + 1))
        rw [show p + 1 + 1 = p + 2 from rfl, cpI_next ha hc2, if_pos rfl, k3]
      · conv => whnf
        refine Retell.turn ⟨[], 9, [], []⟩ (TurnOk.mk' _ _ [] [] (OutOk.outW (OutOk.lift _) rfl) rfl (by decide) zb trivial trivial rfl) zvL zm
      · rintro ⟨d, m, l'⟩ ⟨d1, hj⟩
        dsimp only at d1 hj ⊢
        have j1 := hj.m1
        have j2 := hj.mj
        have j3 := hj.jl
        have j4 := hj.len
        rcases Nat.lt_or_ge (p + 1 + d) l.length with h3 | h3
        · have hx : l[p + 1 + d]? = some l[p + 1 + d] := List.getElem?_eq_getElem h3
          have hy : l[p + 1 + d - 1]? = some l[p + 1 + d - 1] := List.getElem?_eq_getElem (by omega)
          generalize l[p + 1 + d] = x at hx
          generalize l[p + 1 + d - 1] = y at hy
          have hx' : l'[p + 1 + d]? = some x := (hj.tl _ (by omega)).trans hx
          have hy' : l'[p + 1 + d - 1]? = some y := (hj.tl _ (by omega)).trans hy
          have hm' : l'[m]? = some l'[m] := List.getElem?_eq_getElem (by omega)
          generalize l'[m] = z at hm'
          by_cases hxy : x = y
          · subst hxy
            conv => whnf
            repeat' (first | ((first | refine zs1 ?_ | refine zs2 ?_ | refine zs3 ?_ | refine zs4 ?_ | refine zs5 ?_); conv => whnf) | ((first | apply zi1 | apply zi2 | apply zi3 | apply zi4 | apply zi5) <;> intro _ <;> conv => whnf))
            all_goals try (exfalso; omega)
            refine zs6 [] ?_
            conv => whnf
            repeat' (first | ((first | refine zs1 ?_ | refine zs2 ?_ | refine zs3 ?_ | refine zs4 ?_ | refine zs5 ?_); conv => whnf) | ((first | apply zi1 | apply zi2 | apply zi3 | apply zi4 | apply zi5) <;> intro _ <;> first | (exfalso; omega) | contradiction | (conv => whnf)) | (refine VLd.recc encI_len (p + 1 + d) 0 rfl rfl (outW_get _ _ _ _) hx' (by decide) rfl (by simp only [Nat.zero_add, Nat.mul_one]; omega) ?_; conv => whnf) | (refine VLd.recc encI_len (p + 1 + d - 1) 0 rfl rfl (outW_get _ _ _ _) hy' (by decide) rfl (by simp only [Nat.zero_add, Nat.mul_one]; omega) ?_; conv => whnf))
            refine LEndO.intro (d + 1, m, l') ⟨by simp only; omega, hj.same (by omega) hy hx⟩ (by simp only; omega) rfl ?_
            conv => whnf
            refine Retell.turn ⟨[], 9, [], []⟩ (TurnOk.mk' _ _ [] [] (OutOk.outW (OutOk.lift _) rfl) rfl (by decide) zb trivial trivial rfl) zvL zm
          · conv => whnf
            repeat' (first | ((first | refine zs1 ?_ | refine zs2 ?_ | refine zs3 ?_ | refine zs4 ?_ | refine zs5 ?_); conv => whnf) | ((first | apply zi1 | apply zi2 | apply zi3 | apply zi4 | apply zi5) <;> intro _ <;> conv => whnf))
            all_goals try (exfalso; omega)
            refine zs6 [] ?_
            conv => whnf
            repeat' (first | ((first | refine zs1 ?_ | refine zs2 ?_ | refine zs3 ?_ | refine zs4 ?_ | refine zs5 ?_); conv => whnf) | ((first | apply zi1 | apply zi2 | apply zi3 | apply zi4 | apply zi5) <;> intro _ <;> first | (exfalso; omega) | contradiction | (conv => whnf)) | (refine VLd.recc encI_len (p + 1 + d) 0 rfl rfl (outW_get _ _ _ _) hx' (by decide) rfl (by simp only [Nat.zero_add, Nat.mul_one]; omega) ?_; conv => whnf) | (refine VLd.recc encI_len (p + 1 + d - 1) 0 rfl rfl (outW_get _ _ _ _) hy' (by decide) rfl (by simp only [Nat.zero_add, Nat.mul_one]; omega) ?_; conv => whnf) | (refine VMem.setRec encI_len m 0 x rfl rfl (outW_get _ _ _ _) hm' (by decide) rfl (by simp only [Nat.zero_add, Nat.mul_one]; omega) ?_; conv => whnf))
            refine LEndO.intro (d + 1, m + 1, l'.set m x) ⟨by simp only; omega, hj.write hy hx (fun e => hxy e.symm)⟩ (by simp only; omega) (outW_same _ _ _ _) ?_
            conv => whnf
            refine Retell.turn ⟨[], 9, [], []⟩ (TurnOk.mk' _ _ [] [] (OutOk.outW (OutOk.lift _) rfl) rfl (by decide) zb trivial trivial rfl) zvL zm
        · have hlen : p + 1 + d = l.length := by omega
          have hd := hj.hd
          rw [hlen, List.take_of_length_le (Nat.le_refl _)] at hd
          have hcl : (cpI l).length = m := by rw [← hd, List.length_take]; omega
          have hf : (l'.flatMap Vm.encI).length = l'.length := by rw [flat_len encI_len, Nat.mul_one]
          have hcut : (l'.flatMap Vm.encI).take (0 + (m : Int).toNat * (0 + 1)) = (cpI l).flatMap Vm.encI := by
            have e8 : 0 + (m : Int).toNat * (0 + 1) = m * 1 := by omega
            rw [e8, flat_takeD encI_len, hd]
          rw [hcl]
          conv => whnf
          repeat' (first | ((first | refine zs1 ?_ | refine zs2 ?_ | refine zs3 ?_ | refine zs4 ?_ | refine zs5 ?_); conv => whnf) | ((first | apply zi1 | apply zi2 | apply zi3 | apply zi4 | apply zi5) <;> intro _ <;> conv => whnf))
          all_goals try (exfalso; omega)
          refine VMem.clearTail (esz := 1) rfl (outW_get _ _ _ _) ?_ ?_
          · rw [hf]; simp only [Nat.zero_add, Nat.mul_one]; omega
          rw [hcut]
          generalize cpI l = C at *
          conv => whnf
          repeat' (first | ((first | refine zs1 ?_ | refine zs2 ?_ | refine zs3 ?_ | refine zs4 ?_ | refine zs5 ?_); conv => whnf) | ((first | apply zi1 | apply zi2 | apply zi3 | apply zi4 | apply zi5) <;> intro _ <;> first | (exfalso; omega) | contradiction | (conv => whnf)))
          have e7 : (0 : Nat) + (0 : Int).toNat * (0 + 1) = 0 := rfl
          have e6 : ((m : Int) - 0).toNat = m := by omega
          refine (show VOut h ⟨outW (outW h.lift i (.flat true (l'.flatMap Vm.encI))) i (.flat true (C.flatMap Vm.encI)), []⟩ _ _ _ from ?_)
          rw [outW_same]
          rw [e6]
          exact VOut.setSl (L := 0) rfl hb
    · conv => whnf
      repeat' (first | ((first | refine zs1 ?_ | refine zs2 ?_ | refine zs3 ?_ | refine zs4 ?_ | refine zs5 ?_); conv => whnf) | ((first | apply zi1 | apply zi2 | apply zi3 | apply zi4 | apply zi5) <;> intro _ <;> conv => whnf))
      all_goals try (exfalso; omega)
      refine zs6 [] ?_
      conv => whnf
      repeat' (first | ((first | refine zs1 ?_ | refine zs2 ?_ | refine zs3 ?_ | refine zs4 ?_ | refine zs5 ?_); conv => whnf) | ((first | apply zi1 | apply zi2 | apply zi3 | apply zi4 | apply zi5) <;> intro _ <;> first | (exfalso; omega) | contradiction | (conv => whnf)) | (refine VLd.recc encI_len (p + 1) 0 rfl rfl (get_out hb _) hc2 (by decide) rfl (by simp only [Nat.zero_add, Nat.mul_one]; omega) ?_; conv => whnf) | (refine VLd.recc encI_len p 0 rfl rfl (get_out hb _) ha (by decide) rfl (by simp only [Nat.zero_add, Nat.mul_one]; omega) ?_; conv => whnf))
      refine LEnd.intro (p + 1 + 1) ⟨by omega, by omega, ?_⟩ (by omega) ?_
      · rw [show p + 1 + 1 = p + 2 from rfl, cpI_next ha hc2, if_neg (fun e => hab e.symm), k3, ← take_snoc hc2]
      · conv => whnf
        refine Retell.turn ⟨[], 9, [], []⟩ (TurnOk.mk' _ _ [] [] (OutOk.lift _) rfl (by decide) zb trivial trivial rfl) zvL zm
  · obtain rfl : k = l.length := by omega
    rw [List.take_of_length_le (Nat.le_refl _)] at k3
    rw [k3, hself]
    conv => whnf
    repeat' (first | ((first | refine zs1 ?_ | refine zs2 ?_ | refine zs3 ?_ | refine zs4 ?_ | refine zs5 ?_); conv => whnf) | ((first | apply zi1 | apply zi2 | apply zi3 | apply zi4 | apply zi5) <;> intro _ <;> first | (exfalso; omega) | contradiction | (conv => whnf)))
    exact VOut.same rfl
end Go.Proofs.Ytkbbfeljlepgoaa

open Go.Vm
open Riv
namespace Go.Proofs.Ytkbbfeljlepgoaa
set_option maxRecDepth 20000
set_option maxHeartbeats 4000000

theorem vc_Compact (l : List Int) (i : Vm.Id) (h : Hp) (hb : h.get i = some (.flat true (l.flatMap Vm.encI))) (h0 : 0 < l.length) (hl : l.length ≤ 4000000) :
    VC Try.prog 62 [.gl i 1 l.length] h (.gl i 1 (cpI l).length) (h.set i (.flat true ((cpI l).flatMap Vm.encI))) :=
  VC.glSl h0 (by rw [hb]; simp) fun c hc => vc_CompactS l c i h hb h0 hc hl
theorem cpS_eq (acc : List Int) (a b : Int) : cpS (acc ++ [a]) b = if a = b then acc ++ [a] else acc ++ [a] ++ [b] := by
  unfold cpS
  rw [List.getLast?_append, show ([a].getLast?.or acc.getLast?) = some a from rfl]
  by_cases h : a = b
  · rw [if_pos h, if_pos (by rw [h])]
  · rw [if_neg h, if_neg (fun e => h (by cases e; rfl))]
theorem cpI_go : ∀ (l : List Int) (a : Int) (acc : List Int), l.foldl cpS (acc ++ [a]) = acc ++ cmpI (a :: l)
  | [], _, _ => rfl
  | b :: l, a, acc => by
    rw [List.foldl_cons, cmpI, cpS_eq]
    by_cases h : a = b
    · subst h
      rw [if_pos rfl, if_pos rfl]
      exact cpI_go l a acc
    · rw [if_neg h, if_neg h, cpI_go l b (acc ++ [a]), List.append_assoc]; rfl
theorem cpI_eq (l : List Int) : cpI l = cmpI l := by
  cases l with
  | nil => rfl
  | cons a l => exact cpI_go l a []
theorem cmpI_ne {l : List Int} (h : l ≠ []) : cmpI l ≠ [] := by
  obtain ⟨a, m, rfl⟩ := List.exists_cons_of_ne_nil h
  intro e
  have := (cmpI_mem (a :: m) a).2 List.mem_cons_self
  rw [e] at this; cases this
def sgS (p : Int → Bool) (C : List Int) (out : List Spn) (i : Nat) : List Spn := bif p (at0 C i) then addB out (at0 C i) (at0 C (i + 1) - 1) else out
def sgK (p : Int → Bool) (C : List Int) (k : Nat) : List Spn := (List.range k).foldl (sgS p C) []
theorem sgK_step (p : Int → Bool) (C : List Int) (k : Nat) : sgK p C (k + 1) = sgS p C (sgK p C k) k := by unfold sgK; rw [List.range_succ, List.foldl_append]; rfl
theorem pgo_sg (p : Int → Bool) : ∀ (C : List Int) (out : List Spn), pgo p C out = (List.range (C.length - 1)).foldl (sgS p C) out
  | [], _ => rfl
  | [_], _ => rfl
  | a :: b :: l, out => by
    rw [pgo, pgo_sg p (b :: l), show (a :: b :: l).length - 1 = ((b :: l).length - 1) + 1 from rfl, List.range_succ_eq_map, List.foldl_cons, List.foldl_map]
    rfl
theorem addB_len (out : List Spn) (a b : Int) : (addB out a b).length ≤ out.length + 1 := by
  unfold addB setHi
  split
  · cases h : out.getLast? with
    | none => simp
    | some x => simp
  · simp
theorem sgK_len (p : Int → Bool) (C : List Int) : ∀ k, (sgK p C k).length ≤ k
  | 0 => Nat.le_refl _
  | k + 1 => by
    have := sgK_len p C k
    rw [sgK_step]
    unfold sgS
    cases p (at0 C k) with
    | true => have := addB_len (sgK p C k) (at0 C k) (at0 C (k + 1) - 1); simp only [cond_true]; omega
    | false => simp only [cond_false]; omega
def szY (W : Nat) (l : List Mp) (y : Nat) : List Int := (chg (l.getD y mp0).c (l.getD (y + 1) mp0).c W).map fun c => (c.length : Int)
def szK (W : Nat) (l : List Mp) (k : Nat) : List Int := 0 :: 145 :: (List.range k).flatMap (szY W l)
theorem szK_step (W : Nat) (l : List Mp) (k : Nat) : szK W l (k + 1) = szK W l k ++ szY W l k := by
  unfold szK; rw [List.range_succ, List.flatMap_append, List.flatMap_singleton]; rfl
theorem szK_all {W : Nat} {l : List Mp} : szK W l (l.length - 1) = 0 :: 145 :: sizes W (cellsY l) := by
  unfold szK sizes
  rw [cellsY_len]
  have e : ∀ y ∈ List.range (l.length - 1), szY W l y = (chg ((cellsY l).getD y []) ((cellsY l).getD (y + 1) []) W).map fun c => (c.length : Int) := fun y hy => by
    rw [List.mem_range] at hy
    unfold szY
    rw [cellsY_at (by omega), cellsY_at (by omega)]
  congr 2
  rw [List.flatMap_def, List.flatMap_def, List.map_congr_left e]
def stI (W : Nat) (l : List Mp) : List Int := (0 :: 145 :: sizes W (cellsY l)).mergeSort fun x y => decide (x ≤ y)
def slE (l : List Mp) (cell owner : Int) : Int := if chkY l = 0 then (if 0 ≤ cell ∧ cell ≤ (((l.getD 0 mp0).c.length : Nat) : Int) - 1 then (if 0 ≤ owner ∧ owner ≤ 3 then 0 else 4) else 2) else chkY l
def slL (l : List Mp) (cell owner : Int) : List Spn := if slE l cell owner = 0 then pgo (slP (wOf l) (cellsY l) cell.toNat owner) (cmpI (stI (wOf l) l)) [] else []
theorem stI_bd {W H : Nat} {l : List Mp} (o : YOk W H l) {x : Int} (hx : x ∈ cmpI (stI W l)) : 0 ≤ x ∧ x ≤ 145 := by
  rw [cmpI_mem] at hx
  unfold stI at hx
  rw [(List.mergeSort_perm _ _).mem_iff] at hx
  rcases List.mem_cons.1 hx with rfl | hx
  · omega
  rcases List.mem_cons.1 hx with rfl | hx
  · omega
  have h1 := sizes_bd o.yrs hx
  have h2 := (o.get (y := 0) (by have := o.n; omega)).2.2.2
  have h3 := MOk.le h2
  rw [h2.len] at h3
  omega
theorem szY_len {W H : Nat} {l : List Mp} (o : YOk W H l) {y : Nat} (hy : y + 1 < l.length) : (szY W l y).length ≤ 144 := by
  obtain ⟨_, _, _, h2⟩ := o.get (y := y) (by omega)
  have h3 := MOk.le h2
  have := chg_cnt (a := (l.getD y mp0).c) (b := (l.getD (y + 1) mp0).c) (by have := h2.w; omega) h2.len
  unfold szY
  rw [List.length_map]; omega
theorem szK_len {W H : Nat} {l : List Mp} (o : YOk W H l) : ∀ k, k + 1 ≤ l.length → (szK W l k).length ≤ 2 + 144 * k
  | 0, _ => Nat.le_refl _
  | k + 1, h => by
    have h1 := szK_len o k (by omega)
    have h2 := szY_len o (y := k) (by omega)
    rw [szK_step, List.length_append]; omega
end Go.Proofs.Ytkbbfeljlepgoaa

open Go.Vm
open Riv
namespace Go.Proofs.Ytkbbfeljlepgoaa
set_option maxRecDepth 20000
set_option maxHeartbeats 4000000

theorem ofs1 (i : Nat) : ((i : Int) + 1).toNat * (0 + 1) = (i + 1) * 1 + 0 := by
  have : ((i : Int) + 1).toNat = i + 1 := by omega
  rw [this]; simp
theorem ofz (n : Nat) : (((n + 1 : Nat) : Int) - 1).toNat * (1 + 1) + 1 = n * 2 + 1 := by
  have : (((n + 1 : Nat) : Int) - 1).toNat = n := by omega
  rw [this]
theorem vc_Slows (l : List Mp) (cell owner : Int) (h : Hp) (hl : l.length ≤ 4000000) (hc : ∀ m ∈ l, m.c.length ≤ 4000000) : VC Try.prog 26 [yrs l, I cell, I owner] h (.tuple [spans (slL l cell owner), I (slE l cell owner)]) h := by
  have c := fun h => vc_CheckYears l h hl hc
  obtain ⟨E, hE⟩ : ∃ E, E = slE l cell owner := ⟨_, rfl⟩
  obtain ⟨R, hR⟩ : ∃ R, R = slL l cell owner := ⟨_, rfl⟩
  rw [← hE, ← hR]
  unfold slL at hR
  rw [← hE] at hR
  unfold slE at hE
  by_cases h0 : chkY l = 0
  · obtain ⟨W, H, o⟩ := chkY_YOk h0
    have hn := o.n
    rw [if_pos h0] at hE
    rw [h0] at c
    obtain ⟨ha, haw, hah, hao⟩ := o.get (y := 0) (by omega)
    have hal := MOk.le hao
    have cC := fun h => vc_cell (l.getD 0 mp0) cell h (by omega)
    by_cases h1 : 0 ≤ cell ∧ cell ≤ ((l.getD 0 mp0).c.length : Int) - 1
    · rw [if_pos h1] at hE
      by_cases h2 : 0 ≤ owner ∧ owner ≤ 3
      · rw [if_pos h2] at hE
        subst hE
        rw [if_pos rfl, wOf_ok o] at hR
        obtain ⟨cn, rfl⟩ : ∃ n : Nat, cell = n := ⟨cell.toNat, by omega⟩
        rw [Int.toNat_natCast] at hR
        have hcn : ∀ s y, y < l.length → cn < (owns ((lawY W l s).getD y mp0).c W).length := fun s y hy => by
          rw [owns_len, (o.law s hy).2.2.2.1.len]
          have := hao.len; omega
        have hchg := fun y (hy : y + 1 < l.length) h => vc_changes (l.getD y mp0) (l.getD (y + 1) mp0) h (o.get (y := y) (by omega)).2.2.2 (o.get (y := y) (by omega)).2.1 (by rw [(o.get (y := y) (by omega)).2.2.2.len, (o.get (y := y + 1) (by omega)).2.2.2.len])
        have hget := fun y (hy : y < l.length) => (o.get (y := y) hy).1
        have hszl := fun k hk => szK_len o k hk
        have hszs := szK_step W l
        have hsz0 : szK W l 0 = [0, 145] := rfl
        have hsY : ∀ y, szY W l y = (chg (l.getD y mp0).c (l.getD (y + 1) mp0).c W).map fun c => (c.length : Int) := fun y => rfl
        have hsYl := fun y hy => szY_len o (y := y) hy
        have hcsl : ∀ y, y + 1 < l.length → ∀ cs ∈ chg (l.getD y mp0).c (l.getD (y + 1) mp0).c W, cs.length ≤ 144 := fun y hy cs hcs => by
          obtain ⟨_, _, _, g2⟩ := o.get (y := y) (by omega)
          have g3 := MOk.le g2
          have := (chg_mem (by have := g2.w; omega) g2.len (by omega) hcs).2.2.1
          omega
        have hlast := szK_all (W := W) (l := l)
        have hlaw := fun s => vc_law l s (W := W) (H := H)
        generalize l.getD 0 mp0 = am at *
        obtain ⟨aw, ah, ac⟩ := am
        dsimp only at *
        refine VC.bodyC 4 Try.func26 rfl Try.ntmps26 Try.call26 (h.grows_refl) rfl ?_
        conv => whnf
        repeat' (first | ((first | refine zs1 ?_ | refine zs2 ?_ | refine zs3 ?_ | refine zs4 ?_ | refine zs5 ?_); conv => whnf) | ((first | apply zi1 | apply zi2 | apply zi3 | apply zi4 | apply zi5) <;> intro _ <;> conv => whnf) | (refine VCall.intro (c _) ?_; conv => whnf) | (refine VAny.ix encM_len 0 rfl rfl ha ?_; conv => whnf) | (refine VCall.intro (cC _) ?_; conv => whnf) | (refine VCall.intro (vc_from _ _ _ _) ?_; conv => whnf))
        all_goals try (exfalso; omega)
        refine VCut.at' (outer := h.lift) (marks := []) 99 [(0, yrs l), (1, I cn), (2, I owner), (9, .gl (.loc 0) 1 2)] [.flat true ((szK W l 0).flatMap Vm.encI)] ?_ ?_
        · conv => whnf
          refine Retell.turn ⟨[0], 9, [], []⟩ (TurnOk.mk' _ _ [] [] (OutOk.lift _) rfl (by decide) zb trivial trivial rfl) zw zm
        conv => whnf
        repeat' (first | ((first | refine zs1 ?_ | refine zs2 ?_ | refine zs3 ?_ | refine zs4 ?_ | refine zs5 ?_); conv => whnf) | ((first | apply zi1 | apply zi2 | apply zi3 | apply zi4 | apply zi5) <;> intro _ <;> conv => whnf))
        refine VCode.lpC (outer := h.lift) (marks := []) 99 (fun y : Nat => [(0, yrs l), (1, I cn), (2, I owner), (9, .gl (.loc 0) 1 (szK W l y).length), (10, I (y + 1 : Nat))]) (fun y => [.flat true ((szK W l y).flatMap Vm.encI)]) (fun y => y + 1 ≤ l.length) (fun y => l.length - y) 0 (by omega) ?_ ?_
        · rw [hsz0]
          conv => whnf
          refine Retell.turn ⟨[0], 9, [], []⟩ (TurnOk.mk' _ _ [] [] (OutOk.lift _) rfl (by decide) zb trivial trivial rfl) zw zm
        rintro y hy
        rcases Nat.lt_or_ge (y + 1) l.length with h3 | h3
        · have ga := hget y (by omega)
          have gb := hget (y + 1) h3
          have cH := hchg y h3
          have hszl := hszl y (by omega)
          have hszs := hszs y
          have hY := hsY y
          have hcsl := hcsl y h3
          generalize l.getD y mp0 = am at *
          generalize l.getD (y + 1) mp0 = bm at *
          obtain ⟨aw', ah', ac'⟩ := am
          obtain ⟨bw', bh', bc'⟩ := bm
          dsimp only at *
          generalize chg ac' bc' W = R' at *
          have hYl : (szY W l y).length = R'.length := by rw [hY, List.length_map]
          have hYle := hsYl y h3
          have hYa : ∀ i cs, R'[i]? = some cs → (szY W l y).take (i + 1) = (szY W l y).take i ++ [(cs.length : Int)] := fun i cs hi => by
            rw [List.take_add_one, hY, List.getElem?_map, hi]; rfl
          clear hY
          generalize szY W l y = Y at *
          generalize szK W l y = S at *
          conv => whnf
          repeat' (first | ((first | refine zs1 ?_ | refine zs2 ?_ | refine zs3 ?_ | refine zs4 ?_ | refine zs5 ?_); conv => whnf) | ((first | apply zi1 | apply zi2 | apply zi3 | apply zi4 | apply zi5) <;> intro _ <;> conv => whnf))
          all_goals try (exfalso; omega)
          refine zs6 [] ?_
          conv => whnf
          repeat' (first | ((first | refine zs1 ?_ | refine zs2 ?_ | refine zs3 ?_ | refine zs4 ?_ | refine zs5 ?_); conv => whnf) | ((first | apply zi1 | apply zi2 | apply zi3 | apply zi4 | apply zi5) <;> intro _ <;> conv => whnf) | (refine VAny.ix encM_len y (by omega) rfl ga ?_; conv => whnf) | (refine VAny.ix encM_len (y + 1) rfl rfl gb ?_; conv => whnf) | (refine VCall.intro (cH _) ?_; conv => whnf))
          refine VCode.lpC (outer := h.lift) (marks := []) 99 (fun i : Nat => [(0, yrs l), (1, I cn), (2, I owner), (9, .gl (.loc 0) 1 (S ++ Y.take i).length), (10, I (y + 1 : Nat)), (51, intss (natLL R')), (52, I R'.length), (53, I i)]) (fun i => [.flat true ((S ++ Y.take i).flatMap Vm.encI)]) (fun i => i ≤ R'.length) (fun i => R'.length - i) 0 (Nat.zero_le _) ?_ ?_
          · have hl0 : (natLL R').length = R'.length := by unfold natLL; rw [List.length_map]
            rw [List.take_zero, List.append_nil, ← hl0]
            conv => whnf
            refine Retell.turn ⟨[0], 9, [], []⟩ (TurnOk.mk' _ _ [] [] (OutOk.lift _) rfl (by decide) zb trivial trivial rfl) zw zm
          rintro i hi
          rcases Nat.lt_or_ge i R'.length with h4 | h4
          · obtain ⟨cs, hlk⟩ : ∃ cs, R'[i]? = some cs := ⟨_, List.getElem?_eq_getElem h4⟩
            have hnk : (natLL R')[i]? = some (natI cs) := by unfold natLL; rw [List.getElem?_map, hlk]; rfl
            have hnl := natI_len cs
            have hYa := hYa i cs hlk
            have hti : (Y.take i).length = i := by rw [List.length_take]; omega
            have hcs := hcsl cs (List.mem_of_getElem? hlk)
            rw [← hnl] at hYa
            generalize natI cs = nl at *
            have hSl : (S ++ Y.take i).length = S.length + i := by rw [List.length_append, hti]
            have hSn : S ++ Y.take (i + 1) = (S ++ Y.take i) ++ [(nl.length : Int)] := by rw [hYa, List.append_assoc]
            generalize S ++ Y.take i = T at *
            conv => whnf
            repeat' (first | ((first | refine zs1 ?_ | refine zs2 ?_ | refine zs3 ?_ | refine zs4 ?_ | refine zs5 ?_); conv => whnf) | ((first | apply zi1 | apply zi2 | apply zi3 | apply zi4 | apply zi5) <;> intro _ <;> first | (exfalso; omega) | contradiction | (conv => whnf)) | (refine VAny.ix encL_len i (by omega) (by omega) hnk ?_; conv => whnf))
            refine VMem.app1 (l := T) (nl.length : Int) Vm.encI_len rfl rfl rfl rfl rfl (by omega) ?_
            conv => whnf
            repeat' (first | ((first | refine zs1 ?_ | refine zs2 ?_ | refine zs3 ?_ | refine zs4 ?_ | refine zs5 ?_); conv => whnf) | ((first | apply zi1 | apply zi2 | apply zi3 | apply zi4 | apply zi5) <;> intro _ <;> first | (exfalso; omega) | contradiction | (conv => whnf)))
            refine LEnd.intro (i + 1) (by omega) (by omega) ?_
            have hTn : T.length + 1 = (T ++ [(nl.length : Int)]).length := by rw [List.length_append]; rfl
            rw [hSn, hTn]
            conv => whnf
            refine Retell.turn ⟨[2], 9, [], []⟩ (TurnOk.mk' _ _ [] [] (OutOk.lift _) rfl (by decide) zb trivial trivial rfl) zw zm
          · obtain rfl : i = R'.length := by omega
            rw [← hYl, List.take_length, ← hszs]
            conv => whnf
            repeat' (first | ((first | refine zs1 ?_ | refine zs2 ?_ | refine zs3 ?_ | refine zs4 ?_ | refine zs5 ?_); conv => whnf) | ((first | apply zi1 | apply zi2 | apply zi3 | apply zi4 | apply zi5) <;> intro _ <;> first | (exfalso; omega) | contradiction | (conv => whnf)))
            refine LEnd.intro (y + 1) (by omega) (by omega) ?_
            conv => whnf
            refine Retell.turn ⟨[0], 9, [], []⟩ (TurnOk.mk' _ _ [] [] (OutOk.lift _) rfl (by decide) zb trivial trivial rfl) zw zm
        · have hye : y = l.length - 1 := by omega
          subst hye
          have hTl : (stI W l).length = (szK W l (l.length - 1)).length := by rw [hlast]; unfold stI; rw [List.length_mergeSort]
          have hSle := hszl (l.length - 1) (by omega)
          have hSpos : 0 < (szK W l (l.length - 1)).length := by rw [hlast]; simp
          have cS := fun hh hb => vc_Sort (szK W l (l.length - 1)).length (szK W l (l.length - 1)) (.loc 0) hh hb (Nat.le_refl _) hSpos (by omega) (stI W l) (by unfold Go.Vm.srtI stI; rw [List.take_length, hlast]; exact List.prefix_append _ _)
          have hCb := fun x hx => stI_bd o (x := x) hx
          have hCn : cmpI (stI W l) ≠ [] := cmpI_ne (fun e => by rw [e] at hTl; simp at hTl; omega)
          have hCl := cpI_len (stI W l)
          have hCe := cpI_eq (stI W l)
          have cK := fun hh hb => vc_Compact (stI W l) (.loc 0) hh hb (by omega) (by omega)
          rw [hTl] at cK
          rw [← hCe] at hCb hCn hR
          rw [pgo_sg] at hR
          clear hlast hCe
          generalize szK W l (l.length - 1) = S at *
          generalize stI W l = T at *
          generalize cpI T = C at *
          obtain ⟨m, hm⟩ : ∃ m, C.length = m + 1 := ⟨C.length - 1, by have := List.length_pos_iff.2 hCn; omega⟩
          rw [hm, Nat.add_sub_cancel] at hR
          rw [hm] at cK
          conv => whnf
          repeat' (first | ((first | refine zs1 ?_ | refine zs2 ?_ | refine zs3 ?_ | refine zs4 ?_ | refine zs5 ?_); conv => whnf) | ((first | apply zi1 | apply zi2 | apply zi3 | apply zi4 | apply zi5) <;> intro _ <;> first | (exfalso; omega) | contradiction | (conv => whnf)))
          refine VCall.intro (cS _ rfl) ?_
          conv => whnf
          repeat' (first | ((first | refine zs1 ?_ | refine zs2 ?_ | refine zs3 ?_ | refine zs4 ?_ | refine zs5 ?_); conv => whnf) | ((first | apply zi1 | apply zi2 | apply zi3 | apply zi4 | apply zi5) <;> intro _ <;> first | (exfalso; omega) | contradiction | (conv => whnf)))
          refine VCall.intro (cK _ rfl) ?_
          conv => whnf
          repeat' (first | ((first | refine zs1 ?_ | refine zs2 ?_ | refine zs3 ?_ | refine zs4 ?_ | refine zs5 ?_); conv => whnf) | ((first | apply zi1 | apply zi2 | apply zi3 | apply zi4 | apply zi5) <;> intro _ <;> first | (exfalso; omega) | contradiction | (conv => whnf)))
          refine VAny.intro (v := .gl (.loc 0) 1 m) ⟨by omega, m, by omega, .inl ⟨rfl, rfl⟩⟩ ?_
          conv => whnf
          repeat' (first | ((first | refine zs1 ?_ | refine zs2 ?_ | refine zs3 ?_ | refine zs4 ?_ | refine zs5 ?_); conv => whnf) | ((first | apply zi1 | apply zi2 | apply zi3 | apply zi4 | apply zi5) <;> intro _ <;> first | (exfalso; omega) | contradiction | (conv => whnf)))
          have hLw := fun s => o.law s (y := l.length - 1) (by omega)
          have hpx : ∀ s, slP W (cellsY l) cn owner s = decide (at0 (owns ((lawY W l s).getD (l.length - 1) mp0).c W) cn = owner) := fun s => by
            unfold slP
            rw [(hLw s).2.2.2.2, cellsY_len]
          generalize slP W (cellsY l) cn owner = p at *
          have hlY := lawY_len W l
          have hst := sgK_step p C
          have hRe : R = sgK p C m := hR
          have hol := sgK_len p C
          have hs0 : sgK p C 0 = [] := rfl
          have hmle : m ≤ 4000 := by omega
          clear hR hchg hcsl cS cK c cC hszl hszs hsz0 hsY hsYl hTl hSle hSpos
          refine VCode.lpC (outer := h.lift) (marks := []) 99 (fun i : Nat => [(0, yrs l), (1, I cn), (2, I owner), (9, .gl (.loc 0) 1 (m + 1)), (13, .gl (.loc 1) 2 (sgK p C i).length), (71, .gl (.loc 0) 1 m), (72, I m), (73, I i)]) (fun i => [.flat true (C.flatMap Vm.encI), .flat true ((sgK p C i).flatMap encS)]) (fun i => i ≤ m) (fun i => m - i) 0 (Nat.zero_le _) ?_ ?_
          · rw [hs0]
            conv => whnf
            refine Retell.turn ⟨[0,1], 1, [], []⟩ (TurnOk.mk' _ _ [] [] (OutOk.lift _) rfl (by decide) zb trivial trivial rfl) zw zm
          rintro i hi
          rcases Nat.lt_or_ge i m with h4 | h4
          · have xa := at0_get (l := C) (n := i) (by omega)
            have xb := at0_get (l := C) (n := i + 1) (by omega)
            have ba := hCb _ (List.mem_of_getElem? xa)
            have bb := hCb _ (List.mem_of_getElem? xb)
            have hst := hst i
            unfold sgS at hst
            generalize at0 C i = a at *
            generalize at0 C (i + 1) = b at *
            have hpx := hpx a
            rw [hpx] at hst
            have cL := fun h => hlaw a h o
            obtain ⟨g1, g2, g3, g4, _⟩ := hLw a
            have hcn := hcn a (l.length - 1) (by omega)
            have hlY := hlY a
            generalize lawY W l a = Y at *
            have cO := fun h => vc_owners (Y.getD (l.length - 1) mp0) h g4 g2
            have hx := at0_get hcn
            generalize Y.getD (l.length - 1) mp0 = ym at *
            generalize owns ym.c W = O at *
            generalize at0 O cn = x at *
            obtain ⟨yw, yh, yc⟩ := ym
            have hol := hol i
            generalize sgK p C i = out at *
            dsimp only at *
            by_cases hxo : x = owner
            · rw [decide_eq_true hxo, cond_true] at hst
              unfold addB at hst
              rcases Nat.eq_zero_or_pos out.length with h5 | h5
              · have h6 : out = [] := List.eq_nil_of_length_eq_zero h5
                have h7 : lastHi out = none := by rw [h6]; rfl
                rw [h7, if_neg (by simp)] at hst
                conv => whnf
                repeat' (first | ((first | refine zs1 ?_ | refine zs2 ?_ | refine zs3 ?_ | refine zs4 ?_ | refine zs5 ?_); conv => whnf) | ((first | apply zi1 | apply zi2 | apply zi3 | apply zi4 | apply zi5) <;> intro _ <;> first | (exfalso; omega) | contradiction | (conv => whnf)) | (refine VLd.recc encI_len i 0 rfl rfl rfl xa (by decide) rfl (ofs _) ?_; conv => whnf) | (refine VLd.recc encI_len (i + 1) 0 rfl rfl rfl xb (by decide) rfl (ofs1 _) ?_; conv => whnf) | (refine VCall.intro (cL _) ?_; conv => whnf) | (refine VAny.ix encM_len (l.length - 1) (by omega) rfl g1 ?_; conv => whnf) | (refine VCall.intro (cO _) ?_; conv => whnf) | (refine VAny.ix encI_len cn rfl rfl hx ?_; conv => whnf))
                refine VMem.app1 (l := out) (⟨a, b - 1⟩ : Spn) encS_len rfl rfl rfl rfl rfl (by omega) ?_
                conv => whnf
                repeat' (first | ((first | refine zs1 ?_ | refine zs2 ?_ | refine zs3 ?_ | refine zs4 ?_ | refine zs5 ?_); conv => whnf) | ((first | apply zi1 | apply zi2 | apply zi3 | apply zi4 | apply zi5) <;> intro _ <;> first | (exfalso; omega) | contradiction | (conv => whnf)))
                refine LEnd.intro (i + 1) (by omega) (by omega) ?_
                have hn : out.length + 1 = (out ++ [(⟨a, b - 1⟩ : Spn)]).length := by rw [List.length_append]; rfl
                rw [hst, hn]
                conv => whnf
                refine Retell.turn ⟨[0,3], 9, [], []⟩ (TurnOk.mk' _ _ [] [] (OutOk.lift _) rfl (by decide) zb trivial trivial rfl) zw zm
              · obtain ⟨n, h6⟩ : ∃ n, out.length = n + 1 := ⟨out.length - 1, by omega⟩
                obtain ⟨z, hz⟩ : ∃ z, out[n]? = some z := ⟨_, List.getElem?_eq_getElem (by omega)⟩
                have h8 : out.getLast? = some z := by rw [List.getLast?_eq_getElem?, h6]; exact hz
                have h7 : lastHi out = some z.hi := by unfold lastHi; rw [h8]; rfl
                have h9 : setHi out (b - 1) = out.set n ⟨z.lo, b - 1⟩ := by
                  obtain ⟨q, hq⟩ : ∃ q, out = q ++ [z] := by
                    obtain ⟨q, hq⟩ := List.getLast?_eq_some_iff.1 h8
                    exact ⟨q, hq⟩
                  have hql : q.length = n := by rw [hq, List.length_append] at h6; simpa using h6
                  rw [hq, setHi_app, List.set_append_right _ _ (by omega), hql, Nat.sub_self]; rfl
                rw [h7, h9] at hst
                by_cases hza : z.hi = a - 1
                · rw [if_pos (by rw [hza])] at hst
                  rw [h6]
                  conv => whnf
                  repeat' (first | ((first | refine zs1 ?_ | refine zs2 ?_ | refine zs3 ?_ | refine zs4 ?_ | refine zs5 ?_); conv => whnf) | ((first | apply zi1 | apply zi2 | apply zi3 | apply zi4 | apply zi5) <;> intro _ <;> first | (exfalso; omega) | contradiction | (conv => whnf)) | (refine VLd.recc encI_len i 0 rfl rfl rfl xa (by decide) rfl (ofs _) ?_; conv => whnf) | (refine VLd.recc encI_len (i + 1) 0 rfl rfl rfl xb (by decide) rfl (ofs1 _) ?_; conv => whnf) | (refine VCall.intro (cL _) ?_; conv => whnf) | (refine VAny.ix encM_len (l.length - 1) (by omega) rfl g1 ?_; conv => whnf) | (refine VCall.intro (cO _) ?_; conv => whnf) | (refine VAny.ix encI_len cn rfl rfl hx ?_; conv => whnf) | (refine VLd.recc (d := DI z.hi) encS_len n 1 rfl rfl rfl hz (by decide) rfl (ofz _) ?_; conv => whnf) | (refine VMem.setRec encS_len n 1 ⟨z.lo, b - 1⟩ rfl rfl rfl hz (by decide) rfl (ofz _) ?_; conv => whnf))
                  refine LEnd.intro (i + 1) (by omega) (by omega) ?_
                  have hn : n + 1 = (out.set n (⟨z.lo, b - 1⟩ : Spn)).length := by rw [List.length_set, h6]
                  rw [hst, hn]
                  conv => whnf
                  refine Retell.turn ⟨[0,1], 9, [], []⟩ (TurnOk.mk' _ _ [] [] (OutOk.lift _) rfl (by decide) zb trivial trivial rfl) zw zm
                · rw [if_neg (fun e => hza (by simpa using e))] at hst
                  rw [h6]
                  conv => whnf
                  repeat' (first | ((first | refine zs1 ?_ | refine zs2 ?_ | refine zs3 ?_ | refine zs4 ?_ | refine zs5 ?_); conv => whnf) | ((first | apply zi1 | apply zi2 | apply zi3 | apply zi4 | apply zi5) <;> intro _ <;> first | (exfalso; omega) | contradiction | (conv => whnf)) | (refine VLd.recc encI_len i 0 rfl rfl rfl xa (by decide) rfl (ofs _) ?_; conv => whnf) | (refine VLd.recc encI_len (i + 1) 0 rfl rfl rfl xb (by decide) rfl (ofs1 _) ?_; conv => whnf) | (refine VCall.intro (cL _) ?_; conv => whnf) | (refine VAny.ix encM_len (l.length - 1) (by omega) rfl g1 ?_; conv => whnf) | (refine VCall.intro (cO _) ?_; conv => whnf) | (refine VAny.ix encI_len cn rfl rfl hx ?_; conv => whnf) | (refine VLd.recc (d := DI z.hi) encS_len n 1 rfl rfl rfl hz (by decide) rfl (ofz _) ?_; conv => whnf) | (refine VMem.setRec encS_len n 1 ⟨z.lo, b - 1⟩ rfl rfl rfl hz (by decide) rfl (ofz _) ?_; conv => whnf))
                  refine VMem.app1 (l := out) (⟨a, b - 1⟩ : Spn) encS_len rfl rfl rfl h6.symm rfl (by omega) ?_
                  conv => whnf
                  repeat' (first | ((first | refine zs1 ?_ | refine zs2 ?_ | refine zs3 ?_ | refine zs4 ?_ | refine zs5 ?_); conv => whnf) | ((first | apply zi1 | apply zi2 | apply zi3 | apply zi4 | apply zi5) <;> intro _ <;> first | (exfalso; omega) | contradiction | (conv => whnf)))
                  refine LEnd.intro (i + 1) (by omega) (by omega) ?_
                  have hn : n + 1 + 1 = (out ++ [(⟨a, b - 1⟩ : Spn)]).length := by rw [List.length_append, h6]; rfl
                  rw [hst, hn]
                  conv => whnf
                  refine Retell.turn ⟨[0,3], 9, [], []⟩ (TurnOk.mk' _ _ [] [] (OutOk.lift _) rfl (by decide) zb trivial trivial rfl) zw zm
            · rw [decide_eq_false hxo, cond_false] at hst
              conv => whnf
              repeat' (first | ((first | refine zs1 ?_ | refine zs2 ?_ | refine zs3 ?_ | refine zs4 ?_ | refine zs5 ?_); conv => whnf) | ((first | apply zi1 | apply zi2 | apply zi3 | apply zi4 | apply zi5) <;> intro _ <;> first | (exfalso; omega) | contradiction | (conv => whnf)) | (refine VLd.recc encI_len i 0 rfl rfl rfl xa (by decide) rfl (ofs _) ?_; conv => whnf) | (refine VLd.recc encI_len (i + 1) 0 rfl rfl rfl xb (by decide) rfl (ofs1 _) ?_; conv => whnf) | (refine VCall.intro (cL _) ?_; conv => whnf) | (refine VAny.ix encM_len (l.length - 1) (by omega) rfl g1 ?_; conv => whnf) | (refine VCall.intro (cO _) ?_; conv => whnf) | (refine VAny.ix encI_len cn rfl rfl hx ?_; conv => whnf))
              refine LEnd.intro (i + 1) (by omega) (by omega) ?_
              rw [hst]
              conv => whnf
              refine Retell.turn ⟨[0,1], 9, [], []⟩ (TurnOk.mk' _ _ [] [] (OutOk.lift _) rfl (by decide) zb trivial trivial rfl) zw zm
          · obtain rfl : i = m := by omega
            rw [hRe]
            generalize sgK p C i = out at *
            conv => whnf
            repeat' (first | ((first | refine zs1 ?_ | refine zs2 ?_ | refine zs3 ?_ | refine zs4 ?_ | refine zs5 ?_); conv => whnf) | ((first | apply zi1 | apply zi2 | apply zi3 | apply zi4 | apply zi5) <;> intro _ <;> first | (exfalso; omega) | contradiction | (conv => whnf)))
            refine VOut.data 9 [(1, out.flatMap encS)] [] rfl zf (by exact FmAll.nil) zw
      · rw [if_neg h2] at hE
        subst hE
        rw [if_neg (by simp)] at hR
        subst hR
        generalize l.getD 0 mp0 = am at *
        obtain ⟨aw, ah, ac⟩ := am
        dsimp only at *
        refine VC.body Try.func26 rfl Try.ntmps26 Try.call26 (h.grows_refl) rfl ?_; conv => whnf
        repeat' (first | ((first | refine zs1 ?_ | refine zs2 ?_ | refine zs3 ?_ | refine zs4 ?_ | refine zs5 ?_); conv => whnf) | ((first | apply zi1 | apply zi2 | apply zi3 | apply zi4 | apply zi5) <;> intro _ <;> first | (exfalso; omega) | contradiction | (conv => whnf)) | (refine VCall.intro (c _) ?_; conv => whnf) | (refine VAny.ix encM_len 0 rfl rfl ha ?_; conv => whnf) | (refine VCall.intro (cC _) ?_; conv => whnf) | (refine VCall.intro (vc_from _ _ _ _) ?_; conv => whnf))
        refine VOut.data 0 [] [] rfl zf (by exact FmAll.nil) zw
    · rw [if_neg h1] at hE
      subst hE
      rw [if_neg (by simp)] at hR
      subst hR
      generalize l.getD 0 mp0 = am at *
      obtain ⟨aw, ah, ac⟩ := am
      dsimp only at *
      refine VC.body Try.func26 rfl Try.ntmps26 Try.call26 (h.grows_refl) rfl ?_; conv => whnf
      repeat' (first | ((first | refine zs1 ?_ | refine zs2 ?_ | refine zs3 ?_ | refine zs4 ?_ | refine zs5 ?_); conv => whnf) | ((first | apply zi1 | apply zi2 | apply zi3 | apply zi4 | apply zi5) <;> intro _ <;> first | (exfalso; omega) | contradiction | (conv => whnf)) | (refine VCall.intro (c _) ?_; conv => whnf) | (refine VAny.ix encM_len 0 rfl rfl ha ?_; conv => whnf) | (refine VCall.intro (cC _) ?_; conv => whnf) | (refine VCall.intro (vc_from _ _ _ _) ?_; conv => whnf))
      refine VOut.data 0 [] [] rfl zf (by exact FmAll.nil) zw
  · rw [if_neg h0] at hE
    rw [← hE] at c h0
    rw [if_neg (fun hh => h0 hh)] at hR
    subst hR
    clear hE
    refine VC.body Try.func26 rfl Try.ntmps26 Try.call26 (h.grows_refl) rfl ?_; conv => whnf
    repeat' (first | ((first | refine zs1 ?_ | refine zs2 ?_ | refine zs3 ?_ | refine zs4 ?_ | refine zs5 ?_); conv => whnf) | ((first | apply zi1 | apply zi2 | apply zi3 | apply zi4 | apply zi5) <;> intro _ <;> first | (exfalso; omega) | contradiction | (conv => whnf)) | (refine VCall.intro (c _) ?_; conv => whnf))
    refine VOut.data 0 [] [] rfl zf (by exact FmAll.nil) zw
end Go.Proofs.Ytkbbfeljlepgoaa

open Go.Vm
open Riv
namespace Go.Proofs.Ytkbbfeljlepgoaa
set_option maxRecDepth 20000
set_option maxHeartbeats 4000000

theorem drop_eq_dec {α : Type} [DecidableEq α] {a b : List α} {k : Nat} {x y : α} (hx : a[k]? = some x) (hy : b[k]? = some y) : decide (a.drop k = b.drop k) = (decide (x = y) && decide (a.drop (k + 1) = b.drop (k + 1))) := by
  obtain ⟨h1, rfl⟩ := List.getElem?_eq_some_iff.1 hx
  obtain ⟨h2, rfl⟩ := List.getElem?_eq_some_iff.1 hy
  rw [List.drop_eq_getElem_cons h1, List.drop_eq_getElem_cons h2, Bool.eq_iff_iff, Bool.and_eq_true, decide_eq_true_eq, decide_eq_true_eq, decide_eq_true_eq, List.cons.injEq]
theorem drop_ne {α : Type} [DecidableEq α] {a b : List α} {k : Nat} (h1 : k < a.length) (h2 : b.length ≤ k) : decide (a.drop k = b.drop k) = false := by
  rw [decide_eq_false_iff_not]
  intro hh
  have := congrArg List.length hh
  simp at this; omega
theorem len_dec {α : Type} [DecidableEq α] {a b : List α} (h : a.length ≤ b.length) : ((a.length : Int) == b.length) = decide (a.drop a.length = b.drop a.length) := by
  rw [List.drop_length, Bool.eq_iff_iff, decide_eq_true_eq, beq_iff_eq]
  constructor
  · intro hh; rw [List.drop_of_length_le (by omega)]
  · intro hh
    have := congrArg List.length hh
    simp at this; omega
theorem top64 : eqTop Try.prog 64 = some (Sh.cons 0 1 false Sh.int (Sh.cons 1 1 false Sh.int Sh.nil)) := by kernel_rfl
theorem top39 : eqTop Try.prog 39 = some (Sh.cons 0 1 false Sh.int (Sh.cons 1 1 false Sh.int (Sh.cons 2 1 false Sh.bool Sh.nil))) := by kernel_rfl
theorem vneqS (x y : Spn) : vaggeq Try.prog .neq 64 (.agg [I x.lo, I x.hi]) (.agg [I y.lo, I y.hi]) = some (B (decide (¬ x = y))) := by
  have : (!((x.lo == y.lo) && ((x.hi == y.hi) && true))) = decide (¬ x = y) := by cases x; cases y; rw [Bool.eq_iff_iff, decide_eq_true_eq]; simp [-not_and]; omega
  rw [← this]
  unfold vaggeq
  rw [top64]
  rfl
theorem vneqH {t : TypeId} (ht : eqTop Try.prog t = some (Sh.cons 0 1 false Sh.int (Sh.cons 1 1 false Sh.int (Sh.cons 2 1 false Sh.bool Sh.nil)))) (x y : Riv.Sh) : vaggeq Try.prog .neq t (vSh x) (vSh y) = some (B (decide (¬ x = y))) := by
  have : (!((x.f == y.f) && ((x.o == y.o) && ((x.nr == y.nr) && true)))) = decide (¬ x = y) := by
    cases x; cases y; rw [Bool.eq_iff_iff, decide_eq_true_eq]; simp [-not_and]
    rw [Decidable.not_and_iff_not_or_not, Decidable.not_and_iff_not_or_not]
  rw [← this]
  unfold vaggeq
  rw [ht]
  rfl
theorem vc_kequalI (a b : List Int) (h : Hp) (ha : a.length ≤ 4000000) (hb : b.length ≤ 4000000) : VC Try.prog 19 [ints a, ints b] h (B (decide (a = b))) h := by
  obtain ⟨E, hE⟩ : ∃ E, E = decide (a = b) := ⟨_, rfl⟩
  rw [← hE]
  refine VC.body Try.func19 rfl Try.ntmps19 Try.call19 (h.grows_refl) rfl ?_; conv => whnf
  refine VCode.lp (fun k : Nat => [(0, ints a), (1, ints b), (4, B false), (7, I a.length), (8, I k)]) (fun _ => []) (fun k => k ≤ a.length ∧ k ≤ b.length ∧ E = decide (a.drop k = b.drop k)) (fun k => a.length - k) 0 ⟨Nat.zero_le _, Nat.zero_le _, hE⟩ ?_ ?_
  · conv => whnf
    refine Retell.turn ⟨[], 0, [], []⟩ (TurnOk.mk' _ _ [] [] (OutOk.lift _) rfl (by decide) zb trivial trivial rfl) zw zm
  · rintro k ⟨h1, h2, h3⟩
    rcases Nat.lt_or_ge k a.length with h4 | h4
    · have hx : a[k]? = some a[k] := List.getElem?_eq_getElem h4
      rcases Nat.lt_or_ge k b.length with h5 | h5
      · have hy : b[k]? = some b[k] := List.getElem?_eq_getElem h5
        rw [drop_eq_dec hx hy] at h3
        generalize a[k] = x at hx h3
        generalize b[k] = y at hy h3
        by_cases hxy : x = y
        · rw [decide_eq_true hxy, Bool.true_and] at h3
          conv => whnf
          repeat' (first | ((first | refine zs1 ?_ | refine zs2 ?_ | refine zs3 ?_ | refine zs4 ?_ | refine zs5 ?_); conv => whnf) | ((first | apply zi1 | apply zi2 | apply zi3 | apply zi4 | apply zi5) <;> intro _ <;> first | (exfalso; omega) | contradiction | (conv => whnf)))
          refine zs6 [] ?_
          conv => whnf
          repeat' (first | ((first | refine zs1 ?_ | refine zs2 ?_ | refine zs3 ?_ | refine zs4 ?_ | refine zs5 ?_); conv => whnf) | ((first | apply zi1 | apply zi2 | apply zi3 | apply zi4 | apply zi5) <;> intro _ <;> first | (exfalso; omega) | contradiction | (conv => whnf)) | (refine VAny.ix encI_len k rfl rfl hx ?_; conv => whnf) | (refine VAny.ix encI_len k rfl rfl hy ?_; conv => whnf))
          refine LEnd.intro (k + 1) ⟨by omega, by omega, h3⟩ (by omega) ?_
          conv => whnf
          refine Retell.turn ⟨[], 0, [], []⟩ (TurnOk.mk' _ _ [] [] (OutOk.lift _) rfl (by decide) zb trivial trivial rfl) zw zm
        · rw [decide_eq_false hxy, Bool.false_and] at h3
          subst h3
          conv => whnf
          repeat' (first | ((first | refine zs1 ?_ | refine zs2 ?_ | refine zs3 ?_ | refine zs4 ?_ | refine zs5 ?_); conv => whnf) | ((first | apply zi1 | apply zi2 | apply zi3 | apply zi4 | apply zi5) <;> intro _ <;> first | (exfalso; omega) | contradiction | (conv => whnf)))
          refine zs6 [] ?_
          conv => whnf
          repeat' (first | ((first | refine zs1 ?_ | refine zs2 ?_ | refine zs3 ?_ | refine zs4 ?_ | refine zs5 ?_); conv => whnf) | ((first | apply zi1 | apply zi2 | apply zi3 | apply zi4 | apply zi5) <;> intro _ <;> first | (exfalso; omega) | contradiction | (conv => whnf)) | (refine VAny.ix encI_len k rfl rfl hx ?_; conv => whnf) | (refine VAny.ix encI_len k rfl rfl hy ?_; conv => whnf))
          exact VOut.same rfl
      · rw [drop_ne h4 h5] at h3
        subst h3
        conv => whnf
        repeat' (first | ((first | refine zs1 ?_ | refine zs2 ?_ | refine zs3 ?_ | refine zs4 ?_ | refine zs5 ?_); conv => whnf) | ((first | apply zi1 | apply zi2 | apply zi3 | apply zi4 | apply zi5) <;> intro _ <;> first | (exfalso; omega) | contradiction | (conv => whnf)))
        refine zs6 [] ?_
        conv => whnf
        repeat' (first | ((first | refine zs1 ?_ | refine zs2 ?_ | refine zs3 ?_ | refine zs4 ?_ | refine zs5 ?_); conv => whnf) | ((first | apply zi1 | apply zi2 | apply zi3 | apply zi4 | apply zi5) <;> intro _ <;> first | (exfalso; omega) | contradiction | (conv => whnf)))
        exact VOut.same rfl
    · have hk : k = a.length := by omega
      rw [hk, ← len_dec (by omega)] at h3
      rw [h3, hk]
      conv => whnf
      repeat' (first | ((first | refine zs1 ?_ | refine zs2 ?_ | refine zs3 ?_ | refine zs4 ?_ | refine zs5 ?_); conv => whnf) | ((first | apply zi1 | apply zi2 | apply zi3 | apply zi4 | apply zi5) <;> intro _ <;> first | (exfalso; omega) | contradiction | (conv => whnf)))
      exact VOut.same rfl
theorem vc_kequalH (a b : List Riv.Sh) (h : Hp) (ha : a.length ≤ 4000000) (hb : b.length ≤ 4000000) : VC Try.prog 48 [shs a, shs b] h (B (decide (a = b))) h := by
  obtain ⟨E, hE⟩ : ∃ E, E = decide (a = b) := ⟨_, rfl⟩
  rw [← hE]
  refine VC.body Try.func48 rfl Try.ntmps48 Try.call48 (h.grows_refl) rfl ?_; conv => whnf
  refine VCode.lp (fun k : Nat => [(0, shs a), (1, shs b), (4, B false), (7, I a.length), (8, I k)]) (fun _ => []) (fun k => k ≤ a.length ∧ k ≤ b.length ∧ E = decide (a.drop k = b.drop k)) (fun k => a.length - k) 0 ⟨Nat.zero_le _, Nat.zero_le _, hE⟩ ?_ ?_
  · conv => whnf
    refine Retell.turn ⟨[], 0, [], []⟩ (TurnOk.mk' _ _ [] [] (OutOk.lift _) rfl (by decide) zb trivial trivial rfl) zw zm
  · rintro k ⟨h1, h2, h3⟩
    rcases Nat.lt_or_ge k a.length with h4 | h4
    · have hx : a[k]? = some a[k] := List.getElem?_eq_getElem h4
      rcases Nat.lt_or_ge k b.length with h5 | h5
      · have hy : b[k]? = some b[k] := List.getElem?_eq_getElem h5
        rw [drop_eq_dec hx hy] at h3
        generalize a[k] = x at hx h3
        generalize b[k] = y at hy h3
        have hv := vneqH top39 x y
        by_cases hxy : x = y
        · rw [decide_eq_true hxy, Bool.true_and] at h3
          rw [decide_eq_false (fun e => e hxy)] at hv
          conv => whnf
          repeat' (first | ((first | refine zs1 ?_ | refine zs2 ?_ | refine zs3 ?_ | refine zs4 ?_ | refine zs5 ?_); conv => whnf) | ((first | apply zi1 | apply zi2 | apply zi3 | apply zi4 | apply zi5) <;> intro _ <;> first | (exfalso; omega) | contradiction | (conv => whnf)))
          refine zs6 [] ?_
          conv => whnf
          repeat' (first | ((first | refine zs1 ?_ | refine zs2 ?_ | refine zs3 ?_ | refine zs4 ?_ | refine zs5 ?_); conv => whnf) | ((first | apply zi1 | apply zi2 | apply zi3 | apply zi4 | apply zi5) <;> intro _ <;> first | (exfalso; omega) | contradiction | (conv => whnf)) | (refine VAny.ix encSh_len k rfl rfl hx ?_; conv => whnf) | (refine VAny.ix encSh_len k rfl rfl hy ?_; conv => whnf) | (refine VAgg.intro hv ?_; conv => whnf))
          refine LEnd.intro (k + 1) ⟨by omega, by omega, h3⟩ (by omega) ?_
          conv => whnf
          refine Retell.turn ⟨[], 0, [], []⟩ (TurnOk.mk' _ _ [] [] (OutOk.lift _) rfl (by decide) zb trivial trivial rfl) zw zm
        · rw [decide_eq_false hxy, Bool.false_and] at h3
          rw [decide_eq_true hxy] at hv
          subst h3
          conv => whnf
          repeat' (first | ((first | refine zs1 ?_ | refine zs2 ?_ | refine zs3 ?_ | refine zs4 ?_ | refine zs5 ?_); conv => whnf) | ((first | apply zi1 | apply zi2 | apply zi3 | apply zi4 | apply zi5) <;> intro _ <;> first | (exfalso; omega) | contradiction | (conv => whnf)))
          refine zs6 [] ?_
          conv => whnf
          repeat' (first | ((first | refine zs1 ?_ | refine zs2 ?_ | refine zs3 ?_ | refine zs4 ?_ | refine zs5 ?_); conv => whnf) | ((first | apply zi1 | apply zi2 | apply zi3 | apply zi4 | apply zi5) <;> intro _ <;> first | (exfalso; omega) | contradiction | (conv => whnf)) | (refine VAny.ix encSh_len k rfl rfl hx ?_; conv => whnf) | (refine VAny.ix encSh_len k rfl rfl hy ?_; conv => whnf) | (refine VAgg.intro hv ?_; conv => whnf))
          exact VOut.same rfl
      · rw [drop_ne h4 h5] at h3
        subst h3
        conv => whnf
        repeat' (first | ((first | refine zs1 ?_ | refine zs2 ?_ | refine zs3 ?_ | refine zs4 ?_ | refine zs5 ?_); conv => whnf) | ((first | apply zi1 | apply zi2 | apply zi3 | apply zi4 | apply zi5) <;> intro _ <;> first | (exfalso; omega) | contradiction | (conv => whnf)))
        refine zs6 [] ?_
        conv => whnf
        repeat' (first | ((first | refine zs1 ?_ | refine zs2 ?_ | refine zs3 ?_ | refine zs4 ?_ | refine zs5 ?_); conv => whnf) | ((first | apply zi1 | apply zi2 | apply zi3 | apply zi4 | apply zi5) <;> intro _ <;> first | (exfalso; omega) | contradiction | (conv => whnf)))
        exact VOut.same rfl
    · have hk : k = a.length := by omega
      rw [hk, ← len_dec (by omega)] at h3
      rw [h3, hk]
      conv => whnf
      repeat' (first | ((first | refine zs1 ?_ | refine zs2 ?_ | refine zs3 ?_ | refine zs4 ?_ | refine zs5 ?_); conv => whnf) | ((first | apply zi1 | apply zi2 | apply zi3 | apply zi4 | apply zi5) <;> intro _ <;> first | (exfalso; omega) | contradiction | (conv => whnf)))
      exact VOut.same rfl
theorem vc_kequalS (a b : List Spn) (h : Hp) (ha : a.length ≤ 4000000) (hb : b.length ≤ 4000000) : VC Try.prog 50 [spans a, spans b] h (B (decide (a = b))) h := by
  obtain ⟨E, hE⟩ : ∃ E, E = decide (a = b) := ⟨_, rfl⟩
  rw [← hE]
  refine VC.body Try.func50 rfl Try.ntmps50 Try.call50 (h.grows_refl) rfl ?_; conv => whnf
  refine VCode.lp (fun k : Nat => [(0, spans a), (1, spans b), (4, B false), (7, I a.length), (8, I k)]) (fun _ => []) (fun k => k ≤ a.length ∧ k ≤ b.length ∧ E = decide (a.drop k = b.drop k)) (fun k => a.length - k) 0 ⟨Nat.zero_le _, Nat.zero_le _, hE⟩ ?_ ?_
  · conv => whnf
    refine Retell.turn ⟨[], 0, [], []⟩ (TurnOk.mk' _ _ [] [] (OutOk.lift _) rfl (by decide) zb trivial trivial rfl) zw zm
  · rintro k ⟨h1, h2, h3⟩
    rcases Nat.lt_or_ge k a.length with h4 | h4
    · have hx : a[k]? = some a[k] := List.getElem?_eq_getElem h4
      rcases Nat.lt_or_ge k b.length with h5 | h5
      · have hy : b[k]? = some b[k] := List.getElem?_eq_getElem h5
        rw [drop_eq_dec hx hy] at h3
        generalize a[k] = x at hx h3
        generalize b[k] = y at hy h3
        have hv := vneqS x y
        by_cases hxy : x = y
        · rw [decide_eq_true hxy, Bool.true_and] at h3
          rw [decide_eq_false (fun e => e hxy)] at hv
          conv => whnf
          repeat' (first | ((first | refine zs1 ?_ | refine zs2 ?_ | refine zs3 ?_ | refine zs4 ?_ | refine zs5 ?_); conv => whnf) | ((first | apply zi1 | apply zi2 | apply zi3 | apply zi4 | apply zi5) <;> intro _ <;> first | (exfalso; omega) | contradiction | (conv => whnf)))
          refine zs6 [] ?_
          conv => whnf
          repeat' (first | ((first | refine zs1 ?_ | refine zs2 ?_ | refine zs3 ?_ | refine zs4 ?_ | refine zs5 ?_); conv => whnf) | ((first | apply zi1 | apply zi2 | apply zi3 | apply zi4 | apply zi5) <;> intro _ <;> first | (exfalso; omega) | contradiction | (conv => whnf)) | (refine VAny.ix encS_len k rfl rfl hx ?_; conv => whnf) | (refine VAny.ix encS_len k rfl rfl hy ?_; conv => whnf) | (refine VAgg.intro hv ?_; conv => whnf))
          refine LEnd.intro (k + 1) ⟨by omega, by omega, h3⟩ (by omega) ?_
          conv => whnf
          refine Retell.turn ⟨[], 0, [], []⟩ (TurnOk.mk' _ _ [] [] (OutOk.lift _) rfl (by decide) zb trivial trivial rfl) zw zm
        · rw [decide_eq_false hxy, Bool.false_and] at h3
          rw [decide_eq_true hxy] at hv
          subst h3
          conv => whnf
          repeat' (first | ((first | refine zs1 ?_ | refine zs2 ?_ | refine zs3 ?_ | refine zs4 ?_ | refine zs5 ?_); conv => whnf) | ((first | apply zi1 | apply zi2 | apply zi3 | apply zi4 | apply zi5) <;> intro _ <;> first | (exfalso; omega) | contradiction | (conv => whnf)))
          refine zs6 [] ?_
          conv => whnf
          repeat' (first | ((first | refine zs1 ?_ | refine zs2 ?_ | refine zs3 ?_ | refine zs4 ?_ | refine zs5 ?_); conv => whnf) | ((first | apply zi1 | apply zi2 | apply zi3 | apply zi4 | apply zi5) <;> intro _ <;> first | (exfalso; omega) | contradiction | (conv => whnf)) | (refine VAny.ix encS_len k rfl rfl hx ?_; conv => whnf) | (refine VAny.ix encS_len k rfl rfl hy ?_; conv => whnf) | (refine VAgg.intro hv ?_; conv => whnf))
          exact VOut.same rfl
      · rw [drop_ne h4 h5] at h3
        subst h3
        conv => whnf
        repeat' (first | ((first | refine zs1 ?_ | refine zs2 ?_ | refine zs3 ?_ | refine zs4 ?_ | refine zs5 ?_); conv => whnf) | ((first | apply zi1 | apply zi2 | apply zi3 | apply zi4 | apply zi5) <;> intro _ <;> first | (exfalso; omega) | contradiction | (conv => whnf)))
        refine zs6 [] ?_
        conv => whnf
        repeat' (first | ((first | refine zs1 ?_ | refine zs2 ?_ | refine zs3 ?_ | refine zs4 ?_ | refine zs5 ?_); conv => whnf) | ((first | apply zi1 | apply zi2 | apply zi3 | apply zi4 | apply zi5) <;> intro _ <;> first | (exfalso; omega) | contradiction | (conv => whnf)))
        exact VOut.same rfl
    · have hk : k = a.length := by omega
      rw [hk, ← len_dec (by omega)] at h3
      rw [h3, hk]
      conv => whnf
      repeat' (first | ((first | refine zs1 ?_ | refine zs2 ?_ | refine zs3 ?_ | refine zs4 ?_ | refine zs5 ?_); conv => whnf) | ((first | apply zi1 | apply zi2 | apply zi3 | apply zi4 | apply zi5) <;> intro _ <;> first | (exfalso; omega) | contradiction | (conv => whnf)))
      exact VOut.same rfl
/-! ### Maps -/
theorem mp_eq (a b : Mp) : decide (a = b) = (decide (a.w = b.w) && (decide (a.h = b.h) && decide (a.c = b.c))) := by
  rw [Bool.eq_iff_iff, Bool.and_eq_true, Bool.and_eq_true, decide_eq_true_eq, decide_eq_true_eq, decide_eq_true_eq, decide_eq_true_eq]
  cases a; cases b; simp
theorem vc_equal (a b : Mp) (h : Hp) (h1 : a.c.length ≤ 4000000) (h2 : b.c.length ≤ 4000000) : VC Try.prog 20 [vM a, vM b] h (B (decide (a = b))) h := by
  have c := fun h => vc_kequalI a.c b.c h h1 h2
  rw [mp_eq]
  generalize decide (a.c = b.c) = y at *
  obtain ⟨aw, ah, ac⟩ := a
  obtain ⟨bw, bh, bc⟩ := b
  dsimp only at *
  by_cases hw : aw = bw
  · rw [decide_eq_true hw, Bool.true_and]
    by_cases hh : ah = bh
    · rw [decide_eq_true hh, Bool.true_and]
      refine VC.body Try.func20 rfl Try.ntmps20 Try.call20 (h.grows_refl) rfl ?_; conv => whnf
      repeat' (first | ((first | refine zs1 ?_ | refine zs2 ?_ | refine zs3 ?_ | refine zs4 ?_ | refine zs5 ?_); conv => whnf) | ((first | apply zi1 | apply zi2 | apply zi3 | apply zi4 | apply zi5) <;> intro _ <;> first | (exfalso; omega) | contradiction | (conv => whnf)) | (refine VCall.intro (c _) ?_; conv => whnf))
      exact VOut.same rfl
    · rw [decide_eq_false hh, Bool.false_and]
      refine VC.body Try.func20 rfl Try.ntmps20 Try.call20 (h.grows_refl) rfl ?_; conv => whnf
      repeat' (first | ((first | refine zs1 ?_ | refine zs2 ?_ | refine zs3 ?_ | refine zs4 ?_ | refine zs5 ?_); conv => whnf) | ((first | apply zi1 | apply zi2 | apply zi3 | apply zi4 | apply zi5) <;> intro _ <;> first | (exfalso; omega) | contradiction | (conv => whnf)) | (refine VCall.intro (c _) ?_; conv => whnf))
      exact VOut.same rfl
  · rw [decide_eq_false hw, Bool.false_and]
    refine VC.body Try.func20 rfl Try.ntmps20 Try.call20 (h.grows_refl) rfl ?_; conv => whnf
    repeat' (first | ((first | refine zs1 ?_ | refine zs2 ?_ | refine zs3 ?_ | refine zs4 ?_ | refine zs5 ?_); conv => whnf) | ((first | apply zi1 | apply zi2 | apply zi3 | apply zi4 | apply zi5) <;> intro _ <;> first | (exfalso; omega) | contradiction | (conv => whnf)) | (refine VCall.intro (c _) ?_; conv => whnf))
    exact VOut.same rfl
end Go.Proofs.Ytkbbfeljlepgoaa

namespace Go.Proofs.Ytkbbfeljlepgoaa
open Go.Shelf
def ibRen : Ren := ⟨fun | 137 => 79 | 217 => 96 | 266 => 111 | n => n, fun n => n, fun n => n⟩
theorem ibLays : Lays.n137 Try.prog ibRen := {
  mixed := by kernel_rfl
  f137 := by kernel_rfl
  f217 := by kernel_rfl
  f266 := by kernel_rfl
  t3 := by kernel_rfl
  a3 := fun _ => by kernel_rfl
  z3 := fun _ => by kernel_rfl
  v3 := fun _ => by kernel_rfl
  t5 := by kernel_rfl
  a5 := fun _ => by kernel_rfl
  z5 := fun _ => by kernel_rfl
  v5 := fun _ => by kernel_rfl
  t9 := by kernel_rfl
  a9 := fun _ => by kernel_rfl
  z9 := fun _ => by kernel_rfl
  v9 := fun _ => by kernel_rfl
}
def wei : ByteArray := ⟨#[46, 87, 69, 73]⟩
def knd (c : Int) : Int := Lib.indexByte wei.data.toList c.toNat.toUInt8
theorem vc_IndexByte (c : Int) (h : Go.Vm.Hp) : Go.Vm.VC Try.prog 79 [.lit (.string wei), .s (.int .u8 c)] h (Go.Vm.I (knd c)) h := by
  refine ⟨Try.call79, h.grows_refl, fun σ w xs hr hxs => ?_⟩
  rw [callsIn_wide]
  obtain ⟨x, y, rfl, hx, hy⟩ := Go.Vm.VRs_two hxs
  simp only [Go.Vm.VR, Go.Vm.S.val] at hx hy
  subst hx hy
  have := Any.strings_IndexByte ibLays wei c w
  refine this.mono ?_
  rintro e w' ⟨rfl, rfl⟩
  exact ⟨σ, _, rfl, rfl, hr, Go.Vm.ExtK.refl _ _ _ _⟩
end Go.Proofs.Ytkbbfeljlepgoaa

open Go.Vm
open Riv
namespace Go.Proofs.Ytkbbfeljlepgoaa
set_option maxRecDepth 20000
set_option maxHeartbeats 4000000

def encStr (s : ByteArray) : List D := [.lit (.string s)]
theorem encStr_len (s : ByteArray) : (encStr s).length = 1 := rfl
def strs (l : List ByteArray) : V := .fs 1 l.length (l.flatMap encStr)
def dwC (s : ByteArray) (k : Nat) : List Int := (List.range k).map fun k => knd (strAt s k)
def dwA (l : List ByteArray) : List Int := l.flatMap fun s => dwC s s.size
def dwW (l : List ByteArray) : Nat := (l.getLast?.map ByteArray.size).getD 0
def dwM (l : List ByteArray) : Mp := ⟨dwW l, l.length, dwA l⟩
theorem dwC_len (s : ByteArray) (k : Nat) : (dwC s k).length = k := by simp [dwC]
theorem dwC_step (s : ByteArray) (k : Nat) : dwC s (k + 1) = dwC s k ++ [knd (strAt s k)] := by
  unfold dwC; rw [List.range_succ, List.map_append]; rfl
theorem dwA_step {l : List ByteArray} {i : Nat} {s : ByteArray} (h : l[i]? = some s) : dwA (l.take (i + 1)) = dwA (l.take i) ++ dwC s s.size := by
  unfold dwA; rw [List.take_add_one, h, List.flatMap_append]; simp
theorem dwW_step {l : List ByteArray} {i : Nat} {s : ByteArray} (h : l[i]? = some s) : dwW (l.take (i + 1)) = s.size := by
  unfold dwW; rw [List.take_add_one, h, List.getLast?_append]; rfl
theorem dwA_len {l : List ByteArray} (hb : ∀ s ∈ l, s.size ≤ 1000) : ∀ i, i ≤ l.length → (dwA (l.take i)).length ≤ 1000 * i
  | 0, _ => by simp [dwA]
  | i + 1, h => by
    have hi : l[i]? = some l[i] := List.getElem?_eq_getElem (by omega)
    have := hb _ (List.mem_of_getElem? hi)
    have h2 := dwA_len hb i (by omega)
    rw [dwA_step hi, List.length_append, dwC_len]; omega
theorem VTo.litS {c : TCtx} {x : Value} : VTo c (.lit x) (.lit x) := by simp only [VTo]
theorem zvS {p : Prop} (h : p := by repeat' (first | refine FrTo.node ?_ ?_ ?_ | refine FrTo.none ?_ ?_ | exact FrTo.leaf | exact VTo.undef | exact VTo.litS | exact VTo.sc (by first | rfl | (congr 1; omega)) | exact VTo.fs | exact VTo.ptr rfl | exact VTo.gl rfl | exact VTo.nilslice)) : p := h
theorem vc_Drawn (l : List ByteArray) (h : Hp) (hn : l.length ≤ 1000) (hb : ∀ s ∈ l, s.size ≤ 1000) : VC Try.prog 46 [strs l] h (vM (dwM l)) h := by
  have hal := fun i hi => dwA_len hb i hi
  have h00 : dwA (l.take 0) = [] := rfl
  have h01 : dwW (l.take 0) = 0 := rfl
  have hst := fun i s (hs : l[i]? = some s) => dwA_step hs
  have hsw := fun i s (hs : l[i]? = some s) => dwW_step hs
  have hfin : dwM l = ⟨dwW (l.take l.length), l.length, dwA (l.take l.length)⟩ := by rw [List.take_length]; rfl
  rw [hfin]
  refine VC.body Try.func46 rfl Try.ntmps46 Try.call46 (h.grows_refl) rfl ?_
  conv => whnf
  repeat' (first | ((first | refine zs1 ?_ | refine zs2 ?_ | refine zs3 ?_ | refine zs4 ?_ | refine zs5 ?_); conv => whnf) | ((first | apply zi1 | apply zi2 | apply zi3 | apply zi4 | apply zi5) <;> intro _ <;> conv => whnf))
  refine VCode.lpC (outer := h.lift) (marks := []) 99 (fun i : Nat => [(2, .ptr (.loc 0) 0), (3, .ptr (.loc 1) 0), (10, strs l), (11, I l.length), (12, I i)]) (fun i => [.cells true [I 0, I 0, .nilslice], .cells true [I (dwW (l.take i)), I l.length, .gl (.loc 2) 1 (dwA (l.take i)).length], .flat true ((dwA (l.take i)).flatMap Vm.encI)]) (fun i => i ≤ l.length) (fun i => l.length - i) 0 (Nat.zero_le _) ?_ ?_
  · rw [h00, h01]
    conv => whnf
    refine Retell.turn ⟨[0,1,2], 2, [], []⟩ (TurnOk.mk' _ _ [] [] (OutOk.lift _) rfl (by decide) zb trivial trivial rfl) zw zm
  rintro i hi
  rcases Nat.lt_or_ge i l.length with h4 | h4
  · obtain ⟨s, hs⟩ : ∃ s, l[i]? = some s := ⟨_, List.getElem?_eq_getElem h4⟩
    have hsb := hb s (List.mem_of_getElem? hs)
    have hst := hst i s hs
    have hsw := hsw i s hs
    have hal := hal i hi
    have hC0 : dwC s 0 = [] := rfl
    have hCs := dwC_step s
    have hCl := dwC_len s
    generalize dwA (l.take i) = A at *
    generalize dwW (l.take i) = w0 at *
    conv => whnf
    repeat' (first | ((first | refine zs1 ?_ | refine zs2 ?_ | refine zs3 ?_ | refine zs4 ?_ | refine zs5 ?_); conv => whnf) | ((first | apply zi1 | apply zi2 | apply zi3 | apply zi4 | apply zi5) <;> intro _ <;> first | (exfalso; omega) | contradiction | (conv => whnf)) | (refine VAny.ix encStr_len i rfl rfl hs ?_; conv => whnf))
    refine VCode.lpC (outer := h.lift) (marks := []) 99 (fun k : Nat => [(2, .ptr (.loc 0) 0), (3, .ptr (.loc 1) 0), (10, strs l), (11, I l.length), (12, I i), (5, .lit (.string s)), (20, I s.size), (21, I k)]) (fun k => [.cells true [I 0, I 0, .nilslice], .cells true [I s.size, I l.length, .gl (.loc 2) 1 (A ++ dwC s k).length], .flat true ((A ++ dwC s k).flatMap Vm.encI)]) (fun k => k ≤ s.size) (fun k => s.size - k) 0 (Nat.zero_le _) ?_ ?_
    · rw [hC0, List.append_nil]
      conv => whnf
      refine Retell.turn ⟨[0, 1, 2], 9, [], []⟩ (TurnOk.mk' _ _ [] [] (OutOk.lift _) rfl (by decide) zb trivial trivial rfl) zvS zm
    rintro k hk
    rcases Nat.lt_or_ge k s.size with h5 | h5
    · have hCs := hCs k
      have hCl := hCl k
      have cI := fun h => vc_IndexByte (strAt s k) h
      have hTl : (A ++ dwC s k).length = A.length + k := by rw [List.length_append, hCl]
      have hTn : A ++ dwC s (k + 1) = (A ++ dwC s k) ++ [knd (strAt s k)] := by rw [hCs, List.append_assoc]
      generalize A ++ dwC s k = T at *
      have hk2 : ((k : Int)).toNat = k := Int.toNat_natCast k
      conv => whnf
      repeat' (first | ((first | refine zs1 ?_ | refine zs2 ?_ | refine zs3 ?_ | refine zs4 ?_ | refine zs5 ?_); conv => whnf) | ((first | apply zi1 | apply zi2 | apply zi3 | apply zi4 | apply zi5) <;> intro _ <;> conv => whnf))
      all_goals try (exfalso; omega)
      refine zs6 [(1, 5)] ?_
      conv => whnf
      repeat' (first | ((first | refine zs1 ?_ | refine zs2 ?_ | refine zs3 ?_ | refine zs4 ?_ | refine zs5 ?_); conv => whnf) | ((first | apply zi1 | apply zi2 | apply zi3 | apply zi4 | apply zi5) <;> intro _ <;> first | (exfalso; omega) | contradiction | (conv => whnf)) | (refine VCall.intro (cI _) ?_; conv => whnf))
      refine VMem.app1 (l := T) (knd (strAt s k)) Vm.encI_len rfl rfl rfl rfl rfl (by omega) ?_
      conv => whnf
      repeat' (first | ((first | refine zs1 ?_ | refine zs2 ?_ | refine zs3 ?_ | refine zs4 ?_ | refine zs5 ?_); conv => whnf) | ((first | apply zi1 | apply zi2 | apply zi3 | apply zi4 | apply zi5) <;> intro _ <;> first | (exfalso; omega) | contradiction | (conv => whnf)))
      refine LEnd.intro (k + 1) (by omega) (by omega) ?_
      have hTe : T.length + 1 = (T ++ [knd (strAt s k)]).length := by rw [List.length_append]; rfl
      rw [hTn, hTe]
      generalize knd (strAt s k) = z
      conv => whnf
      refine Retell.turn ⟨[0, 1, 4], 9, [], []⟩ (TurnOk.mk' _ _ [] [] (OutOk.lift _) rfl (by decide) zb trivial trivial rfl) zvS zm
    · obtain rfl : k = s.size := by omega
      rw [← hst]
      conv => whnf
      repeat' (first | ((first | refine zs1 ?_ | refine zs2 ?_ | refine zs3 ?_ | refine zs4 ?_ | refine zs5 ?_); conv => whnf) | ((first | apply zi1 | apply zi2 | apply zi3 | apply zi4 | apply zi5) <;> intro _ <;> first | (exfalso; omega) | contradiction | (conv => whnf)))
      refine LEnd.intro (i + 1) (by omega) (by omega) ?_
      rw [hsw]
      conv => whnf
      refine Retell.turn ⟨[0,1,2], 9, [], []⟩ (TurnOk.mk' _ _ [] [] (OutOk.lift _) rfl (by decide) zb trivial trivial rfl) zw zm
  · obtain rfl : i = l.length := by omega
    generalize dwA (l.take l.length) = A at *
    generalize dwW (l.take l.length) = w0 at *
    conv => whnf
    repeat' (first | ((first | refine zs1 ?_ | refine zs2 ?_ | refine zs3 ?_ | refine zs4 ?_ | refine zs5 ?_); conv => whnf) | ((first | apply zi1 | apply zi2 | apply zi3 | apply zi4 | apply zi5) <;> intro _ <;> first | (exfalso; omega) | contradiction | (conv => whnf)))
    refine VOut.data 9 [(2, A.flatMap Vm.encI)] [] rfl zf (by exact FmAll.nil) zw
end Go.Proofs.Ytkbbfeljlepgoaa

open Go.Vm
open Riv
namespace Go.Proofs.Ytkbbfeljlepgoaa
set_option maxRecDepth 20000
set_option maxHeartbeats 4000000

def rowA : ByteArray := ⟨#[87, 46, 46, 46, 46, 46, 69]⟩
def rowB : ByteArray := ⟨#[87, 46, 46, 73, 46, 46, 69]⟩
def rowC : ByteArray := ⟨#[87, 46, 73, 46, 73, 46, 69]⟩
def rowD : ByteArray := ⟨#[87, 87, 46, 46, 46, 46, 69]⟩
def rowE : ByteArray := ⟨#[87, 87, 87, 87, 46, 46, 69]⟩
def cA : List Int := [1, 0, 0, 0, 0, 0, 2]
def cB : List Int := [1, 0, 0, 3, 0, 0, 2, 1, 0, 0, 3, 0, 0, 2]
def cC : List Int := [1, 0, 0, 0, 0, 0, 2, 1, 0, 3, 0, 3, 0, 2, 1, 0, 0, 0, 0, 0, 2]
def cD : List Int := [1, 1, 0, 0, 0, 0, 2]
def cE : List Int := [1, 1, 1, 1, 0, 0, 2]
theorem dwA_ : dwM [rowA] = ⟨7, 1, cA⟩ := by kernel_rfl
theorem dwB_ : dwM [rowB, rowB] = ⟨7, 2, cB⟩ := by kernel_rfl
theorem dwC_ : dwM [rowA, rowC, rowA] = ⟨7, 3, cC⟩ := by kernel_rfl
theorem dwD_ : dwM [rowD] = ⟨7, 1, cD⟩ := by kernel_rfl
theorem dwE_ : dwM [rowE] = ⟨7, 1, cE⟩ := by kernel_rfl
def three : List Mp := [⟨7, 1, cA⟩, ⟨7, 1, cD⟩, ⟨7, 1, cE⟩]
theorem e01 : chkM ⟨7, 1, cA⟩ = 0 := by kernel_rfl
theorem e02 : chkM ⟨7, 2, cB⟩ = 0 := by kernel_rfl
theorem e03 : chkM ⟨7, 3, cC⟩ = 0 := by kernel_rfl
theorem e04 : chkY three = 0 := by kernel_rfl
abbrev mA : Mp := ⟨7, 1, cA⟩
abbrev mB : Mp := ⟨7, 2, cB⟩
abbrev mC : Mp := ⟨7, 3, cC⟩
abbrev mD : Mp := ⟨7, 1, cD⟩
abbrev mE : Mp := ⟨7, 1, cE⟩
theorem e05 : owns cA 7 = [1, 1, 1, 3, 2, 2, 2] := by
  rw [← owns_eq (c := cA) (W := 7) (H := 1) (by decide) rfl (by decide)]; kernel_rfl
theorem k1 (h : Hp) : VC Try.prog 17 [vM mA] h (.tuple [ints [1, 1, 1, 3, 2, 2, 2], I 0]) h := by
  have c := vc_Owners mA h (by decide)
  rw [e01, if_pos rfl, show mA.w.toNat = 7 from rfl, show mA.c = cA from rfl, e05] at c
  exact c
theorem i02 : isl cB 7 = [[3, 10]] := by
  rw [isl_eq (c := cB) (W := 7) (H := 2) (by decide) rfl (by decide)]; kernel_rfl
theorem i03 : isl cC 7 = [[9], [11]] := by
  rw [isl_eq (c := cC) (W := 7) (H := 3) (by decide) rfl (by decide)]; kernel_rfl
theorem s02 : shr cB 7 = [⟨3, 1, false⟩] := by
  rw [shr_shL]; unfold ownI own0; rw [i02]; kernel_rfl
theorem s03 : shr cC 7 = [⟨9, 1, true⟩, ⟨11, 2, true⟩] := by
  rw [shr_shL]; unfold ownI own0; rw [i03]; kernel_rfl
theorem k2 (h : Hp) : VC Try.prog 15 [vM mB] h (.tuple [shs [⟨3, 1, false⟩], I 0]) h := by
  have c := vc_Islands mB h (by decide)
  rw [e02, if_pos rfl, show mB.w.toNat = 7 from rfl, show mB.c = cB from rfl, s02] at c
  exact c
theorem k3 (h : Hp) : VC Try.prog 15 [vM mC] h (.tuple [shs [⟨9, 1, true⟩, ⟨11, 2, true⟩], I 0]) h := by
  have c := vc_Islands mC h (by decide)
  rw [e03, if_pos rfl, show mC.w.toNat = 7 from rfl, show mC.c = cC from rfl, s03] at c
  exact c
theorem l03 : lkE mC 2 = 0 := by kernel_rfl
def farC : List Int := bfs cC 7 2
theorem k4 (h : Hp) : VC Try.prog 28 [vM mC, I 2] h (.tuple [ints farC, I 0]) h := by
  have c := vc_Far mC 2 h (by decide)
  unfold frL at c
  rw [l03, if_pos rfl] at c
  exact c
theorem w01 : wyE mC 1 10 = 0 := by kernel_rfl
def wayC : List Int := wyL mC 1 10
theorem k5 (h : Hp) : VC Try.prog 40 [vM mC, I 1, I 10] h (.tuple [ints wayC, I 0]) h := by
  have c := vc_Way mC 1 10 h (by decide)
  rw [w01] at c
  exact c
theorem g01 : chg cA cD 7 = [[1]] := by
  rw [chg_eq (a := cA) (W := 7) (H := 1) (by decide) rfl (by decide)]; kernel_rfl
theorem g02 : chg cD cE 7 = [[2, 3]] := by
  rw [chg_eq (a := cD) (W := 7) (H := 1) (by decide) rfl (by decide)]; kernel_rfl
theorem y01 : cellsY three = [cA, cD, cE] := rfl
theorem lwAt1 (s : Int) : lawAt 7 [cA, cD, cE] s 1 = lstep s cD cA [1] := by
  show lyear 7 s cA cD cA = _
  unfold lyear; rw [g01]; rfl
theorem lwAt2 (s : Int) : lawAt 7 [cA, cD, cE] s 2 = lstep s cE (lstep s cD cA [1]) [2, 3] := by
  show lyear 7 s cD cE (lawAt 7 [cA, cD, cE] s 1) = _
  rw [lwAt1]; unfold lyear; rw [g02]; rfl
theorem r01 : rlE three 1 = 0 := by unfold rlE; rw [e04]; rfl
theorem r02 : rlE three 2 = 0 := by unfold rlE; rw [e04]; rfl
theorem lwT (s : Int) (h : rlE three s = 0) : lwA three s = [mA, ⟨7, 1, lstep s cD cA [1]⟩, ⟨7, 1, lstep s cE (lstep s cD cA [1]) [2, 3]⟩] := by
  unfold lwA
  rw [if_pos h, ← lwAt2, ← lwAt1]
  rfl
theorem lw1 : lwA three 1 = [mA, mD, mD] := by rw [lwT 1 r01]; kernel_rfl
theorem lw2 : lwA three 2 = [mA, mD, mE] := by rw [lwT 2 r02]; kernel_rfl
theorem k7 (h : Hp) : VC Try.prog 23 [yrs three, I 1] h (.tuple [yrs [mA, mD, mD], I 0]) h := by
  have c := vc_Law three 1 h (by decide) (by decide)
  rw [lw1, r01] at c
  exact c
theorem e06 : owns cE 7 = [1, 1, 1, 1, 1, 2, 2] := by
  rw [← owns_eq (c := cE) (W := 7) (H := 1) (by decide) rfl (by decide)]; kernel_rfl
theorem e07 : owns cD 7 = [1, 1, 1, 1, 2, 2, 2] := by
  rw [← owns_eq (c := cD) (W := 7) (H := 1) (by decide) rfl (by decide)]; kernel_rfl
def gainT : List Int := [0, 0, 0, 0, 0, 0, 0, 0, 0, 1, 0, 0, 0, 1, 0, 0]
theorem ga2 : gnA three 2 = gainT := by
  unfold gnA
  rw [if_pos r02, lw2]
  show gnK (owns cA 7) (owns cE 7) (owns cA 7).length = gainT
  rw [e05, e06]; kernel_rfl
theorem k8 (h : Hp) : VC Try.prog 24 [yrs three, I 2] h (.tuple [vGn gainT, I 0]) h := by
  have c := vc_Gains three 2 h (by decide) (by decide)
  rw [ga2, r02] at c
  exact c
theorem d01 : dnE three 1 3 = 0 := by unfold dnE; rw [r01]; kernel_rfl
theorem d02 : dnL three 1 3 = 1 := by
  unfold dnL
  rw [if_pos d01, lw1]
  show lsK (fun y => at0 (owns (([mA, mD, mD] : List Mp).getD y mp0).c 7) 3) 2 = 1
  have h0 : at0 (owns (([mA, mD, mD] : List Mp).getD 0 mp0).c 7) 3 = 3 := by show at0 (owns cA 7) 3 = 3; rw [e05]; rfl
  have h1 : at0 (owns (([mA, mD, mD] : List Mp).getD 1 mp0).c 7) 3 = 1 := by show at0 (owns cD 7) 3 = 1; rw [e07]; rfl
  have h2 : at0 (owns (([mA, mD, mD] : List Mp).getD 2 mp0).c 7) 3 = 1 := by show at0 (owns cD 7) 3 = 1; rw [e07]; rfl
  unfold lsK
  rw [if_neg (by rw [h1, h2]; decide)]
  unfold lsK
  rw [if_pos (by rw [h1, h0]; decide)]; rfl
theorem k9 (h : Hp) : VC Try.prog 25 [yrs three, I 1, I 3] h (.tuple [I 1, I 0]) h := by
  have c := vc_Last three 1 3 h (by decide) (by decide)
  rw [d02, d01] at c
  exact c
theorem z01 : slE three 3 1 = 0 := by unfold slE; rw [e04]; kernel_rfl
theorem z02 : sizes 7 [cA, cD, cE] = [1, 2] := by
  show (chg cA cD 7).map (fun c => (c.length : Int)) ++ ((chg cD cE 7).map (fun c => (c.length : Int)) ++ []) = [1, 2]
  rw [g01, g02]; rfl
theorem z03 : ([0, 145, 1, 2] : List Int).mergeSort (fun x y => decide (x ≤ y)) = [0, 1, 2, 145] := by
  simp [List.mergeSort, List.MergeSort.Internal.splitInTwo, List.merge]
theorem z04 : stI 7 three = [0, 1, 2, 145] := by
  unfold stI
  rw [y01, z02, z03]
theorem z05 : slP 7 (cellsY three) 3 1 0 = false := by
  unfold slP
  show decide (at0 (owns (lawAt 7 [cA, cD, cE] 0 2) 7) 3 = 1) = false
  rw [lwAt2, show lstep 0 cE (lstep 0 cD cA [1]) [2, 3] = cA by kernel_rfl, e05]; rfl
theorem z06 : slP 7 (cellsY three) 3 1 1 = true := by
  unfold slP
  show decide (at0 (owns (lawAt 7 [cA, cD, cE] 1 2) 7) 3 = 1) = true
  rw [lwAt2, show lstep 1 cE (lstep 1 cD cA [1]) [2, 3] = cD by kernel_rfl, e07]; rfl
theorem z07 : slP 7 (cellsY three) 3 1 2 = true := by
  unfold slP
  show decide (at0 (owns (lawAt 7 [cA, cD, cE] 2 2) 7) 3 = 1) = true
  rw [lwAt2, show lstep 2 cE (lstep 2 cD cA [1]) [2, 3] = cE by kernel_rfl, e06]; rfl
theorem z08 : slL three 3 1 = [⟨1, 144⟩] := by
  unfold slL
  rw [if_pos z01, show wOf three = 7 from rfl, z04, show (3 : Int).toNat = 3 from rfl, show cmpI [0, 1, 2, 145] = [0, 1, 2, 145] by decide]
  simp only [pgo, z05, z06, z07, cond_true, cond_false]
  decide
theorem k6 (h : Hp) : VC Try.prog 26 [yrs three, I 3, I 1] h (.tuple [spans [⟨1, 144⟩], I 0]) h := by
  have c := vc_Slows three 3 1 h (by decide) (by decide)
  rw [z08, z01] at c
  exact c
end Go.Proofs.Ytkbbfeljlepgoaa

open Go.Vm
open Riv
namespace Go.Proofs.Ytkbbfeljlepgoaa
set_option maxRecDepth 20000
set_option maxHeartbeats 4000000

theorem q1 (h : Hp) : VC Try.prog 46 [strs [rowA]] h (vM mA) h := by
  have c := vc_Drawn [rowA] h (by decide) (by decide); rw [dwA_] at c; exact c
theorem q2 (h : Hp) : VC Try.prog 46 [strs [rowB, rowB]] h (vM mB) h := by
  have c := vc_Drawn [rowB, rowB] h (by decide) (by decide); rw [dwB_] at c; exact c
theorem q3 (h : Hp) : VC Try.prog 46 [strs [rowA, rowC, rowA]] h (vM mC) h := by
  have c := vc_Drawn [rowA, rowC, rowA] h (by decide) (by decide); rw [dwC_] at c; exact c
theorem q4 (h : Hp) : VC Try.prog 46 [strs [rowD]] h (vM mD) h := by
  have c := vc_Drawn [rowD] h (by decide) (by decide); rw [dwD_] at c; exact c
theorem q5 (h : Hp) : VC Try.prog 46 [strs [rowE]] h (vM mE) h := by
  have c := vc_Drawn [rowE] h (by decide) (by decide); rw [dwE_] at c; exact c
theorem vc_Isles (h : Hp) : VC Try.prog 47 [] h (vM mC) h := by
  have q3 := q3
  generalize cC = z at *
  refine VC.body Try.func47 rfl Try.ntmps47 Try.call47 (h.grows_refl) rfl ?_; conv => whnf
  repeat' (first | ((first | refine zs1 ?_ | refine zs2 ?_ | refine zs3 ?_ | refine zs4 ?_ | refine zs5 ?_); conv => whnf) | ((first | apply zi1 | apply zi2 | apply zi3 | apply zi4 | apply zi5) <;> intro _ <;> first | (exfalso; omega) | contradiction | (conv => whnf)))
  refine VCall.intro (VC.give (args' := [strs [rowA, rowC, rowA]]) (loc' := [.flat true [DI 0, DI 0, .nilslice], .dead]) [(1, [.lit (.string rowA), .lit (.string rowC), .lit (.string rowA)])] [] (OutOk.lift _) zb zf (by exact FmAll.nil) rfl zv (q3 _)) ?_
  conv => whnf
  repeat' (first | ((first | refine zs1 ?_ | refine zs2 ?_ | refine zs3 ?_ | refine zs4 ?_ | refine zs5 ?_); conv => whnf) | ((first | apply zi1 | apply zi2 | apply zi3 | apply zi4 | apply zi5) <;> intro _ <;> first | (exfalso; omega) | contradiction | (conv => whnf)))
  exact VOut.same rfl
theorem vc_Three (h : Hp) : VC Try.prog 49 [] h (yrs three) h := by
  have q1 := q1
  have q4 := q4
  have q5 := q5
  have e : three = [mA, mD, mE] := rfl
  rw [e]
  generalize cA = a at *
  generalize cD = d at *
  generalize cE = e at *
  refine VC.body Try.func49 rfl Try.ntmps49 Try.call49 (h.grows_refl) rfl ?_; conv => whnf
  repeat' (first | ((first | refine zs1 ?_ | refine zs2 ?_ | refine zs3 ?_ | refine zs4 ?_ | refine zs5 ?_); conv => whnf) | ((first | apply zi1 | apply zi2 | apply zi3 | apply zi4 | apply zi5) <;> intro _ <;> first | (exfalso; omega) | contradiction | (conv => whnf)))
  refine VCall.intro (VC.give (args' := [strs [rowA]]) (loc' := [.dead]) [(0, [.lit (.string rowA)])] [] (OutOk.lift _) zb zf (by exact FmAll.nil) rfl zv (q1 _)) ?_
  conv => whnf
  repeat' (first | ((first | refine zs1 ?_ | refine zs2 ?_ | refine zs3 ?_ | refine zs4 ?_ | refine zs5 ?_); conv => whnf) | ((first | apply zi1 | apply zi2 | apply zi3 | apply zi4 | apply zi5) <;> intro _ <;> first | (exfalso; omega) | contradiction | (conv => whnf)))
  refine VCall.intro (VC.give (args' := [strs [rowD]]) (loc' := [.dead, .dead]) [(1, [.lit (.string rowD)])] [] (OutOk.lift _) zb zf (by exact FmAll.nil) rfl zv (q4 _)) ?_
  conv => whnf
  repeat' (first | ((first | refine zs1 ?_ | refine zs2 ?_ | refine zs3 ?_ | refine zs4 ?_ | refine zs5 ?_); conv => whnf) | ((first | apply zi1 | apply zi2 | apply zi3 | apply zi4 | apply zi5) <;> intro _ <;> first | (exfalso; omega) | contradiction | (conv => whnf)))
  refine VCall.intro (VC.give (args' := [strs [rowE]]) (loc' := [.dead, .dead, .dead]) [(2, [.lit (.string rowE)])] [] (OutOk.lift _) zb zf (by exact FmAll.nil) rfl zv (q5 _)) ?_
  conv => whnf
  repeat' (first | ((first | refine zs1 ?_ | refine zs2 ?_ | refine zs3 ?_ | refine zs4 ?_ | refine zs5 ?_); conv => whnf) | ((first | apply zi1 | apply zi2 | apply zi3 | apply zi4 | apply zi5) <;> intro _ <;> first | (exfalso; omega) | contradiction | (conv => whnf)))
  refine VOut.data 9 [(3, ([mA, mD, mE] : List Mp).flatMap encM)] [] rfl zf (by exact FmAll.nil) zw
theorem top54 : vaggeq Try.prog .eql 54 (vGn gainT) (vGn gainT) = some (B true) := by kernel_rfl
theorem farC_ : farC = [-1, 5, 4, 3, 2, 1, 0, -1, 6, 5, 4, 2, 1, 0, -1, 5, 4, 3, 2, 1, 0] := by kernel_rfl
theorem wayC_ : wayC = [14, 15, 16, 17, 10] := by kernel_rfl
theorem vc_awake (h : Hp) : VC Try.prog 12 [] h (B true) h := by
  have q1 := q1
  have q2 := q2
  have q4 := q4
  have k1 := k1
  have k2 := k2
  have k3 := k3
  have k4 := k4
  have k5 := k5
  have k6 := k6
  have k7 := k7
  have k8 := k8
  have k9 := k9
  have v1 := vc_Isles
  have v2 := vc_Three
  rw [farC_] at k4
  rw [wayC_] at k5
  have j1 := fun h => vc_kequalI [1, 1, 1, 3, 2, 2, 2] [1, 1, 1, 3, 2, 2, 2] h (by decide) (by decide)
  have j2 := fun h => vc_kequalH [⟨3, 1, false⟩] [⟨3, 1, false⟩] h (by decide) (by decide)
  have j3 := fun h => vc_kequalH [⟨9, 1, true⟩, ⟨11, 2, true⟩] [⟨9, 1, true⟩, ⟨11, 2, true⟩] h (by decide) (by decide)
  have j4 := fun h => vc_kequalS [⟨1, 144⟩] [⟨1, 144⟩] h (by decide) (by decide)
  have j5 := fun h => vc_equal mD mD h (by decide) (by decide)
  rw [decide_eq_true rfl] at j1 j2 j3 j4 j5
  generalize three = T3 at *
  generalize cA = zA at *
  generalize cB = zB at *
  generalize cC = zC at *
  generalize cD = zD at *
  refine VC.bodyC 2 Try.func12 rfl Try.ntmps12 Try.call12 (h.grows_refl) rfl ?_; conv => whnf
  repeat' (first | ((first | refine zs1 ?_ | refine zs2 ?_ | refine zs3 ?_ | refine zs4 ?_ | refine zs5 ?_); conv => whnf) | ((first | apply zi1 | apply zi2 | apply zi3 | apply zi4 | apply zi5) <;> intro _ <;> first | (exfalso; omega) | contradiction | (conv => whnf)))
  refine VCall.intro (VC.give (args' := [strs [rowA]]) (loc' := [.dead]) [(0, [.lit (.string rowA)])] [] (OutOk.lift _) zb zf (by exact FmAll.nil) rfl zv (q1 _)) ?_
  conv => whnf
  repeat' (first | ((first | refine zs1 ?_ | refine zs2 ?_ | refine zs3 ?_ | refine zs4 ?_ | refine zs5 ?_); conv => whnf) | ((first | apply zi1 | apply zi2 | apply zi3 | apply zi4 | apply zi5) <;> intro _ <;> first | (exfalso; omega) | contradiction | (conv => whnf)) | (refine VCall.intro (k1 _) ?_; conv => whnf))
  refine VCut.at' (outer := h.lift) (marks := []) 1 [(1, ints [1, 1, 1, 3, 2, 2, 2]), (2, I 0)] [] ?_ ?_
  · conv => whnf
    refine Retell.turn ⟨[], 9, [], []⟩ (TurnOk.mk' _ _ [] [] (OutOk.lift _) rfl (by decide) zb trivial trivial rfl) zw zm
  conv => whnf
  repeat' (first | ((first | refine zs1 ?_ | refine zs2 ?_ | refine zs3 ?_ | refine zs4 ?_ | refine zs5 ?_); conv => whnf) | ((first | apply zi1 | apply zi2 | apply zi3 | apply zi4 | apply zi5) <;> intro _ <;> first | (exfalso; omega) | contradiction | (conv => whnf)))
  refine VCall.intro (VC.give (args' := [strs [rowB, rowB]]) (loc' := [.dead]) [(0, [.lit (.string rowB), .lit (.string rowB)])] [] (OutOk.lift _) zb zf (by exact FmAll.nil) rfl zv (q2 _)) ?_
  conv => whnf
  repeat' (first | ((first | refine zs1 ?_ | refine zs2 ?_ | refine zs3 ?_ | refine zs4 ?_ | refine zs5 ?_); conv => whnf) | ((first | apply zi1 | apply zi2 | apply zi3 | apply zi4 | apply zi5) <;> intro _ <;> first | (exfalso; omega) | contradiction | (conv => whnf)) | (refine VCall.intro (k2 _) ?_; conv => whnf))
  refine VCut.at' (outer := h.lift) (marks := []) 1 [(1, ints [1, 1, 1, 3, 2, 2, 2]), (2, I 0), (3, shs [⟨3, 1, false⟩]), (4, I 0)] [] ?_ ?_
  · conv => whnf
    refine Retell.turn ⟨[], 9, [], []⟩ (TurnOk.mk' _ _ [] [] (OutOk.lift _) rfl (by decide) zb trivial trivial rfl) zw zm
  conv => whnf
  repeat' (first | ((first | refine zs1 ?_ | refine zs2 ?_ | refine zs3 ?_ | refine zs4 ?_ | refine zs5 ?_); conv => whnf) | ((first | apply zi1 | apply zi2 | apply zi3 | apply zi4 | apply zi5) <;> intro _ <;> first | (exfalso; omega) | contradiction | (conv => whnf)) | (refine VCall.intro (v1 _) ?_; conv => whnf) | (refine VCall.intro (k3 _) ?_; conv => whnf))
  refine VCut.at' (outer := h.lift) (marks := []) 1 [(1, ints [1, 1, 1, 3, 2, 2, 2]), (2, I 0), (3, shs [⟨3, 1, false⟩]), (4, I 0), (5, shs [⟨9, 1, true⟩, ⟨11, 2, true⟩]), (6, I 0)] [] ?_ ?_
  · conv => whnf
    refine Retell.turn ⟨[], 9, [], []⟩ (TurnOk.mk' _ _ [] [] (OutOk.lift _) rfl (by decide) zb trivial trivial rfl) zw zm
  conv => whnf
  repeat' (first | ((first | refine zs1 ?_ | refine zs2 ?_ | refine zs3 ?_ | refine zs4 ?_ | refine zs5 ?_); conv => whnf) | ((first | apply zi1 | apply zi2 | apply zi3 | apply zi4 | apply zi5) <;> intro _ <;> first | (exfalso; omega) | contradiction | (conv => whnf)) | (refine VCall.intro (v1 _) ?_; conv => whnf) | (refine VCall.intro (k4 _) ?_; conv => whnf))
  refine VCut.at' (outer := h.lift) (marks := []) 1 [(1, ints [1, 1, 1, 3, 2, 2, 2]), (2, I 0), (3, shs [⟨3, 1, false⟩]), (4, I 0), (5, shs [⟨9, 1, true⟩, ⟨11, 2, true⟩]), (6, I 0), (7, ints [-1, 5, 4, 3, 2, 1, 0, -1, 6, 5, 4, 2, 1, 0, -1, 5, 4, 3, 2, 1, 0]), (8, I 0)] [] ?_ ?_
  · conv => whnf
    refine Retell.turn ⟨[], 9, [], []⟩ (TurnOk.mk' _ _ [] [] (OutOk.lift _) rfl (by decide) zb trivial trivial rfl) zw zm
  conv => whnf
  repeat' (first | ((first | refine zs1 ?_ | refine zs2 ?_ | refine zs3 ?_ | refine zs4 ?_ | refine zs5 ?_); conv => whnf) | ((first | apply zi1 | apply zi2 | apply zi3 | apply zi4 | apply zi5) <;> intro _ <;> first | (exfalso; omega) | contradiction | (conv => whnf)) | (refine VCall.intro (v1 _) ?_; conv => whnf) | (refine VCall.intro (k5 _) ?_; conv => whnf))
  refine VCut.at' (outer := h.lift) (marks := []) 1 [(1, ints [1, 1, 1, 3, 2, 2, 2]), (2, I 0), (3, shs [⟨3, 1, false⟩]), (4, I 0), (5, shs [⟨9, 1, true⟩, ⟨11, 2, true⟩]), (6, I 0), (7, ints [-1, 5, 4, 3, 2, 1, 0, -1, 6, 5, 4, 2, 1, 0, -1, 5, 4, 3, 2, 1, 0]), (8, I 0), (9, ints [14, 15, 16, 17, 10]), (10, I 0)] [] ?_ ?_
  · conv => whnf
    refine Retell.turn ⟨[], 9, [], []⟩ (TurnOk.mk' _ _ [] [] (OutOk.lift _) rfl (by decide) zb trivial trivial rfl) zw zm
  conv => whnf
  repeat' (first | ((first | refine zs1 ?_ | refine zs2 ?_ | refine zs3 ?_ | refine zs4 ?_ | refine zs5 ?_); conv => whnf) | ((first | apply zi1 | apply zi2 | apply zi3 | apply zi4 | apply zi5) <;> intro _ <;> first | (exfalso; omega) | contradiction | (conv => whnf)))
  refine VCall.intro (VC.give (args' := [ints [1, 1, 1, 3, 2, 2, 2], ints [1, 1, 1, 3, 2, 2, 2]]) (loc' := [.dead]) [(0, [DI 1, DI 1, DI 1, DI 3, DI 2, DI 2, DI 2])] [] (OutOk.lift _) zb zf (by exact FmAll.nil) rfl zv (j1 _)) ?_
  conv => whnf
  repeat' (first | ((first | refine zs1 ?_ | refine zs2 ?_ | refine zs3 ?_ | refine zs4 ?_ | refine zs5 ?_); conv => whnf) | ((first | apply zi1 | apply zi2 | apply zi3 | apply zi4 | apply zi5) <;> intro _ <;> first | (exfalso; omega) | contradiction | (conv => whnf)))
  refine VCall.intro (VC.give (args' := [shs [⟨3, 1, false⟩], shs [⟨3, 1, false⟩]]) (loc' := [.dead, .dead]) [(1, [DI 3, DI 1, DB false])] [] (OutOk.lift _) zb zf (by exact FmAll.nil) rfl zv (j2 _)) ?_
  conv => whnf
  repeat' (first | ((first | refine zs1 ?_ | refine zs2 ?_ | refine zs3 ?_ | refine zs4 ?_ | refine zs5 ?_); conv => whnf) | ((first | apply zi1 | apply zi2 | apply zi3 | apply zi4 | apply zi5) <;> intro _ <;> first | (exfalso; omega) | contradiction | (conv => whnf)))
  refine VCall.intro (VC.give (args' := [shs [⟨9, 1, true⟩, ⟨11, 2, true⟩], shs [⟨9, 1, true⟩, ⟨11, 2, true⟩]]) (loc' := [.dead, .dead, .dead]) [(2, [DI 9, DI 1, DB true, DI 11, DI 2, DB true])] [] (OutOk.lift _) zb zf (by exact FmAll.nil) rfl zv (j3 _)) ?_
  conv => whnf
  repeat' (first | ((first | refine zs1 ?_ | refine zs2 ?_ | refine zs3 ?_ | refine zs4 ?_ | refine zs5 ?_); conv => whnf) | ((first | apply zi1 | apply zi2 | apply zi3 | apply zi4 | apply zi5) <;> intro _ <;> first | (exfalso; omega) | contradiction | (conv => whnf)) | (refine VAny.ix Vm.encI_len 9 rfl rfl (show _ = some 5 from rfl) ?_; conv => whnf) | (refine VAny.ix Vm.encI_len 10 rfl rfl (show _ = some 4 from rfl) ?_; conv => whnf))
  refine VCut.at' (outer := h.lift) (marks := []) 1 [] [] ?_ ?_
  · conv => whnf
    refine Retell.turn ⟨[], 9, [], []⟩ (TurnOk.mk' _ _ [] [] (OutOk.lift _) rfl (by decide) zb trivial trivial rfl) zw zm
  conv => whnf
  repeat' (first | ((first | refine zs1 ?_ | refine zs2 ?_ | refine zs3 ?_ | refine zs4 ?_ | refine zs5 ?_); conv => whnf) | ((first | apply zi1 | apply zi2 | apply zi3 | apply zi4 | apply zi5) <;> intro _ <;> first | (exfalso; omega) | contradiction | (conv => whnf)) | (refine VCall.intro (v2 _) ?_; conv => whnf) | (refine VCall.intro (k6 _) ?_; conv => whnf))
  refine VCut.at' (outer := h.lift) (marks := []) 1 [(2, I 0), (11, spans [⟨1, 144⟩])] [] ?_ ?_
  · conv => whnf
    refine Retell.turn ⟨[], 9, [], []⟩ (TurnOk.mk' _ _ [] [] (OutOk.lift _) rfl (by decide) zb trivial trivial rfl) zw zm
  conv => whnf
  repeat' (first | ((first | refine zs1 ?_ | refine zs2 ?_ | refine zs3 ?_ | refine zs4 ?_ | refine zs5 ?_); conv => whnf) | ((first | apply zi1 | apply zi2 | apply zi3 | apply zi4 | apply zi5) <;> intro _ <;> first | (exfalso; omega) | contradiction | (conv => whnf)) | (refine VCall.intro (v2 _) ?_; conv => whnf) | (refine VCall.intro (k7 _) ?_; conv => whnf))
  refine VCut.at' (outer := h.lift) (marks := []) 1 [(2, I 0), (11, spans [⟨1, 144⟩]), (4, I 0), (12, yrs [mA, mD, mD])] [] ?_ ?_
  · conv => whnf
    refine Retell.turn ⟨[], 9, [], []⟩ (TurnOk.mk' _ _ [] [] (OutOk.lift _) rfl (by decide) zb trivial trivial rfl) zw zm
  conv => whnf
  repeat' (first | ((first | refine zs1 ?_ | refine zs2 ?_ | refine zs3 ?_ | refine zs4 ?_ | refine zs5 ?_); conv => whnf) | ((first | apply zi1 | apply zi2 | apply zi3 | apply zi4 | apply zi5) <;> intro _ <;> first | (exfalso; omega) | contradiction | (conv => whnf)) | (refine VCall.intro (v2 _) ?_; conv => whnf) | (refine VCall.intro (k8 _) ?_; conv => whnf))
  refine VCut.at' (outer := h.lift) (marks := []) 1 [(2, I 0), (11, spans [⟨1, 144⟩]), (4, I 0), (12, yrs [mA, mD, mD]), (6, I 0), (13, .fp (gainT.map DI))] [] ?_ ?_
  · conv => whnf
    refine Retell.turn ⟨[], 9, [(0, gainT.map DI)], []⟩ (TurnOk.mk' _ _ [(0, gainT.map DI)] [] (OutOk.lift _) rfl (by decide) zb zf trivial rfl) zw zm
  conv => whnf
  repeat' (first | ((first | refine zs1 ?_ | refine zs2 ?_ | refine zs3 ?_ | refine zs4 ?_ | refine zs5 ?_); conv => whnf) | ((first | apply zi1 | apply zi2 | apply zi3 | apply zi4 | apply zi5) <;> intro _ <;> first | (exfalso; omega) | contradiction | (conv => whnf)) | (refine VCall.intro (v2 _) ?_; conv => whnf) | (refine VCall.intro (k9 _) ?_; conv => whnf))
  refine VCut.at' (outer := h.lift) (marks := []) 99 [(2, I 0), (11, spans [⟨1, 144⟩]), (4, I 0), (12, yrs [mA, mD, mD]), (6, I 0), (13, .fp (gainT.map DI)), (8, I 0), (14, I 1)] [] ?_ ?_
  · conv => whnf
    refine Retell.turn ⟨[], 9, [], []⟩ (TurnOk.mk' _ _ [] [] (OutOk.lift _) rfl (by decide) zb trivial trivial rfl) zw zm
  conv => whnf
  refine zs6 [(28, 30)] ?_
  conv => whnf
  repeat' (first | ((first | refine zs1 ?_ | refine zs2 ?_ | refine zs3 ?_ | refine zs4 ?_ | refine zs5 ?_); conv => whnf) | ((first | apply zi1 | apply zi2 | apply zi3 | apply zi4 | apply zi5) <;> intro _ <;> first | (exfalso; omega) | contradiction | (conv => whnf)))
  refine VCall.intro (VC.give (args' := [spans [⟨1, 144⟩], spans [⟨1, 144⟩]]) (loc' := [.dead]) [(0, [DI 1, DI 144])] [] (OutOk.lift _) zb zf (by exact FmAll.nil) rfl zv (j4 _)) ?_
  conv => whnf
  repeat' (first | ((first | refine zs1 ?_ | refine zs2 ?_ | refine zs3 ?_ | refine zs4 ?_ | refine zs5 ?_); conv => whnf) | ((first | apply zi1 | apply zi2 | apply zi3 | apply zi4 | apply zi5) <;> intro _ <;> first | (exfalso; omega) | contradiction | (conv => whnf)) | (refine VAny.ix encM_len 2 rfl rfl (show _ = some mD from rfl) ?_; conv => whnf))
  refine VCall.intro (VC.give (args' := [strs [rowD]]) (loc' := [.dead, .dead]) [(1, [.lit (.string rowD)])] [] (OutOk.lift _) zb zf (by exact FmAll.nil) rfl zv (q4 _)) ?_
  conv => whnf
  repeat' (first | ((first | refine zs1 ?_ | refine zs2 ?_ | refine zs3 ?_ | refine zs4 ?_ | refine zs5 ?_); conv => whnf) | ((first | apply zi1 | apply zi2 | apply zi3 | apply zi4 | apply zi5) <;> intro _ <;> first | (exfalso; omega) | contradiction | (conv => whnf)) | (refine VCall.intro (j5 _) ?_; conv => whnf) | (refine VAgg.intro (show _ = some (B true) from top54) ?_; conv => whnf))
  exact VOut.same rfl
end Go.Proofs.Ytkbbfeljlepgoaa

open Go.Vm
namespace Go.Proofs.Ytkbbfeljlepgoaa
set_option maxRecDepth 20000
set_option maxHeartbeats 4000000

abbrev DU (n : Int) : D := .s (.int .u32 n)
def encU (n : Int) : List D := [.s (.int .u8 n)]
theorem encU_len (n : Int) : (encU n).length = 1 := rfl
def bytes (l : List Int) : V := .fs 1 l.length (l.flatMap encU)
def deckD (bs : List Int) (n s : Int) : List D := [.sl 1 bs.length (bs.flatMap encU), DI n, DU s]
theorem VOut.setS {h : Hp} {loc : List Blk} {i : Vm.Id} {b0 : Blk} {l : List D} {rw : Bool} {x : S} {L : Nat} (hL : Nat.ble loc.length L = true) (hb : h.get i = some b0) : VOut h ⟨outW h.lift i (.flat rw l), loc⟩ (.s x) (.s x) (h.set i (.flat rw l)) := by
  have hd : ∀ p ∈ [(i, Blk.flat rw l)], h.get p.1 ≠ none := by
    intro p hp
    simp only [List.mem_cons, List.not_mem_nil, or_false] at hp
    subst hp; simp only; rw [hb]; simp
  have := VOut.upd (loc := loc) (r1 := .s x) (r := .s x) [(i, .flat rw l)] [] [] L hL hd (by simp) rfl (by intro k b hk; simp at hk) (fun σ x hx => hx) (outer := outW h.lift i (.flat rw l)) rfl
  have he : (h.sets [(i, Blk.flat rw l)]).pushes [] = h.set i (.flat rw l) := by simp [Hp.sets, Hp.pushes]
  rw [he] at this
  exact this
theorem set_same {h : Hp} {i : Vm.Id} {b : Blk} (hb : h.get i = some b) : h.set i b = h := by
  cases i with
  | out i =>
    have hb : h.outer i = some b := hb
    obtain ⟨o, l⟩ := h
    simp only [Hp.set]
    congr 1
    funext j
    split
    · rename_i e; rw [e]; exact hb.symm
    · rfl
  | loc k =>
    have hb : h.loc[k]? = some b := hb
    obtain ⟨o, l⟩ := h
    simp only [Hp.set]
    congr 1
    obtain ⟨h1, h2⟩ := List.getElem?_eq_some_iff.1 hb
    rw [← h2]; exact List.set_getElem_self h1
theorem VOut.set2 {h : Hp} {loc : List Blk} {i : Vm.Id} {b0 b1 : Blk} {l : List D} {rw : Bool} {x : S} (hb : h.get i = some b0) : VOut h ⟨outW (outW h.lift i b1) i (.flat rw l), loc⟩ (.s x) (.s x) (h.set i (.flat rw l)) := by
  rw [outW_same]
  exact VOut.setS (L := loc.length) (by simp) hb
theorem vc_Draw0 (bs : List Int) (n s k : Int) (i : Vm.Id) (h : Hp) (hb : h.get i = some (.flat true (deckD bs n s))) (hk : k ≤ 1 ∨ bs = []) : VC Try.prog 45 [.ptr i 0, I k] h (I 0) (h.set i (.flat true (deckD bs n s))) := by
  rw [set_same hb]
  have hl : k ≤ 1 ∨ bs.length = 0 := by rcases hk with h1 | h1; exact .inl h1; exact .inr (by rw [h1]; rfl)
  refine VC.body Try.func45 rfl Try.ntmps45 Try.call45 (h.grows_refl) rfl ?_; conv => whnf
  repeat' (first | ((first | refine zs1 ?_ | refine zs2 ?_ | refine zs3 ?_ | refine zs4 ?_ | refine zs5 ?_); conv => whnf) | ((first | apply zi1 | apply zi2 | apply zi3 | apply zi4 | apply zi5) <;> intro _ <;> conv => whnf) | (refine VLd.flat rfl rfl (get_out hb _) rfl ?_; conv => whnf))
  · exact VOut.same rfl
  · exact VOut.same rfl
  · exfalso; omega
def dRd (bs : List Int) (N : Nat) : Int := IntKind.u32.wrap (IntKind.i64.wrap ((N : Int).tdiv (bs.length : Int)))
def dkS (bs : List Int) (N : Nat) (s c : Int) : Int := (IntKind.u32.wrap (IntKind.u32.wrap (IntKind.u32.wrap (s * 37) + IntKind.u32.wrap c) + IntKind.u32.wrap (101 * dRd bs N))).tmod 65521
def dR (bs : List Int) (N : Nat) (s k c : Int) : Int := if k ≤ 256 ∧ dRd bs N = 0 then (IntKind.i64.wrap (IntKind.u32.wrap c)).tmod k else (IntKind.i64.wrap (IntKind.u32.wrap (IntKind.u32.wrap (dkS bs N s c * 256) + IntKind.u32.wrap c))).tmod k
theorem u32_bd (n : Int) : 0 ≤ IntKind.u32.wrap n ∧ IntKind.u32.wrap n < 4294967296 := by
  unfold IntKind.wrap; simp [IntKind.bits, IntKind.signed]; omega
theorem tmod_bd {a k : Int} (ha : 0 ≤ a) (hk : 0 < k) : 0 ≤ a.tmod k ∧ a.tmod k < k := by
  rw [Int.tmod_eq_emod_of_nonneg ha]
  exact ⟨Int.emod_nonneg _ (by omega), Int.emod_lt_of_pos _ hk⟩
theorem dR_bd (bs : List Int) (N : Nat) (s c : Int) {k : Int} (hk : 0 < k) : 0 ≤ dR bs N s k c ∧ dR bs N s k c < k := by
  unfold dR
  split
  · have := u32_bd c
    rw [wrap_i64 (by omega)]
    exact tmod_bd this.1 hk
  · have := u32_bd (IntKind.u32.wrap (dkS bs N s c * 256) + IntKind.u32.wrap c)
    rw [wrap_i64 (by omega)]
    exact tmod_bd this.1 hk
theorem vc_Draw1 (bs : List Int) (N : Nat) (s k c : Int) (i : Vm.Id) (h : Hp) (hb : h.get i = some (.flat true (deckD bs N s))) (hk : 1 < k) (hc : bs[N % bs.length]? = some c) (hN : N ≤ 4000000000) :
    VC Try.prog 45 [.ptr i 0, I k] h (I (dR bs N s k c)) (h.set i (.flat true (deckD bs ((N : Int) + 1) (dkS bs N s c)))) := by
  have hlen : 0 < bs.length := by
    have := (List.getElem?_eq_some_iff.1 hc).1
    omega
  have hneB : ((bs.length : Int) != 0) = true := by rw [bne_iff_ne]; omega
  obtain ⟨R, hR⟩ : ∃ R, R = dR bs N s k c := ⟨_, rfl⟩
  rw [← hR]
  unfold dR at hR
  refine VC.body Try.func45 rfl Try.ntmps45 Try.call45 (h.grows_set _ _) rfl ?_
  conv => whnf
  repeat' (first | ((first | refine zs1 ?_ | refine zs2 ?_ | refine zs3 ?_ | refine zs4 ?_ | refine zs5 ?_ | refine zs6 [] ?_); conv => whnf) | ((first | apply zi1 | apply zi2 | apply zi3 | apply zi4 | apply zi5) <;> intro _ <;> conv => whnf) | (refine VLd.flat rfl rfl (get_out hb _) rfl ?_; conv => whnf) | (refine VAny.ix encU_len (N % bs.length) (by rfl) rfl hc ?_; conv => whnf) | (refine VLd.flat rfl rfl (outW_get _ _ _ _) rfl ?_; conv => whnf) | (refine VMem.st1 rfl rfl rfl (get_out hb _) rfl ?_; conv => whnf) | (refine VMem.st1 rfl rfl rfl (outW_get _ _ _ _) rfl ?_; conv => whnf) | (refine VArith.wr ?_; conv => whnf) | (refine VNeed.intro hneB ?_; conv => whnf))
  · exfalso; omega
  · exfalso; omega
  · rename_i h1 h2
    have h2 : dRd bs N = 0 := h2
    rw [if_pos ⟨h1, h2⟩] at hR
    subst hR
    refine VOut.set2 hb
  · rename_i h1 h2
    have h2 : ¬ dRd bs N = 0 := h2
    rw [if_neg (fun h => h2 h.2)] at hR
    subst hR
    refine VOut.set2 hb
  · rename_i h1
    rw [if_neg (fun h => h1 h.1)] at hR
    subst hR
    refine VOut.set2 hb
def dNx (bs : List Int) (d : Nat × Int) (k : Int) : Int × (Nat × Int) :=
  if k ≤ 1 ∨ bs = [] then (0, d) else (dR bs d.1 d.2 k (bs.getD (d.1 % bs.length) 0), (d.1 + 1, dkS bs d.1 d.2 (bs.getD (d.1 % bs.length) 0)))
def deckB (bs : List Int) (d : Nat × Int) : Blk := .flat true (deckD bs d.1 d.2)
theorem dNx_bd (bs : List Int) (d : Nat × Int) (k : Int) : 0 ≤ (dNx bs d k).1 ∧ ((dNx bs d k).1 = 0 ∨ (dNx bs d k).1 < k) ∧ (dNx bs d k).2.1 ≤ d.1 + 1 := by
  unfold dNx
  split
  · exact ⟨Int.le_refl _, .inl rfl, by simp only; omega⟩
  · rename_i h
    obtain ⟨q1, q2⟩ := dR_bd bs d.1 d.2 (bs.getD (d.1 % bs.length) 0) (k := k) (by omega)
    exact ⟨q1, .inr q2, Nat.le_refl _⟩
theorem vc_draw (bs : List Int) (d : Nat × Int) (k : Int) (i : Vm.Id) (h : Hp) (hN : d.1 ≤ 4000000000) (hb : h.get i = some (deckB bs d)) : VC Try.prog 45 [.ptr i 0, I k] h (I (dNx bs d k).1) (h.set i (deckB bs (dNx bs d k).2)) := by
  unfold dNx deckB at *
  split
  · rename_i hk; exact vc_Draw0 bs d.1 d.2 k i h hb hk
  · rename_i hk
    have hlen := List.length_pos_iff.2 (fun h => hk (.inr h))
    have hc : bs[d.1 % bs.length]? = some (bs.getD (d.1 % bs.length) 0) := by simp [List.getElem?_eq_getElem (Nat.mod_lt d.1 hlen)]
    exact vc_Draw1 bs d.1 d.2 k _ i h hb (by omega) hc hN
theorem vc_between (bs : List Int) (d : Nat × Int) (a b : Int) (i : Vm.Id) (h : Hp) (hN : d.1 ≤ 4000000000) (ha : -1000000 ≤ a ∧ a ≤ 1000000) (hb : -1000000 ≤ b ∧ b ≤ 1000000) (hd : h.get i = some (deckB bs d)) : VC Try.prog 44 [.ptr i 0, I a, I b] h (I (a + (dNx bs d (b - a + 1)).1)) (h.set i (deckB bs (dNx bs d (b - a + 1)).2)) := by
  have hbd := dNx_bd bs d (b - a + 1)
  have hD := fun i h hh => vc_draw bs d (b - a + 1) i h hN hh
  generalize dNx bs d (b - a + 1) = x at hbd hD
  refine VC.body Try.func44 rfl Try.ntmps44 Try.call44 (h.grows_set _ _) rfl ?_
  conv => whnf
  repeat' (first | ((first | refine zs1 ?_ | refine zs2 ?_ | refine zs3 ?_ | refine zs4 ?_ | refine zs5 ?_ | refine zs6 [] ?_); conv => whnf) | ((first | apply zi1 | apply zi2 | apply zi3 | apply zi4 | apply zi5) <;> intro _ <;> conv => whnf) | (refine VCall.intro (hD (.out i) _ (get_out hd _)) ?_; conv => whnf))
  exact VOut.setS (L := 0) rfl hd
theorem vc_coin (bs : List Int) (d : Nat × Int) (k : Int) (i : Vm.Id) (h : Hp) (hN : d.1 ≤ 4000000000) (hd : h.get i = some (deckB bs d)) : VC Try.prog 64 [.ptr i 0, I k] h (B ((dNx bs d k).1 == 0)) (h.set i (deckB bs (dNx bs d k).2)) := by
  have hD := fun i h hh => vc_draw bs d k i h hN hh
  generalize dNx bs d k = x at hD
  refine VC.body Try.func64 rfl Try.ntmps64 Try.call64 (h.grows_set _ _) rfl ?_
  conv => whnf
  repeat' (first | ((first | refine zs1 ?_ | refine zs2 ?_ | refine zs3 ?_ | refine zs4 ?_ | refine zs5 ?_ | refine zs6 [] ?_); conv => whnf) | ((first | apply zi1 | apply zi2 | apply zi3 | apply zi4 | apply zi5) <;> intro _ <;> conv => whnf) | (refine VCall.intro (hD (.out i) _ (get_out hd _)) ?_; conv => whnf))
  exact VOut.setS (L := 0) rfl hd
theorem VOut.ownP {h : Hp} {loc : List Blk} {ds : List D} (j L : Nat) (hL : Nat.ble loc.length L = true) (hj : loc[j]? = some (.flat true ds)) : VOut h ⟨h.lift, loc⟩ (.ptr (.loc j) 0) (.ptr h.fresh 0) (h.push (.flat true ds)) := by
  refine VOut.upd [] [.flat true ds] [j] L hL (by intro p hp; cases hp) (by simp) rfl ?_ ?_ rfl
  · intro k b hk
    cases k with
    | zero => rw [List.getElem?_cons_zero, Option.some.injEq] at hk; subst hk; exact ⟨j, rfl, hj⟩
    | succ k => simp at hk
  · intro σ x hx
    have : (V.ptr h.fresh 0).ren (backR h.loc.length [j] L) = .ptr (.loc j) 0 := by simp [V.ren, backR, Hp.fresh]
    rw [this]; exact hx
theorem vc_Of (bs : List Int) (h : Hp) : VC Try.prog 22 [bytes bs] h (.ptr h.fresh 0) (h.push (deckB bs (0, 9))) := by
  refine VC.body Try.func22 rfl Try.ntmps22 Try.call22 (h.grows_push _) rfl ?_
  conv => whnf
  repeat (first | ((first | refine zs1 ?_ | refine zs2 ?_ | refine zs3 ?_ | refine zs4 ?_ | refine zs5 ?_ | refine zs6 [] ?_); conv => whnf))
  exact VOut.ownP 0 1 rfl rfl
theorem VOut.setF {h : Hp} {loc : List Blk} {i : Vm.Id} {b0 : Blk} {l : List D} {rw : Bool} {r : V} {L : Nat} (hL : Nat.ble loc.length L = true) (hb : h.get i = some b0) (hr : ∀ ρ, r.ren ρ = r) : VOut h ⟨outW h.lift i (.flat rw l), loc⟩ r r (h.set i (.flat rw l)) := by
  have hd : ∀ p ∈ [(i, Blk.flat rw l)], h.get p.1 ≠ none := by
    intro p hp
    simp only [List.mem_cons, List.not_mem_nil, or_false] at hp
    subst hp; simp only; rw [hb]; simp
  have := VOut.upd (loc := loc) (r1 := r) (r := r) [(i, .flat rw l)] [] [] L hL hd (by simp) rfl (by intro k b hk; simp at hk) (fun σ x hx => by rw [hr]; exact hx) (outer := outW h.lift i (.flat rw l)) rfl
  have he : (h.sets [(i, Blk.flat rw l)]).pushes [] = h.set i (.flat rw l) := by simp [Hp.sets, Hp.pushes]
  rw [he] at this
  exact this
end Go.Proofs.Ytkbbfeljlepgoaa

open Go.Vm
open Riv
namespace Go.Proofs.Ytkbbfeljlepgoaa
open Go.ChangeShapes Go.WideShapes Go.ChangeAt Go.RowKit

theorem open3 : Opens Try.prog 3 (fun n : Int => [DI n]) := Opens.int Try.underlying3
theorem open22 : Opens Try.prog 22 (fun l : List Int => [dints l]) := Opens.slice Try.underlying22 Vm.encI_len (by kernel_rfl) (by decide) open3
theorem open24 : Opens Try.prog 24 encM := (Opens.struct3 1 1 1 Try.underlying24 (by kernel_rfl) rfl rfl rfl (by kernel_rfl) (by kernel_rfl) (by kernel_rfl) open3 open3 open22).as (fun x => ⟨x.1, x.2.1, x.2.2⟩) encM fun _ => rfl
def dM (m : Mp) : D := .agg (encM m)
def dYs (l : List Mp) : D := .sl 3 l.length (l.flatMap encM)
theorem openM : OpenV Try.prog 24 dM := OpenV.struct Try.underlying24 open24
theorem openI : OpenV Try.prog 3 (fun n : Int => DI n) := OpenV.int Try.underlying3
theorem openL : OpenV Try.prog 22 dints := OpenV.slice Try.underlying22 (Opens.slice Try.underlying22 Vm.encI_len (by kernel_rfl) (by decide) open3)
theorem openYs : OpenV Try.prog 47 dYs := OpenV.slice Try.underlying47 (Opens.slice Try.underlying47 encM_len (by kernel_rfl) (by decide) open24)
def dU (l : List Int) : D := .sl 1 l.length (l.flatMap encU)
theorem openU : OpenV Try.prog 46 dU := OpenV.slice Try.underlying46 (Opens.slice Try.underlying46 encU_len (by kernel_rfl) (by decide) (Opens.int Try.underlying5))
def d8b (n : {n : Int // 0 ≤ n ∧ n ≤ 255}) : D := .s (.int .u8 n.1)
theorem openV_u8 {P : Program} {t : TypeId} (ht : P.underlying t = some (.int .u8)) : OpenV P t d8b := by
  intro W base H en v dd ps hok ⟨fuel, ht2⟩
  obtain ⟨n, h2, _, hw⟩ := DataW.trod_int ht ht2
  have hb : 0 ≤ n ∧ n ≤ 255 := by
    have hw2 : (decide ((0 : Int) ≤ n) && decide (n ≤ (255 : Int))) = true := hw
    simpa using hw2
  unfold Value.okWide at hok
  rw [ht] at hok
  simp only [Cell.okWide, ht] at hok
  refine ⟨⟨n, hb⟩, ?_⟩
  cases v <;> simp [Cell.ok, ht] at hok
  simp [Value.cells] at h2
  simp only [d8b, DR, S.val]
  rw [h2.1, h2.2]
theorem open8b : OpenV Try.prog 5 d8b := openV_u8 Try.underlying5
theorem ownKn : ownKnob Try.prog.godebug = none := by kernel_rfl
theorem laidOut : laidOutB Try.prog = true := by kernel_rfl
end Go.Proofs.Ytkbbfeljlepgoaa

open Go.Vm
open Riv
namespace Go.Vm
theorem VCode.lpoH {P : Program} {ro : Option Nat} {c : Code} {n : Nat} {fr : Fr} {outer0 : Id → Option Blk} {loc0 : List Blk} {marks marks0 : List Id} {Q : X → St → Prop} {Y : Type} (m : Nat) (slots : Y → List (Nat × V)) (outer : Y → Id → Option Blk) (loc : Y → List Blk) (Inv : Y → Prop) (μ : Y → Nat) (x0 : Y)
    (h0 : Inv x0) (ho : outer0 = outer x0) (hst : frSK (slots x0) .leaf fun fr' => Retell isOut ⟨n, fr, ⟨outer x0, loc0⟩, marks0⟩ ⟨n, fr', ⟨outer x0, loc x0⟩, marks⟩)
    (hb : ∀ x, Inv x → frSK (slots x) .leaf fun fr' => vcut P ro isOut m c ⟨n, fr', ⟨outer x, loc x⟩, marks⟩ (fun e st' => match e with
      | .normal => LEndO n marks slots outer loc Inv μ x st'
      | .exit i => Q (.exit i) st'
      | .ret => Q .ret st')) : VCode P ro isOut (.loop c) ⟨n, fr, ⟨outer0, loc0⟩, marks0⟩ Q := by
  subst ho
  exact VCode.lpoC m slots outer loc Inv μ x0 h0 hst hb
end Go.Vm
namespace Go.Proofs.Ytkbbfeljlepgoaa
set_option maxRecDepth 20000
set_option maxHeartbeats 4000000

theorem dealt (bs : List Int) : Dealt (dNx bs) :=
  ⟨fun d k => (dNx_bd bs d k).1, fun d k hk => by have := (dNx_bd bs d k).2.1; omega, fun d k => (dNx_bd bs d k).2.2⟩
def mdM (bs : List Int) (d : Dk) (w h : Int) : Mp := ⟨4 + (mdW (dNx bs) d w).1, 1 + (mdH (dNx bs) d w h).1, (madeX (dNx bs) d w h).2⟩
theorem tdiv3 (W : Nat) : (W : Int).tdiv 3 = ((W / 3 : Nat) : Int) := rfl
theorem vc_Made (bs : List Int) (d : Dk) (w hh : Int) (i : Vm.Id) (h : Hp) (hN : d.1 ≤ 900000) (hw : 4 ≤ w ∧ w ≤ 12) (hh1 : 1 ≤ hh ∧ hh ≤ 12) (hd : h.get i = some (deckB bs d)) :
    VC Try.prog 27 [.ptr i 0, I w, I hh] h (vM (mdM bs d w hh)) (h.set i (deckB bs (madeX (dNx bs) d w hh).1)) := by
  obtain ⟨W, H, eW, eH, hWw, hHh, hW4, hok, hdn, hX⟩ := madeX_ok (dealt bs) (d := d) hw hh1
  have n1 := (dealt bs).n d (w - 4 + 1)
  have c1 := fun (h2 : Hp) hg => vc_between bs d 4 w (.out i) h2 (by omega) (by omega) (by omega) hg
  rw [show dNx bs d (w - 4 + 1) = mdW (dNx bs) d w from rfl] at c1 n1
  have n2 := (dealt bs).n (mdW (dNx bs) d w).2 (hh - 1 + 1)
  have c2 := fun (h2 : Hp) hg => vc_between bs (mdW (dNx bs) d w).2 1 hh (.out i) h2 (by omega) (by omega) (by omega) hg
  rw [show dNx bs (mdW (dNx bs) d w).2 (hh - 1 + 1) = mdH (dNx bs) d w hh from rfl] at c2 n2
  have hres : mdM bs d w hh = ⟨W, H, (rowsM (dNx bs) W ((mdH (dNx bs) d w hh).2, []) H).2⟩ := by unfold mdM; rw [eW, eH, hX]
  rw [hres, hX]
  rw [eW] at c1
  rw [eH] at c2
  have hR := rowsM_ok (dealt bs) (W := W) hW4 (d := (mdH (dNx bs) d w hh).2)
  have hRs : ∀ y, rowsM (dNx bs) W ((mdH (dNx bs) d w hh).2, []) (y + 1) = rowM (dNx bs) W (rowsM (dNx bs) W ((mdH (dNx bs) d w hh).2, []) y) := fun y => rfl
  have hR0 : rowsM (dNx bs) W ((mdH (dNx bs) d w hh).2, []) 0 = ((mdH (dNx bs) d w hh).2, []) := rfl
  generalize (mdW (dNx bs) d w).2 = D1 at *
  generalize (mdH (dNx bs) d w hh).2 = D0 at *
  generalize rowsM (dNx bs) W (D0, []) = X at *
  clear hres hX hok hdn
  refine VC.bodyC 2 Try.func27 rfl Try.ntmps27 Try.call27 (h.grows_set _ _) rfl ?_
  conv => whnf
  repeat' (first | ((first | refine zs1 ?_ | refine zs2 ?_ | refine zs3 ?_ | refine zs4 ?_ | refine zs5 ?_); conv => whnf) | ((first | apply zi1 | apply zi2 | apply zi3 | apply zi4 | apply zi5) <;> intro _ <;> conv => whnf) | (refine VCall.intro (c1 _ (get_out hd _)) ?_; conv => whnf) | (refine VCall.intro (c2 _ (outW_get _ _ _ _)) ?_; conv => whnf))
  refine VCut.atO (marks := []) 99 [(0, .ptr (.out i) 0), (6, .ptr (.loc 0) 0), (7, .ptr (.loc 1) 0)] (outW h.lift i (deckB bs D0)) [.flat true [DI 0, DI 0, .nilslice], .cells true [I W, I H, .gl (.loc 2) 1 0], .flat true []] ?_ ?_ ?_
  · funext j; by_cases e : j = i <;> simp [outW, e, Hp.set]
  · conv => whnf
    refine Retell.turn ⟨[0,1,2], 2, [], []⟩ (TurnOk.mk' _ _ [] [] (OutOk.outW (OutOk.lift _) rfl) rfl (by decide) zb trivial trivial rfl) zw zm
  conv => whnf
  repeat' (first | ((first | refine zs1 ?_ | refine zs2 ?_ | refine zs3 ?_ | refine zs4 ?_ | refine zs5 ?_); conv => whnf) | ((first | apply zi1 | apply zi2 | apply zi3 | apply zi4 | apply zi5) <;> intro _ <;> conv => whnf))
  refine VCode.lpoH (marks := []) 99 (fun y : Nat => [(0, .ptr (.out i) 0), (6, .ptr (.loc 0) 0), (7, .ptr (.loc 1) 0), (19, I H), (20, I y)]) (fun y => outW h.lift i (deckB bs (X y).1)) (fun y => [.flat true [DI 0, DI 0, .nilslice], .cells true [I W, I H, .gl (.loc 2) 1 (X y).2.length], .flat true ((X y).2.flatMap Vm.encI)]) (fun y => y ≤ H) (fun y => H - y) 0 (Nat.zero_le _) (by rw [hR0]) ?_ ?_
  · rw [hR0]
    conv => whnf
    refine Retell.turn ⟨[0,1,2], 9, [], []⟩ (TurnOk.mk' _ _ [] [] (OutOk.outW (OutOk.lift _) rfl) rfl (by decide) zb trivial trivial rfl) zw zm
  rintro y hy
  rcases Nat.lt_or_ge y H with h4 | h4
  · have hRy := hR y
    have hRs := hRs y
    generalize X y = x at *
    have r1 := hRy.n
    have r2 := hRy.len
    have r3 : (2 + 3 * W) * y ≤ 38 * 12 := Nat.mul_le_mul (by omega) (by omega)
    have r4 : y * W ≤ 12 * 12 := Nat.mul_le_mul (by omega) (by omega)
    have a1 := (dealt bs).lo x.1 (max 1 ((W / 3 : Nat) : Int) - 1 + 1)
    have a2 := (dealt bs).hi x.1 (max 1 ((W / 3 : Nat) : Int) - 1 + 1) (by omega)
    have a3 := (dealt bs).n x.1 (max 1 ((W / 3 : Nat) : Int) - 1 + 1)
    have g1 := fun (h2 : Hp) hg => vc_between bs x.1 1 (max 1 ((W / 3 : Nat) : Int)) (.out i) h2 (by omega) (by omega) (by omega) hg
    rw [show dNx bs x.1 (max 1 ((W / 3 : Nat) : Int) - 1 + 1) = Riv.rowA (dNx bs) W x.1 from rfl] at a1 a2 a3 g1
    unfold rowM Riv.rowB at hRs
    generalize Riv.rowA (dNx bs) W x.1 = ra at *
    have b1 := (dealt bs).lo ra.2 ((W : Int) - 1 - max (1 + ra.1) ((W : Int) - 3) + 1)
    have b2 := (dealt bs).hi ra.2 ((W : Int) - 1 - max (1 + ra.1) ((W : Int) - 3) + 1) (by omega)
    have b3 := (dealt bs).n ra.2 ((W : Int) - 1 - max (1 + ra.1) ((W : Int) - 3) + 1)
    have g2 := fun (h2 : Hp) hg => vc_between bs ra.2 (max (1 + ra.1) ((W : Int) - 3)) ((W : Int) - 1) (.out i) h2 (by omega) (by omega) (by omega) hg
    generalize dNx bs ra.2 ((W : Int) - 1 - max (1 + ra.1) ((W : Int) - 3) + 1) = rb at *
    have hZ := cellsM_ok (dealt bs) (1 + ra.1) (max (1 + ra.1) ((W : Int) - 3) + rb.1) (rb.2, x.2)
    have hZs : ∀ k, cellsM (dNx bs) (1 + ra.1) (max (1 + ra.1) ((W : Int) - 3) + rb.1) (rb.2, x.2) (k + 1) = ((cellM (dNx bs) (1 + ra.1) (max (1 + ra.1) ((W : Int) - 3) + rb.1) (cellsM (dNx bs) (1 + ra.1) (max (1 + ra.1) ((W : Int) - 3) + rb.1) (rb.2, x.2) k).1 k).2, (cellsM (dNx bs) (1 + ra.1) (max (1 + ra.1) ((W : Int) - 3) + rb.1) (rb.2, x.2) k).2 ++ [(cellM (dNx bs) (1 + ra.1) (max (1 + ra.1) ((W : Int) - 3) + rb.1) (cellsM (dNx bs) (1 + ra.1) (max (1 + ra.1) ((W : Int) - 3) + rb.1) (rb.2, x.2) k).1 k).1]) := fun k => rfl
    have hZ0 : cellsM (dNx bs) (1 + ra.1) (max (1 + ra.1) ((W : Int) - 3) + rb.1) (rb.2, x.2) 0 = (rb.2, x.2) := rfl
    have ht : IntKind.i64.wrap ((W : Int).tdiv 3) = ((W / 3 : Nat) : Int) := by rw [tdiv3, wrap_i64 (by omega)]
    rw [← ht] at g1
    generalize max (1 + ra.1) ((W : Int) - 3) + rb.1 = B2 at *
    generalize hA2 : 1 + ra.1 = A2 at *
    generalize cellsM (dNx bs) A2 B2 (rb.2, x.2) = Z at *
    conv => whnf
    repeat' (first | ((first | refine zs1 ?_ | refine zs2 ?_ | refine zs3 ?_ | refine zs4 ?_ | refine zs5 ?_); conv => whnf) | ((first | apply zi1 | apply zi2 | apply zi3 | apply zi4 | apply zi5) <;> intro _ <;> conv => whnf) | (refine VCall.intro (g1 _ (outW_get _ _ _ _)) ?_; conv => whnf) | (refine VCall.intro (g2 _ (outW_get _ _ _ _)) ?_; conv => whnf))
    all_goals try (exfalso; omega)
    refine VCode.lpo (fun k : Nat => [(0, .ptr (.out i) 0), (6, .ptr (.loc 0) 0), (7, .ptr (.loc 1) 0), (8, I A2), (9, I B2), (19, I H), (20, I y), (39, I W), (40, I k)]) (fun k => outW h.lift i (deckB bs (Z k).1)) (fun k => [.flat true [DI 0, DI 0, .nilslice], .cells true [I W, I H, .gl (.loc 2) 1 (Z k).2.length], .flat true ((Z k).2.flatMap Vm.encI)]) (fun k => k ≤ W) (fun k => W - k) 0 (Nat.zero_le _) ?_ ?_ ?_
    · rw [hZ0]; funext j; by_cases e : j = i <;> simp [outW, e]
    · rw [hZ0]
      conv => whnf
      refine Retell.turn ⟨[0,1,2], 9, [], []⟩ (TurnOk.mk' _ _ [] [] (OutOk.outW (OutOk.lift _) rfl) rfl (by decide) zb trivial trivial rfl) zw zm
    rintro k hk
    rcases Nat.lt_or_ge k W with h5 | h5
    · have hZs := hZs k
      obtain ⟨z1, l, z2, z3, _, _⟩ := hZ k
      have z4 : (Z k).2.length = x.2.length + k := by rw [z2, List.length_append, z3]
      clear z2 z3
      dsimp only at z1
      generalize Z k = z at *
      unfold cellM at hZs
      have n7 := (dealt bs).n z.1 7
      have q7 := fun (h2 : Hp) hg => vc_coin bs z.1 7 (.out i) h2 (by omega) hg
      have n20 := (dealt bs).n (dNx bs z.1 7).2 20
      have q20 := fun (h2 : Hp) hg => vc_coin bs (dNx bs z.1 7).2 20 (.out i) h2 (by omega) hg
      have q2 := fun (h2 : Hp) hg => vc_between bs (dNx bs (dNx bs z.1 7).2 20).2 1 2 (.out i) h2 (by omega) (by omega) (by omega) hg
      rw [show (2 : Int) - 1 + 1 = 2 from rfl] at q2
      generalize dNx bs z.1 7 = w7 at *
      generalize dNx bs w7.2 20 = w20 at *
      generalize dNx bs w20.2 2 = w2 at *
      by_cases t1 : (k : Int) < A2
      · rw [if_pos t1] at hZs
        have hs1 : Z (k + 1) = (z.1, z.2 ++ [(1 : Int)]) := hZs
        conv => whnf
        repeat' (first | ((first | refine zs1 ?_ | refine zs2 ?_ | refine zs3 ?_ | refine zs4 ?_ | refine zs5 ?_); conv => whnf) | ((first | apply zi1 | apply zi2 | apply zi3 | apply zi4 | apply zi5) <;> intro _ <;> first | (exfalso; omega) | contradiction | (conv => whnf)))
        refine VMem.app1 (l := z.2) (1 : Int) Vm.encI_len rfl rfl rfl rfl rfl (by omega) ?_
        conv => whnf
        repeat' (first | ((first | refine zs1 ?_ | refine zs2 ?_ | refine zs3 ?_ | refine zs4 ?_ | refine zs5 ?_); conv => whnf) | ((first | apply zi1 | apply zi2 | apply zi3 | apply zi4 | apply zi5) <;> intro _ <;> first | (exfalso; omega) | contradiction | (conv => whnf)))
        refine LEndO.intro (k + 1) (by omega) (by omega) (by rw [hs1]; exact rfl) ?_
        have hl1 : z.2.length + 1 = (z.2 ++ [(1 : Int)]).length := by rw [List.length_append]; rfl
        rw [hs1, hl1]
        dsimp only
        conv => whnf
        refine Retell.turn ⟨[0,1,4], 9, [], []⟩ (TurnOk.mk' _ _ [] [] (OutOk.outW (OutOk.lift _) rfl) rfl (by decide) zb trivial trivial rfl) zw zm
      by_cases t2 : B2 ≤ (k : Int)
      · rw [if_neg t1, if_pos t2] at hZs
        have hs1 : Z (k + 1) = (z.1, z.2 ++ [(2 : Int)]) := hZs
        conv => whnf
        repeat' (first | ((first | refine zs1 ?_ | refine zs2 ?_ | refine zs3 ?_ | refine zs4 ?_ | refine zs5 ?_); conv => whnf) | ((first | apply zi1 | apply zi2 | apply zi3 | apply zi4 | apply zi5) <;> intro _ <;> first | (exfalso; omega) | contradiction | (conv => whnf)))
        refine VMem.app1 (l := z.2) (2 : Int) Vm.encI_len rfl rfl rfl rfl rfl (by omega) ?_
        conv => whnf
        repeat' (first | ((first | refine zs1 ?_ | refine zs2 ?_ | refine zs3 ?_ | refine zs4 ?_ | refine zs5 ?_); conv => whnf) | ((first | apply zi1 | apply zi2 | apply zi3 | apply zi4 | apply zi5) <;> intro _ <;> first | (exfalso; omega) | contradiction | (conv => whnf)))
        refine LEndO.intro (k + 1) (by omega) (by omega) (by rw [hs1]; exact rfl) ?_
        have hl1 : z.2.length + 1 = (z.2 ++ [(2 : Int)]).length := by rw [List.length_append]; rfl
        rw [hs1, hl1]
        dsimp only
        conv => whnf
        refine Retell.turn ⟨[0,1,4], 9, [], []⟩ (TurnOk.mk' _ _ [] [] (OutOk.outW (OutOk.lift _) rfl) rfl (by decide) zb trivial trivial rfl) zw zm
      by_cases t3 : w7.1 = 0
      · rw [if_neg t1, if_neg t2, if_pos t3] at hZs
        have hs1 : Z (k + 1) = (w7.2, z.2 ++ [(3 : Int)]) := hZs
        rw [show (w7.1 == 0) = true by rw [t3]; rfl] at q7
        conv => whnf
        repeat' (first | ((first | refine zs1 ?_ | refine zs2 ?_ | refine zs3 ?_ | refine zs4 ?_ | refine zs5 ?_); conv => whnf) | ((first | apply zi1 | apply zi2 | apply zi3 | apply zi4 | apply zi5) <;> intro _ <;> first | (exfalso; omega) | contradiction | (conv => whnf)) | (refine VCall.intro (q7 _ (outW_get _ _ _ _)) ?_; conv => whnf))
        refine VMem.app1 (l := z.2) (3 : Int) Vm.encI_len rfl rfl rfl rfl rfl (by omega) ?_
        conv => whnf
        repeat' (first | ((first | refine zs1 ?_ | refine zs2 ?_ | refine zs3 ?_ | refine zs4 ?_ | refine zs5 ?_); conv => whnf) | ((first | apply zi1 | apply zi2 | apply zi3 | apply zi4 | apply zi5) <;> intro _ <;> first | (exfalso; omega) | contradiction | (conv => whnf)))
        refine LEndO.intro (k + 1) (by omega) (by omega) (by rw [hs1]; exact (outW_same _ _ _ _)) ?_
        have hl1 : z.2.length + 1 = (z.2 ++ [(3 : Int)]).length := by rw [List.length_append]; rfl
        rw [hs1, hl1]
        dsimp only
        conv => whnf
        refine Retell.turn ⟨[0,1,4], 9, [], []⟩ (TurnOk.mk' _ _ [] [] (OutOk.outW (OutOk.lift _) rfl) rfl (by decide) zb trivial trivial rfl) zw zm
      rw [show (w7.1 == 0) = false by rw [beq_eq_false_iff_ne]; exact t3] at q7
      by_cases t4 : w20.1 = 0
      · rw [if_neg t1, if_neg t2, if_neg t3, if_pos t4] at hZs
        have hs1 : Z (k + 1) = (w2.2, z.2 ++ [1 + w2.1]) := hZs
        rw [show (w20.1 == 0) = true by rw [t4]; rfl] at q20
        conv => whnf
        repeat' (first | ((first | refine zs1 ?_ | refine zs2 ?_ | refine zs3 ?_ | refine zs4 ?_ | refine zs5 ?_); conv => whnf) | ((first | apply zi1 | apply zi2 | apply zi3 | apply zi4 | apply zi5) <;> intro _ <;> first | (exfalso; omega) | contradiction | (conv => whnf)) | (refine VCall.intro (q7 _ (outW_get _ _ _ _)) ?_; conv => whnf) | (refine VCall.intro (q20 _ (outW_get _ _ _ _)) ?_; conv => whnf))
        refine zs6 [(1, 3)] ?_
        conv => whnf
        repeat' (first | ((first | refine zs1 ?_ | refine zs2 ?_ | refine zs3 ?_ | refine zs4 ?_ | refine zs5 ?_); conv => whnf) | ((first | apply zi1 | apply zi2 | apply zi3 | apply zi4 | apply zi5) <;> intro _ <;> first | (exfalso; omega) | contradiction | (conv => whnf)) | (refine VCall.intro (q2 _ (outW_get _ _ _ _)) ?_; conv => whnf))
        refine VMem.app1 (l := z.2) (1 + w2.1 : Int) Vm.encI_len rfl rfl rfl rfl rfl (by omega) ?_
        conv => whnf
        repeat' (first | ((first | refine zs1 ?_ | refine zs2 ?_ | refine zs3 ?_ | refine zs4 ?_ | refine zs5 ?_); conv => whnf) | ((first | apply zi1 | apply zi2 | apply zi3 | apply zi4 | apply zi5) <;> intro _ <;> first | (exfalso; omega) | contradiction | (conv => whnf)))
        refine LEndO.intro (k + 1) (by omega) (by omega) (by rw [hs1]; exact ((outW_same _ _ _ _).trans ((outW_same _ _ _ _).trans (outW_same _ _ _ _)))) ?_
        have hl1 : z.2.length + 1 = (z.2 ++ [(1 + w2.1 : Int)]).length := by rw [List.length_append]; rfl
        rw [hs1, hl1]
        dsimp only
        conv => whnf
        refine Retell.turn ⟨[0,1,4], 9, [], []⟩ (TurnOk.mk' _ _ [] [] (OutOk.outW (OutOk.lift _) rfl) rfl (by decide) zb trivial trivial rfl) zw zm
      · rw [if_neg t1, if_neg t2, if_neg t3, if_neg t4] at hZs
        have hs1 : Z (k + 1) = (w20.2, z.2 ++ [(0 : Int)]) := hZs
        rw [show (w20.1 == 0) = false by rw [beq_eq_false_iff_ne]; exact t4] at q20
        conv => whnf
        repeat' (first | ((first | refine zs1 ?_ | refine zs2 ?_ | refine zs3 ?_ | refine zs4 ?_ | refine zs5 ?_); conv => whnf) | ((first | apply zi1 | apply zi2 | apply zi3 | apply zi4 | apply zi5) <;> intro _ <;> first | (exfalso; omega) | contradiction | (conv => whnf)) | (refine VCall.intro (q7 _ (outW_get _ _ _ _)) ?_; conv => whnf) | (refine VCall.intro (q20 _ (outW_get _ _ _ _)) ?_; conv => whnf))
        refine VMem.app1 (l := z.2) (0 : Int) Vm.encI_len rfl rfl rfl rfl rfl (by omega) ?_
        conv => whnf
        repeat' (first | ((first | refine zs1 ?_ | refine zs2 ?_ | refine zs3 ?_ | refine zs4 ?_ | refine zs5 ?_); conv => whnf) | ((first | apply zi1 | apply zi2 | apply zi3 | apply zi4 | apply zi5) <;> intro _ <;> first | (exfalso; omega) | contradiction | (conv => whnf)))
        refine LEndO.intro (k + 1) (by omega) (by omega) (by rw [hs1]; exact ((outW_same _ _ _ _).trans (outW_same _ _ _ _))) ?_
        have hl1 : z.2.length + 1 = (z.2 ++ [(0 : Int)]).length := by rw [List.length_append]; rfl
        rw [hs1, hl1]
        dsimp only
        conv => whnf
        refine Retell.turn ⟨[0,1,4], 9, [], []⟩ (TurnOk.mk' _ _ [] [] (OutOk.outW (OutOk.lift _) rfl) rfl (by decide) zb trivial trivial rfl) zw zm
    · obtain rfl : k = W := by omega
      rw [← hRs]
      conv => whnf
      repeat' (first | ((first | refine zs1 ?_ | refine zs2 ?_ | refine zs3 ?_ | refine zs4 ?_ | refine zs5 ?_); conv => whnf) | ((first | apply zi1 | apply zi2 | apply zi3 | apply zi4 | apply zi5) <;> intro _ <;> first | (exfalso; omega) | contradiction | (conv => whnf)))
      refine LEndO.intro (y + 1) (by omega) (by omega) rfl ?_
      conv => whnf
      refine Retell.turn ⟨[0,1,2], 9, [], []⟩ (TurnOk.mk' _ _ [] [] (OutOk.outW (OutOk.lift _) rfl) rfl (by decide) zb trivial trivial rfl) zw zm
  · obtain rfl : y = H := by omega
    generalize X y = x at *
    conv => whnf
    repeat' (first | ((first | refine zs1 ?_ | refine zs2 ?_ | refine zs3 ?_ | refine zs4 ?_ | refine zs5 ?_); conv => whnf) | ((first | apply zi1 | apply zi2 | apply zi3 | apply zi4 | apply zi5) <;> intro _ <;> first | (exfalso; omega) | contradiction | (conv => whnf)))
    have hfl : (x.2.flatMap Vm.encI).length = x.2.length * 1 := flat_len Vm.encI_len _
    refine VOut.turn ⟨[], 9, [(2, x.2.flatMap Vm.encI)], []⟩ (loc' := []) (r1' := vM ⟨W, y, x.2⟩) (TurnOk.mk' [] 9 [(2, x.2.flatMap Vm.encI)] [] (OutOk.outW (OutOk.lift _) rfl) rfl List.nodup_nil BTos.nil (FzAll.flat rfl FzAll.nil) trivial rfl) zw ?_
    exact VOut.setF (L := 0) rfl hd fun _ => rfl
end Go.Proofs.Ytkbbfeljlepgoaa

open Go.Vm
open Riv
namespace Go.Proofs.Ytkbbfeljlepgoaa
set_option maxRecDepth 20000
set_option maxHeartbeats 4000000
section
variable {W H : Nat} {c : List Int}
abbrev mp (W H : Nat) (c : List Int) : Mp := ⟨W, H, c⟩
theorem lk0 (o : MOk W H c) {s : Int} (hs : s = 1 ∨ s = 2) : lkE (mp W H c) s = 0 := by
  unfold lkE; rw [if_pos (chkM_of o), if_pos hs]
theorem fr0 (o : MOk W H c) {s : Int} (hs : s = 1 ∨ s = 2) : frL (mp W H c) s = bfs c W s := by
  unfold frL; rw [if_pos (lk0 o hs)]; rfl
theorem bfsH (o : MOk W H c) (s : Int) : Hld c W s (bfs c W s) := bfs_hld (H := H) (by have := o.w; omega) o.len
theorem bfs_bd (o : MOk W H c) (s : Int) (k : Nat) : -1 ≤ at0 (bfs c W s) k ∧ at0 (bfs c W s) k ≤ 144 := by
  have h1 := (bfsH o s).low k
  have h2 := bfs_lt (c := c) (W := W) (H := H) (s := s) (by have := o.w; omega) o.len k
  have h3 := MOk.le o
  omega
theorem kO (o : MOk W H c) (h : Hp) : VC Try.prog 17 [vM (mp W H c)] h (.tuple [ints (owns c W), I 0]) h := by
  have := vc_Owners (mp W H c) h (by have := MOk.le o; show c.length ≤ _; omega)
  rw [if_pos (chkM_of o), chkM_of o] at this
  exact this
theorem kF (o : MOk W H c) {s : Int} (hs : s = 1 ∨ s = 2) (h : Hp) : VC Try.prog 28 [vM (mp W H c), I s] h (.tuple [ints (bfs c W s), I 0]) h := by
  have := vc_Far (mp W H c) s h (by have := MOk.le o; show c.length ≤ _; omega)
  rw [fr0 o hs, lk0 o hs] at this
  exact this
theorem kH (o : MOk W H c) {s : Int} (hs : s = 1 ∨ s = 2) (T : List Int) (hT : T.length = c.length) (h : Hp) : VC Try.prog 38 [vM (mp W H c), I s, ints T] h (.tuple [B (decide (T = bfs c W s)), I 0]) h := by
  have hm := MOk.le o
  have := vc_Holds (mp W H c) s T h (by show c.length ≤ _; omega) (by omega)
  have e : hdE (mp W H c) s T = 0 := by unfold hdE; rw [if_pos (lk0 o hs), if_pos hT]
  unfold hdB at this
  rw [e, fr0 o hs, decide_eq_true rfl, Bool.true_and] at this
  exact this
end
end Go.Proofs.Ytkbbfeljlepgoaa

open Go.Vm
open Riv
namespace Go.Proofs.Ytkbbfeljlepgoaa
set_option maxRecDepth 20000
set_option maxHeartbeats 4000000

def qN (n : Int) (x : Riv.Sh) : Bool := decide (x.f = n) && x.nr
theorem vc_near31 (x : Riv.Sh) (n : Int) (h : Hp) : VC Try.prog 31 [vSh x, .fp [DI n]] h (B (qN n x)) h := by
  obtain ⟨f, o, r⟩ := x
  unfold qN
  by_cases e : f = n
  · rw [decide_eq_true e, Bool.true_and]
    subst e
    refine VC.body Try.func31 rfl Try.ntmps31 Try.call31 (h.grows_refl) rfl ?_; conv => whnf
    repeat' (first | ((first | refine zs1 ?_ | refine zs2 ?_ | refine zs3 ?_ | refine zs4 ?_ | refine zs5 ?_); conv => whnf) | ((first | apply zi1 | apply zi2 | apply zi3 | apply zi4 | apply zi5) <;> intro _ <;> first | (exfalso; omega) | contradiction | (conv => whnf)))
    exact VOut.same rfl
  · rw [decide_eq_false e, Bool.false_and]
    refine VC.body Try.func31 rfl Try.ntmps31 Try.call31 (h.grows_refl) rfl ?_; conv => whnf
    repeat' (first | ((first | refine zs1 ?_ | refine zs2 ?_ | refine zs3 ?_ | refine zs4 ?_ | refine zs5 ?_); conv => whnf) | ((first | apply zi1 | apply zi2 | apply zi3 | apply zi4 | apply zi5) <;> intro _ <;> first | (exfalso; omega) | contradiction | (conv => whnf)))
    exact VOut.same rfl
theorem vc_IndexFSh (l : List Riv.Sh) (n : Int) (hl : l.length ≤ 4000000) (h : Hp) :
    VC Try.prog 67 [shs l, .func (.func 31) [] [.fp [DI n]]] h (I (fidx (qN n) l 0)) h := by
  obtain ⟨E, hE⟩ : ∃ E, E = fidx (qN n) l 0 := ⟨_, rfl⟩
  rw [← hE]
  refine VC.body Try.func67 rfl Try.ntmps67 Try.call67 (h.grows_refl) rfl ?_; conv => whnf
  repeat (first | ((first | refine zs1 ?_ | refine zs2 ?_ | refine zs3 ?_ | refine zs4 ?_ | refine zs5 ?_ | refine zs6 [] ?_); conv => whnf))
  refine VCode.lp (fun k : Nat => [(0, shs l), (1, .func (.func 31) [] [.fp [DI n]]), (7, I l.length), (8, I k)]) (fun _ => []) (fun k => k ≤ l.length ∧ E = fidx (qN n) (l.drop k) k) (fun k => l.length - k) 0 ⟨Nat.zero_le _, hE⟩ ?_ ?_
  · conv => whnf
    refine Retell.turn ⟨[], 0, [], []⟩ (TurnOk.mk' _ _ [] [] (OutOk.lift _) rfl (by decide) zb trivial trivial rfl) zw zm
  · rintro k ⟨h1, h2⟩
    conv => whnf
    refine VIte.dec (fun h3 => ?_) (fun h3 => ?_)
    · have ha : l[k]? = some l[k] := List.getElem?_eq_getElem (by omega)
      have hm := vc_near31 l[k] n
      generalize l[k] = a at ha hm
      rw [fidx_at ha] at h2
      conv => whnf
      repeat' (first | ((first | refine zs1 ?_ | refine zs2 ?_ | refine zs3 ?_ | refine zs4 ?_ | refine zs5 ?_ | refine zs6 [] ?_); conv => whnf) | ((first | apply zi1 | apply zi2 | apply zi3 | apply zi4 | apply zi5) <;> intro _ <;> conv => whnf) | (refine VAny.ix encSh_len k (by omega) rfl ha ?_; conv => whnf))
      refine VCall.intro (hm _) ?_
      conv => whnf
      cases hq : qN n a
      · rw [hq] at h2
        conv => whnf
        repeat (first | ((first | refine zs1 ?_ | refine zs2 ?_ | refine zs3 ?_ | refine zs4 ?_ | refine zs5 ?_ | refine zs6 [] ?_); conv => whnf))
        refine LEnd.intro (k + 1) ⟨by omega, h2⟩ (by omega) ?_
        conv => whnf
        refine Retell.turn ⟨[], 0, [], []⟩ (TurnOk.mk' _ _ [] [] (OutOk.lift _) rfl (by decide) zb trivial trivial rfl) zw zm
      · rw [hq] at h2
        rw [h2]
        conv => whnf
        repeat (first | ((first | refine zs1 ?_ | refine zs2 ?_ | refine zs3 ?_ | refine zs4 ?_ | refine zs5 ?_ | refine zs6 [] ?_); conv => whnf))
        exact VOut.same rfl
    · rw [List.drop_of_length_le (by omega), fidx] at h2
      rw [h2]
      conv => whnf
      repeat (first | ((first | refine zs1 ?_ | refine zs2 ?_ | refine zs3 ?_ | refine zs4 ?_ | refine zs5 ?_ | refine zs6 [] ?_); conv => whnf))
      exact VOut.same rfl
theorem vc_ContFSh (l : List Riv.Sh) (n : Int) (hl : l.length ≤ 4000000) (h : Hp) :
    VC Try.prog 30 [shs l, .func (.func 31) [] [.fp [DI n]]] h (B (l.any (qN n))) h := by
  have e := fidx_nn (q := qN n) l 0 (Int.le_refl _)
  have c := fun h => vc_IndexFSh l n hl h
  generalize fidx (qN n) l 0 = E at e c
  refine VC.body Try.func30 rfl Try.ntmps30 Try.call30 (h.grows_refl) rfl ?_; conv => whnf
  repeat' (first | ((first | refine zs1 ?_ | refine zs2 ?_ | refine zs3 ?_ | refine zs4 ?_ | refine zs5 ?_ | refine zs6 [] ?_); conv => whnf) | ((first | apply zi1 | apply zi2 | apply zi3 | apply zi4 | apply zi5) <;> intro _ <;> conv => whnf) | (refine VCall.intro (c _) ?_; conv => whnf))
  refine VOut.same ?_
  show B (decide (0 ≤ E)) = _
  congr 1
  rw [Bool.eq_iff_iff, decide_eq_true_eq]
  exact e
theorem VOut.ownM {h : Hp} {loc : List Blk} {p q : Int} {esz n : Nat} {ds : List Vm.D} (j L : Nat) (hL : Nat.ble loc.length L = true) (hj : loc[j]? = some (.flat true ds)) : VOut h ⟨h.lift, loc⟩ (.agg [I p, I q, .gl (.loc j) esz n]) (.agg [I p, I q, .gl h.fresh esz n]) (h.push (.flat true ds)) := by
  refine VOut.upd [] [.flat true ds] [j] L hL (by intro p hp; cases hp) (by simp) rfl ?_ ?_ rfl
  · intro k b hk
    cases k with
    | zero => rw [List.getElem?_cons_zero, Option.some.injEq] at hk; subst hk; exact ⟨j, rfl, hj⟩
    | succ k => simp at hk
  · intro σ x hx
    have : (V.agg [I p, I q, .gl h.fresh esz n]).ren (backR h.loc.length [j] L) = .agg [I p, I q, .gl (.loc j) esz n] := by simp [V.ren, V.rens, backR, Hp.fresh]
    rw [this]; exact hx
theorem vc_cloneIO (l : List Int) (h : Hp) (hl : l.length ≤ 4000000) : VC Try.prog 34 [ints l] h (.gl h.fresh 1 l.length) (h.push (.flat true (l.flatMap Vm.encI))) := by
  refine VC.body Try.func34 rfl Try.ntmps34 Try.call34 (h.grows_push _) rfl ?_
  conv => whnf
  repeat' (first | ((first | refine zs1 ?_ | refine zs2 ?_ | refine zs3 ?_ | refine zs4 ?_ | refine zs5 ?_); conv => whnf) | ((first | apply zi1 | apply zi2 | apply zi3 | apply zi4 | apply zi5) <;> intro _ <;> conv => whnf))
  refine VMem.appNil Vm.encI_len rfl rfl rfl (by omega) ?_
  conv => whnf
  repeat' (first | ((first | refine zs1 ?_ | refine zs2 ?_ | refine zs3 ?_ | refine zs4 ?_ | refine zs5 ?_); conv => whnf) | ((first | apply zi1 | apply zi2 | apply zi3 | apply zi4 | apply zi5) <;> intro _ <;> conv => whnf))
  exact VOut.own1 0 1 rfl rfl
theorem vc_CloneMapO (m : Mp) (h : Hp) (hn : m.c.length ≤ 4000000) : VC Try.prog 13 [vM m] h (.agg [I m.w, I m.h, .gl h.fresh 1 m.c.length]) (h.push (.flat true (m.c.flatMap Vm.encI))) := by
  have c := fun h => vc_cloneIO m.c h hn
  refine VC.body Try.func13 rfl Try.ntmps13 Try.call13 (h.grows_push _) rfl ?_; conv => whnf
  repeat' (first | ((first | refine zs1 ?_ | refine zs2 ?_ | refine zs3 ?_ | refine zs4 ?_ | refine zs5 ?_); conv => whnf) | ((first | apply zi1 | apply zi2 | apply zi3 | apply zi4 | apply zi5) <;> intro _ <;> conv => whnf))
  refine zs6 [(1, 6), (3, 6)] ?_
  conv => whnf
  repeat' (first | ((first | refine zs1 ?_ | refine zs2 ?_ | refine zs3 ?_ | refine zs4 ?_ | refine zs5 ?_); conv => whnf) | ((first | apply zi1 | apply zi2 | apply zi3 | apply zi4 | apply zi5) <;> intro _ <;> conv => whnf) | (refine VCall.intro (c _) ?_; conv => whnf))
  exact VOut.ownM (h := h) 2 3 rfl rfl
theorem kI {W H : Nat} {c : List Int} (o : MOk W H c) (h : Hp) : VC Try.prog 15 [vM (mp W H c)] h (.tuple [shs (shr c W), I 0]) h := by
  have := vc_Islands (mp W H c) h (by have := MOk.le o; show c.length ≤ _; omega)
  rw [if_pos (chkM_of o), chkM_of o] at this
  exact this
theorem shr_len {W H : Nat} {c : List Int} (o : MOk W H c) : (shr c W).length ≤ 4000000 := by
  have hw := o.few.2.1
  have h1 := o.few.1
  rw [← rshr_eq hw o.len (by omega)]
  unfold rshr firsts
  rw [List.length_map, List.length_zip]
  have := List.length_filter_le (fun i : Nat => decide (at0 (rnm c W) i = (i : Int))) (List.range c.length)
  rw [List.length_range] at this
  exact Nat.le_trans (Nat.min_le_left _ _) (Nat.le_trans this (by omega))
theorem any_near {l : List Riv.Sh} {n : Nat} (h : l.any (qN n) = true) : ∃ x ∈ l, x.f = (n : Int) ∧ x.nr = true := by
  obtain ⟨x, hx, hq⟩ := List.any_eq_true.1 h
  unfold qN at hq
  rw [Bool.and_eq_true, decide_eq_true_eq] at hq
  exact ⟨x, hx, hq⟩
end Go.Proofs.Ytkbbfeljlepgoaa

