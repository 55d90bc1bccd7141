/- Part 1 of the proof that what is gained is what is lost, and each number belongs to one owner alone. No condition. -/
import Derived.Test.YtkbbfeljlepgoaaGa0
set_option linter.unusedVariables false
set_option linter.unusedSimpArgs false
namespace Riv
def lawL (W : Nat) (l : List (List Int)) (slow : Int) : List (List Int) := (List.range l.length).map (lawAt W l slow)
theorem lawAt_same {W H : Nat} {l : List (List Int)} (h : Yrs W H l) {s t : Int} (hs : ∀ y, y + 1 < l.length → ∀ c ∈ chg (l.getD y []) (l.getD (y + 1) []) W, ((c.length : Int) ≤ s ↔ (c.length : Int) ≤ t)) : ∀ y, y < l.length → lawAt W l s y = lawAt W l t y
  | 0, _ => rfl
  | y + 1, hy => by
    refine ext0 (by rw [lawAt_len h s _ hy, lawAt_len h t _ hy]) fun k _ => ?_
    rw [lawAt_at h s hy, lawAt_at h t hy, lawAt_same h hs y (by omega)]
    have e : (∃ c ∈ chg (l.getD y []) (l.getD (y + 1) []) W, k ∈ c ∧ (c.length : Int) ≤ s) ↔ ∃ c ∈ chg (l.getD y []) (l.getD (y + 1) []) W, k ∈ c ∧ (c.length : Int) ≤ t :=
      ⟨fun ⟨c, h1, h2, h3⟩ => ⟨c, h1, h2, (hs y hy c h1).1 h3⟩, fun ⟨c, h1, h2, h3⟩ => ⟨c, h1, h2, (hs y hy c h1).2 h3⟩⟩
    by_cases h1 : ∃ c ∈ chg (l.getD y []) (l.getD (y + 1) []) W, k ∈ c ∧ (c.length : Int) ≤ s
    · rw [if_pos h1, if_pos (e.1 h1)]
    · rw [if_neg h1, if_neg (fun h2 => h1 (e.2 h2))]
end Riv

namespace Riv
def rseg (p : Int → Bool) (a : Int) (n : Nat) (x : List Go.Vm.Spn × Bool) : List Go.Vm.Spn × Bool := (List.range n).foldl (fun x (j : Nat) => r1 p x (a + (j : Int))) x
theorem lastHi_app (out : List Go.Vm.Spn) (x : Go.Vm.Spn) : lastHi (out ++ [x]) = some x.hi := by simp [lastHi]
theorem lastHi_ex {out : List Go.Vm.Spn} {h : Int} (e : lastHi out = some h) : ∃ o x, out = o ++ [x] ∧ x.hi = h := by
  rcases List.eq_nil_or_concat out with rfl | ⟨o, x, rfl⟩
  · simp [lastHi] at e
  · rw [List.concat_eq_append] at e ⊢
    rw [lastHi_app] at e
    exact ⟨o, x, rfl, Option.some.inj e⟩
theorem addB_ex (out : List Go.Vm.Spn) (a : Int) : ∃ o lo, ∀ h, addB out a h = o ++ [⟨lo, h⟩] := by
  unfold addB
  by_cases h1 : lastHi out = some (a - 1)
  · obtain ⟨o, x, rfl, _⟩ := lastHi_ex h1
    refine ⟨o, x.lo, fun h => ?_⟩
    rw [if_pos h1, setHi_app]
  · exact ⟨out, a, fun h => by rw [if_neg h1]⟩
theorem addB_last (out : List Go.Vm.Spn) (a h : Int) : lastHi (addB out a h) = some h := by
  obtain ⟨o, lo, e⟩ := addB_ex out a
  rw [e, lastHi_app]
theorem addB_set (out : List Go.Vm.Spn) (a h g : Int) : setHi (addB out a h) g = addB out a g := by
  obtain ⟨o, lo, e⟩ := addB_ex out a
  rw [e, e, setHi_app]
structure RI1 (out : List Go.Vm.Spn) (was : Bool) (a : Int) : Prop where
  yes : was = true → lastHi out = some (a - 1)
  no : was = false → ∀ h, lastHi out = some h → h < a - 1
theorem rseg_const {p : Int → Bool} {out : List Go.Vm.Spn} {was : Bool} {a : Int} (hI : RI1 out was a) : ∀ n : Nat, (∀ j : Nat, j < n + 1 → p (a + (j : Int)) = p a) →
    rseg p a (n + 1) (out, was) = (bif p a then addB out a (a + n) else out, p a)
  | 0, _ => by
    show r1 p (out, was) (a + ((0 : Nat) : Int)) = _
    rw [Int.natCast_zero, Int.add_zero]
    unfold r1
    cases hp : p a with
    | false => rfl
    | true =>
      cases was with
      | true =>
        unfold addB
        rw [if_pos (hI.yes rfl)]; rfl
      | false =>
        unfold addB
        rw [if_neg (fun e => by have := hI.no rfl _ e; omega)]; rfl
  | n + 1, h => by
    have ih := rseg_const hI n fun j hj => h j (by omega)
    unfold rseg at ih ⊢
    rw [List.range_succ, List.foldl_append, ih]
    show r1 p _ (a + ((n + 1 : Nat) : Int)) = _
    unfold r1
    rw [h (n + 1) (by omega)]
    cases p a with
    | false => rfl
    | true =>
      simp only [cond_true]
      rw [addB_set]
theorem rseg_add (p : Int → Bool) (a : Int) (n m : Nat) (x : List Go.Vm.Spn × Bool) : rseg p a (n + m) x = rseg p (a + n) m (rseg p a n x) := by
  unfold rseg
  rw [List.range_add, List.foldl_append, List.foldl_map]
  congr 1
  funext x j
  rw [Int.natCast_add, Int.add_assoc]
theorem runs_go {p : Int → Bool} : ∀ (l : List Int) (a : Int) (out : List Go.Vm.Spn) (was : Bool), (a :: l).Pairwise (· < ·) → RI1 out was a →
    (∀ s t, a ≤ s → s ≤ t → t < l.getLastD a → (∀ x ∈ a :: l, ¬ (s < x ∧ x ≤ t)) → p s = p t) → (rseg p a (l.getLastD a - a).toNat (out, was)).1 = pgo p (a :: l) out
  | [], a, out, was, _, _, _ => by simp [pgo, rseg]
  | b :: l, a, out, was, hr, hI, hp => by
    have h1 := List.pairwise_cons.1 hr
    have hab : a < b := h1.1 b List.mem_cons_self
    have hlast : b ≤ l.getLastD b := by
      have h2 := List.pairwise_cons.1 h1.2
      cases l with
      | nil => exact Int.le_refl _
      | cons c l =>
        have h3 : (c :: l).getLastD b ∈ c :: l := by
          rw [List.getLastD_cons]
          cases l with
          | nil => exact List.mem_cons_self
          | cons d l => exact List.mem_cons_of_mem _ (by rw [List.getLastD_cons]; exact List.getLastD_mem_cons (a := d) (l := l))
        have := h2.1 _ h3
        omega
    have e : (List.getLastD (b :: l) a - a).toNat = ((b - a).toNat - 1 + 1) + (List.getLastD l b - b).toNat := by
      rw [List.getLastD_cons]; omega
    have hc := rseg_const (p := p) hI ((b - a).toNat - 1) fun j hj => by
      refine (hp a (a + j) (Int.le_refl _) (by omega) (by rw [List.getLastD_cons]; omega) fun x hx => ?_).symm
      rcases List.mem_cons.1 hx with rfl | hx
      · omega
      · rcases List.mem_cons.1 hx with rfl | hx
        · omega
        · have := (List.pairwise_cons.1 h1.2).1 x hx
          omega
    rw [e, rseg_add, hc]
    have e2 : a + (((b - a).toNat - 1 + 1 : Nat) : Int) = b := by omega
    have e3 : a + (((b - a).toNat - 1 : Nat) : Int) = b - 1 := by omega
    rw [e2, e3, pgo]
    refine runs_go l b _ _ h1.2 ⟨fun e4 => ?_, fun e4 h e5 => ?_⟩ fun s t g1 g2 g3 g4 => ?_
    · rw [e4]; exact addB_last _ _ _
    · rw [e4] at e5
      cases was with
      | true => have := hI.yes rfl; rw [cond_false, this] at e5; have := Option.some.inj e5; omega
      | false => have := hI.no rfl h e5; omega
    · refine hp s t (by omega) g2 (by rw [List.getLastD_cons]; exact g3) fun x hx => ?_
      rcases List.mem_cons.1 hx with rfl | hx
      · omega
      · exact g4 x hx
theorem cmpI_rise : ∀ (l : List Int), l.Pairwise (· ≤ ·) → (cmpI l).Pairwise (· < ·)
  | [], _ => List.Pairwise.nil
  | [_], _ => List.pairwise_singleton _ _
  | a :: b :: l, h => by
    have h1 := List.pairwise_cons.1 h
    have ih := cmpI_rise (b :: l) h1.2
    rw [cmpI]
    split
    · exact ih
    · rename_i hab
      refine List.pairwise_cons.2 ⟨fun x hx => ?_, ih⟩
      rw [cmpI_mem] at hx
      have g1 := h1.1 b List.mem_cons_self
      rcases List.mem_cons.1 hx with rfl | hx
      · omega
      · have := (List.pairwise_cons.1 h1.2).1 x hx
        omega
theorem rise_ends {l : List Int} {a z : Int} (h : l.Pairwise (· < ·)) (ha : a ∈ l) (hz : z ∈ l) (hl : ∀ x ∈ l, a ≤ x ∧ x ≤ z) : ∃ r, l = a :: r ∧ r.getLastD a = z := by
  cases l with
  | nil => cases ha
  | cons y r =>
    have e : y = a := by
      have := (hl y List.mem_cons_self).1
      rcases List.mem_cons.1 ha with e | e
      · exact e.symm
      · have := (List.pairwise_cons.1 h).1 a e
        omega
    subst e
    refine ⟨r, rfl, ?_⟩
    have hm : r.getLastD y ∈ y :: r := List.getLastD_mem_cons
    have h1 := (hl _ hm).2
    have key : ∀ (r : List Int) (y : Int), (y :: r).Pairwise (· < ·) → ∀ x ∈ y :: r, x ≤ r.getLastD y := by
      intro r
      induction r with
      | nil => intro y _ x hx; simp at hx; simp [hx]
      | cons b r ih =>
        intro y h x hx
        have h2 := List.pairwise_cons.1 h
        rw [List.getLastD_cons]
        rcases List.mem_cons.1 hx with rfl | hx
        · have g1 := h2.1 b List.mem_cons_self
          have g2 := ih b h2.2 b List.mem_cons_self
          omega
        · exact ih b h2.2 x hx
    have h2 := key r y h z hz
    omega
theorem runs_eq {p : Int → Bool} {st sizes : List Int} {N : Nat} (hs : st.Pairwise (· < ·)) (hm : ∀ x, x ∈ st ↔ x = 0 ∨ x = (N : Int) ∨ x ∈ sizes) (hz : ∀ x ∈ sizes, 0 ≤ x ∧ x ≤ (N : Int))
    (hp : ∀ s t, 0 ≤ s → s ≤ t → t < (N : Int) → (∀ x ∈ sizes, x ≤ s ↔ x ≤ t) → p s = p t) : (rseg p 0 N ([], false)).1 = pgo p st [] := by
  obtain ⟨r, rfl, hr⟩ := rise_ends (a := 0) (z := (N : Int)) hs ((hm 0).2 (.inl rfl)) ((hm _).2 (.inr (.inl rfl))) fun x hx => by
    rcases (hm x).1 hx with rfl | rfl | h
    · omega
    · omega
    · exact hz x h
  have := runs_go (p := p) r 0 [] false hs ⟨fun e => (by cases e), fun _ h e => (by simp [lastHi] at e)⟩ fun s t h1 h2 h3 h4 => by
    refine hp s t h1 h2 (by rw [hr] at h3; exact h3) fun x hx => ?_
    have := h4 x ((hm x).2 (.inr (.inr hx)))
    omega
  rw [hr] at this
  rw [← this]
  congr 1
end Riv

namespace Riv
theorem slP_min {W H : Nat} {l : List (List Int)} (h : Yrs W H l) (h0 : 0 < l.length) (cell : Nat) (owner s : Int) : slP W l cell owner (min s ((W * H : Nat) : Int)) = slP W l cell owner s := by
  unfold slP
  rw [lawAt_same h (s := min s ((W * H : Nat) : Int)) (t := s) (fun y hy c hc => by
    have h3 := h.len y (by omega)
    have := (chg_mem h.two h3 (by rw [h3]; exact h.few) hc).2.2.1
    omega) _ (by omega)]
theorem slows_eq {W H N : Nat} {l : List (List Int)} {st : List Int} (h : Yrs W H l) (h0 : 0 < l.length) (hN : W * H ≤ N) (hs : st.Perm (0 :: (N : Int) :: sizes W l)) (hr : st.Pairwise (· ≤ ·)) (cell : Nat) (owner : Int) :
    (rseg (fun s => slP W l cell owner (min s ((W * H : Nat) : Int))) 0 N ([], false)).1 = pgo (slP W l cell owner) (cmpI st) [] := by
  have e : (fun s => slP W l cell owner (min s ((W * H : Nat) : Int))) = slP W l cell owner := funext fun s => slP_min h h0 cell owner s
  rw [e]
  refine runs_eq (sizes := sizes W l) (cmpI_rise st hr) (fun x => ?_) (fun x hx => ?_) fun s t _ _ _ h4 => ?_
  · rw [cmpI_mem, hs.mem_iff]; simp only [List.mem_cons]
  · have := sizes_bd h hx; omega
  · unfold slP
    rw [lawAt_same h (s := s) (t := t) (fun y hy c hc => h4 _ (sizes_mem.2 ⟨y, hy, c, hc, rfl⟩)) _ (by omega)]
end Riv

namespace Riv
def lenS (l : List Go.Vm.Spn) : Int := l.foldl (fun o x => o + (x.hi - x.lo + 1)) 0
theorem lenS_app (l : List Go.Vm.Spn) (x : Go.Vm.Spn) : lenS (l ++ [x]) = lenS l + (x.hi - x.lo + 1) := by
  unfold lenS
  rw [List.foldl_append]; rfl
def cntP (p : Int → Bool) (N : Nat) : Int := ((List.range N).countP fun (s : Nat) => p (s : Int) : Nat)
theorem cntP_succ (p : Int → Bool) (N : Nat) : cntP p (N + 1) = cntP p N + (bif p N then 1 else 0) := by
  unfold cntP
  rw [List.range_succ, List.countP_append, List.countP_cons, List.countP_nil]
  cases p (N : Int) <;> simp
structure RS (p : Int → Bool) (N : Nat) (x : List Go.Vm.Spn × Bool) : Prop where
  bd : ∀ s ∈ x.1, 0 ≤ s.lo ∧ s.lo ≤ s.hi ∧ s.hi ≤ (N : Int) - 1
  sep : x.1.Pairwise fun s t => s.hi + 1 < t.lo
  mem : ∀ v : Int, 0 ≤ v → v < N → (p v = true ↔ ∃ s ∈ x.1, s.lo ≤ v ∧ v ≤ s.hi)
  was : x.2 = true ↔ lastHi x.1 = some ((N : Int) - 1)
  sum : lenS x.1 = cntP p N
theorem rs_step {p : Int → Bool} {N : Nat} {x : List Go.Vm.Spn × Bool} (h : RS p N x) : RS p (N + 1) (r1 p x (N : Int)) := by
  obtain ⟨out, was⟩ := x
  have hbd := h.bd
  have hsep := h.sep
  have hmem := h.mem
  have hwas := h.was
  have hsum := h.sum
  dsimp only at hbd hsep hmem hwas hsum
  have hN : ((N + 1 : Nat) : Int) - 1 = (N : Int) := by omega
  unfold r1
  dsimp only
  cases hp : p (N : Int) with
  | false =>
    simp only [cond_false]
    refine ⟨fun s hs => ?_, hsep, fun v h0 h1 => ?_, ?_, ?_⟩
    · have := hbd s hs; omega
    · dsimp only
      by_cases hv : v < N
      · exact hmem v h0 hv
      · have e : v = N := by omega
        subst e
        rw [hp]
        refine ⟨fun e => (by cases e), ?_⟩
        rintro ⟨s, hs, _, h2⟩
        have := hbd s hs; omega
    · dsimp only
      refine ⟨fun e => (by cases e), fun e => ?_⟩
      obtain ⟨o, y, rfl, hy⟩ := lastHi_ex e
      have := hbd y (by simp); omega
    · dsimp only
      rw [cntP_succ, hp, hsum]; simp
  | true =>
    simp only [cond_true]
    cases was with
    | false =>
      have hno : ∀ s ∈ out, s.hi < (N : Int) - 1 := by
        intro s hs
        rcases List.eq_nil_or_concat out with rfl | ⟨o, y, rfl⟩
        · cases hs
        · rw [List.concat_eq_append] at *
          have hy : y.hi ≠ (N : Int) - 1 := fun e => by
            have := hwas.2 (by rw [lastHi_app, e]); cases this
          have hy2 := hbd y (by simp)
          rcases List.mem_append.1 hs with h1 | h1
          · have h2 := (List.pairwise_append.1 hsep).2.2 s h1 y (by simp)
            omega
          · simp at h1; subst h1; omega
      refine ⟨fun s hs => ?_, ?_, fun v h0 h1 => ?_, ?_, ?_⟩
      · rcases List.mem_append.1 hs with hs | hs
        · have := hbd s hs; omega
        · simp at hs; subst hs; dsimp only; omega
      · refine List.pairwise_append.2 ⟨hsep, List.pairwise_singleton _ _, fun s hs t ht => ?_⟩
        simp at ht; subst ht
        have := hno s hs
        dsimp only; omega
      · dsimp only
        by_cases hv : v < N
        · rw [hmem v h0 hv]
          constructor
          · rintro ⟨s, hs, h2⟩; exact ⟨s, List.mem_append_left _ hs, h2⟩
          · rintro ⟨s, hs, h2, h3⟩
            rcases List.mem_append.1 hs with hs | hs
            · exact ⟨s, hs, h2, h3⟩
            · simp at hs; subst hs; dsimp only at h2; omega
        · have e : v = N := by omega
          subst e
          rw [hp]
          exact ⟨fun _ => ⟨⟨N, N⟩, by simp, Int.le_refl _, Int.le_refl _⟩, fun _ => rfl⟩
      · dsimp only [cond_false]
        rw [lastHi_app, hN]; simp
      · dsimp only [cond_false]
        rw [lenS_app, cntP_succ, hp, hsum]
        simp only [cond_true]
        omega
    | true =>
      obtain ⟨o, y, rfl, hy⟩ := lastHi_ex (hwas.1 rfl)
      simp only [cond_true]
      rw [setHi_app]
      have hyb := hbd y (by simp)
      have hsp := List.pairwise_append.1 hsep
      refine ⟨fun s hs => ?_, ?_, fun v h0 h1 => ?_, ?_, ?_⟩
      · rcases List.mem_append.1 hs with hs | hs
        · have := hbd s (by simp [hs]); omega
        · simp at hs; subst hs; dsimp only; omega
      · refine List.pairwise_append.2 ⟨hsp.1, List.pairwise_singleton _ _, fun s hs t ht => ?_⟩
        simp at ht; subst ht
        exact hsp.2.2 s hs y (by simp)
      · dsimp only
        by_cases hv : v < N
        · rw [hmem v h0 hv]
          constructor
          · rintro ⟨s, hs, h2, h3⟩
            rcases List.mem_append.1 hs with hs | hs
            · exact ⟨s, List.mem_append_left _ hs, h2, h3⟩
            · simp at hs; subst hs
              exact ⟨⟨s.lo, N⟩, by simp, h2, by dsimp only; omega⟩
          · rintro ⟨s, hs, h2, h3⟩
            rcases List.mem_append.1 hs with hs | hs
            · exact ⟨s, List.mem_append_left _ hs, h2, h3⟩
            · simp at hs; subst hs
              dsimp only at h2 h3
              exact ⟨y, by simp, h2, by omega⟩
        · have e : v = N := by omega
          subst e
          rw [hp]
          exact ⟨fun _ => ⟨⟨y.lo, N⟩, by simp, by dsimp only; omega, Int.le_refl _⟩, fun _ => rfl⟩
      · dsimp only
        rw [lastHi_app, hN]; simp
      · dsimp only
        rw [lenS_app] at hsum
        rw [lenS_app, cntP_succ, hp]
        simp only [cond_true]
        omega
theorem rs_ok (p : Int → Bool) : ∀ N : Nat, RS p N (rseg p 0 N ([], false))
  | 0 => ⟨fun s hs => (by cases hs), List.Pairwise.nil, fun v h0 h1 => by omega, by simp [rseg, lastHi], by simp [rseg, lenS, cntP]⟩
  | N + 1 => by
    have h := rs_step (rs_ok p N)
    have e : rseg p 0 (N + 1) ([], false) = r1 p (rseg p 0 N ([], false)) (N : Int) := by
      unfold rseg
      rw [List.range_succ, List.foldl_append, List.foldl_cons, List.foldl_nil, Int.zero_add]
    rw [e]
    exact h
theorem cover {f : Int → Int} (hf : ∀ s, 0 ≤ f s ∧ f s ≤ 3) : ∀ N : Nat, cntP (fun s => decide (f s = 0)) N + cntP (fun s => decide (f s = 1)) N + cntP (fun s => decide (f s = 2)) N + cntP (fun s => decide (f s = 3)) N = (N : Int)
  | 0 => by simp [cntP]
  | N + 1 => by
    have ih := cover hf N
    have h := hf N
    rw [cntP_succ, cntP_succ, cntP_succ, cntP_succ]
    rcases (show f N = 0 ∨ f N = 1 ∨ f N = 2 ∨ f N = 3 by omega) with e | e | e | e <;> simp [e] <;> omega
end Riv

namespace Riv
def spot (W a k : Nat) : Nat := if 1 < k then a + W * (k - 1) else a + k
def lput (W a : Nat) (kind : Int) (c : List Int) (k : Nat) : List Int := if spot W a k < c.length ∧ 0 < spot W a k % W ∧ spot W a k % W < W - 1 then c.set (spot W a k) kind else c
theorem lput_len (W a : Nat) (kind : Int) (c : List Int) (k : Nat) : (lput W a kind c k).length = c.length := by
  unfold lput; split
  · exact List.length_set
  · rfl
theorem lput_ok {W H a : Nat} {kind : Int} {c : List Int} (h : MOk W H c) (hk : 0 ≤ kind ∧ kind ≤ 3) (k : Nat) : MOk W H (lput W a kind c k) := by
  have hl := lput_len W a kind c k
  unfold lput at hl ⊢
  split
  · rename_i hc
    rw [if_pos hc] at hl
    have hat := fun j => at0_set (v := kind) hc.1 j
    refine ⟨h.w, h.h, by rw [hl]; exact h.len, fun n hn => ?_, fun y hy => ?_⟩
    · rw [hat]
      split
      · exact hk
      · exact h.kind n (by rw [hl] at hn; exact hn)
    · have hw := h.w.1
      have e1 : y * W % W = 0 := Nat.mul_mod_left y W
      have e2 : (y * W + W - 1) % W = W - 1 := by
        rw [show y * W + W - 1 = W * y + (W - 1) by rw [Nat.mul_comm]; omega, Nat.mul_add_mod, Nat.mod_eq_of_lt (by omega)]
      rw [hat, hat, if_neg (fun e => by rw [e] at e1; omega), if_neg (fun e => by rw [e] at e2; omega)]
      exact h.side y hy
  · exact h
theorem lputs_ok {W H a : Nat} {kind : Int} {c : List Int} (h : MOk W H c) (hk : 0 ≤ kind ∧ kind ≤ 3) : ∀ N : Nat, MOk W H ((List.range N).foldl (lput W a kind) c)
  | 0 => h
  | N + 1 => by rw [List.range_succ, List.foldl_append]; exact lput_ok (lputs_ok h hk N) hk N
section
variable (nx : Dk → Int → Int × Dk)
def ltr (W : Nat) (x : Dk × List Int) : Dk × List Int := ((lb nx x).2, (List.range (1 + (lb nx x).1).toNat).foldl (lput W (la nx x).1.toNat (lk nx x).1) x.2)
def ltrs (W : Nat) (x : Dk × List Int) : Nat → Dk × List Int
  | 0 => x
  | k + 1 => ltr nx W (ltrs W x k)
def laterX (W : Nat) (d : Dk) (c : List Int) : Dk × List Int := ltrs nx W ((nx d 4).2, c) (nx d 4).1.toNat
def agS (W : Nat) (x : Dk × List (List Int)) : Dk × List (List Int) := ((laterX nx W x.1 (x.2.getLastD [])).1, x.2 ++ [(laterX nx W x.1 (x.2.getLastD [])).2])
def agI (W : Nat) (x : Dk × List (List Int)) : Nat → Dk × List (List Int)
  | 0 => x
  | k + 1 => agS nx W (agI W x k)
def ag0 (d : Dk) (w h y : Int) : Int × Dk := nx (madeX nx d w h).1 y
def agedX (d : Dk) (w h y : Int) : Dk × List (List Int) := agI nx (4 + (mdW nx d w).1).toNat ((ag0 nx d w h y).2, [(madeX nx d w h).2]) (ag0 nx d w h y).1.toNat
variable {nx}
theorem ltr_ok (hD : Dealt nx) {W H : Nat} {x : Dk × List Int} (h : MOk W H x.2) : MOk W H (ltr nx W x).2 ∧ (ltr nx W x).1.1 ≤ x.1.1 + 3 ∧ (0 ≤ (la nx x).1 ∧ (la nx x).1 < x.2.length) ∧ (0 ≤ (lk nx x).1 ∧ (lk nx x).1 ≤ 3) ∧ 0 ≤ (lb nx x).1 ∧ (lb nx x).1 < 4 := by
  have hpos : 0 < x.2.length := by rw [h.len]; exact Nat.mul_pos (by have := h.w.1; omega) (by have := h.h.1; omega)
  have a1 := hD.lo x.1 (x.2.length : Int)
  have a2 := hD.hi x.1 (x.2.length : Int) (by omega)
  have a3 := hD.n x.1 (x.2.length : Int)
  rw [show nx x.1 (x.2.length : Int) = la nx x from rfl] at a1 a2 a3
  have b1 := hD.lo (la nx x).2 4
  have b2 := hD.hi (la nx x).2 4 (by decide)
  have b3 := hD.n (la nx x).2 4
  rw [show nx (la nx x).2 4 = lk nx x from rfl] at b1 b2 b3
  have c1 := hD.lo (lk nx x).2 (4 - 1 + 1)
  have c2 := hD.hi (lk nx x).2 (4 - 1 + 1) (by decide)
  have c3 := hD.n (lk nx x).2 (4 - 1 + 1)
  rw [show nx (lk nx x).2 (4 - 1 + 1) = lb nx x from rfl] at c1 c2 c3
  exact ⟨lputs_ok h ⟨b1, by omega⟩ _, by show (lb nx x).2.1 ≤ _; omega, ⟨a1, a2⟩, ⟨b1, by omega⟩, c1, by omega⟩
theorem ltrs_ok (hD : Dealt nx) {W H : Nat} {x : Dk × List Int} (h : MOk W H x.2) : ∀ k, MOk W H (ltrs nx W x k).2 ∧ (ltrs nx W x k).1.1 ≤ x.1.1 + 3 * k
  | 0 => ⟨h, Nat.le_refl _⟩
  | k + 1 => by
    obtain ⟨h1, h2⟩ := ltrs_ok hD h k
    have h3 := ltr_ok hD h1
    refine ⟨h3.1, ?_⟩
    have := h3.2.1
    rw [ltrs]
    omega
theorem laterX_ok (hD : Dealt nx) {W H : Nat} {c : List Int} (h : MOk W H c) (d : Dk) : MOk W H (laterX nx W d c).2 ∧ (laterX nx W d c).1.1 ≤ d.1 + 10 := by
  have a1 := hD.lo d 4
  have a2 := hD.hi d 4 (by decide)
  have a3 := hD.n d 4
  have h1 := ltrs_ok hD (x := ((nx d 4).2, c)) h (nx d 4).1.toNat
  refine ⟨h1.1, ?_⟩
  have := h1.2
  unfold laterX
  dsimp only at this
  omega
structure AI (W H : Nat) (N k : Nat) (x : Dk × List (List Int)) : Prop where
  n : x.1.1 ≤ N + 10 * k
  len : x.2.length = k + 1
  ok : ∀ c ∈ x.2, MOk W H c
theorem agI_ok (hD : Dealt nx) {W H N : Nat} {x : Dk × List (List Int)} (h : AI W H N 0 x) : ∀ k, AI W H N k (agI nx W x k)
  | 0 => h
  | k + 1 => by
    obtain ⟨h1, h2, h3⟩ := agI_ok hD h k
    have hm : (agI nx W x k).2.getLastD [] ∈ (agI nx W x k).2 := by
      generalize (agI nx W x k).2 = l at h2
      cases l with
      | nil => simp at h2
      | cons y l => rw [List.getLastD_cons]; exact List.getLastD_mem_cons
    have h4 := laterX_ok hD (h3 _ hm) (agI nx W x k).1
    rw [agI]
    unfold agS
    refine ⟨by have := h4.2; dsimp only; omega, by simp [h2], fun c hc => ?_⟩
    rcases List.mem_append.1 hc with hc | hc
    · exact h3 c hc
    · rw [List.mem_singleton.1 hc]; exact h4.1
end
end Riv

namespace Riv
theorem chkL_of : ∀ {l : List Mp}, (∀ m ∈ l, chkM m = 0) → chkL l = 0
  | [], _ => rfl
  | x :: l, h => by rw [chkL, if_pos (h x List.mem_cons_self)]; exact chkL_of fun m hm => h m (List.mem_cons_of_mem _ hm)
theorem chkY_of {W H : Nat} {l : List Mp} (h1 : 1 ≤ l.length ∧ l.length ≤ 10) (h : ∀ m ∈ l, m.w = W ∧ m.h = H ∧ MOk W H m.c) : chkY l = 0 := by
  unfold chkY
  have hz : ∀ m ∈ l, chkM m = 0 := fun m hm => by
    obtain ⟨e1, e2, g⟩ := h m hm
    have := chkM_of g
    rw [← e1, ← e2] at this
    exact this
  rw [if_pos h1, if_pos (chkL_of hz)]
  have hs : sameB (l.headD ⟨0, 0, []⟩) l = true := by
    cases l with
    | nil => simp at h1
    | cons m l =>
      unfold sameB
      rw [List.all_eq_true]
      intro x hx
      have g := h x hx
      have f := h m List.mem_cons_self
      exact decide_eq_true ⟨g.1.trans f.1.symm, g.2.1.trans f.2.1.symm⟩
  rw [hs]; rfl
end Riv

open Go.Vm
open Riv
namespace Go.Proofs.Ytkbbfeljlepgoaa
set_option maxRecDepth 20000
set_option maxHeartbeats 4000000
def npK (W a : Nat) (x : TB) (b : Nat) : TB := (List.range b).foldl (nput W a) x
theorem npK_step (W a : Nat) (x : TB) (b : Nat) : npK W a x (b + 1) = nput W a (npK W a x b) b := by unfold npK; rw [List.range_succ, List.foldl_append]; rfl
theorem nput_len (W a : Nat) (x : TB) (b : Nat) : (nput W a x b).1.length = x.1.length := by unfold nput; split <;> simp
theorem npK_len (W a : Nat) (x : TB) : ∀ b, (npK W a x b).1.length = x.1.length
  | 0 => rfl
  | b + 1 => by rw [npK_step, nput_len, npK_len W a x b]
end Go.Proofs.Ytkbbfeljlepgoaa

namespace Riv
theorem bat_setv {m : List Bool} {k : Nat} {v : Bool} (hk : k < m.length) (j : Nat) : bat (m.set k v) j = if j = k then v else bat m j := by
  unfold bat
  rw [List.getD_eq_getElem?_getD, List.getElem?_set, List.getD_eq_getElem?_getD]
  by_cases h : k = j
  · subst h; simp [hk]
  · have h2 : ¬ j = k := fun e => h e.symm
    simp [h, h2]
def Gw (slow : Int) (CS : List (List Nat)) (i : Nat) (cs : List Nat) (j : Nat) (G : List Bool) : Prop :=
  ∀ n, bat G n = true ↔ (∃ c ∈ CS.take i, n ∈ c ∧ (c.length : Int) ≤ slow) ∨ (n ∈ cs.take j ∧ (cs.length : Int) ≤ slow)
theorem Gw.zero (slow : Int) (CS : List (List Nat)) (L : Nat) : Gw slow CS 0 [] 0 (List.replicate L false) := fun n => by
  have : bat (List.replicate L false) n = false := by
    unfold bat
    rw [List.getD_eq_getElem?_getD, List.getElem?_replicate]
    split <;> rfl
  rw [this]
  simp
theorem Gw.step {slow : Int} {CS : List (List Nat)} {i j n0 : Nat} {cs : List Nat} {G : List Bool} (hone : ∀ c ∈ CS, ∀ d ∈ CS, ∀ n, n ∈ c → n ∈ d → c = d) (hcs : CS[i]? = some cs) (hj : cs[j]? = some n0) (hn : n0 < G.length) (h : Gw slow CS i cs j G) :
    Gw slow CS i cs (j + 1) (G.set n0 (decide ((cs.length : Int) ≤ slow))) := fun n => by
  have hc := List.mem_of_getElem? hcs
  have h0 := List.mem_of_getElem? hj
  have ht : cs.take (j + 1) = cs.take j ++ [n0] := by rw [List.take_add_one, hj]; rfl
  rw [bat_setv hn, ht]
  by_cases e : n = n0
  · subst e
    rw [if_pos rfl, decide_eq_true_eq]
    constructor
    · intro hl
      exact .inr ⟨List.mem_append_right _ List.mem_cons_self, hl⟩
    · rintro (⟨c, g1, g2, g3⟩ | ⟨_, g⟩)
      · have := hone c (List.mem_of_mem_take g1) cs hc n g2 h0
        rw [← this]; exact g3
      · exact g
  · rw [if_neg e, h n]
    constructor
    · rintro (g | ⟨g1, g2⟩)
      · exact .inl g
      · exact .inr ⟨List.mem_append_left _ g1, g2⟩
    · rintro (g | ⟨g1, g2⟩)
      · exact .inl g
      · rcases List.mem_append.1 g1 with g1 | g1
        · exact .inr ⟨g1, g2⟩
        · exact absurd (List.mem_singleton.1 g1) e
theorem Gw.fin {slow : Int} {CS : List (List Nat)} {G : List Bool} (h : Gw slow CS CS.length [] 0 G) (n : Nat) : bat G n = true ↔ ∃ c ∈ CS, n ∈ c ∧ (c.length : Int) ≤ slow := by
  rw [h n, List.take_length]
  simp
end Riv

namespace Riv
def ggS (G : List Int) (x y : Int) : List Int := if x ≠ y then G.set (x.toNat * 4 + y.toNat) (at0 G (x.toNat * 4 + y.toNat) + 1) else G
def ntS (N : List Int) (x y : Int) : List Int := (N.set x.toNat (at0 N x.toNat - 1)).set y.toNat (at0 (N.set x.toNat (at0 N x.toNat - 1)) y.toNat + 1)
structure NG (N G : List Int) : Prop where
  nl : N.length = 4
  gl : G.length = 16
  e0 : at0 N 0 + (at0 G 0 + at0 G 1 + at0 G 2 + at0 G 3) - (at0 G 0 + at0 G 4 + at0 G 8 + at0 G 12) = 0
  e1 : at0 N 1 + (at0 G 4 + at0 G 5 + at0 G 6 + at0 G 7) - (at0 G 1 + at0 G 5 + at0 G 9 + at0 G 13) = 0
  e2 : at0 N 2 + (at0 G 8 + at0 G 9 + at0 G 10 + at0 G 11) - (at0 G 2 + at0 G 6 + at0 G 10 + at0 G 14) = 0
  e3 : at0 N 3 + (at0 G 12 + at0 G 13 + at0 G 14 + at0 G 15) - (at0 G 3 + at0 G 7 + at0 G 11 + at0 G 15) = 0
  d0 : at0 G 0 = 0
  d1 : at0 G 5 = 0
  d2 : at0 G 10 = 0
  d3 : at0 G 15 = 0
theorem four_of {N : List Int} (h : N.length = 4) : ∃ a b c d, N = [a, b, c, d] := by
  match N, h with
  | [a, b, c, d], _ => exact ⟨a, b, c, d, rfl⟩
theorem sixteen_of {G : List Int} (h : G.length = 16) : ∃ a0 a1 a2 a3 a4 a5 a6 a7 a8 a9 b0 b1 b2 b3 b4 b5, G = [a0, a1, a2, a3, a4, a5, a6, a7, a8, a9, b0, b1, b2, b3, b4, b5] := by
  match G, h with
  | [a0, a1, a2, a3, a4, a5, a6, a7, a8, a9, b0, b1, b2, b3, b4, b5], _ => exact ⟨_, _, _, _, _, _, _, _, _, _, _, _, _, _, _, _, rfl⟩
theorem NG.zero : NG [0, 0, 0, 0] (List.replicate 16 0) := ⟨rfl, rfl, rfl, rfl, rfl, rfl, rfl, rfl, rfl, rfl⟩
theorem NG.step {N G : List Int} (h : NG N G) {x y : Int} (hx : 0 ≤ x ∧ x ≤ 3) (hy : 0 ≤ y ∧ y ≤ 3) : NG (ntS N x y) (ggS G x y) := by
  obtain ⟨n0, n1, n2, n3, rfl⟩ := four_of h.nl
  obtain ⟨a0, a1, a2, a3, a4, a5, a6, a7, a8, a9, b0, b1, b2, b3, b4, b5, rfl⟩ := sixteen_of h.gl
  obtain ⟨_, _, e0, e1, e2, e3, d0, d1, d2, d3⟩ := h
  change n0 + (a0 + a1 + a2 + a3) - (a0 + a4 + a8 + b2) = 0 at e0
  change n1 + (a4 + a5 + a6 + a7) - (a1 + a5 + a9 + b3) = 0 at e1
  change n2 + (a8 + a9 + b0 + b1) - (a2 + a6 + b0 + b4) = 0 at e2
  change n3 + (b2 + b3 + b4 + b5) - (a3 + a7 + b1 + b5) = 0 at e3
  change a0 = 0 at d0
  change a5 = 0 at d1
  change b0 = 0 at d2
  change b5 = 0 at d3
  rcases (show x = 0 ∨ x = 1 ∨ x = 2 ∨ x = 3 by omega) with rfl | rfl | rfl | rfl <;> rcases (show y = 0 ∨ y = 1 ∨ y = 2 ∨ y = 3 by omega) with rfl | rfl | rfl | rfl <;>
    (refine ⟨rfl, rfl, ?_, ?_, ?_, ?_, ?_, ?_, ?_, ?_⟩ <;> simp [ntS, ggS, at0] <;> omega)
def npS (G N : List Int) (m : Nat) : List Int := (N.set (m / 4) (at0 N (m / 4) + at0 G m)).set (m % 4) (at0 (N.set (m / 4) (at0 N (m / 4) + at0 G m)) (m % 4) - at0 G m)
def npK (G N : List Int) : Nat → List Int
  | 0 => N
  | m + 1 => npS G (npK G N m) m
theorem npK_len (G N : List Int) : ∀ m, (npK G N m).length = N.length
  | 0 => rfl
  | m + 1 => by rw [npK, npS, List.length_set, List.length_set, npK_len G N m]
theorem NG.fin {N G : List Int} (h : NG N G) : npK G N 16 = [0, 0, 0, 0] := by
  obtain ⟨n0, n1, n2, n3, rfl⟩ := four_of h.nl
  obtain ⟨a0, a1, a2, a3, a4, a5, a6, a7, a8, a9, b0, b1, b2, b3, b4, b5, rfl⟩ := sixteen_of h.gl
  obtain ⟨_, _, e0, e1, e2, e3, d0, d1, d2, d3⟩ := h
  change n0 + (a0 + a1 + a2 + a3) - (a0 + a4 + a8 + b2) = 0 at e0
  change n1 + (a4 + a5 + a6 + a7) - (a1 + a5 + a9 + b3) = 0 at e1
  change n2 + (a8 + a9 + b0 + b1) - (a2 + a6 + b0 + b4) = 0 at e2
  change n3 + (b2 + b3 + b4 + b5) - (a3 + a7 + b1 + b5) = 0 at e3
  change a0 = 0 at d0
  change a5 = 0 at d1
  change b0 = 0 at d2
  change b5 = 0 at d3
  simp [npK, npS, at0]
  omega
theorem npK_bd (G N : List Int) (K : Int) (hG : ∀ p, p < 16 → 0 ≤ at0 G p ∧ at0 G p ≤ K) (hN : N.length = 4) (hb : ∀ p, p < 4 → -K ≤ at0 N p ∧ at0 N p ≤ K) : ∀ m, m ≤ 16 → ∀ p, p < 4 → -(K * (2 * m + 1)) ≤ at0 (npK G N m) p ∧ at0 (npK G N m) p ≤ K * (2 * m + 1)
  | 0, _, p, hp => by
    have := hb p hp
    show -(K * _) ≤ at0 N p ∧ at0 N p ≤ K * _
    rw [show (2 * ((0 : Nat) : Int) + 1) = 1 from rfl, Int.mul_one]
    exact this
  | m + 1, hm, p, hp => by
    have ih := npK_bd G N K hG hN hb m (by omega)
    have hl := npK_len G N m
    have hg := hG m (by omega)
    have h1 : m / 4 < 4 := by omega
    have h2 : m % 4 < 4 := by omega
    rw [npK]
    generalize npK G N m = Q at *
    unfold npS
    have hk : K * (2 * ((m + 1 : Nat) : Int) + 1) = K * (2 * (m : Int) + 1) + 2 * K := by
      rw [show (2 * ((m + 1 : Nat) : Int) + 1) = (2 * (m : Int) + 1) + 2 by omega, Int.mul_add]; omega
    rw [hk]
    have i1 := ih (m / 4) h1
    have i2 := ih (m % 4) h2
    have i3 := ih p hp
    generalize K * (2 * (m : Int) + 1) = X at *
    rw [at0_set (by rw [List.length_set]; omega), at0_set (by omega), at0_set (by omega)]
    split <;> split <;> first | omega | (split <;> omega)
def lsk (f : Nat → Int) : Nat → Int
  | 0 => -1
  | y + 1 => if f (y + 1) ≠ f y then (y + 1 : Nat) else lsk f y
theorem lsk_ok (f : Nat → Int) : ∀ m, (lsk f m = -1 ∧ ∀ y, y < m → f (y + 1) = f y) ∨ ∃ k, k < m ∧ lsk f m = ((k + 1 : Nat) : Int) ∧ f (k + 1) ≠ f k ∧ ∀ y, k < y → y < m → f (y + 1) = f y
  | 0 => .inl ⟨rfl, fun y h => by omega⟩
  | m + 1 => by
    by_cases h : f (m + 1) = f m
    · have e : lsk f (m + 1) = lsk f m := by rw [lsk, if_neg (fun g => g h)]
      rw [e]
      rcases lsk_ok f m with ⟨h1, h2⟩ | ⟨k, h1, h2, h3, h4⟩
      · refine .inl ⟨h1, fun y hy => ?_⟩
        by_cases g : y = m
        · subst g; exact h
        · exact h2 y (by omega)
      · refine .inr ⟨k, by omega, h2, h3, fun y hy hz => ?_⟩
        by_cases g : y = m
        · subst g; exact h
        · exact h4 y hy (by omega)
    · exact .inr ⟨m, by omega, by rw [lsk, if_pos h], h, fun y h1 h2 => by omega⟩
theorem lsk_congr {f g : Nat → Int} : ∀ {m : Nat}, (∀ y, y ≤ m → f y = g y) → lsk f m = lsk g m
  | 0, _ => rfl
  | m + 1, h => by rw [lsk, lsk, h (m + 1) (Nat.le_refl _), h m (by omega), lsk_congr fun y hy => h y (by omega)]
theorem lenS_take {l : List Go.Vm.Spn} {k : Nat} {x : Go.Vm.Spn} (h : l[k]? = some x) : lenS (l.take (k + 1)) = lenS (l.take k) + (x.hi - x.lo + 1) := by
  rw [List.take_add_one, h]
  exact lenS_app _ _
def inS (l : List Go.Vm.Spn) (k : Nat) (v : Int) : Bool := (l.take k).any fun x => decide (x.lo ≤ v) && decide (v ≤ x.hi)
theorem inS_succ {l : List Go.Vm.Spn} {k : Nat} {x : Go.Vm.Spn} (h : l[k]? = some x) (v : Int) : inS l (k + 1) v = (inS l k v || (decide (x.lo ≤ v) && decide (v ≤ x.hi))) := by
  unfold inS
  rw [List.take_add_one, h, List.any_append]
  simp
theorem lenS_bd {l : List Go.Vm.Spn} {N : Int} (hN : 0 ≤ N) (h : ∀ s ∈ l, 0 ≤ s.lo ∧ s.lo ≤ s.hi ∧ s.hi ≤ N - 1) : ∀ k, k ≤ l.length → (k : Int) ≤ lenS (l.take k) ∧ lenS (l.take k) ≤ N * k
  | 0, _ => by rw [List.take_zero]; exact ⟨Int.le_refl _, by rw [show ((0 : Nat) : Int) = 0 from rfl, Int.mul_zero]; exact Int.le_refl _⟩
  | k + 1, hk => by
    have ih := lenS_bd hN h k (by omega)
    have hx : l[k]? = some l[k] := List.getElem?_eq_getElem (by omega)
    have hb := h _ (List.getElem_mem (h := (by omega : k < l.length)))
    rw [lenS_take hx]
    have : N * ((k + 1 : Nat) : Int) = N * k + N := by rw [show ((k + 1 : Nat) : Int) = (k : Int) + 1 from rfl, Int.mul_add, Int.mul_one]
    omega
theorem cntP_le (p : Int → Bool) (N : Nat) : 0 ≤ cntP p N ∧ cntP p N ≤ N := by
  unfold cntP
  have := List.countP_le_length (p := fun (s : Nat) => p (s : Int)) (l := List.range N)
  rw [List.length_range] at this
  omega
structure SpF (p : Int → Bool) (l : List Go.Vm.Spn) : Prop where
  bd : ∀ (k : Nat) (x : Go.Vm.Spn), l[k]? = some x → 0 ≤ x.lo ∧ x.lo ≤ x.hi ∧ x.hi ≤ 144
  sep : ∀ (k : Nat) (x y : Go.Vm.Spn), l[k]? = some x → l[k + 1]? = some y → x.hi + 1 < y.lo
  len : l.length ≤ 145
  part : ∀ k, k ≤ l.length → 0 ≤ lenS (l.take k) ∧ lenS (l.take k) ≤ 145 * 145
  sum : lenS (l.take l.length) = cntP p 145
  mem : ∀ v : Int, 0 ≤ v → v ≤ 144 → inS l l.length v = p v
theorem spf_ok (p : Int → Bool) : SpF p (rseg p 0 145 ([], false)).1 := by
  have h := rs_ok p 145
  generalize rseg p 0 145 ([], false) = x at h
  obtain ⟨l, w⟩ := x
  obtain ⟨b, sp, m, _, su⟩ := h
  dsimp only at b sp m su ⊢
  have hb := lenS_bd (N := 145) (by omega) b
  have hl : l.length ≤ 145 := by
    have h1 := (hb l.length (Nat.le_refl _)).1
    rw [List.take_length, su] at h1
    have := (cntP_le p 145).2
    omega
  refine ⟨fun k x hx => ?_, fun k x y hx hy => ?_, hl, fun k hk => ?_, by rw [List.take_length, su], fun v h0 h1 => ?_⟩
  · have := b x (List.mem_of_getElem? hx)
    exact ⟨this.1, this.2.1, by have := this.2.2; omega⟩
  · have hp := List.pairwise_iff_getElem.1 sp k (k + 1) (List.getElem?_eq_some_iff.1 hx).1 (List.getElem?_eq_some_iff.1 hy).1 (by omega)
    rw [(List.getElem?_eq_some_iff.1 hx).2, (List.getElem?_eq_some_iff.1 hy).2] at hp
    exact hp
  · have := hb k hk
    have hk2 : (145 : Int) * (k : Int) ≤ 145 * 145 := by omega
    omega
  · unfold inS
    rw [List.take_length, Bool.eq_iff_iff, m v h0 (by omega), List.any_eq_true]
    constructor
    · rintro ⟨s, h1, h2⟩
      rw [Bool.and_eq_true, decide_eq_true_eq, decide_eq_true_eq] at h2
      exact ⟨s, h1, h2⟩
    · rintro ⟨s, h1, h2⟩
      exact ⟨s, h1, by rw [Bool.and_eq_true, decide_eq_true_eq, decide_eq_true_eq]; exact h2⟩
def ntK (A B : List Int) (k : Nat) : List Int := (List.range k).foldl (fun N n => ntS N (at0 A n) (at0 B n)) [0, 0, 0, 0]
def ggK (A B : List Int) (k : Nat) : List Int := (List.range k).foldl (fun G n => ggS G (at0 A n) (at0 B n)) (List.replicate 16 0)
theorem ntK_succ (A B : List Int) (k : Nat) : ntK A B (k + 1) = ntS (ntK A B k) (at0 A k) (at0 B k) := by unfold ntK; rw [List.range_succ, List.foldl_append]; rfl
theorem ggK_succ (A B : List Int) (k : Nat) : ggK A B (k + 1) = ggS (ggK A B k) (at0 A k) (at0 B k) := by unfold ggK; rw [List.range_succ, List.foldl_append]; rfl
theorem ntK_len (A B : List Int) : ∀ k, (ntK A B k).length = 4
  | 0 => rfl
  | k + 1 => by rw [ntK_succ]; unfold ntS; rw [List.length_set, List.length_set, ntK_len A B k]
theorem ntK_bd (A B : List Int) : ∀ (k p : Nat), p < 4 → -(k : Int) ≤ at0 (ntK A B k) p ∧ at0 (ntK A B k) p ≤ k
  | 0, p, hp => by
    rw [show ntK A B 0 = [0, 0, 0, 0] from rfl]
    rcases (show p = 0 ∨ p = 1 ∨ p = 2 ∨ p = 3 by omega) with rfl | rfl | rfl | rfl <;> decide
  | k + 1, p, hp => by
    have ih := ntK_bd A B k
    have hl := ntK_len A B k
    rw [ntK_succ]
    generalize ntK A B k = N at *
    unfold ntS
    have hset : ∀ (M : List Int) (i : Nat) (v : Int) (j : Nat), at0 (M.set i v) j = if j = i ∧ i < M.length then v else at0 M j := fun M i v j => by
      by_cases h : i < M.length
      · rw [at0_set h]
        by_cases e : j = i <;> simp [e, h]
      · rw [List.set_eq_of_length_le (by omega), if_neg fun g => h g.2]
    rw [hset, hset, hset, List.length_set]
    have i1 := ih p hp
    by_cases hx : (at0 A k).toNat < 4
    · have i2 := ih _ hx
      by_cases hy : (at0 B k).toNat < 4
      · have i3 := ih _ hy
        split <;> split <;> first | omega | (split <;> omega)
      · have : ¬ (p = (at0 B k).toNat ∧ (at0 B k).toNat < N.length) := by omega
        rw [if_neg this]
        split <;> omega
    · have h9 : ∀ j, ¬ (j = (at0 A k).toNat ∧ (at0 A k).toNat < N.length) := fun j g => by omega
      rw [if_neg (h9 _), if_neg (h9 _)]
      split
      · rename_i g
        have i3 := ih _ (show (at0 B k).toNat < 4 by omega)
        omega
      · omega
theorem NG.all {A B : List Int} (Z : Nat) (hA : ∀ k, k < Z → 0 ≤ at0 A k ∧ at0 A k ≤ 3) (hB : ∀ k, k < Z → 0 ≤ at0 B k ∧ at0 B k ≤ 3) : ∀ k, k ≤ Z → NG (ntK A B k) (ggK A B k)
  | 0, _ => NG.zero
  | k + 1, hk => by
    rw [ntK_succ, ggK_succ]
    exact (NG.all Z hA hB k (by omega)).step (hA k (by omega)) (hB k (by omega))
theorem NG.diag {N G : List Int} (h : NG N G) {i : Nat} (hi : i < 4) : at0 G (4 * i + i) = 0 := by
  rcases (show i = 0 ∨ i = 1 ∨ i = 2 ∨ i = 3 by omega) with rfl | rfl | rfl | rfl
  · exact h.d0
  · exact h.d1
  · exact h.d2
  · exact h.d3
def covK (q : Int → Int → Bool) : Nat → Int
  | 0 => 0
  | o + 1 => covK q o + cntP (q o) 145
theorem covK_bd (q : Int → Int → Bool) : ∀ o, 0 ≤ covK q o ∧ covK q o ≤ 145 * (o : Int)
  | 0 => ⟨Int.le_refl _, Int.le_refl _⟩
  | o + 1 => by
    have := covK_bd q o
    have h := cntP_le (q o) 145
    rw [covK]
    omega
end Riv

