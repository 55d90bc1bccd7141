/- Part 3 of the proof that SightSmall: the examples, small nets, and sizes. No condition. -/
import Derived.Test.YtdlnjnfkbneibaaGreatSm2
import Derived.Test.YtdlnjnfkbneibaaGreatRows
set_option linter.unusedVariables false
set_option linter.unusedSimpArgs false
namespace Clip
structure Pt where
  x : Rat
  y : Rat
structure Af where
  a : Rat
  b : Rat
  c : Rat
def Af.ev (u : Af) (p : Pt) : Rat := u.a * p.x + u.b * p.y + u.c
def pos (u : Af) (p : Pt) : Bool := decide (0 < u.ev p)
def chg : List Bool → Nat
  | a :: b :: l => (if a = b then 0 else 1) + chg (b :: l)
  | _ => 0
theorem chg_cons (a : Bool) (l : List Bool) : chg l ≤ chg (a :: l) := by
  cases l with
  | nil => simp [chg]
  | cons b l => rw [chg]; omega
theorem chg_skip (a b : Bool) (l : List Bool) : chg (a :: l) ≤ chg (a :: b :: l) := by
  cases l with
  | nil => simp [chg]
  | cons c l =>
    simp only [chg]
    cases a <;> cases b <;> cases c <;> simp <;> omega
theorem chg_sub {l m : List Bool} (h : l.Sublist m) : chg l ≤ chg m := by
  suffices H : ∀ (m l : List Bool), l.Sublist m → chg l ≤ chg m ∧ ∀ a, chg (a :: l) ≤ chg (a :: m) from (H m l h).1
  intro m
  induction m with
  | nil => intro l h; cases h; exact ⟨Nat.le_refl _, fun _ => Nat.le_refl _⟩
  | cons b m ih =>
    intro l h
    cases h with
    | cons _ h =>
      obtain ⟨h1, h2⟩ := ih l h
      refine ⟨Nat.le_trans h1 (chg_cons b m), fun a => ?_⟩
      exact Nat.le_trans (h2 a) (chg_skip a b m)
    | cons_cons _ h =>
      rename_i l
      obtain ⟨h1, h2⟩ := ih l h
      refine ⟨h2 b, fun a => ?_⟩
      simp only [chg]
      have := h2 b
      omega
def Uni (l : List Pt) : Prop := ∀ u : Af, chg (l.map (pos u)) ≤ 2
theorem Uni.sub {l m : List Pt} (h : Uni m) (hs : l.Sublist m) : Uni l := fun u => Nat.le_trans (chg_sub (hs.map _)) (h u)
structure Btw (p e q : Pt) : Prop where
  ex : ∃ s t : Rat, 0 ≤ s ∧ 0 ≤ t ∧ s + t = 1 ∧ e.x = s * p.x + t * q.x ∧ e.y = s * p.y + t * q.y
theorem Btw.ev {p e q : Pt} (h : Btw p e q) (u : Af) : ∃ s t : Rat, 0 ≤ s ∧ 0 ≤ t ∧ s + t = 1 ∧ u.ev e = s * u.ev p + t * u.ev q := by
  obtain ⟨s, t, h1, h2, h3, h4, h5⟩ := h.ex
  refine ⟨s, t, h1, h2, h3, ?_⟩
  unfold Af.ev
  rw [h4, h5]
  have : u.c = (s + t) * u.c := by rw [h3]; grind
  grind
theorem Btw.pos {p e q : Pt} (h : Btw p e q) {u : Af} (hp : pos u p = pos u q) : pos u e = pos u p := by
  obtain ⟨s, t, h1, h2, h3, h4⟩ := h.ev u
  unfold Clip.pos at *
  rw [h4]
  generalize u.ev p = P at *
  generalize u.ev q = Q at *
  by_cases hP : 0 < P
  · have hQ : 0 < Q := by rw [decide_eq_true hP] at hp; exact of_decide_eq_true hp.symm
    rw [decide_eq_true hP, decide_eq_true_eq]
    by_cases hs : s = 0
    · have ht : t = 1 := by grind
      rw [hs, ht]; grind
    · have hs : 0 < s := by grind
      have a1 := Rat.mul_pos hs hP
      have a2 := Rat.mul_nonneg h2 (Rat.le_of_lt hQ)
      grind
  · have hQ : ¬ 0 < Q := by rw [decide_eq_false hP] at hp; exact of_decide_eq_false hp.symm
    rw [decide_eq_false hP, decide_eq_false_iff_not]
    have a1 := Rat.mul_nonneg h1 (show 0 ≤ -P by grind)
    have a2 := Rat.mul_nonneg h2 (show 0 ≤ -Q by grind)
    grind
inductive Ins : List Pt → List Pt → Prop
  | one (p : Pt) : Ins [p] [p]
  | keep {p q : Pt} {l m : List Pt} (h : Ins (q :: l) (q :: m)) : Ins (p :: q :: l) (p :: q :: m)
  | more {p q e : Pt} {l m : List Pt} (h : Ins (q :: l) (q :: m)) (hb : Btw p e q) : Ins (p :: q :: l) (p :: e :: q :: m)
theorem Ins.chg {l m : List Pt} (h : Ins l m) (u : Af) : chg (m.map (pos u)) = Clip.chg (l.map (pos u)) := by
  induction h with
  | one p => rfl
  | keep h ih =>
    simp only [List.map_cons, Clip.chg] at ih ⊢
    rw [ih]
  | @more p q e l m h hb ih =>
    simp only [List.map_cons, Clip.chg] at ih ⊢
    rw [ih]
    have := fun h => hb.pos (u := u) h
    cases hp : Clip.pos u p <;> cases hq : Clip.pos u q <;> cases he : Clip.pos u e <;> simp_all
def NoX (b : Af) (p q : Pt) : Prop := ¬ (b.ev p < 0 ∧ 0 < b.ev q) ∧ ¬ (0 < b.ev p ∧ b.ev q < 0)
def Chn (b : Af) : List Pt → Prop
  | p :: q :: l => NoX b p q ∧ Chn b (q :: l)
  | _ => True
theorem Chn.tail {b : Af} {p : Pt} {l : List Pt} (h : Chn b (p :: l)) : Chn b l := by
  cases l with
  | nil => trivial
  | cons q l => exact h.2
theorem Chn.right {b : Af} : ∀ {l m : List Pt}, Chn b (l ++ m) → Chn b m
  | [], _, h => h
  | _ :: _, _, h => Chn.right (Chn.tail h)
theorem Chn.zero {b : Af} : ∀ {B : List Pt} {x z : Pt} {D : List Pt}, Chn b (x :: (B ++ z :: D)) → b.ev x ≠ 0 → b.ev z ≠ 0 → (decide (0 < b.ev x) ≠ decide (0 < b.ev z)) → ∃ y ∈ B, b.ev y = 0
  | [], x, z, D, h, hx, hz, hn => by
    exfalso
    have h := h.1
    unfold NoX at h
    by_cases h1 : 0 < b.ev x <;> by_cases h2 : 0 < b.ev z
    · exact hn (by rw [decide_eq_true h1, decide_eq_true h2])
    · exact h.2 ⟨h1, by grind⟩
    · exact h.1 ⟨by grind, h2⟩
    · exact hn (by rw [decide_eq_false h1, decide_eq_false h2])
  | y :: B, x, z, D, h, hx, hz, hn => by
    by_cases hy : b.ev y = 0
    · exact ⟨y, by simp, hy⟩
    · have h1 := h.1
      unfold NoX at h1
      have e : decide (0 < b.ev x) = decide (0 < b.ev y) := by
        by_cases h3 : 0 < b.ev x <;> by_cases h2 : 0 < b.ev y
        · rw [decide_eq_true h3, decide_eq_true h2]
        · exact absurd ⟨h3, by grind⟩ h1.2
        · exact absurd ⟨by grind, h2⟩ h1.1
        · rw [decide_eq_false h3, decide_eq_false h2]
      obtain ⟨y', h4, h5⟩ := Chn.zero (Chn.tail h) hy hz (by rw [← e]; exact hn)
      exact ⟨y', List.mem_cons_of_mem _ h4, h5⟩
theorem Chn.same {b : Af} : ∀ {A : List Pt} {f x : Pt} {R : List Pt}, Chn b (f :: (A ++ x :: R)) → (∀ y ∈ f :: (A ++ [x]), b.ev y ≠ 0) → decide (0 < b.ev f) = decide (0 < b.ev x) := by
  intro A f x R h hn
  by_cases hh : decide (0 < b.ev f) = decide (0 < b.ev x)
  · exact hh
  · exfalso
    obtain ⟨y, h1, h2⟩ := Chn.zero h (hn f (by simp)) (hn x (by simp)) hh
    exact hn y (by simp [h1]) h2
theorem chg4 {a b c d : Bool} (h1 : a ≠ b) (h2 : b ≠ c) (h3 : c ≠ d) : chg [a, b, c, d] = 3 := by
  cases a <;> cases b <;> cases c <;> cases d <;> simp_all [chg]
theorem twoSides {b w : Af} {A B D : List Pt} {x z : Pt} (hc : Chn b (A ++ x :: (B ++ z :: D))) (hU : chg ((A ++ x :: (B ++ z :: D)).map (pos w)) ≤ 2) (hx : b.ev x ≠ 0) (hz : b.ev z ≠ 0) (hn : decide (0 < b.ev x) ≠ decide (0 < b.ev z)) (wx : pos w x = true) (wz : pos w z = true)
    (hlow : ∀ y ∈ A ++ x :: (B ++ z :: D), b.ev y = 0 → pos w y = false) (hw : ∀ f l, (A ++ x :: (B ++ z :: D)).head? = some f → (A ++ x :: (B ++ z :: D)).getLast? = some l → NoX b l f) : False := by
  obtain ⟨y, hy, y0⟩ := Chn.zero hc.right hx hz hn
  have wy := hlow y (by simp [hy]) y0
  have pat : ∀ (p q r s : Pt), [p, q, r, s].Sublist (A ++ x :: (B ++ z :: D)) → pos w p ≠ pos w q → pos w q ≠ pos w r → pos w r ≠ pos w s → False := by
    intro p q r s hs h1 h2 h3
    have := chg_sub (hs.map (pos w))
    simp only [List.map_cons, List.map_nil] at this
    rw [chg4 h1 h2 h3] at this
    omega
  have sB : [x, y, z].Sublist (x :: (B ++ z :: D)) := by
    refine List.Sublist.cons_cons _ ?_
    have h1 : [y].Sublist B := List.singleton_sublist.2 hy
    have h2 : [z].Sublist (z :: D) := List.singleton_sublist.2 (by simp)
    exact h1.append h2
  have hA : ∀ a ∈ A, pos w a = true := by
    intro a ha
    cases h : pos w a
    · exfalso
      have h1 : [a].Sublist A := List.singleton_sublist.2 ha
      exact pat a x y z (h1.append sB) (by rw [h, wx]; decide) (by rw [wx, wy]; decide) (by rw [wy, wz]; decide)
    · rfl
  have hD : ∀ d ∈ D, pos w d = true := by
    intro d hd
    cases h : pos w d
    · exfalso
      have h2 : [z, d].Sublist (z :: D) := List.Sublist.cons_cons _ (List.singleton_sublist.2 hd)
      have h1 : [y].Sublist B := List.singleton_sublist.2 hy
      have h3 : [x, y, z, d].Sublist (x :: (B ++ z :: D)) := List.Sublist.cons_cons _ (h1.append h2)
      exact pat x y z d (h3.trans (List.sublist_append_right _ _)) (by rw [wx, wy]; decide) (by rw [wy, wz]; decide) (by rw [wz, h]; decide)
    · rfl
  have nz : ∀ c ∈ A ++ x :: (B ++ z :: D), pos w c = true → b.ev c ≠ 0 := by
    intro c hc h1 h2
    rw [hlow c hc h2] at h1; cases h1
  -- the first one is where x is
  have hf : ∃ f, (A ++ x :: (B ++ z :: D)).head? = some f ∧ b.ev f ≠ 0 ∧ decide (0 < b.ev f) = decide (0 < b.ev x) := by
    cases A with
    | nil => exact ⟨x, rfl, hx, rfl⟩
    | cons f A =>
      refine ⟨f, rfl, nz f (by simp) (hA f (by simp)), ?_⟩
      refine Chn.same (A := A) (R := B ++ z :: D) hc fun c hc2 => ?_
      simp only [List.mem_cons, List.mem_append, List.not_mem_nil, or_false] at hc2
      rcases hc2 with rfl | h | rfl
      · exact nz _ (by simp) (hA _ (by simp))
      · exact nz c (by simp [h]) (hA c (by simp [h]))
      · exact hx
  have hl : ∃ l, (A ++ x :: (B ++ z :: D)).getLast? = some l ∧ b.ev l ≠ 0 ∧ decide (0 < b.ev l) = decide (0 < b.ev z) := by
    have e : A ++ x :: (B ++ z :: D) = (A ++ x :: B) ++ z :: D := by simp
    rw [e] at hc nz ⊢
    rcases List.eq_nil_or_concat D with rfl | ⟨D', l, rfl⟩
    · exact ⟨z, List.getLast?_concat, hz, rfl⟩
    · refine ⟨l, by rw [show A ++ x :: B ++ z :: D'.concat l = (A ++ x :: B ++ z :: D') ++ [l] by simp]; exact List.getLast?_concat, nz l (by simp) (hD l (by simp)), ?_⟩
      have h1 := hc.right
      have := Chn.same (A := D') (x := l) (R := []) (f := z) (b := b) (by simpa using h1) fun c hc2 => by
        simp only [List.mem_cons, List.mem_append, List.not_mem_nil, or_false] at hc2
        rcases hc2 with rfl | h | rfl
        · exact hz
        · exact nz c (by simp [h]) (hD c (by simp [h]))
        · exact nz _ (by simp) (hD _ (by simp))
      exact this.symm
  obtain ⟨f, f1, f2, f3⟩ := hf
  obtain ⟨l, l1, l2, l3⟩ := hl
  have := hw f l f1 l1
  unfold NoX at this
  rw [← f3, ← l3] at hn
  by_cases h1 : 0 < b.ev f <;> by_cases h2 : 0 < b.ev l
  · exact hn (by rw [decide_eq_true h1, decide_eq_true h2])
  · exact this.1 ⟨by grind, h1⟩
  · exact this.2 ⟨h2, by grind⟩
  · exact hn (by rw [decide_eq_false h1, decide_eq_false h2])
def Spans (L : List Pt) (F : Pt → Prop) : Prop := ∀ u : Af, ∀ q, F q → 0 < u.ev q → ∃ c ∈ L, 0 < u.ev c
theorem best_ratio {b u : Af} : ∀ (M : List Pt), (∃ c ∈ M, 0 < b.ev c ∧ 0 < u.ev c) → ∃ c ∈ M, 0 < b.ev c ∧ 0 < u.ev c ∧ ∀ d ∈ M, 0 < b.ev d → u.ev d * b.ev c ≤ u.ev c * b.ev d
  | [], h => by obtain ⟨c, hc, _⟩ := h; cases hc
  | m :: M, h => by
    by_cases hM : ∃ c ∈ M, 0 < b.ev c ∧ 0 < u.ev c
    · obtain ⟨c, h1, h2, h3, h4⟩ := best_ratio M hM
      by_cases hm : 0 < b.ev m ∧ u.ev c * b.ev m < u.ev m * b.ev c
      · have hum : 0 < u.ev m := by
          have a1 := Rat.mul_pos h3 hm.1
          rcases Rat.le_total (a := u.ev m) (b := 0) with h | h
          · have := Rat.mul_nonneg (show 0 ≤ -u.ev m by grind) (Rat.le_of_lt h2)
            grind
          · rcases (show u.ev m = 0 ∨ 0 < u.ev m by grind) with h | h
            · rw [h] at hm; grind
            · exact h
        refine ⟨m, by simp, hm.1, hum, fun d hd hbd => ?_⟩
        rcases List.mem_cons.1 hd with rfl | hd
        · exact Rat.le_refl
        · have e1 := h4 d hd hbd
          -- u d / b d ≤ u c / b c < u m / b m
          have e2 := Rat.mul_le_mul_of_nonneg_right e1 (Rat.le_of_lt hm.1)
          have e3 := Rat.mul_le_mul_of_nonneg_right (Rat.le_of_lt hm.2) (Rat.le_of_lt hbd)
          have e4 : u.ev d * b.ev m * b.ev c ≤ u.ev m * b.ev d * b.ev c := by grind
          exact Rat.le_of_mul_le_mul_right e4 h2
      · refine ⟨c, List.mem_cons_of_mem _ h1, h2, h3, fun d hd hbd => ?_⟩
        rcases List.mem_cons.1 hd with rfl | hd
        · have := fun hh => hm ⟨hbd, hh⟩
          exact Rat.not_lt.1 this
        · exact h4 d hd hbd
    · obtain ⟨c, hc, h1, h2⟩ := h
      rcases List.mem_cons.1 hc with rfl | hc
      · refine ⟨c, by simp, h1, h2, fun d hd hbd => ?_⟩
        rcases List.mem_cons.1 hd with rfl | hd
        · exact Rat.le_refl
        · have hud : ¬ 0 < u.ev d := fun h3 => hM ⟨d, hd, hbd, h3⟩
          have a1 := Rat.mul_nonneg (show 0 ≤ -u.ev d by grind) (Rat.le_of_lt h1)
          have a2 := Rat.mul_pos h2 hbd
          grind
      · exact absurd ⟨c, hc, h1, h2⟩ hM
theorem Spans.cut {L M out : List Pt} {F : Pt → Prop} {b : Af} (h : Spans L F) (hU : Uni M) (hLM : ∀ c ∈ L, c ∈ M) (hc : Chn b M) (hw : ∀ f l, M.head? = some f → M.getLast? = some l → NoX b l f) (ho : ∀ c ∈ M, b.ev c ≤ 0 → c ∈ out) : Spans out (fun q => F q ∧ b.ev q ≤ 0) := by
  rintro u q ⟨hF, hbq⟩ huq
  by_cases hex : ∃ c ∈ out, 0 < u.ev c
  · exact hex
  exfalso
  have hno : ∀ c ∈ M, b.ev c ≤ 0 → u.ev c ≤ 0 := fun c hcM hb => Rat.not_lt.1 fun hh => hex ⟨c, ho c hcM hb, hh⟩
  obtain ⟨δ, hδ, hδq⟩ : ∃ δ : Rat, 0 < δ ∧ 2 * δ = u.ev q := ⟨u.ev q / 2, by grind, by grind⟩
  -- a little less
  let u' : Af := ⟨u.a, u.b, u.c - δ⟩
  have eu : ∀ p, u'.ev p = u.ev p - δ := fun p => by show u.a * p.x + u.b * p.y + (u.c - δ) = _; unfold Af.ev; grind
  have h1 : ∃ c ∈ M, 0 < b.ev c ∧ 0 < u'.ev c := by
    obtain ⟨c, h1, h2⟩ := h u' q hF (by rw [eu]; grind)
    refine ⟨c, hLM c h1, ?_, h2⟩
    rcases Rat.le_total (a := b.ev c) (b := 0) with h3 | h3
    · have := hno c (hLM c h1) h3
      rw [eu] at h2; grind
    · rcases (show b.ev c = 0 ∨ 0 < b.ev c by grind) with h4 | h4
      · have := hno c (hLM c h1) (by grind)
        rw [eu] at h2; grind
      · exact h4
  obtain ⟨c0, c1, c2, c3, c4⟩ := best_ratio M h1
  obtain ⟨lam, hl⟩ : ∃ lam : Rat, lam * b.ev c0 = u'.ev c0 := ⟨u'.ev c0 / b.ev c0, by rw [Rat.div_mul_cancel (by grind)]⟩
  have hl0 : 0 < lam := by
    rcases Rat.le_total (a := lam) (b := 0) with h3 | h3
    · have := Rat.mul_nonneg (show 0 ≤ -lam by grind) (Rat.le_of_lt c2)
      grind
    · rcases (show lam = 0 ∨ 0 < lam by grind) with h4 | h4
      · rw [h4] at hl; grind
      · exact h4
  let w : Af := ⟨u'.a - lam * b.a, u'.b - lam * b.b, u'.c - lam * b.c⟩
  have ew : ∀ p, w.ev p = u'.ev p - lam * b.ev p := fun p => by
    show (u'.a - lam * b.a) * p.x + (u'.b - lam * b.b) * p.y + (u'.c - lam * b.c) = _
    unfold Af.ev; grind
  have hwq : 0 < w.ev q := by
    have := Rat.mul_nonneg (Rat.le_of_lt hl0) (show 0 ≤ -b.ev q by grind)
    rw [ew, eu]; grind
  obtain ⟨c, hcL, hcw⟩ := h w q hF hwq
  have hcM := hLM c hcL
  have hout : ∀ d ∈ M, 0 < b.ev d → w.ev d ≤ 0 := by
    intro d hd hbd
    have := c4 d hd hbd
    rw [← hl] at this
    have e4 : u'.ev d * b.ev c0 ≤ lam * b.ev d * b.ev c0 := by grind
    have := Rat.le_of_mul_le_mul_right e4 c2
    rw [ew]; grind
  have hcb : b.ev c < 0 := by
    rcases (show b.ev c < 0 ∨ b.ev c = 0 ∨ 0 < b.ev c by grind) with h3 | h3 | h3
    · exact h3
    · have := hno c hcM (by grind)
      rw [ew, eu, h3] at hcw; grind
    · have := hout c hcM h3
      grind
  let v : Af := ⟨w.a, w.b, w.c + δ / 2⟩
  have ev : ∀ p, v.ev p = w.ev p + δ / 2 := fun p => by show w.a * p.x + w.b * p.y + (w.c + δ / 2) = _; unfold Af.ev; grind
  have v1 : pos v c = true := decide_eq_true (by rw [ev]; grind)
  have v2 : pos v c0 = true := decide_eq_true (by rw [ev, ew, hl]; grind)
  have v3 : ∀ y ∈ M, b.ev y = 0 → pos v y = false := fun y hy h0 => decide_eq_false (by
    have := hno y hy (by grind)
    rw [ev, ew, eu, h0]; grind)
  have hne : c ≠ c0 := fun e => by rw [e] at hcb; grind
  obtain ⟨A, R, rfl⟩ := List.append_of_mem hcM
  have hm : c0 ∈ A ∨ c0 ∈ R := by
    rcases List.mem_append.1 c1 with h3 | h3
    · exact .inl h3
    · rcases List.mem_cons.1 h3 with h4 | h4
      · exact absurd h4.symm hne
      · exact .inr h4
  rcases hm with hm | hm
  · obtain ⟨A', B', rfl⟩ := List.append_of_mem hm
    have e : (A' ++ c0 :: B') ++ c :: R = A' ++ c0 :: (B' ++ c :: R) := by simp
    rw [e] at hc hw v3
    have hU := hU v
    rw [e] at hU
    exact twoSides hc hU (by grind) (by grind) (by rw [decide_eq_true c2, decide_eq_false (by grind)]; decide) v2 v1 v3 hw
  · obtain ⟨B', D, rfl⟩ := List.append_of_mem hm
    exact twoSides hc (hU v) (by grind) (by grind) (by rw [decide_eq_true c2, decide_eq_false (by grind)]; decide) v1 v2 v3 hw
end Clip

namespace Clip
structure Cr where
  p : Pt
  al : Af
def step (b : Af) (meet : Af → Pt) (c d : Cr) : List Cr :=
  if b.ev c.p ≤ 0 ∧ b.ev d.p ≤ 0 then [c]
  else if b.ev c.p = 0 then [⟨c.p, b⟩]
  else if b.ev c.p < 0 then [c, ⟨meet c.al, b⟩]
  else if b.ev d.p < 0 then [⟨meet c.al, c.al⟩]
  else []
def cutGo (b : Af) (meet : Af → Pt) (f : Cr) : List Cr → List Cr
  | [] => []
  | [c] => step b meet c f
  | c :: d :: l => step b meet c d ++ cutGo b meet f (d :: l)
def cut (b : Af) (meet : Af → Pt) : List Cr → List Cr
  | [] => []
  | f :: l => cutGo b meet f (f :: l)
def full1 (b : Af) (meet : Af → Pt) (c d : Cr) : List Pt :=
  if (b.ev c.p < 0 ∧ 0 < b.ev d.p) ∨ (0 < b.ev c.p ∧ b.ev d.p < 0) then [c.p, meet c.al] else [c.p]
def fullGo (b : Af) (meet : Af → Pt) (f : Cr) : List Cr → List Pt
  | [] => []
  | [c] => full1 b meet c f
  | c :: d :: l => full1 b meet c d ++ fullGo b meet f (d :: l)
structure MeetOk (b : Af) (meet : Af → Pt) (c d : Cr) : Prop where
  on : b.ev (meet c.al) = 0
  btw : Btw c.p (meet c.al) d.p
def Sides (b : Af) (c d : Cr) : Prop := (b.ev c.p < 0 ∧ 0 < b.ev d.p) ∨ (0 < b.ev c.p ∧ b.ev d.p < 0)
def Adj (R : Cr → Cr → Prop) (f : Cr) : List Cr → Prop
  | [] => True
  | [c] => R c f
  | c :: d :: l => R c d ∧ Adj R f (d :: l)
theorem step_full {b : Af} {meet : Af → Pt} {c d : Cr} (h : Sides b c d → MeetOk b meet c d) : (step b meet c d).map Cr.p = (full1 b meet c d).filter fun p => decide (b.ev p ≤ 0) := by
  unfold step full1
  unfold Sides at h
  by_cases h1 : b.ev c.p ≤ 0
  · by_cases h2 : b.ev d.p ≤ 0
    · rw [if_pos ⟨h1, h2⟩, if_neg (by grind)]
      simp [h1]
    · rw [if_neg (by grind)]
      by_cases h3 : b.ev c.p = 0
      · rw [if_pos h3, if_neg (by grind)]
        simp [h1]
      · have h4 : b.ev c.p < 0 := by grind
        have h5 : 0 < b.ev d.p := by grind
        have := (h (.inl ⟨h4, h5⟩)).on
        rw [if_neg h3, if_pos h4, if_pos (.inl ⟨h4, h5⟩)]
        simp [h1, this]
  · rw [if_neg (by grind), if_neg (by grind), if_neg (by grind)]
    by_cases h3 : b.ev d.p < 0
    · have h4 : 0 < b.ev c.p := by grind
      have := (h (.inr ⟨h4, h3⟩)).on
      rw [if_pos h3, if_pos (.inr ⟨h4, h3⟩)]
      simp [h1, this]
    · rw [if_neg h3, if_neg (by grind)]
      simp [h1]
theorem cut_full {b : Af} {meet : Af → Pt} {f : Cr} : ∀ {l : List Cr}, Adj (fun c d => Sides b c d → MeetOk b meet c d) f l → (cutGo b meet f l).map Cr.p = (fullGo b meet f l).filter fun p => decide (b.ev p ≤ 0)
  | [], _ => rfl
  | [c], h => step_full h
  | c :: d :: l, h => by rw [cutGo, fullGo, List.map_append, List.filter_append, step_full h.1, cut_full h.2]
theorem full1_mem {b : Af} {meet : Af → Pt} {c d : Cr} : c.p ∈ full1 b meet c d := by unfold full1; split <;> simp
theorem full_mem {b : Af} {meet : Af → Pt} {f : Cr} : ∀ {l : List Cr} {c : Cr}, c ∈ l → c.p ∈ fullGo b meet f l
  | [], _, h => by cases h
  | [d], c, h => by rw [List.mem_singleton] at h; subst h; exact full1_mem
  | d :: e :: l, c, h => by
    rw [fullGo, List.mem_append]
    rcases List.mem_cons.1 h with rfl | h
    · exact .inl full1_mem
    · exact .inr (full_mem h)
theorem full_head {b : Af} {meet : Af → Pt} {f c : Cr} {l : List Cr} : ∃ r, fullGo b meet f (c :: l) = c.p :: r := by
  cases l with
  | nil => unfold fullGo full1; split <;> exact ⟨_, rfl⟩
  | cons d l => rw [fullGo]; unfold full1; split <;> exact ⟨_, rfl⟩
theorem full_chn {b : Af} {meet : Af → Pt} {f : Cr} : ∀ {c : Cr} {l : List Cr}, Adj (fun c d => Sides b c d → MeetOk b meet c d) f (c :: l) → Chn b (fullGo b meet f (c :: l)) ∧ ∀ p, (fullGo b meet f (c :: l)).getLast? = some p → NoX b p f.p
  | c, [], h => by
    have h : Sides b c f → MeetOk b meet c f := h
    show Chn b (full1 b meet c f) ∧ ∀ p, (full1 b meet c f).getLast? = some p → NoX b p f.p
    unfold full1
    by_cases hs : Sides b c f
    · have := (h hs).on
      have hs' : (b.ev c.p < 0 ∧ 0 < b.ev f.p) ∨ (0 < b.ev c.p ∧ b.ev f.p < 0) := hs
      rw [if_pos hs']
      refine ⟨⟨⟨?_, ?_⟩, trivial⟩, fun p hp => ?_⟩
      · rw [this]; grind
      · rw [this]; grind
      · simp at hp; subst hp; unfold NoX; rw [this]; grind
    · have hs' : ¬ ((b.ev c.p < 0 ∧ 0 < b.ev f.p) ∨ (0 < b.ev c.p ∧ b.ev f.p < 0)) := hs
      rw [if_neg hs']
      refine ⟨trivial, fun p hp => ?_⟩
      simp at hp; subst hp
      unfold Sides at hs; unfold NoX; grind
  | c, d :: l, h => by
    obtain ⟨ih1, ih2⟩ := full_chn (f := f) (c := d) (l := l) h.2
    obtain ⟨r, hr⟩ := full_head (b := b) (meet := meet) (f := f) (c := d) (l := l)
    rw [fullGo]
    rw [hr] at ih1 ih2 ⊢
    unfold full1
    by_cases hs : Sides b c d
    · have := (h.1 hs).on
      have hs' : (b.ev c.p < 0 ∧ 0 < b.ev d.p) ∨ (0 < b.ev c.p ∧ b.ev d.p < 0) := hs
      rw [if_pos hs']
      refine ⟨⟨⟨?_, ?_⟩, ⟨?_, ?_⟩, ih1⟩, fun p hp => ih2 p (by simpa using hp)⟩
      · rw [this]; grind
      · rw [this]; grind
      · rw [this]; grind
      · rw [this]; grind
    · have hs' : ¬ ((b.ev c.p < 0 ∧ 0 < b.ev d.p) ∨ (0 < b.ev c.p ∧ b.ev d.p < 0)) := hs
      rw [if_neg hs']
      refine ⟨⟨?_, ih1⟩, fun p hp => ih2 p (by simpa using hp)⟩
      unfold Sides at hs; unfold NoX; grind
/-! How often the list with what is put in changes. -/
theorem chg_par : ∀ (a : Bool) (l : List Bool) (z : Bool), (a :: l).getLast? = some z → (chg (a :: l) % 2 = if a = z then 0 else 1)
  | a, [], z, h => by simp at h; subst h; simp [chg]
  | a, b :: l, z, h => by
    have ih := chg_par b l z (by simpa using h)
    rw [chg]
    cases a <;> cases b <;> cases z <;> simp_all <;> omega
theorem chg_snoc : ∀ (l : List Bool) (z e : Bool), l.getLast? = some z → chg (l ++ [e]) = chg l + if z = e then 0 else 1
  | [], z, e, h => by simp at h
  | [a], z, e, h => by simp at h; subst h; simp [chg]
  | a :: b :: l, z, e, h => by
    have ih := chg_snoc (b :: l) z e (by simpa using h)
    rw [List.cons_append, List.cons_append, chg, ← List.cons_append, ih, chg]; omega
theorem full_chg {b u : Af} {meet : Af → Pt} {f : Cr} : ∀ {c : Cr} {l : List Cr}, Adj (fun c d => Sides b c d → MeetOk b meet c d) f (c :: l) →
    chg ((fullGo b meet f (c :: l)).map (pos u) ++ [pos u f.p]) = chg (((c :: l).map fun x => pos u x.p) ++ [pos u f.p])
  | c, [], h => by
    have h : Sides b c f → MeetOk b meet c f := h
    show chg ((full1 b meet c f).map (pos u) ++ [pos u f.p]) = chg [pos u c.p, pos u f.p]
    unfold full1
    by_cases hs : Sides b c f
    · have hb := (h hs).btw
      have hs' : (b.ev c.p < 0 ∧ 0 < b.ev f.p) ∨ (0 < b.ev c.p ∧ b.ev f.p < 0) := hs
      rw [if_pos hs']
      have := fun hh => hb.pos (u := u) hh
      simp only [List.map_cons, List.map_nil, List.cons_append, List.nil_append, chg]
      cases hp : pos u c.p <;> cases hq : pos u f.p <;> cases he : pos u (meet c.al) <;> simp_all
    · have hs' : ¬ ((b.ev c.p < 0 ∧ 0 < b.ev f.p) ∨ (0 < b.ev c.p ∧ b.ev f.p < 0)) := hs
      rw [if_neg hs']; rfl
  | c, d :: l, h => by
    have ih := full_chg (u := u) (f := f) (c := d) (l := l) h.2
    obtain ⟨r, hr⟩ := full_head (b := b) (meet := meet) (f := f) (c := d) (l := l)
    rw [fullGo]
    rw [hr] at ih ⊢
    unfold full1
    by_cases hs : Sides b c d
    · have hb := (h.1 hs).btw
      have hs' : (b.ev c.p < 0 ∧ 0 < b.ev d.p) ∨ (0 < b.ev c.p ∧ b.ev d.p < 0) := hs
      rw [if_pos hs']
      have := fun hh => hb.pos (u := u) hh
      simp only [List.map_cons, List.cons_append, List.nil_append, chg] at ih ⊢
      rw [ih]
      cases hp : pos u c.p <;> cases hq : pos u d.p <;> cases he : pos u (meet c.al) <;> simp_all
    · have hs' : ¬ ((b.ev c.p < 0 ∧ 0 < b.ev d.p) ∨ (0 < b.ev c.p ∧ b.ev d.p < 0)) := hs
      rw [if_neg hs']
      simp only [List.map_cons, List.cons_append, List.nil_append, chg] at ih ⊢
      rw [ih]
theorem full_uni {b : Af} {meet : Af → Pt} {f : Cr} {l : List Cr} (h : Adj (fun c d => Sides b c d → MeetOk b meet c d) f (f :: l)) (hU : Uni ((f :: l).map Cr.p)) : Uni (fullGo b meet f (f :: l)) := by
  intro u
  have h1 := full_chg (u := u) h
  have h2 : chg ((f :: l).map fun x => pos u x.p) ≤ 2 := by
    have := hU u
    rw [List.map_map] at this; exact this
  have hne : ∃ z, ((f :: l).map fun x => pos u x.p).getLast? = some z := by
    rw [List.getLast?_eq_some_getLast (by simp)]; exact ⟨_, rfl⟩
  obtain ⟨z, hz⟩ := hne
  have h3 := chg_snoc _ _ (pos u f.p) hz
  have h4 := chg_par (pos u f.p) (l.map fun x => pos u x.p) z (by simpa using hz)
  rw [List.map_cons] at h2 h3
  rw [List.map_cons] at h1
  have h5 : chg ((fullGo b meet f (f :: l)).map (pos u)) ≤ chg ((fullGo b meet f (f :: l)).map (pos u) ++ [pos u f.p]) := chg_sub (List.sublist_append_left _ _)
  rw [h1, h3] at h5
  by_cases e : pos u f.p = z
  · rw [if_pos e] at h4
    rw [if_pos e.symm] at h5
    omega
  · rw [if_neg e] at h4
    rw [if_neg (fun h => e h.symm)] at h5
    omega
theorem cut_ok {b : Af} {meet : Af → Pt} {f : Cr} {l : List Cr} {F : Pt → Prop} (h : Adj (fun c d => Sides b c d → MeetOk b meet c d) f (f :: l)) (hU : Uni ((f :: l).map Cr.p)) (hS : Spans ((f :: l).map Cr.p) F) :
    Uni ((cut b meet (f :: l)).map Cr.p) ∧ Spans ((cut b meet (f :: l)).map Cr.p) (fun q => F q ∧ b.ev q ≤ 0) := by
  have e : (cut b meet (f :: l)).map Cr.p = (fullGo b meet f (f :: l)).filter fun p => decide (b.ev p ≤ 0) := cut_full h
  have hU2 := full_uni h hU
  obtain ⟨hc, hw⟩ := full_chn h
  obtain ⟨r, hr⟩ := full_head (b := b) (meet := meet) (f := f) (c := f) (l := l)
  rw [e]
  refine ⟨hU2.sub List.filter_sublist, Spans.cut hS hU2 (fun c hcm => ?_) hc (fun g z hg hz => ?_) fun c hcm hb => ?_⟩
  · obtain ⟨x, hx, rfl⟩ := List.mem_map.1 hcm
    exact full_mem hx
  · rw [hr] at hg
    have : g = f.p := by simpa using hg.symm
    subst this
    exact hw z hz
  · exact List.mem_filter.2 ⟨hcm, by simpa using hb⟩
end Clip

namespace Clip
def det (k b : Af) : Rat := k.a * b.b - b.a * k.b
def meetP (k b : Af) : Pt := ⟨(k.b * b.c - b.b * k.c) / det k b, (b.a * k.c - k.a * b.c) / det k b⟩
structure Real (k : Af) : Prop where
  ne : k.a ≠ 0 ∨ k.b ≠ 0
theorem meetP_on {k b : Af} (h : det k b ≠ 0) : k.ev (meetP k b) = 0 ∧ b.ev (meetP k b) = 0 := by
  unfold Af.ev meetP
  have hd : det k b = k.a * b.b - b.a * k.b := rfl
  generalize det k b = d at *
  constructor
  · have e : d * (k.a * ((k.b * b.c - b.b * k.c) / d) + k.b * ((b.a * k.c - k.a * b.c) / d) + k.c) = 0 := by
      have e1 : d * ((k.b * b.c - b.b * k.c) / d) = k.b * b.c - b.b * k.c := by rw [Rat.mul_comm]; exact Rat.div_mul_cancel h
      have e2 : d * ((b.a * k.c - k.a * b.c) / d) = b.a * k.c - k.a * b.c := by rw [Rat.mul_comm]; exact Rat.div_mul_cancel h
      generalize (k.b * b.c - b.b * k.c) / d = X at *
      generalize (b.a * k.c - k.a * b.c) / d = Y at *
      grind
    rcases Rat.mul_eq_zero.1 e with h1 | h1
    · exact absurd h1 h
    · exact h1
  · have e : d * (b.a * ((k.b * b.c - b.b * k.c) / d) + b.b * ((b.a * k.c - k.a * b.c) / d) + b.c) = 0 := by
      have e1 : d * ((k.b * b.c - b.b * k.c) / d) = k.b * b.c - b.b * k.c := by rw [Rat.mul_comm]; exact Rat.div_mul_cancel h
      have e2 : d * ((b.a * k.c - k.a * b.c) / d) = b.a * k.c - k.a * b.c := by rw [Rat.mul_comm]; exact Rat.div_mul_cancel h
      generalize (k.b * b.c - b.b * k.c) / d = X at *
      generalize (b.a * k.c - k.a * b.c) / d = Y at *
      grind
    rcases Rat.mul_eq_zero.1 e with h1 | h1
    · exact absurd h1 h
    · exact h1
theorem meetP_uniq {k b : Af} (h : det k b ≠ 0) {p : Pt} (h1 : k.ev p = 0) (h2 : b.ev p = 0) : p = meetP k b := by
  obtain ⟨q1, q2⟩ := meetP_on h
  generalize meetP k b = q at *
  obtain ⟨px, py⟩ := p
  obtain ⟨qx, qy⟩ := q
  unfold Af.ev at *
  simp only at *
  unfold det at h
  have e1 : (k.a * b.b - b.a * k.b) * (px - qx) = 0 := by grind
  have e2 : (k.a * b.b - b.a * k.b) * (py - qy) = 0 := by grind
  have f1 : px - qx = 0 := by
    rcases Rat.mul_eq_zero.1 e1 with h3 | h3
    · exact absurd h3 h
    · exact h3
  have f2 : py - qy = 0 := by
    rcases Rat.mul_eq_zero.1 e2 with h3 | h3
    · exact absurd h3 h
    · exact h3
  have g1 : px = qx := by grind
  have g2 : py = qy := by grind
  rw [g1, g2]
theorem det_ne {k b : Af} (hk : Real k) {c d : Pt} (h1 : k.ev c = 0) (h2 : k.ev d = 0) (h3 : b.ev c ≠ b.ev d) : det k b ≠ 0 := by
  intro h
  apply h3
  unfold det at h
  unfold Af.ev at *
  rcases hk.ne with hk | hk
  · have : k.a * (b.a * c.x + b.b * c.y + b.c - (b.a * d.x + b.b * d.y + b.c)) = 0 := by grind
    rcases Rat.mul_eq_zero.1 this with h4 | h4
    · exact absurd h4 hk
    · grind
  · have : k.b * (b.a * c.x + b.b * c.y + b.c - (b.a * d.x + b.b * d.y + b.c)) = 0 := by grind
    rcases Rat.mul_eq_zero.1 this with h4 | h4
    · exact absurd h4 hk
    · grind
theorem meet_btw {k b : Af} (hk : Real k) {c d : Pt} (h1 : k.ev c = 0) (h2 : k.ev d = 0) (hs : (b.ev c < 0 ∧ 0 < b.ev d) ∨ (0 < b.ev c ∧ b.ev d < 0)) : det k b ≠ 0 ∧ b.ev (meetP k b) = 0 ∧ Btw c (meetP k b) d := by
  have hne : b.ev c ≠ b.ev d := by grind
  have hd := det_ne hk h1 h2 hne
  refine ⟨hd, (meetP_on hd).2, ?_⟩
  have hD : b.ev c - b.ev d ≠ 0 := by grind
  obtain ⟨t, ht⟩ : ∃ t : Rat, t * (b.ev c - b.ev d) = b.ev c := ⟨b.ev c / (b.ev c - b.ev d), Rat.div_mul_cancel hD⟩
  have ht0 : 0 ≤ t ∧ t ≤ 1 := by
    rcases hs with ⟨a1, a2⟩ | ⟨a1, a2⟩
    · constructor
      · rcases Rat.le_total (a := 0) (b := t) with h | h
        · exact h
        · have := Rat.mul_nonneg (show 0 ≤ -t by grind) (show 0 ≤ b.ev d - b.ev c by grind)
          have e : -t * (b.ev d - b.ev c) = b.ev c := by grind
          grind
      · rcases Rat.le_total (a := t) (b := 1) with h | h
        · exact h
        · have := Rat.mul_nonneg (show 0 ≤ t - 1 by grind) (show 0 ≤ b.ev d - b.ev c by grind)
          have e : (t - 1) * (b.ev d - b.ev c) = -b.ev d := by grind
          grind
    · constructor
      · rcases Rat.le_total (a := 0) (b := t) with h | h
        · exact h
        · have := Rat.mul_nonneg (show 0 ≤ -t by grind) (show 0 ≤ b.ev c - b.ev d by grind)
          have e : -t * (b.ev c - b.ev d) = -b.ev c := by grind
          grind
      · rcases Rat.le_total (a := t) (b := 1) with h | h
        · exact h
        · have := Rat.mul_nonneg (show 0 ≤ t - 1 by grind) (show 0 ≤ b.ev c - b.ev d by grind)
          have e : (t - 1) * (b.ev c - b.ev d) = b.ev d := by grind
          grind
  have hp : (⟨(1 - t) * c.x + t * d.x, (1 - t) * c.y + t * d.y⟩ : Pt) = meetP k b := by
    refine meetP_uniq hd ?_ ?_
    · unfold Af.ev at *
      simp only
      grind
    · unfold Af.ev at *
      simp only
      grind
  rw [← hp]
  exact ⟨1 - t, t, by grind, ht0.1, by grind, rfl, rfl⟩
end Clip

namespace Clip
def OnL (c d : Cr) : Prop := c.al.ev c.p = 0 ∧ c.al.ev d.p = 0
theorem Adj.mono {R S : Cr → Cr → Prop} {f : Cr} : ∀ {l : List Cr}, (∀ c ∈ l, ∀ d, R c d → S c d) → Adj R f l → Adj S f l
  | [], _, _ => trivial
  | [c], h, k => h c (by simp) f k
  | c :: d :: l, h, k => ⟨h c (by simp) d k.1, Adj.mono (fun c hc => h c (List.mem_cons_of_mem _ hc)) k.2⟩
theorem adj_meet {b : Af} {f : Cr} {l : List Cr} (h : Adj OnL f l) (hr : ∀ c ∈ l, Real c.al) : Adj (fun c d => Sides b c d → MeetOk b (fun k => meetP k b) c d) f l :=
  Adj.mono (fun c hc d hd hs => by
    obtain ⟨h1, h2, h3⟩ := meet_btw (hr c hc) hd.1 hd.2 hs
    exact ⟨h2, h3⟩) h
def nx (s : Pt) : List Cr → Pt
  | [] => s
  | c :: _ => c.p
theorem nx_append (s : Pt) (a b : List Cr) : nx s (a ++ b) = nx (nx s b) a := by cases a <;> rfl
theorem nx_go {b : Af} {f : Cr} {s : Pt} (h1 : b.ev f.p ≤ 0 → s = f.p) (h2 : 0 < b.ev f.p → b.ev s = 0) : ∀ {c : Cr} {l : List Cr}, Adj OnL f (c :: l) → (∀ x ∈ c :: l, Real x.al) →
    (b.ev c.p ≤ 0 → nx s (cutGo b (fun k => meetP k b) f (c :: l)) = c.p) ∧ (0 < b.ev c.p → b.ev (nx s (cutGo b (fun k => meetP k b) f (c :: l))) = 0)
  | c, [], h, hr => by
    show (b.ev c.p ≤ 0 → nx s (step b _ c f) = c.p) ∧ (0 < b.ev c.p → b.ev (nx s (step b _ c f)) = 0)
    have h : OnL c f := h
    unfold step
    refine ⟨fun hc => ?_, fun hc => ?_⟩
    · by_cases hf : b.ev f.p ≤ 0
      · rw [if_pos ⟨hc, hf⟩]; rfl
      · rw [if_neg (by grind)]
        by_cases h0 : b.ev c.p = 0
        · rw [if_pos h0]; rfl
        · rw [if_neg h0, if_pos (by grind)]; rfl
    · rw [if_neg (by grind), if_neg (by grind), if_neg (by grind)]
      by_cases hf : b.ev f.p < 0
      · rw [if_pos hf]
        exact (meet_btw (hr c (by simp)) h.1 h.2 (.inr ⟨hc, hf⟩)).2.1
      · rw [if_neg hf]
        show b.ev s = 0
        by_cases hf0 : 0 < b.ev f.p
        · exact h2 hf0
        · rw [h1 (by grind)]; grind
  | c, d :: l, h, hr => by
    obtain ⟨ih1, ih2⟩ := nx_go h1 h2 (c := d) (l := l) h.2 (fun c hc => hr c (List.mem_cons_of_mem _ hc))
    have hcd : OnL c d := h.1
    rw [cutGo, nx_append]
    generalize nx s (cutGo b (fun k => meetP k b) f (d :: l)) = N at *
    unfold step
    refine ⟨fun hc => ?_, fun hc => ?_⟩
    · by_cases hf : b.ev d.p ≤ 0
      · rw [if_pos ⟨hc, hf⟩]; rfl
      · rw [if_neg (by grind)]
        by_cases h0 : b.ev c.p = 0
        · rw [if_pos h0]; rfl
        · rw [if_neg h0, if_pos (by grind)]; rfl
    · rw [if_neg (by grind), if_neg (by grind), if_neg (by grind)]
      by_cases hf : b.ev d.p < 0
      · rw [if_pos hf]
        exact (meet_btw (hr c (by simp)) hcd.1 hcd.2 (.inr ⟨hc, hf⟩)).2.1
      · rw [if_neg hf]
        show b.ev N = 0
        by_cases hf0 : 0 < b.ev d.p
        · exact ih2 hf0
        · rw [ih1 (by grind)]; grind
theorem adj_cons {g : Cr} {c : Cr} {l : List Cr} (h : c.al.ev c.p = 0) (h2 : c.al.ev (nx g.p l) = 0) (k : Adj OnL g l) : Adj OnL g (c :: l) := by
  cases l with
  | nil => exact ⟨h, h2⟩
  | cons d l => exact ⟨⟨h, h2⟩, k⟩
theorem cut_adj {b : Af} {f g : Cr} (h1 : b.ev f.p ≤ 0 → g.p = f.p) (h2 : 0 < b.ev f.p → b.ev g.p = 0) : ∀ {c : Cr} {l : List Cr}, Adj OnL f (c :: l) → (∀ x ∈ c :: l, Real x.al) → Adj OnL g (cutGo b (fun k => meetP k b) f (c :: l))
  | c, [], h, hr => by
    show Adj OnL g (step b _ c f)
    have h : OnL c f := h
    unfold step
    by_cases hc : b.ev c.p ≤ 0
    · by_cases hf : b.ev f.p ≤ 0
      · rw [if_pos ⟨hc, hf⟩]
        exact ⟨h.1, by show c.al.ev g.p = 0; rw [h1 hf]; exact h.2⟩
      · rw [if_neg (by grind)]
        by_cases h0 : b.ev c.p = 0
        · rw [if_pos h0]
          exact ⟨h0, h2 (by grind)⟩
        · rw [if_neg h0, if_pos (by grind)]
          obtain ⟨e1, e2, e3⟩ := meet_btw (b := b) (hr c (by simp)) h.1 h.2 (.inl ⟨by grind, by grind⟩)
          exact ⟨⟨h.1, (meetP_on e1).1⟩, ⟨e2, h2 (by grind)⟩⟩
    · rw [if_neg (by grind), if_neg (by grind), if_neg (by grind)]
      by_cases hf : b.ev f.p < 0
      · rw [if_pos hf]
        obtain ⟨e1, e2, e3⟩ := meet_btw (b := b) (hr c (by simp)) h.1 h.2 (.inr ⟨by grind, hf⟩)
        exact ⟨(meetP_on e1).1, by show c.al.ev g.p = 0; rw [h1 (by grind)]; exact h.2⟩
      · rw [if_neg hf]; trivial
  | c, d :: l, h, hr => by
    have ih := cut_adj h1 h2 (c := d) (l := l) h.2 (fun c hc => hr c (List.mem_cons_of_mem _ hc))
    obtain ⟨n1, n2⟩ := nx_go (s := g.p) h1 h2 (c := d) (l := l) h.2 (fun c hc => hr c (List.mem_cons_of_mem _ hc))
    have hcd : OnL c d := h.1
    rw [cutGo]
    generalize cutGo b (fun k => meetP k b) f (d :: l) = N at *
    unfold step
    by_cases hc : b.ev c.p ≤ 0
    · by_cases hf : b.ev d.p ≤ 0
      · rw [if_pos ⟨hc, hf⟩]
        exact adj_cons hcd.1 (by show c.al.ev (nx g.p N) = 0; rw [n1 hf]; exact hcd.2) ih
      · rw [if_neg (by grind)]
        by_cases h0 : b.ev c.p = 0
        · rw [if_pos h0]
          exact adj_cons (c := ⟨c.p, b⟩) h0 (n2 (by grind)) ih
        · rw [if_neg h0, if_pos (by grind)]
          obtain ⟨e1, e2, e3⟩ := meet_btw (b := b) (hr c (by simp)) hcd.1 hcd.2 (.inl ⟨by grind, by grind⟩)
          exact adj_cons hcd.1 (meetP_on e1).1 (adj_cons (c := ⟨meetP c.al b, b⟩) e2 (n2 (by grind)) ih)
    · rw [if_neg (by grind), if_neg (by grind), if_neg (by grind)]
      by_cases hf : b.ev d.p < 0
      · rw [if_pos hf]
        obtain ⟨e1, e2, e3⟩ := meet_btw (b := b) (hr c (by simp)) hcd.1 hcd.2 (.inr ⟨by grind, hf⟩)
        exact adj_cons (c := ⟨meetP c.al b, c.al⟩) (meetP_on e1).1 (by show c.al.ev (nx g.p N) = 0; rw [n1 (by grind)]; exact hcd.2) ih
      · rw [if_neg hf]; exact ih
theorem step_mem {b : Af} {m : Af → Pt} {c d x : Cr} (h : x ∈ step b m c d) : (x.p = c.p ∧ b.ev c.p ≤ 0 ∧ (x.al = c.al ∨ x.al = b)) ∨ (Sides b c d ∧ x.p = m c.al ∧ (x.al = c.al ∨ x.al = b)) := by
  unfold step at h
  by_cases hc : b.ev c.p ≤ 0
  · by_cases hd : b.ev d.p ≤ 0
    · rw [if_pos ⟨hc, hd⟩, List.mem_singleton] at h; subst h; exact .inl ⟨rfl, hc, .inl rfl⟩
    · rw [if_neg (by grind)] at h
      by_cases h0 : b.ev c.p = 0
      · rw [if_pos h0, List.mem_singleton] at h; subst h; exact .inl ⟨rfl, hc, .inr rfl⟩
      · rw [if_neg h0, if_pos (by grind)] at h
        rcases List.mem_cons.1 h with rfl | h
        · exact .inl ⟨rfl, hc, .inl rfl⟩
        · rw [List.mem_singleton] at h; subst h; exact .inr ⟨.inl ⟨by grind, by grind⟩, rfl, .inr rfl⟩
  · rw [if_neg (by grind), if_neg (by grind), if_neg (by grind)] at h
    by_cases hd : b.ev d.p < 0
    · rw [if_pos hd, List.mem_singleton] at h; subst h; exact .inr ⟨.inr ⟨by grind, hd⟩, rfl, .inl rfl⟩
    · rw [if_neg hd] at h; cases h
theorem go_mem {b : Af} {m : Af → Pt} {f x : Cr} {R : Cr → Cr → Prop} : ∀ {l : List Cr}, Adj R f l → x ∈ cutGo b m f l → ∃ c ∈ l, ∃ d, (d = f ∨ d ∈ l) ∧ R c d ∧ x ∈ step b m c d
  | [], _, h => by cases h
  | [c], k, h => ⟨c, by simp, f, .inl rfl, k, h⟩
  | c :: d :: l, k, h => by
    rw [cutGo, List.mem_append] at h
    rcases h with h | h
    · exact ⟨c, by simp, d, .inr (by simp), k.1, h⟩
    · obtain ⟨c', h1, d', h2, h3, h4⟩ := go_mem k.2 h
      exact ⟨c', List.mem_cons_of_mem _ h1, d', h2.imp id (List.mem_cons_of_mem _), h3, h4⟩
structure Poly (bs : List Af) (f : Cr) (l : List Cr) : Prop where
  on : Adj OnL f (f :: l)
  real : ∀ c ∈ f :: l, Real c.al
  keep : ∀ c ∈ f :: l, ∀ b ∈ bs, b.ev c.p ≤ 0
  vert : ∀ c ∈ f :: l, ∃ k ∈ bs, ∃ m ∈ bs, det k m ≠ 0 ∧ k.ev c.p = 0 ∧ m.ev c.p = 0
  al : ∀ c ∈ f :: l, c.al ∈ bs
  uni : Uni ((f :: l).map Cr.p)
  span : Spans ((f :: l).map Cr.p) fun q => ∀ b ∈ bs, b.ev q ≤ 0
theorem Btw.le {c e d : Pt} (h : Btw c e d) {b : Af} (h1 : b.ev c ≤ 0) (h2 : b.ev d ≤ 0) : b.ev e ≤ 0 := by
  have := h.pos (u := b) (by unfold Clip.pos; rw [decide_eq_false (by grind), decide_eq_false (by grind)])
  unfold Clip.pos at this
  rw [decide_eq_false (show ¬ 0 < b.ev c by grind), decide_eq_false_iff_not] at this
  grind
theorem Poly.cut {bs : List Af} {f : Cr} {l : List Cr} (h : Poly bs f l) {b : Af} (hb : Real b) {g : Cr} {m : List Cr} (hc : cut b (fun k => meetP k b) (f :: l) = g :: m) : Poly (b :: bs) g m := by
  have hA := adj_meet (b := b) h.on h.real
  obtain ⟨hU, hS⟩ := cut_ok hA h.uni h.span
  rw [hc] at hU hS
  have hgo : cutGo b (fun k => meetP k b) f (f :: l) = g :: m := hc
  have hmem : ∀ x ∈ g :: m, ∃ c ∈ f :: l, ∃ d ∈ f :: l, OnL c d ∧ x ∈ step b (fun k => meetP k b) c d := by
    intro x hx
    rw [← hgo] at hx
    obtain ⟨c, h1, d, h2, h3, h4⟩ := go_mem h.on hx
    exact ⟨c, h1, d, by rcases h2 with rfl | h2; exact List.mem_cons_self; exact h2, h3, h4⟩
  -- the first one
  have hfb : ∃ s : Pt, (b.ev f.p ≤ 0 → s = f.p) ∧ (0 < b.ev f.p → b.ev s = 0) := by
    by_cases h1 : b.ev f.p ≤ 0
    · exact ⟨f.p, fun _ => rfl, fun h2 => by grind⟩
    · refine ⟨?_, fun h2 => absurd h2 h1, fun _ => ?_⟩
      · exact if b.a = 0 then ⟨0, -b.c / b.b⟩ else ⟨-b.c / b.a, 0⟩
      · unfold Af.ev
        rcases hb.ne with h2 | h2
        · rw [if_neg h2]
          simp only
          have := Rat.div_mul_cancel (a := -b.c) h2
          generalize -b.c / b.a = X at *
          grind
        · by_cases h3 : b.a = 0
          · rw [if_pos h3]
            simp only
            have := Rat.div_mul_cancel (a := -b.c) h2
            generalize -b.c / b.b = X at *
            grind
          · rw [if_neg h3]
            simp only
            have := Rat.div_mul_cancel (a := -b.c) h3
            generalize -b.c / b.a = X at *
            grind
  obtain ⟨s, s1, s2⟩ := hfb
  obtain ⟨n1, n2⟩ := nx_go s1 s2 h.on h.real
  rw [hgo] at n1 n2
  have hadj := cut_adj (g := g) n1 n2 h.on h.real
  rw [hgo] at hadj
  refine ⟨hadj, fun x hx => ?_, fun x hx k hk => ?_, fun x hx => ?_, fun x hx => ?_, hU, ?_⟩
  · obtain ⟨c, h1, d, h2, h3, h4⟩ := hmem x hx
    rcases step_mem h4 with ⟨_, _, h5 | h5⟩ | ⟨_, _, h5 | h5⟩ <;> rw [h5]
    · exact h.real c h1
    · exact hb
    · exact h.real c h1
    · exact hb
  · obtain ⟨c, h1, d, h2, h3, h4⟩ := hmem x hx
    rcases step_mem h4 with ⟨e1, e2, _⟩ | ⟨e1, e2, _⟩
    · rw [e1]
      rcases List.mem_cons.1 hk with rfl | hk
      · exact e2
      · exact h.keep c h1 k hk
    · obtain ⟨f1, f2, f3⟩ := meet_btw (b := b) (h.real c h1) h3.1 h3.2 e1
      rw [e2]
      rcases List.mem_cons.1 hk with rfl | hk
      · show _ ≤ _; rw [f2]; exact Rat.le_refl
      · exact f3.le (h.keep c h1 k hk) (h.keep d h2 k hk)
  · obtain ⟨c, h1, d, h2, h3, h4⟩ := hmem x hx
    rcases step_mem h4 with ⟨e1, e2, _⟩ | ⟨e1, e2, _⟩
    · obtain ⟨k, hk, m, hm, q⟩ := h.vert c h1
      rw [e1]
      exact ⟨k, List.mem_cons_of_mem _ hk, m, List.mem_cons_of_mem _ hm, q⟩
    · obtain ⟨f1, f2, f3⟩ := meet_btw (b := b) (h.real c h1) h3.1 h3.2 e1
      rw [e2]
      exact ⟨c.al, List.mem_cons_of_mem _ (h.al c h1), b, List.mem_cons_self, f1, (meetP_on f1).1, f2⟩
  · obtain ⟨c, h1, d, h2, h3, h4⟩ := hmem x hx
    rcases step_mem h4 with ⟨_, _, h5 | h5⟩ | ⟨_, _, h5 | h5⟩ <;> rw [h5]
    · exact List.mem_cons_of_mem _ (h.al c h1)
    · exact List.mem_cons_self
    · exact List.mem_cons_of_mem _ (h.al c h1)
    · exact List.mem_cons_self
  · intro u q hq
    exact hS u q ⟨fun k hk => hq k (List.mem_cons_of_mem _ hk), hq b List.mem_cons_self⟩
theorem Poly.none {bs : List Af} {f : Cr} {l : List Cr} (h : Poly bs f l) {b : Af} (hc : Clip.cut b (fun k => meetP k b) (f :: l) = []) : ¬ ∃ q : Pt, (∀ k ∈ bs, k.ev q ≤ 0) ∧ b.ev q ≤ 0 := by
  rintro ⟨q, h1, h2⟩
  have hA := adj_meet (b := b) h.on h.real
  obtain ⟨_, hS⟩ := cut_ok hA h.uni h.span
  rw [hc] at hS
  obtain ⟨c, hc, _⟩ := hS ⟨0, 0, 1⟩ q ⟨h1, h2⟩ (by unfold Af.ev; grind)
  cases hc
end Clip

namespace Clip
def q0 : Af := ⟨0, -1, 0⟩
def q1 : Af := ⟨1, 0, -1000⟩
def q2 : Af := ⟨0, 1, -1000⟩
def q3 : Af := ⟨-1, 0, 0⟩
def sq : List Cr := [⟨⟨0, 0⟩, q0⟩, ⟨⟨1000, 0⟩, q1⟩, ⟨⟨1000, 1000⟩, q2⟩, ⟨⟨0, 1000⟩, q3⟩]
theorem sq_uni : Uni (sq.map Cr.p) := by
  intro u
  show chg [pos u ⟨0, 0⟩, pos u ⟨1000, 0⟩, pos u ⟨1000, 1000⟩, pos u ⟨0, 1000⟩] ≤ 2
  have e : u.ev ⟨0, 0⟩ + u.ev ⟨1000, 1000⟩ = u.ev ⟨1000, 0⟩ + u.ev ⟨0, 1000⟩ := by unfold Af.ev; simp only; grind
  unfold pos
  generalize u.ev ⟨0, 0⟩ = A at *
  generalize u.ev ⟨1000, 0⟩ = B at *
  generalize u.ev ⟨1000, 1000⟩ = C at *
  generalize u.ev ⟨0, 1000⟩ = D at *
  by_cases hA : 0 < A <;> by_cases hB : 0 < B <;> by_cases hC : 0 < C <;> by_cases hD : 0 < D <;> simp [hA, hB, hC, hD, chg] <;> grind
theorem sq_span : Spans (sq.map Cr.p) fun q => ∀ b ∈ [q0, q1, q2, q3], b.ev q ≤ 0 := by
  intro u q hq hu
  have h0 := hq q0 (by simp)
  have h1 := hq q1 (by simp)
  have h2 := hq q2 (by simp)
  have h3 := hq q3 (by simp)
  simp only [Af.ev, q0, q1, q2, q3] at h0 h1 h2 h3
  have hx0 : 0 ≤ q.x := by grind
  have hx1 : q.x ≤ 1000 := by grind
  have hy0 : 0 ≤ q.y := by grind
  have hy1 : q.y ≤ 1000 := by grind
  unfold Af.ev at hu
  by_cases ha : 0 ≤ u.a
  · have a1 := Rat.mul_le_mul_of_nonneg_left hx1 ha
    by_cases hb : 0 ≤ u.b
    · have b1 := Rat.mul_le_mul_of_nonneg_left hy1 hb
      exact ⟨⟨1000, 1000⟩, by simp [sq], by unfold Af.ev; simp only; grind⟩
    · have b1 := Rat.mul_nonneg (show 0 ≤ -u.b by grind) hy0
      exact ⟨⟨1000, 0⟩, by simp [sq], by unfold Af.ev; simp only; grind⟩
  · have a1 := Rat.mul_nonneg (show 0 ≤ -u.a by grind) hx0
    by_cases hb : 0 ≤ u.b
    · have b1 := Rat.mul_le_mul_of_nonneg_left hy1 hb
      exact ⟨⟨0, 1000⟩, by simp [sq], by unfold Af.ev; simp only; grind⟩
    · have b1 := Rat.mul_nonneg (show 0 ≤ -u.b by grind) hy0
      exact ⟨⟨0, 0⟩, by simp [sq], by unfold Af.ev; simp only; grind⟩
theorem sq_poly : Poly [q0, q1, q2, q3] ⟨⟨0, 0⟩, q0⟩ [⟨⟨1000, 0⟩, q1⟩, ⟨⟨1000, 1000⟩, q2⟩, ⟨⟨0, 1000⟩, q3⟩] := by
  refine ⟨?_, ?_, ?_, ?_, ?_, sq_uni, sq_span⟩
  · unfold Adj Adj Adj Adj OnL Af.ev q0 q1 q2 q3
    simp only
    grind
  · intro c hc
    simp only [List.mem_cons, List.not_mem_nil, or_false] at hc
    rcases hc with rfl | rfl | rfl | rfl
    · exact ⟨.inr (by show (-1 : Rat) ≠ 0; grind)⟩
    · exact ⟨.inl (by show (1 : Rat) ≠ 0; grind)⟩
    · exact ⟨.inr (by show (1 : Rat) ≠ 0; grind)⟩
    · exact ⟨.inl (by show (-1 : Rat) ≠ 0; grind)⟩
  · intro c hc b hb
    simp only [List.mem_cons, List.not_mem_nil, or_false] at hc hb
    rcases hc with rfl | rfl | rfl | rfl <;> rcases hb with rfl | rfl | rfl | rfl <;> (simp only [Af.ev, q0, q1, q2, q3] <;> grind)
  · intro c hc
    simp only [List.mem_cons, List.not_mem_nil, or_false] at hc
    rcases hc with rfl | rfl | rfl | rfl
    · exact ⟨q0, by simp, q3, by simp, by unfold det q0 q3; simp only; grind, by unfold Af.ev q0; simp only; grind, by unfold Af.ev q3; simp only; grind⟩
    · exact ⟨q0, by simp, q1, by simp, by unfold det q0 q1; simp only; grind, by unfold Af.ev q0; simp only; grind, by unfold Af.ev q1; simp only; grind⟩
    · exact ⟨q1, by simp, q2, by simp, by unfold det q1 q2; simp only; grind, by unfold Af.ev q1; simp only; grind, by unfold Af.ev q2; simp only; grind⟩
    · exact ⟨q2, by simp, q3, by simp, by unfold det q2 q3; simp only; grind, by unfold Af.ev q2; simp only; grind, by unfold Af.ev q3; simp only; grind⟩
  · intro c hc
    simp only [List.mem_cons, List.not_mem_nil, or_false] at hc
    rcases hc with rfl | rfl | rfl | rfl <;> simp
def cuts : List Af → List Cr → List Cr
  | [], l => l
  | b :: bs, l => cuts bs (cut b (fun k => meetP k b) l)
theorem cuts_nil : ∀ bs, cuts bs [] = []
  | [] => rfl
  | b :: bs => cuts_nil bs
theorem cuts_ok : ∀ (bs : List Af) (ks : List Af) (f : Cr) (l : List Cr), Poly ks f l → (∀ b ∈ bs, Real b) →
    (∃ g m, cuts bs (f :: l) = g :: m ∧ Poly (bs.reverse ++ ks) g m) ∨ (cuts bs (f :: l) = [] ∧ ¬ ∃ q : Pt, (∀ k ∈ ks, k.ev q ≤ 0) ∧ ∀ b ∈ bs, b.ev q ≤ 0)
  | [], ks, f, l, h, _ => .inl ⟨f, l, rfl, by simpa using h⟩
  | b :: bs, ks, f, l, h, hr => by
    cases hc : cut b (fun k => meetP k b) (f :: l) with
    | nil =>
      right
      refine ⟨by rw [cuts, hc, cuts_nil], ?_⟩
      rintro ⟨q, h1, h2⟩
      exact h.none hc ⟨q, h1, h2 b (by simp)⟩
    | cons g m =>
      have hP := h.cut (hr b (by simp)) hc
      rcases cuts_ok bs (b :: ks) g m hP (fun x hx => hr x (List.mem_cons_of_mem _ hx)) with ⟨g', m', h1, h2⟩ | ⟨h1, h2⟩
      · left
        refine ⟨g', m', by rw [cuts, hc, h1], ?_⟩
        rw [List.reverse_cons, List.append_assoc]; exact h2
      · right
        refine ⟨by rw [cuts, hc, h1], ?_⟩
        rintro ⟨q, h3, h4⟩
        refine h2 ⟨q, fun k hk => ?_, fun x hx => h4 x (List.mem_cons_of_mem _ hx)⟩
        rcases List.mem_cons.1 hk with rfl | hk
        · exact h4 _ (by simp)
        · exact h3 k hk
end Clip

namespace Clip
structure Bd where
  A : Int
  B : Int
  C : Int
  deriving DecidableEq
def Bd.af (b : Bd) : Af := ⟨b.A, b.B, -(b.C : Rat)⟩
structure Pl where
  x : Int
  y : Int
  d : Int
  deriving DecidableEq
def Pl.pt (p : Pl) : Pt := ⟨(p.x : Rat) / p.d, (p.y : Rat) / p.d⟩
def Bd.val (b : Bd) (p : Pl) : Int := b.A * p.x + b.B * p.y - b.C * p.d
theorem val_ev (b : Bd) (p : Pl) (hd : p.d ≠ 0) : ((b.val p : Int) : Rat) = b.af.ev p.pt * p.d := by
  have h : (p.d : Rat) ≠ 0 := fun h => hd (by have := Rat.intCast_inj.1 (h.trans (Rat.intCast_zero).symm); exact this)
  unfold Bd.val Bd.af Af.ev Pl.pt
  simp only
  have e1 := Rat.div_mul_cancel (a := (p.x : Rat)) h
  have e2 := Rat.div_mul_cancel (a := (p.y : Rat)) h
  rw [Rat.intCast_sub, Rat.intCast_add, Rat.intCast_mul, Rat.intCast_mul, Rat.intCast_mul]
  generalize (p.x : Rat) / p.d = X at *
  generalize (p.y : Rat) / p.d = Y at *
  grind
theorem cast_pos {n : Int} : 0 < (n : Rat) ↔ 0 < n := by
  have := Rat.intCast_lt_intCast (a := 0) (b := n)
  rw [Rat.intCast_zero] at this; exact this
theorem cast_neg {n : Int} : (n : Rat) < 0 ↔ n < 0 := by
  have := Rat.intCast_lt_intCast (a := n) (b := 0)
  rw [Rat.intCast_zero] at this; exact this
theorem mul_pos_iff' {a b : Rat} (hb : 0 < b) : (0 < a * b ↔ 0 < a) ∧ (a * b < 0 ↔ a < 0) ∧ (a * b = 0 ↔ a = 0) := by
  refine ⟨⟨fun h => ?_, fun h => Rat.mul_pos h hb⟩, ⟨fun h => ?_, fun h => ?_⟩, ⟨fun h => ?_, fun h => by rw [h]; grind⟩⟩
  · rcases Rat.le_total (a := a) (b := 0) with h1 | h1
    · have := Rat.mul_nonneg (show 0 ≤ -a by grind) (Rat.le_of_lt hb); grind
    · rcases (show a = 0 ∨ 0 < a by grind) with h2 | h2
      · rw [h2] at h; grind
      · exact h2
  · rcases Rat.le_total (a := 0) (b := a) with h1 | h1
    · have := Rat.mul_nonneg h1 (Rat.le_of_lt hb); grind
    · rcases (show a = 0 ∨ a < 0 by grind) with h2 | h2
      · rw [h2] at h; grind
      · exact h2
  · have := Rat.mul_pos (show 0 < -a by grind) hb; grind
  · rcases Rat.mul_eq_zero.1 h with h1 | h1
    · exact h1
    · grind
theorem val_sign {b : Bd} {p : Pl} (hd : 0 < p.d) : (0 < b.val p ↔ 0 < b.af.ev p.pt) ∧ (b.val p < 0 ↔ b.af.ev p.pt < 0) ∧ (b.val p = 0 ↔ b.af.ev p.pt = 0) := by
  have h := val_ev b p (by omega)
  obtain ⟨a1, a2, a3⟩ := mul_pos_iff' (a := b.af.ev p.pt) (cast_pos.2 hd)
  rw [← h] at a1 a2 a3
  refine ⟨cast_pos.symm.trans a1, cast_neg.symm.trans a2, ?_⟩
  rw [← a3]
  constructor
  · intro h; rw [h]; exact Rat.intCast_zero
  · intro h; exact Rat.intCast_inj.1 (h.trans Rat.intCast_zero.symm)
theorem val_le {b : Bd} {p : Pl} (hd : 0 < p.d) : b.val p ≤ 0 ↔ b.af.ev p.pt ≤ 0 := by
  have := (val_sign (b := b) hd).1
  constructor
  · intro h; exact Rat.not_lt.1 fun h2 => by have := this.2 h2; omega
  · intro h
    rcases Int.lt_or_le 0 (b.val p) with h2 | h2
    · have := this.1 h2; grind
    · exact h2
def meetI (a b : Bd) : Pl := ⟨a.C * b.B - b.C * a.B, a.A * b.C - b.A * a.C, a.A * b.B - b.A * a.B⟩
def posD (p : Pl) : Pl := if p.d < 0 then ⟨-p.x, -p.y, -p.d⟩ else p
theorem neg_div' {x d : Rat} (h : d ≠ 0) : (-x) / (-d) = x / d := by
  have e1 := Rat.div_mul_cancel (a := -x) (show -d ≠ 0 by grind)
  have e2 := Rat.div_mul_cancel (a := x) h
  generalize (-x) / (-d) = X at *
  generalize x / d = Y at *
  have : (X - Y) * d = 0 := by grind
  rcases Rat.mul_eq_zero.1 this with h1 | h1
  · grind
  · exact absurd h1 h
theorem posD_pt (p : Pl) : (posD p).pt = p.pt := by
  unfold posD
  split
  · rename_i h
    have hd : (p.d : Rat) ≠ 0 := fun h2 => by have := Rat.intCast_inj.1 (h2.trans Rat.intCast_zero.symm); omega
    unfold Pl.pt
    simp only [Rat.intCast_neg]
    rw [neg_div' hd, neg_div' hd]
  · rfl
theorem posD_d {p : Pl} (h : p.d ≠ 0) : 0 < (posD p).d := by
  unfold posD
  split
  · simp only; omega
  · omega
theorem det_cast (a b : Bd) : det a.af b.af = ((meetI a b).d : Rat) := by
  unfold det meetI Bd.af
  simp only
  rw [Rat.intCast_sub, Rat.intCast_mul, Rat.intCast_mul]
theorem meetI_pt (a b : Bd) : (meetI a b).pt = meetP a.af b.af := by
  unfold meetP
  rw [det_cast]
  unfold Pl.pt meetI Bd.af
  simp only
  rw [Rat.intCast_sub, Rat.intCast_mul, Rat.intCast_mul, Rat.intCast_sub, Rat.intCast_mul, Rat.intCast_mul, Rat.intCast_sub, Rat.intCast_mul, Rat.intCast_mul]
  congr 2 <;> grind
theorem det_zero {a b : Bd} : det a.af b.af = 0 ↔ (meetI a b).d = 0 := by
  rw [det_cast]
  constructor
  · intro h; exact Rat.intCast_inj.1 (h.trans Rat.intCast_zero.symm)
  · intro h; rw [h]; exact Rat.intCast_zero
def Vtx (l : List Bd) : Prop := ∃ a ∈ l, ∃ b ∈ l, (meetI a b).d ≠ 0 ∧ ∀ m ∈ l, m.val (posD (meetI a b)) ≤ 0
def bsq : List Bd := [⟨1, 0, 1000⟩, ⟨-1, 0, 0⟩, ⟨0, 1, 1000⟩, ⟨0, -1, 0⟩]
theorem bsq_af : (⟨0, -1, 0⟩ : Bd).af = q0 ∧ (⟨1, 0, 1000⟩ : Bd).af = q1 ∧ (⟨0, 1, 1000⟩ : Bd).af = q2 ∧ (⟨-1, 0, 0⟩ : Bd).af = q3 := by
  unfold Bd.af q0 q1 q2 q3
  simp only [Af.mk.injEq]
  refine ⟨?_, ?_, ?_, ?_⟩ <;> exact ⟨by first | rfl | decide, by first | rfl | decide, by first | rfl | decide⟩
def cutsB (l : List Bd) : List Cr := cuts (l.map Bd.af) sq
theorem region_iff {l : List Bd} (hsq : ∀ b ∈ bsq, b ∈ l) (hr : ∀ b ∈ l, Real b.af) : cutsB l ≠ [] ↔ Vtx l := by
  have hmem : ∀ b ∈ [q0, q1, q2, q3], ∃ k ∈ l, k.af = b := by
    obtain ⟨e0, e1, e2, e3⟩ := bsq_af
    intro b hb
    simp only [List.mem_cons, List.not_mem_nil, or_false] at hb
    rcases hb with rfl | rfl | rfl | rfl
    · exact ⟨_, hsq _ (by simp [bsq]), e0⟩
    · exact ⟨_, hsq _ (by simp [bsq]), e1⟩
    · exact ⟨_, hsq _ (by simp [bsq]), e2⟩
    · exact ⟨_, hsq _ (by simp [bsq]), e3⟩
  have hR : ∀ b ∈ l.map Bd.af, Real b := fun b hb => by
    obtain ⟨k, hk, rfl⟩ := List.mem_map.1 hb
    exact hr k hk
  rcases cuts_ok (l.map Bd.af) _ _ _ sq_poly hR with ⟨g, m, h1, P⟩ | ⟨h1, h2⟩
  · have e : cutsB l = g :: m := h1
    rw [e]
    refine ⟨fun _ => ?_, fun _ => by simp⟩
    obtain ⟨k, hk, n, hn, d0, z1, z2⟩ := P.vert g (by simp)
    have back : ∀ b ∈ (l.map Bd.af).reverse ++ [q0, q1, q2, q3], ∃ k ∈ l, k.af = b := by
      intro b hb
      rcases List.mem_append.1 hb with hb | hb
      · obtain ⟨k, hk, rfl⟩ := List.mem_map.1 (List.mem_reverse.1 hb)
        exact ⟨k, hk, rfl⟩
      · exact hmem b hb
    obtain ⟨a, ha, rfl⟩ := back k hk
    obtain ⟨b, hb, rfl⟩ := back n hn
    refine ⟨a, ha, b, hb, fun h => d0 (det_zero.2 h), fun c hc => ?_⟩
    have hd : (meetI a b).d ≠ 0 := fun h => d0 (det_zero.2 h)
    rw [val_le (posD_d hd), posD_pt, meetI_pt, ← meetP_uniq d0 z1 z2]
    exact P.keep g (by simp) c.af (List.mem_append_left _ (List.mem_reverse.2 (List.mem_map.2 ⟨c, hc, rfl⟩)))
  · have e : cutsB l = [] := h1
    rw [e]
    refine ⟨fun h => absurd rfl h, ?_⟩
    rintro ⟨a, ha, b, hb, hd, hk⟩
    exfalso
    refine h2 ⟨(posD (meetI a b)).pt, fun k hk2 => ?_, fun k hk2 => ?_⟩
    · obtain ⟨c, hc, rfl⟩ := hmem k hk2
      exact (val_le (posD_d hd)).1 (hk c hc)
    · obtain ⟨c, hc, rfl⟩ := List.mem_map.1 hk2
      exact (val_le (posD_d hd)).1 (hk c hc)
end Clip

namespace Clip
structure Rt where
  N : Int
  D : Int
  deriving DecidableEq
def red (n d : Int) : Rt :=
  let m := if d < 0 then -n else n
  let e := if d < 0 then -d else d
  ⟨m.tdiv (Nat.gcd m.natAbs e.toNat : Nat), e.tdiv (Nat.gcd m.natAbs e.toNat : Nat)⟩
structure RtOk (n d : Int) (r : Rt) : Prop where
  pos : 0 < r.D
  bd : r.D ≤ d.natAbs
  num : r.N.natAbs ≤ n.natAbs
  eq : r.N * d = n * r.D
  cop : Nat.gcd r.N.natAbs r.D.toNat = 1
theorem red_ok {n d : Int} (h : d ≠ 0) : RtOk n d (red n d) := by
  have key : ∀ m e : Int, 0 < e → RtOk m e ⟨m.tdiv (Nat.gcd m.natAbs e.toNat : Nat), e.tdiv (Nat.gcd m.natAbs e.toNat : Nat)⟩ := by
    intro m e he
    obtain ⟨E, rfl⟩ : ∃ E : Nat, e = E := ⟨e.toNat, by omega⟩
    rw [Int.toNat_natCast]
    have hE : 0 < E := by omega
    have hg := Nat.gcd_pos_of_pos_right m.natAbs hE
    have d1 := Nat.gcd_dvd_left m.natAbs E
    have d2 := Nat.gcd_dvd_right m.natAbs E
    have hc : Nat.gcd (m.natAbs / Nat.gcd m.natAbs E) (E / Nat.gcd m.natAbs E) = 1 := Nat.coprime_div_gcd_div_gcd hg
    generalize Nat.gcd m.natAbs E = g at *
    obtain ⟨y, hy⟩ := d2
    obtain ⟨x, hx⟩ := d1
    have e1 : (E : Int).tdiv g = y := by
      rw [hy, Int.natCast_mul]
      exact Int.mul_tdiv_cancel_left _ (by omega)
    have ex : ∃ X : Int, m = g * X ∧ X.natAbs = x := by
      rcases Int.natAbs_eq m with h | h
      · exact ⟨x, by rw [h, hx, Int.natCast_mul], Int.natAbs_natCast x⟩
      · exact ⟨-x, by rw [h, hx, Int.natCast_mul, Int.mul_neg], by simp⟩
    obtain ⟨X, hX, hXx⟩ := ex
    have e2 : m.tdiv g = X := by
      rw [hX]
      exact Int.mul_tdiv_cancel_left _ (by omega)
    have hyp : 0 < y := by
      rcases Nat.eq_zero_or_pos y with h | h
      · rw [h, Nat.mul_zero] at hy; omega
      · exact h
    rw [e1, e2]
    rw [hx, hy, Nat.mul_div_cancel_left _ hg, Nat.mul_div_cancel_left _ hg] at hc
    refine ⟨by show (0 : Int) < y; omega, ?_, ?_, ?_, ?_⟩
    · show (y : Int) ≤ ((E : Int).natAbs : Int)
      rw [Int.natAbs_natCast, hy]
      have : y ≤ g * y := Nat.le_mul_of_pos_left _ hg
      omega
    · show X.natAbs ≤ m.natAbs
      rw [hXx, hx]; exact Nat.le_mul_of_pos_left _ hg
    · show X * (E : Int) = m * (y : Int)
      rw [hX, hy, Int.natCast_mul, Int.mul_left_comm, Int.mul_assoc]
    · show Nat.gcd X.natAbs (y : Int).toNat = 1
      rw [hXx, Int.toNat_natCast]; exact hc
  unfold red
  by_cases hd : d < 0
  · simp only [if_pos hd]
    obtain ⟨a1, a2, a3, a4, a5⟩ := key (-n) (-d) (by omega)
    refine ⟨a1, by have e := Int.natAbs_neg d; omega, by have e := Int.natAbs_neg n; omega, ?_, a5⟩
    rw [Int.mul_neg, Int.neg_mul] at a4
    omega
  · simp only [if_neg hd]
    exact key n d (by omega)
def Rt.q (r : Rt) : Rat := (r.N : Rat) / r.D
theorem ne_cast {n : Int} (h : n ≠ 0) : (n : Rat) ≠ 0 := fun h2 => h (Rat.intCast_inj.1 (h2.trans Rat.intCast_zero.symm))
theorem red_q {n d : Int} (h : d ≠ 0) : (red n d).q = (n : Rat) / d := by
  obtain ⟨a1, a2, a3, a4, a5⟩ := red_ok (n := n) h
  unfold Rt.q
  generalize red n d = r at *
  have e := congrArg (fun z : Int => (z : Rat)) a4
  simp only [Rat.intCast_mul] at e
  have h1 := Rat.div_mul_cancel (a := (r.N : Rat)) (ne_cast (show r.D ≠ 0 by omega))
  have h2 := Rat.div_mul_cancel (a := (n : Rat)) (ne_cast h)
  have hD := ne_cast (show r.D ≠ 0 by omega)
  have hd := ne_cast h
  generalize (r.N : Rat) / r.D = X at *
  generalize (n : Rat) / d = Y at *
  have : (X - Y) * (r.D * d) = 0 := by grind
  rcases Rat.mul_eq_zero.1 this with h3 | h3
  · grind
  · rcases Rat.mul_eq_zero.1 h3 with h4 | h4
    · exact absurd h4 hD
    · exact absurd h4 hd
structure Sp where
  X : Rt
  Y : Rt
  deriving DecidableEq
def Sp.pt (s : Sp) : Pt := ⟨s.X.q, s.Y.q⟩
def Sp.pl (s : Sp) : Pl := ⟨s.X.N * s.Y.D, s.Y.N * s.X.D, s.X.D * s.Y.D⟩
structure SpOk (s : Sp) : Prop where
  x : 0 < s.X.D
  y : 0 < s.Y.D
theorem Sp.pl_pt {s : Sp} (h : SpOk s) : s.pl.pt = s.pt := by
  have hx := ne_cast (show s.X.D ≠ 0 by have := h.x; omega)
  have hy := ne_cast (show s.Y.D ≠ 0 by have := h.y; omega)
  unfold Pl.pt Sp.pl Sp.pt Rt.q
  simp only [Rat.intCast_mul]
  have key : ∀ a b c : Rat, b ≠ 0 → c ≠ 0 → (a * c) / (b * c) = a / b := by
    intro a b c hb hc
    have hbc : b * c ≠ 0 := fun h => by rcases Rat.mul_eq_zero.1 h with h | h; exact hb h; exact hc h
    have e1 := Rat.div_mul_cancel (a := a * c) hbc
    have e2 := Rat.div_mul_cancel (a := a) hb
    generalize (a * c) / (b * c) = P at *
    generalize a / b = Q at *
    have : (P - Q) * (b * c) = 0 := by grind
    rcases Rat.mul_eq_zero.1 this with h | h
    · grind
    · exact absurd h hbc
  rw [key _ _ _ hx hy, show (s.X.D : Rat) * s.Y.D = s.Y.D * s.X.D by rw [Rat.mul_comm], key _ _ _ hy hx]
theorem Sp.pl_d {s : Sp} (h : SpOk s) : 0 < s.pl.d := Int.mul_pos h.x h.y
def beyond (b : Bd) (s : Sp) : Int := b.A * s.X.N * s.Y.D + b.B * s.Y.N * s.X.D - b.C * s.X.D * s.Y.D
theorem beyond_val (b : Bd) (s : Sp) : beyond b s = b.val s.pl := by
  unfold beyond Bd.val Sp.pl
  simp only [Int.mul_assoc]
theorem beyond_sign {b : Bd} {s : Sp} (h : SpOk s) : (0 < beyond b s ↔ 0 < b.af.ev s.pt) ∧ (beyond b s < 0 ↔ b.af.ev s.pt < 0) ∧ (beyond b s = 0 ↔ b.af.ev s.pt = 0) := by
  rw [beyond_val, ← Sp.pl_pt h]
  exact val_sign (Sp.pl_d h)
def meetS (a b : Bd) : Sp := ⟨red (meetI a b).x (meetI a b).d, red (meetI a b).y (meetI a b).d⟩
theorem meetS_ok {a b : Bd} (h : (meetI a b).d ≠ 0) : SpOk (meetS a b) := ⟨(red_ok h).pos, (red_ok h).pos⟩
theorem meetS_pt {a b : Bd} (h : (meetI a b).d ≠ 0) : (meetS a b).pt = meetP a.af b.af := by
  rw [← meetI_pt]
  unfold Sp.pt meetS Pl.pt
  simp only
  rw [red_q h, red_q h]
structure Co where
  s : Sp
  al : Bd
  deriving DecidableEq
def Co.cr (c : Co) : Cr := ⟨c.s.pt, c.al.af⟩
def stepI (b : Bd) (c d : Co) : List Co :=
  if beyond b c.s ≤ 0 ∧ beyond b d.s ≤ 0 then [c]
  else if beyond b c.s = 0 then [⟨c.s, b⟩]
  else if beyond b c.s < 0 then [c, ⟨meetS c.al b, b⟩]
  else if beyond b d.s < 0 then [⟨meetS c.al b, c.al⟩]
  else []
def goI (b : Bd) (f : Co) : List Co → List Co
  | [] => []
  | [c] => stepI b c f
  | c :: d :: l => stepI b c d ++ goI b f (d :: l)
def cutI (b : Bd) : List Co → List Co
  | [] => []
  | f :: l => goI b f (f :: l)
def AllOk (l : List Co) : Prop := ∀ c ∈ l, SpOk c.s
theorem le_iff {b : Bd} {s : Sp} (h : SpOk s) : beyond b s ≤ 0 ↔ b.af.ev s.pt ≤ 0 := by
  have := (beyond_sign (b := b) h).1
  constructor
  · intro h2; exact Rat.not_lt.1 fun h3 => by have := this.2 h3; omega
  · intro h2
    rcases Int.lt_or_le 0 (beyond b s) with h3 | h3
    · have := this.1 h3; grind
    · exact h3
theorem stepI_map {b : Bd} {c d : Co} (hc : SpOk c.s) (hd : SpOk d.s) (h : Sides b.af c.cr d.cr → (meetI c.al b).d ≠ 0) : (stepI b c d).map Co.cr = step b.af (fun k => meetP k b.af) c.cr d.cr ∧ AllOk (stepI b c d) := by
  obtain ⟨s1, s2, s3⟩ := beyond_sign (b := b) hc
  obtain ⟨t1, t2, t3⟩ := beyond_sign (b := b) hd
  have l1 := le_iff (b := b) hc
  have l2 := le_iff (b := b) hd
  unfold stepI step
  have e1 : c.cr.p = c.s.pt := rfl
  have e2 : d.cr.p = d.s.pt := rfl
  rw [e1, e2]
  by_cases h1 : beyond b c.s ≤ 0
  · by_cases h2 : beyond b d.s ≤ 0
    · rw [if_pos ⟨h1, h2⟩, if_pos ⟨l1.1 h1, l2.1 h2⟩]
      exact ⟨rfl, by intro x hx; rw [List.mem_singleton] at hx; subst hx; exact hc⟩
    · have n1 : ¬ (beyond b c.s ≤ 0 ∧ beyond b d.s ≤ 0) := fun hh => h2 hh.2
      have n2 : ¬ (b.af.ev c.s.pt ≤ 0 ∧ b.af.ev d.s.pt ≤ 0) := fun hh => h2 (l2.2 hh.2)
      rw [if_neg n1, if_neg n2]
      by_cases h0 : beyond b c.s = 0
      · rw [if_pos h0, if_pos (s3.1 h0)]
        exact ⟨rfl, by intro x hx; rw [List.mem_singleton] at hx; subst hx; exact hc⟩
      · have hn : beyond b c.s < 0 := by omega
        have hp : 0 < beyond b d.s := by omega
        have hm := h (.inl ⟨s2.1 hn, t1.1 hp⟩)
        have n3 : ¬ b.af.ev c.s.pt = 0 := fun hh => h0 (s3.2 hh)
        rw [if_neg h0, if_neg n3, if_pos hn, if_pos (s2.1 hn)]
        refine ⟨?_, fun x hx => ?_⟩
        · simp only [List.map_cons, List.map_nil]
          congr 2
          unfold Co.cr
          simp only
          rw [meetS_pt hm]
        · rcases List.mem_cons.1 hx with rfl | hx
          · exact hc
          · rw [List.mem_singleton] at hx; subst hx; exact meetS_ok hm
  · have hp : 0 < beyond b c.s := by omega
    have n1 : ¬ (beyond b c.s ≤ 0 ∧ beyond b d.s ≤ 0) := fun hh => h1 hh.1
    have n2 : ¬ (b.af.ev c.s.pt ≤ 0 ∧ b.af.ev d.s.pt ≤ 0) := fun hh => h1 (l1.2 hh.1)
    have n3 : ¬ beyond b c.s = 0 := by omega
    have n4 : ¬ b.af.ev c.s.pt = 0 := fun hh => n3 (s3.2 hh)
    have n5 : ¬ beyond b c.s < 0 := by omega
    have n6 : ¬ b.af.ev c.s.pt < 0 := fun hh => n5 (s2.2 hh)
    rw [if_neg n1, if_neg n2, if_neg n3, if_neg n4, if_neg n5, if_neg n6]
    by_cases h2 : beyond b d.s < 0
    · have hm := h (.inr ⟨s1.1 hp, t2.1 h2⟩)
      rw [if_pos h2, if_pos (t2.1 h2)]
      refine ⟨?_, fun x hx => ?_⟩
      · simp only [List.map_cons, List.map_nil]
        unfold Co.cr
        simp only
        rw [meetS_pt hm]
      · rw [List.mem_singleton] at hx; subst hx; exact meetS_ok hm
    · have n7 : ¬ b.af.ev d.s.pt < 0 := fun hh => h2 (t2.2 hh)
      rw [if_neg h2, if_neg n7]
      exact ⟨rfl, by intro x hx; cases hx⟩
end Clip

namespace Clip
theorem sides_det {b : Bd} {c d : Co} (h : OnL c.cr d.cr) (hr : Real c.al.af) (hs : Sides b.af c.cr d.cr) : (meetI c.al b).d ≠ 0 := by
  obtain ⟨h1, _, _⟩ := meet_btw hr h.1 h.2 hs
  exact fun h2 => h1 (det_zero.2 h2)
theorem goI_map {b : Bd} {f : Co} (hf : SpOk f.s) : ∀ {c : Co} {l : List Co}, Adj OnL f.cr ((c :: l).map Co.cr) → (∀ x ∈ c :: l, Real x.al.af) → AllOk (c :: l) →
    (goI b f (c :: l)).map Co.cr = cutGo b.af (fun k => meetP k b.af) f.cr ((c :: l).map Co.cr) ∧ AllOk (goI b f (c :: l))
  | c, [], h, hr, ho => stepI_map (ho c (by simp)) hf (sides_det h (hr c (by simp)))
  | c, d :: l, h, hr, ho => by
    have hcd : OnL c.cr d.cr := h.1
    obtain ⟨i1, i2⟩ := goI_map (b := b) hf (c := d) (l := l) h.2 (fun x hx => hr x (List.mem_cons_of_mem _ hx)) (fun x hx => ho x (List.mem_cons_of_mem _ hx))
    obtain ⟨s1, s2⟩ := stepI_map (b := b) (ho c (by simp)) (ho d (by simp)) (sides_det hcd (hr c (by simp)))
    constructor
    · rw [goI, List.map_append, s1, i1]; rfl
    · intro x hx
      rw [goI, List.mem_append] at hx
      rcases hx with hx | hx
      · exact s2 x hx
      · exact i2 x hx
def cutsI : List Bd → List Co → List Co
  | [], l => l
  | b :: bs, l => cutsI bs (cutI b l)
theorem cutsI_nil : ∀ bs, cutsI bs [] = []
  | [] => rfl
  | _ :: bs => cutsI_nil bs
theorem cutsI_map : ∀ (bs : List Bd) (ks : List Af) (f : Co) (l : List Co), Poly ks f.cr (l.map Co.cr) → AllOk (f :: l) → (∀ b ∈ bs, Real b.af) →
    (cutsI bs (f :: l)).map Co.cr = cuts (bs.map Bd.af) ((f :: l).map Co.cr) ∧ AllOk (cutsI bs (f :: l))
  | [], _, f, l, _, ho, _ => ⟨rfl, ho⟩
  | b :: bs, ks, f, l, h, ho, hr => by
    have hreal : ∀ x ∈ f :: l, Real x.al.af := fun x hx => h.real x.cr (by
      have := List.mem_map_of_mem (f := Co.cr) hx
      simpa using this)
    obtain ⟨g1, g2⟩ := goI_map (b := b) (ho f (by simp)) (c := f) (l := l) h.on hreal ho
    have e1 : (cutI b (f :: l)).map Co.cr = cut b.af (fun k => meetP k b.af) ((f :: l).map Co.cr) := g1
    have e2 : AllOk (cutI b (f :: l)) := g2
    rw [cutsI, List.map_cons, cuts, ← e1]
    cases hc : cutI b (f :: l) with
    | nil => rw [cutsI_nil, List.map_nil, cuts_nil]; exact ⟨rfl, by intro x hx; cases hx⟩
    | cons g m =>
      rw [hc] at e1 e2
      have hP := h.cut (hr b (by simp)) (g := g.cr) (m := m.map Co.cr) e1.symm
      exact cutsI_map bs _ g m hP e2 fun x hx => hr x (List.mem_cons_of_mem _ hx)
def sqI : List Co := [⟨⟨⟨0, 1⟩, ⟨0, 1⟩⟩, ⟨0, -1, 0⟩⟩, ⟨⟨⟨1000, 1⟩, ⟨0, 1⟩⟩, ⟨1, 0, 1000⟩⟩, ⟨⟨⟨1000, 1⟩, ⟨1000, 1⟩⟩, ⟨0, 1, 1000⟩⟩, ⟨⟨⟨0, 1⟩, ⟨1000, 1⟩⟩, ⟨-1, 0, 0⟩⟩]
theorem sqI_map : sqI.map Co.cr = sq := by
  obtain ⟨e0, e1, e2, e3⟩ := bsq_af
  have h0 : Rt.q ⟨0, 1⟩ = 0 := by unfold Rt.q; decide +kernel
  have h1 : Rt.q ⟨1000, 1⟩ = 1000 := by unfold Rt.q; decide +kernel
  show [Co.cr _, Co.cr _, Co.cr _, Co.cr _] = _
  unfold Co.cr Sp.pt
  simp only [e0, e1, e2, e3, h0, h1]
  rfl
def regI (bs : List Bd) : List Co := cutsI bs sqI
theorem regI_ok (bs : List Bd) (hr : ∀ b ∈ bs, Real b.af) : (regI bs).map Co.cr = cutsB bs ∧ AllOk (regI bs) := by
  have hP := sq_poly
  have e : sqI.map Co.cr = sq := sqI_map
  have hsq : sq = ⟨⟨0, 0⟩, q0⟩ :: [⟨⟨1000, 0⟩, q1⟩, ⟨⟨1000, 1000⟩, q2⟩, ⟨⟨0, 1000⟩, q3⟩] := rfl
  unfold regI cutsB
  rw [← e]
  unfold sqI at e ⊢
  rw [List.map_cons, hsq] at e
  injection e with e1 e2
  refine cutsI_map bs [q0, q1, q2, q3] _ _ (by rw [e1, e2]; exact hP) ?_ hr
  intro c hc
  simp only [List.mem_cons, List.not_mem_nil, or_false] at hc
  rcases hc with rfl | rfl | rfl | rfl <;> exact ⟨by decide, by decide⟩
theorem regI_iff {l : List Bd} (hsq : ∀ b ∈ bsq, b ∈ l) (hr : ∀ b ∈ l, Real b.af) : regI l ≠ [] ↔ Vtx l := by
  rw [← region_iff hsq hr, ← (regI_ok l hr).1]
  cases regI l <;> simp
end Clip

namespace Clip
theorem top_of (u : Af) : ∀ (l : List Pt), l ≠ [] → ∃ c ∈ l, ∀ d ∈ l, u.ev d ≤ u.ev c
  | [], h => absurd rfl h
  | [c], _ => ⟨c, by simp, fun d hd => by rw [List.mem_singleton] at hd; rw [hd]; exact Rat.le_refl⟩
  | c :: d :: l, _ => by
    obtain ⟨e, he, h⟩ := top_of u (d :: l) (by simp)
    rcases Rat.le_total (a := u.ev e) (b := u.ev c) with h1 | h1
    · refine ⟨c, by simp, fun x hx => ?_⟩
      rcases List.mem_cons.1 hx with rfl | hx
      · exact Rat.le_refl
      · exact Rat.le_trans (h x hx) h1
    · refine ⟨e, List.mem_cons_of_mem _ he, fun x hx => ?_⟩
      rcases List.mem_cons.1 hx with rfl | hx
      · exact h1
      · exact h x hx
theorem Poly.reach {bs : List Af} {f : Cr} {l : List Cr} (h : Poly bs f l) {q : Pt} (hq : ∀ b ∈ bs, b.ev q ≤ 0) (u : Af) : ∃ c ∈ f :: l, u.ev q ≤ u.ev c.p := by
  obtain ⟨p, hp, ht⟩ := top_of u ((f :: l).map Cr.p) (by simp)
  obtain ⟨c, hc, rfl⟩ := List.mem_map.1 hp
  refine ⟨c, hc, Rat.not_lt.1 fun hlt => ?_⟩
  let v : Af := ⟨u.a, u.b, u.c - (u.ev c.p + u.ev q) / 2⟩
  have ev : ∀ p, v.ev p = u.ev p - (u.ev c.p + u.ev q) / 2 := fun p => by show u.a * p.x + u.b * p.y + (u.c - _) = _; unfold Af.ev; grind
  obtain ⟨d, hd, h2⟩ := h.span v q hq (by rw [ev]; grind)
  have := ht d hd
  rw [ev] at h2
  grind
theorem Poly.feas {bs : List Af} {f : Cr} {l : List Cr} (h : Poly bs f l) {c : Cr} (hc : c ∈ f :: l) : ∀ b ∈ bs, b.ev c.p ≤ 0 := h.keep c hc
end Clip

namespace Clip
theorem mulb {x y A B : Int} (h1 : -A ≤ x ∧ x ≤ A) (h2 : -B ≤ y ∧ y ≤ B) : -(A * B) ≤ x * y ∧ x * y ≤ A * B := by
  have hA : 0 ≤ A := by omega
  have hB : 0 ≤ B := by omega
  have a1 : x.natAbs ≤ A.toNat := by omega
  have a2 : y.natAbs ≤ B.toNat := by omega
  have a3 := Nat.mul_le_mul a1 a2
  rw [← Int.natAbs_mul] at a3
  have a4 : ((A.toNat * B.toNat : Nat) : Int) = A * B := by rw [Int.natCast_mul, Int.toNat_of_nonneg hA, Int.toNat_of_nonneg hB]
  omega
structure BdSz (b : Bd) : Prop where
  a : -50 ≤ b.A ∧ b.A ≤ 50
  b' : -50 ≤ b.B ∧ b.B ≤ 50
  c : -100000 ≤ b.C ∧ b.C ≤ 100000
  nz : b.A ≠ 0 ∨ b.B ≠ 0
theorem BdSz.real {b : Bd} (h : BdSz b) : Real b.af := by
  refine ⟨?_⟩
  rcases h.nz with h | h
  · exact .inl (ne_cast h)
  · exact .inr (ne_cast h)
structure SpSz (s : Sp) : Prop where
  xn : -10000000 ≤ s.X.N ∧ s.X.N ≤ 10000000
  xd : 1 ≤ s.X.D ∧ s.X.D ≤ 5000
  yn : -10000000 ≤ s.Y.N ∧ s.Y.N ≤ 10000000
  yd : 1 ≤ s.Y.D ∧ s.Y.D ≤ 5000
theorem SpSz.ok {s : Sp} (h : SpSz s) : SpOk s := ⟨by have := h.xd; omega, by have := h.yd; omega⟩
theorem meetI_sz {a b : Bd} (ha : BdSz a) (hb : BdSz b) : (-10000000 ≤ (meetI a b).x ∧ (meetI a b).x ≤ 10000000) ∧ (-10000000 ≤ (meetI a b).y ∧ (meetI a b).y ≤ 10000000) ∧ (-5000 ≤ (meetI a b).d ∧ (meetI a b).d ≤ 5000) := by
  have c1 := mulb (A := 100000) (B := 50) ha.c hb.b'
  have c2 := mulb (A := 100000) (B := 50) hb.c ha.b'
  have c3 := mulb (A := 50) (B := 100000) ha.a hb.c
  have c4 := mulb (A := 50) (B := 100000) hb.a ha.c
  have c5 := mulb (A := 50) (B := 50) ha.a hb.b'
  have c6 := mulb (A := 50) (B := 50) hb.a ha.b'
  unfold meetI
  simp only
  omega
theorem red_sz {n d N D : Int} (hd : d ≠ 0) (h1 : -N ≤ n ∧ n ≤ N) (h2 : -D ≤ d ∧ d ≤ D) : (-N ≤ (red n d).N ∧ (red n d).N ≤ N) ∧ 1 ≤ (red n d).D ∧ (red n d).D ≤ D := by
  obtain ⟨a1, a2, a3, _, _⟩ := red_ok (n := n) hd
  omega
theorem meetS_sz {a b : Bd} (ha : BdSz a) (hb : BdSz b) (h : (meetI a b).d ≠ 0) : SpSz (meetS a b) := by
  obtain ⟨m1, m2, m3⟩ := meetI_sz ha hb
  obtain ⟨x1, x2⟩ := red_sz h m1 m3
  obtain ⟨y1, y2⟩ := red_sz h m2 m3
  exact ⟨x1, x2, y1, y2⟩
theorem beyond_sz {b : Bd} {s : Sp} (hb : BdSz b) (hs : SpSz s) :
    ((-500000000 ≤ b.A * s.X.N ∧ b.A * s.X.N ≤ 500000000) ∧ (-2500000000000 ≤ b.A * s.X.N * s.Y.D ∧ b.A * s.X.N * s.Y.D ≤ 2500000000000)) ∧
    ((-500000000 ≤ b.B * s.Y.N ∧ b.B * s.Y.N ≤ 500000000) ∧ (-2500000000000 ≤ b.B * s.Y.N * s.X.D ∧ b.B * s.Y.N * s.X.D ≤ 2500000000000)) ∧
    ((-500000000 ≤ b.C * s.X.D ∧ b.C * s.X.D ≤ 500000000) ∧ (-2500000000000 ≤ b.C * s.X.D * s.Y.D ∧ b.C * s.X.D * s.Y.D ≤ 2500000000000)) := by
  have hx := hs.xd
  have hy := hs.yd
  have p1 := mulb (A := 50) (B := 10000000) hb.a hs.xn
  have p2 := mulb (A := 500000000) (B := 5000) (x := b.A * s.X.N) (y := s.Y.D) (by omega) (by omega)
  have p3 := mulb (A := 50) (B := 10000000) hb.b' hs.yn
  have p4 := mulb (A := 500000000) (B := 5000) (x := b.B * s.Y.N) (y := s.X.D) (by omega) (by omega)
  have p5 := mulb (A := 100000) (B := 5000) (y := s.X.D) hb.c (by omega)
  have p6 := mulb (A := 500000000) (B := 5000) (x := b.C * s.X.D) (y := s.Y.D) (by omega) (by omega)
  omega
structure CoSz (c : Co) : Prop where
  s : SpSz c.s
  al : BdSz c.al
def Cross (b : Bd) (c d : Co) : Prop := (beyond b c.s < 0 ∧ 0 < beyond b d.s) ∨ (0 < beyond b c.s ∧ beyond b d.s < 0)
theorem stepI_sz {b : Bd} {c d : Co} (hb : BdSz b) (hc : CoSz c) (hm : Cross b c d → (meetI c.al b).d ≠ 0) : ∀ x ∈ stepI b c d, CoSz x := by
  intro x hx
  unfold stepI at hx
  split at hx
  · rw [List.mem_singleton] at hx; subst hx; exact hc
  · rename_i h1
    split at hx
    · rw [List.mem_singleton] at hx; subst hx; exact ⟨hc.s, hb⟩
    · rename_i h2
      split at hx
      · rename_i h3
        have h4 := hm (.inl ⟨h3, by omega⟩)
        rcases List.mem_cons.1 hx with rfl | hx
        · exact hc
        · rw [List.mem_singleton] at hx; subst hx; exact ⟨meetS_sz hc.al hb h4, hb⟩
      · rename_i h3
        split at hx
        · rename_i h4
          rw [List.mem_singleton] at hx; subst hx
          exact ⟨meetS_sz hc.al hb (hm (.inr ⟨by omega, h4⟩)), hc.al⟩
        · cases hx
theorem cross_det {b : Bd} {c d : Co} (hc : CoSz c) (hd : CoSz d) (h : OnL c.cr d.cr) (hs : Cross b c d) : (meetI c.al b).d ≠ 0 := by
  refine sides_det (b := b) h hc.al.real ?_
  obtain ⟨s1, s2, s3⟩ := beyond_sign (b := b) hc.s.ok
  obtain ⟨t1, t2, t3⟩ := beyond_sign (b := b) hd.s.ok
  rcases hs with ⟨h1, h2⟩ | ⟨h1, h2⟩
  · exact .inl ⟨s2.1 h1, t1.1 h2⟩
  · exact .inr ⟨s1.1 h1, t2.1 h2⟩
theorem goI_sz {b : Bd} {f : Co} (hb : BdSz b) (hf : CoSz f) : ∀ {c : Co} {l : List Co}, Adj OnL f.cr ((c :: l).map Co.cr) → (∀ x ∈ c :: l, CoSz x) → ∀ x ∈ goI b f (c :: l), CoSz x
  | c, [], h, hs, x, hx => stepI_sz hb (hs c (by simp)) (cross_det (hs c (by simp)) hf h) x hx
  | c, d :: l, h, hs, x, hx => by
    rw [goI, List.mem_append] at hx
    rcases hx with hx | hx
    · exact stepI_sz hb (hs c (by simp)) (cross_det (hs c (by simp)) (hs d (by simp)) h.1) x hx
    · exact goI_sz hb hf (c := d) (l := l) h.2 (fun y hy => hs y (List.mem_cons_of_mem _ hy)) x hx
structure Inv (l : List Co) : Prop where
  sz : ∀ c ∈ l, CoSz c
  poly : l = [] ∨ ∃ ks f m, l = f :: m ∧ Poly ks f.cr (m.map Co.cr)
theorem Inv.ok {l : List Co} (h : Inv l) : AllOk l := fun c hc => (h.sz c hc).s.ok
theorem sqI_inv : Inv sqI := by
  constructor
  · intro c hc
    unfold sqI at hc
    simp only [List.mem_cons, List.not_mem_nil, or_false] at hc
    rcases hc with rfl | rfl | rfl | rfl <;> exact ⟨⟨by decide, by decide, by decide, by decide⟩, ⟨by decide, by decide, by decide, by decide⟩⟩
  · refine .inr ⟨[q0, q1, q2, q3], ⟨⟨⟨0, 1⟩, ⟨0, 1⟩⟩, ⟨0, -1, 0⟩⟩, [⟨⟨⟨1000, 1⟩, ⟨0, 1⟩⟩, ⟨1, 0, 1000⟩⟩, ⟨⟨⟨1000, 1⟩, ⟨1000, 1⟩⟩, ⟨0, 1, 1000⟩⟩, ⟨⟨⟨0, 1⟩, ⟨1000, 1⟩⟩, ⟨-1, 0, 0⟩⟩], rfl, ?_⟩
    have e : sqI.map Co.cr = sq := sqI_map
    have hsq : sq = ⟨⟨0, 0⟩, q0⟩ :: [⟨⟨1000, 0⟩, q1⟩, ⟨⟨1000, 1000⟩, q2⟩, ⟨⟨0, 1000⟩, q3⟩] := rfl
    unfold sqI at e
    rw [List.map_cons, hsq] at e
    injection e with e1 e2
    rw [e1, e2]
    exact sq_poly
theorem Inv.cut {l : List Co} {b : Bd} (h : Inv l) (hb : BdSz b) : Inv (cutI b l) := by
  rcases h.poly with rfl | ⟨ks, f, m, rfl, P⟩
  · exact h
  · have hreal : ∀ x ∈ f :: m, Real x.al.af := fun x hx => (h.sz x hx).al.real
    obtain ⟨g1, g2⟩ := goI_map (b := b) (h.ok f (by simp)) (c := f) (l := m) P.on hreal h.ok
    have e1 : (cutI b (f :: m)).map Co.cr = Clip.cut b.af (fun k => meetP k b.af) ((f :: m).map Co.cr) := g1
    constructor
    · exact goI_sz hb (h.sz f (by simp)) (c := f) (l := m) P.on h.sz
    · cases hc : cutI b (f :: m) with
      | nil => exact .inl rfl
      | cons g k =>
        rw [hc] at e1
        exact .inr ⟨_, g, k, rfl, P.cut hb.real (g := g.cr) (m := k.map Co.cr) e1.symm⟩
theorem adj_get {R : Cr → Cr → Prop} {f : Cr} : ∀ {l : List Cr} {i : Nat} {c : Cr}, Adj R f l → l[i]? = some c → (∀ d, l[i + 1]? = some d → R c d) ∧ (i + 1 = l.length → R c f)
  | [], i, c, _, h => by simp at h
  | [x], i, c, h, hi => by
    cases i with
    | zero =>
      simp only [List.getElem?_cons_zero, Option.some.injEq] at hi
      subst hi
      exact ⟨fun d hd => by simp at hd, fun _ => h⟩
    | succ i => simp at hi
  | x :: y :: l, i, c, h, hi => by
    cases i with
    | zero =>
      simp only [List.getElem?_cons_zero, Option.some.injEq] at hi
      subst hi
      refine ⟨fun d hd => ?_, fun hl => by simp at hl⟩
      simp only [Nat.zero_add, List.getElem?_cons_succ, List.getElem?_cons_zero, Option.some.injEq] at hd
      subst hd; exact h.1
    | succ i =>
      rw [List.getElem?_cons_succ] at hi
      obtain ⟨h1, h2⟩ := adj_get h.2 hi
      refine ⟨fun d hd => h1 d (by rwa [List.getElem?_cons_succ] at hd), fun hl => h2 (by simpa using hl)⟩
theorem Inv.meet {l : List Co} {b : Bd} (h : Inv l) {i : Nat} {c d : Co} (hc : l[i]? = some c) (hd : l[(i + 1) % l.length]? = some d) (hs : Cross b c d) : (meetI c.al b).d ≠ 0 := by
  have zc := h.sz c (List.mem_of_getElem? hc)
  have zd := h.sz d (List.mem_of_getElem? hd)
  refine cross_det zc zd ?_ hs
  rcases h.poly with rfl | ⟨ks, f, m, rfl, P⟩
  · simp at hc
  · have hlt := (List.getElem?_eq_some_iff.1 hc).1
    have hon : Adj OnL f.cr ((f :: m).map Co.cr) := P.on
    obtain ⟨a1, a2⟩ := adj_get (i := i) (c := c.cr) hon (by rw [List.getElem?_map, hc]; rfl)
    rcases Nat.lt_or_ge (i + 1) (f :: m).length with h1 | h1
    · rw [Nat.mod_eq_of_lt h1] at hd
      exact a1 d.cr (by rw [List.getElem?_map, hd]; rfl)
    · have h2 : i + 1 = (f :: m).length := by omega
      rw [h2, Nat.mod_self, List.getElem?_cons_zero, Option.some.injEq] at hd
      subst hd
      exact a2 (by rw [List.length_map]; exact h2)
theorem goI_at {b : Bd} {l : List Co} {f c d : Co} {i : Nat} (hf : l[0]? = some f) (hc : l[i]? = some c) (hd : l[(i + 1) % l.length]? = some d) : goI b f (l.drop i) = stepI b c d ++ goI b f (l.drop (i + 1)) := by
  obtain ⟨hlt, rfl⟩ := List.getElem?_eq_some_iff.1 hc
  rw [List.drop_eq_getElem_cons hlt]
  rcases Nat.lt_or_ge (i + 1) l.length with h1 | h1
  · rw [Nat.mod_eq_of_lt h1] at hd
    obtain ⟨_, rfl⟩ := List.getElem?_eq_some_iff.1 hd
    rw [List.drop_eq_getElem_cons h1]
    rfl
  · have h2 : i + 1 = l.length := by omega
    rw [h2, Nat.mod_self, hf, Option.some.injEq] at hd
    subst hd
    rw [List.drop_of_length_le h1, goI, goI, List.append_nil]
theorem cutI_go {b : Bd} {l : List Co} {f : Co} (hf : l[0]? = some f) : cutI b l = goI b f (l.drop 0) := by
  cases l with
  | nil => simp at hf
  | cons x l =>
    simp only [List.getElem?_cons_zero, Option.some.injEq] at hf
    subst hf; rfl
theorem stepI_len (b : Bd) (c d : Co) : (stepI b c d).length ≤ 2 := by
  unfold stepI
  split
  · simp
  · split
    · simp
    · split
      · simp
      · split <;> simp
end Clip

namespace Clip
def ddS : List Sp → List Sp → List Sp
  | out, [] => out
  | out, s :: r => ddS (if s ∈ out then out else out ++ [s]) r
theorem ddS_mem : ∀ {l out : List Sp} {x : Sp}, x ∈ ddS out l ↔ x ∈ out ∨ x ∈ l
  | [], out, x => by simp [ddS]
  | s :: r, out, x => by
    rw [ddS, ddS_mem]
    by_cases h : s ∈ out
    · rw [if_pos h, List.mem_cons]
      constructor
      · rintro (h1 | h1)
        · exact .inl h1
        · exact .inr (.inr h1)
      · rintro (h1 | rfl | h1)
        · exact .inl h1
        · exact .inl h
        · exact .inr h1
    · rw [if_neg h, List.mem_append, List.mem_singleton, List.mem_cons]
      constructor
      · rintro ((h1 | h1) | h1)
        · exact .inl h1
        · exact .inr (.inl h1)
        · exact .inr (.inr h1)
      · rintro (h1 | h1 | h1)
        · exact .inl (.inl h1)
        · exact .inl (.inr h1)
        · exact .inr h1
theorem ddS_len : ∀ (l out : List Sp), (ddS out l).length ≤ out.length + l.length
  | [], out => by simp [ddS]
  | s :: r, out => by
    rw [ddS]
    have := ddS_len r (if s ∈ out then out else out ++ [s])
    split at this <;> simp only [List.length_append, List.length_cons, List.length_nil] at this ⊢ <;> split <;> simp_all <;> omega
def cmpR (a b : Rt) : Int := a.N * b.D - b.N * a.D
def lessS (o s : Sp) : Bool := decide (cmpR o.X s.X < 0 ∨ (cmpR o.X s.X = 0 ∧ cmpR o.Y s.Y < 0))
def leastB (l : List Sp) (s : Sp) : Bool := l.all fun o => !lessS o s
def firstS (l : List Sp) : Nat := l.findIdx (leastB l)
def turnS (l : List Sp) : List Sp := l.drop (firstS l) ++ l.take (firstS l)
theorem cmpR_q {a b : Rt} (ha : 0 < a.D) (hb : 0 < b.D) : (cmpR a b < 0 ↔ a.q < b.q) ∧ (cmpR a b = 0 ↔ a.q = b.q) := by
  have h1 := Rat.div_mul_cancel (a := (a.N : Rat)) (ne_cast (show a.D ≠ 0 by omega))
  have h2 := Rat.div_mul_cancel (a := (b.N : Rat)) (ne_cast (show b.D ≠ 0 by omega))
  have pa := cast_pos.2 ha
  have pb := cast_pos.2 hb
  have e : ((cmpR a b : Int) : Rat) = (a.q - b.q) * (a.D * b.D) := by
    unfold cmpR Rt.q
    rw [Rat.intCast_sub, Rat.intCast_mul, Rat.intCast_mul]
    generalize (a.N : Rat) / a.D = X at *
    generalize (b.N : Rat) / b.D = Y at *
    grind
  obtain ⟨m1, m2, m3⟩ := mul_pos_iff' (a := a.q - b.q) (Rat.mul_pos pa pb)
  rw [← e] at m1 m2 m3
  constructor
  · rw [← cast_neg, m2]
    constructor <;> intro h <;> grind
  · have : cmpR a b = 0 ↔ ((cmpR a b : Int) : Rat) = 0 := ⟨fun h => by rw [h]; exact Rat.intCast_zero, fun h => Rat.intCast_inj.1 (h.trans Rat.intCast_zero.symm)⟩
    rw [this, m3]
    constructor <;> intro h <;> grind
theorem lessS_iff {o s : Sp} (ho : SpOk o) (hs : SpOk s) : lessS o s = true ↔ o.X.q < s.X.q ∨ (o.X.q = s.X.q ∧ o.Y.q < s.Y.q) := by
  unfold lessS
  rw [decide_eq_true_eq, (cmpR_q ho.x hs.x).1, (cmpR_q ho.x hs.x).2, (cmpR_q ho.y hs.y).1]
theorem lessS_trans {a b c : Sp} (ha : SpOk a) (hb : SpOk b) (hc : SpOk c) (h1 : lessS a b = true) (h2 : lessS b c = true) : lessS a c = true := by
  rw [lessS_iff ha hb] at h1
  rw [lessS_iff hb hc] at h2
  rw [lessS_iff ha hc]
  grind
theorem lessS_irr {a : Sp} (ha : SpOk a) : lessS a a = false := by
  cases h : lessS a a
  · rfl
  · rw [lessS_iff ha ha] at h; grind
theorem least_ex : ∀ {l : List Sp}, l ≠ [] → (∀ s ∈ l, SpOk s) → ∃ s ∈ l, leastB l s = true
  | [], h, _ => absurd rfl h
  | [c], _, ho => ⟨c, by simp, by unfold leastB; simp [lessS_irr (ho c (by simp))]⟩
  | c :: d :: l, _, ho => by
    obtain ⟨e, he, hm⟩ := least_ex (l := d :: l) (by simp) (fun s hs => ho s (List.mem_cons_of_mem _ hs))
    have oc := ho c (by simp)
    have oe := ho e (List.mem_cons_of_mem _ he)
    unfold leastB at hm
    rw [List.all_eq_true] at hm
    cases hc : lessS c e
    · refine ⟨e, List.mem_cons_of_mem _ he, ?_⟩
      unfold leastB
      rw [List.all_eq_true]
      intro o h
      rcases List.mem_cons.1 h with rfl | h
      · rw [hc]; rfl
      · exact hm o h
    · refine ⟨c, by simp, ?_⟩
      unfold leastB
      rw [List.all_eq_true]
      intro o h
      rcases List.mem_cons.1 h with rfl | h
      · rw [lessS_irr oc]; rfl
      · cases h2 : lessS o c
        · rfl
        · have := lessS_trans (ho o (List.mem_cons_of_mem _ h)) oc oe h2 hc
          have h3 := hm o h
          rw [this] at h3; cases h3
theorem firstS_lt {l : List Sp} (h : l ≠ []) (ho : ∀ s ∈ l, SpOk s) : firstS l < l.length := by
  unfold firstS
  rw [List.findIdx_lt_length]
  exact least_ex h ho
theorem turnS_len (l : List Sp) : (turnS l).length = l.length := by
  unfold turnS
  rw [List.length_append, List.length_drop, List.length_take]; omega
def regS (bs : List Bd) : List Sp := turnS (ddS [] ((regI bs).map Co.s))
theorem regS_ne {bs : List Bd} : regS bs ≠ [] ↔ regI bs ≠ [] := by
  have hl : (regS bs).length = (ddS [] ((regI bs).map Co.s)).length := turnS_len _
  constructor
  · intro h h2
    apply h
    rw [h2] at hl
    exact List.eq_nil_of_length_eq_zero (by simpa [ddS] using hl)
  · intro h h2
    rw [h2, List.length_nil] at hl
    obtain ⟨c, hc⟩ := List.exists_mem_of_ne_nil _ h
    have hm : c.s ∈ ddS [] ((regI bs).map Co.s) := ddS_mem.2 (.inr (List.mem_map_of_mem hc))
    rw [List.eq_nil_of_length_eq_zero hl.symm] at hm
    cases hm
/-! ### The points of the reference -/

def alike (a b : Pl) : Bool := decide (a.x * b.d = b.x * a.d ∧ a.y * b.d = b.y * a.d)
def keptB (l : List Bd) (out : List Pl) (p : Pl) : Bool := (decide (p.d ≠ 0) && l.all fun m => decide (m.val p ≤ 0)) && out.all fun q => !alike q p
def pStep (l : List Bd) (a b : Bd) (out : List Pl) : List Pl := if keptB l out (posD (meetI a b)) = true then out ++ [posD (meetI a b)] else out
def ptsIn (l : List Bd) (a : Bd) : List Bd → List Pl → List Pl
  | [], out => out
  | b :: r, out => ptsIn l a r (pStep l a b out)
def ptsGo (l : List Bd) : List Bd → List Bd → List Pl → List Pl
  | _, [], out => out
  | dn, a :: r, out => ptsGo l (dn ++ [a]) r (ptsIn l a dn out)
def pts (l : List Bd) : List Pl := ptsGo l [] l []
structure PtOk (l : List Bd) (p : Pl) : Prop where
  of : ∃ a ∈ l, ∃ b ∈ l, (meetI a b).d ≠ 0 ∧ p = posD (meetI a b)
  keep : ∀ m ∈ l, m.val p ≤ 0
theorem posD_zero {p : Pl} : (posD p).d ≠ 0 ↔ p.d ≠ 0 := by
  unfold posD
  split
  · simp only; omega
  · exact Iff.rfl
theorem pStep_ok {l : List Bd} {a b : Bd} {out : List Pl} (ha : a ∈ l) (hb : b ∈ l) (h : ∀ p ∈ out, PtOk l p) : ∀ p ∈ pStep l a b out, PtOk l p := by
  intro p hp
  unfold pStep at hp
  split at hp
  · rename_i hk
    rcases List.mem_append.1 hp with hp | hp
    · exact h p hp
    · rw [List.mem_singleton] at hp
      unfold keptB at hk
      rw [Bool.and_eq_true, Bool.and_eq_true, decide_eq_true_eq, List.all_eq_true] at hk
      refine ⟨⟨a, ha, b, hb, posD_zero.1 hk.1.1, hp⟩, fun m hm => ?_⟩
      have := hk.1.2 m hm
      rw [decide_eq_true_eq] at this
      rw [hp]; exact this
  · exact h p hp
theorem ptsIn_ok {l : List Bd} {a : Bd} (ha : a ∈ l) : ∀ {r : List Bd} {out : List Pl}, (∀ b ∈ r, b ∈ l) → (∀ p ∈ out, PtOk l p) → ∀ p ∈ ptsIn l a r out, PtOk l p
  | [], _, _, h => h
  | b :: r, out, hr, h => by rw [ptsIn]; exact ptsIn_ok (r := r) ha (fun x hx => hr x (List.mem_cons_of_mem _ hx)) (pStep_ok ha (hr b (by simp)) h)
theorem ptsGo_ok {l : List Bd} : ∀ {r dn : List Bd} {out : List Pl}, (∀ b ∈ dn, b ∈ l) → (∀ b ∈ r, b ∈ l) → (∀ p ∈ out, PtOk l p) → ∀ p ∈ ptsGo l dn r out, PtOk l p
  | [], _, _, _, _, h => h
  | a :: r, dn, out, hd, hr, h => by
    rw [ptsGo]
    exact ptsGo_ok (r := r) (dn := dn ++ [a]) (fun x hx => by
      rcases List.mem_append.1 hx with hx | hx
      · exact hd x hx
      · rw [List.mem_singleton] at hx; rw [hx]; exact hr a (by simp)) (fun x hx => hr x (List.mem_cons_of_mem _ hx)) (ptsIn_ok (hr a (by simp)) hd h)
theorem pts_ok (l : List Bd) : ∀ p ∈ pts l, PtOk l p := ptsGo_ok (fun _ h => by cases h) (fun _ h => h) (fun _ h => by cases h)
theorem pStep_ne {l : List Bd} {a b : Bd} {out : List Pl} (h : out ≠ []) : pStep l a b out ≠ [] := by
  unfold pStep; split
  · simp
  · exact h
theorem ptsIn_ne {l : List Bd} {a : Bd} : ∀ {r : List Bd} {out : List Pl}, out ≠ [] → ptsIn l a r out ≠ []
  | [], _, h => h
  | _ :: r, _, h => by rw [ptsIn]; exact ptsIn_ne (r := r) (pStep_ne h)
theorem ptsGo_ne {l : List Bd} : ∀ {r dn : List Bd} {out : List Pl}, out ≠ [] → ptsGo l dn r out ≠ []
  | [], _, _, h => h
  | _ :: r, _, _, h => by rw [ptsGo]; exact ptsGo_ne (r := r) (ptsIn_ne h)
def Hit (l : List Bd) (a b : Bd) : Prop := (meetI a b).d ≠ 0 ∧ ∀ m ∈ l, m.val (posD (meetI a b)) ≤ 0
theorem posD_swap (a b : Bd) (h : (meetI a b).d ≠ 0) : posD (meetI b a) = posD (meetI a b) := by
  have e : meetI b a = ⟨-(meetI a b).x, -(meetI a b).y, -(meetI a b).d⟩ := by
    unfold meetI
    simp only [Pl.mk.injEq]
    refine ⟨by omega, ?_, ?_⟩
    · have := Int.mul_comm a.A b.C; omega
    · have := Int.mul_comm a.A b.B; omega
  rw [e]
  unfold posD
  simp only
  rcases Int.lt_or_le (meetI a b).d 0 with h1 | h1
  · rw [if_neg (by omega), if_pos h1]
  · rw [if_pos (by omega), if_neg (by omega)]
    simp
theorem Hit.swap {l : List Bd} {a b : Bd} (h : Hit l a b) : Hit l b a := by
  refine ⟨?_, fun m hm => by rw [posD_swap a b h.1]; exact h.2 m hm⟩
  have := h.1
  unfold meetI at this ⊢
  simp only at this ⊢
  omega
theorem pStep_hit {l : List Bd} {a b : Bd} {out : List Pl} (h : Hit l a b) : pStep l a b out ≠ [] := by
  by_cases ho : out = []
  · subst ho
    unfold pStep
    have : keptB l [] (posD (meetI a b)) = true := by
      unfold keptB
      rw [Bool.and_eq_true, Bool.and_eq_true, decide_eq_true_eq, List.all_eq_true]
      exact ⟨⟨posD_zero.2 h.1, fun m hm => by rw [decide_eq_true_eq]; exact h.2 m hm⟩, rfl⟩
    rw [if_pos this]; simp
  · exact pStep_ne ho
theorem ptsIn_hit {l : List Bd} {a b : Bd} (h : Hit l a b) : ∀ {r : List Bd} {out : List Pl}, b ∈ r → ptsIn l a r out ≠ []
  | x :: r, out, hb => by
    rw [ptsIn]
    rcases List.mem_cons.1 hb with rfl | hb
    · exact ptsIn_ne (r := r) (pStep_hit h)
    · exact ptsIn_hit (r := r) h hb
theorem ptsGo_hit {l : List Bd} {a b : Bd} (h : Hit l a b) : ∀ {r dn : List Bd} {out : List Pl}, ((a ∈ dn ∧ b ∈ r) ∨ (a ∈ r ∧ b ∈ dn) ∨ (a ∈ r ∧ b ∈ r)) → ptsGo l dn r out ≠ []
  | [], dn, out, hh => by rcases hh with ⟨_, h⟩ | ⟨h, _⟩ | ⟨h, _⟩ <;> cases h
  | x :: r, dn, out, hh => by
    rw [ptsGo]
    rcases hh with ⟨h1, h2⟩ | ⟨h1, h2⟩ | ⟨h1, h2⟩
    · rcases List.mem_cons.1 h2 with rfl | h2
      · exact ptsGo_ne (ptsIn_hit h.swap h1)
      · exact ptsGo_hit (r := r) h (.inl ⟨List.mem_append_left _ h1, h2⟩)
    · rcases List.mem_cons.1 h1 with rfl | h1
      · exact ptsGo_ne (ptsIn_hit h h2)
      · exact ptsGo_hit (r := r) h (.inr (.inl ⟨h1, List.mem_append_left _ h2⟩))
    · rcases List.mem_cons.1 h1 with e1 | h3
      · subst e1
        rcases List.mem_cons.1 h2 with e2 | h4
        · exfalso
          subst e2
          have := h.1
          unfold meetI at this
          simp only at this
          omega
        · exact ptsGo_hit (r := r) h (.inl ⟨by simp, h4⟩)
      · rcases List.mem_cons.1 h2 with e2 | h4
        · subst e2
          exact ptsGo_hit (r := r) h (.inr (.inl ⟨h3, by simp⟩))
        · exact ptsGo_hit (r := r) h (.inr (.inr ⟨h3, h4⟩))
theorem pts_ne {l : List Bd} : pts l ≠ [] ↔ Vtx l := by
  constructor
  · intro h
    obtain ⟨p, hp⟩ := List.exists_mem_of_ne_nil _ h
    obtain ⟨⟨a, ha, b, hb, hd, e⟩, hk⟩ := pts_ok l p hp
    exact ⟨a, ha, b, hb, hd, fun m hm => by rw [← e]; exact hk m hm⟩
  · rintro ⟨a, ha, b, hb, hd, hk⟩
    exact ptsGo_hit ⟨hd, hk⟩ (.inr (.inr ⟨ha, hb⟩))
theorem reg_pts {l : List Bd} (hsq : ∀ b ∈ bsq, b ∈ l) (hr : ∀ b ∈ l, BdSz b) : (regS l = []) ↔ pts l = [] := by
  have h1 := regI_iff hsq fun b hb => (hr b hb).real
  have h2 := pts_ne (l := l)
  have h3 := regS_ne (bs := l)
  constructor
  · intro h
    exact Classical.byContradiction fun h4 => h3.2 (h1.2 (h2.1 h4)) h
  · intro h
    exact Classical.byContradiction fun h4 => h2.2 (h1.1 (h3.1 h4)) h
end Clip

namespace Clip
structure Pn where
  x : Int
  y : Int
  deriving DecidableEq
structure Sg where
  f : Int
  t : Int
  r : Pn
  l : Pn
  deriving DecidableEq
structure Nt where
  ps : List Pn
  ss : List Sg
def okP (p : Pn) : Bool := decide ((0 ≤ p.x ∧ p.x ≤ 1000) ∧ (0 ≤ p.y ∧ p.y ≤ 1000))
def okD (d : Pn) : Bool := decide (¬ (d.x = 0 ∧ d.y = 0) ∧ (-50 ≤ d.x ∧ d.x ≤ 50) ∧ (-50 ≤ d.y ∧ d.y ≤ 50))
def crs (a b : Pn) : Int := a.x * b.y - a.y * b.x
def sgE (n : Int) (s : Sg) : Int := if s.f < 0 ∨ n - 1 < s.f ∨ s.t < 0 ∨ n - 1 < s.t ∨ s.f = s.t then 2 else if okD s.r = true ∧ okD s.l = true ∧ 0 < crs s.r s.l then 0 else 4
def chkG (n : Int) : List Sg → Int
  | [] => 0
  | s :: r => if sgE n s = 0 then chkG n r else sgE n s
def chk (N : Nt) : Int := if N.ps.length < 1 ∨ 10 < N.ps.length ∨ 20 < N.ss.length then 3 else if N.ps.all okP = true then chkG N.ps.length N.ss else 4
structure SgOk (n : Nat) (s : Sg) : Prop where
  f : 0 ≤ s.f ∧ s.f < n
  t : 0 ≤ s.t ∧ s.t < n
  ne : s.f ≠ s.t
  r : okD s.r = true
  l : okD s.l = true
  c : 0 < crs s.r s.l
structure NtOk (N : Nt) : Prop where
  n : 1 ≤ N.ps.length ∧ N.ps.length ≤ 10
  m : N.ss.length ≤ 20
  p : ∀ p ∈ N.ps, okP p = true
  s : ∀ s ∈ N.ss, SgOk N.ps.length s
theorem sgE_ok {n : Nat} {s : Sg} : sgE n s = 0 ↔ SgOk n s := by
  unfold sgE
  constructor
  · intro h
    split at h
    · omega
    · rename_i h1
      split at h
      · rename_i h2
        exact ⟨by omega, by omega, by omega, h2.1, h2.2.1, h2.2.2⟩
      · omega
  · intro h
    have h1 := h.f
    have h2 := h.t
    have h3 := h.ne
    rw [if_neg (by omega), if_pos ⟨h.r, h.l, h.c⟩]
theorem chkG_ok {n : Nat} : ∀ {l : List Sg}, chkG n l = 0 ↔ ∀ s ∈ l, SgOk n s
  | [] => by simp [chkG]
  | s :: r => by
    rw [chkG]
    split
    · rename_i h
      rw [chkG_ok (l := r)]
      constructor
      · intro k x hx
        rcases List.mem_cons.1 hx with rfl | hx
        · exact sgE_ok.1 h
        · exact k x hx
      · exact fun k x hx => k x (List.mem_cons_of_mem _ hx)
    · rename_i h
      constructor
      · intro k; exact absurd k h
      · intro k; exact absurd (sgE_ok.2 (k s (by simp))) h
theorem chk_ok {N : Nt} : chk N = 0 ↔ NtOk N := by
  unfold chk
  constructor
  · intro h
    split at h
    · omega
    · rename_i h1
      split at h
      · rename_i h2
        exact ⟨by omega, by omega, fun p hp => List.all_eq_true.1 h2 p hp, chkG_ok.1 h⟩
      · omega
  · intro h
    have h1 := h.n
    have h2 := h.m
    rw [if_neg (by omega), if_pos (List.all_eq_true.2 h.p)]
    exact chkG_ok.2 h.s
def pAt (ps : List Pn) (i : Int) : Pn := ps.getD i.toNat ⟨0, 0⟩
def offB (ps : List Pn) (s : Sg) : Bool := decide (crs s.r ⟨(pAt ps s.t).x - (pAt ps s.f).x, (pAt ps s.t).y - (pAt ps s.f).y⟩ < 0 ∨ crs ⟨(pAt ps s.t).x - (pAt ps s.f).x, (pAt ps s.t).y - (pAt ps s.f).y⟩ s.l < 0)
def offS (ps : List Pn) : Int → List Sg → List Int
  | _, [] => []
  | k, s :: r => if offB ps s = true then k :: offS ps (k + 1) r else offS ps (k + 1) r
def offL (N : Nt) : List Int := offS N.ps 0 N.ss
def bS (ps : List Pn) (p : Int) (s : Sg) : List Bd :=
  if s.t = p then [⟨s.r.y, -s.r.x, s.r.y * (pAt ps s.f).x + -s.r.x * (pAt ps s.f).y⟩, ⟨-s.l.y, s.l.x, -s.l.y * (pAt ps s.f).x + s.l.x * (pAt ps s.f).y⟩]
  else if s.f = p then [⟨-s.r.y, s.r.x, -s.r.y * (pAt ps s.t).x + s.r.x * (pAt ps s.t).y⟩, ⟨s.l.y, -s.l.x, s.l.y * (pAt ps s.t).x + -s.l.x * (pAt ps s.t).y⟩]
  else []
def bnds (N : Nt) (p : Int) : List Bd := N.ss.flatMap (bS N.ps p) ++ bsq
theorem okP_iff {p : Pn} : okP p = true ↔ (0 ≤ p.x ∧ p.x ≤ 1000) ∧ (0 ≤ p.y ∧ p.y ≤ 1000) := by unfold okP; rw [decide_eq_true_eq]
theorem okD_iff {p : Pn} : okD p = true ↔ ¬ (p.x = 0 ∧ p.y = 0) ∧ (-50 ≤ p.x ∧ p.x ≤ 50) ∧ (-50 ≤ p.y ∧ p.y ≤ 50) := by unfold okD; rw [decide_eq_true_eq]
theorem pAt_ok {N : Nt} (h : NtOk N) {i : Int} (hi : 0 ≤ i ∧ i < N.ps.length) : (0 ≤ (pAt N.ps i).x ∧ (pAt N.ps i).x ≤ 1000) ∧ (0 ≤ (pAt N.ps i).y ∧ (pAt N.ps i).y ≤ 1000) := by
  have hlt : i.toNat < N.ps.length := by omega
  have : pAt N.ps i = N.ps[i.toNat] := by unfold pAt; simp [List.getElem?_eq_getElem hlt]
  rw [this]
  exact okP_iff.1 (h.p _ (List.getElem_mem hlt))
theorem pAt_get {ps : List Pn} {i : Int} {p : Pn} (h : ps[i.toNat]? = some p) : pAt ps i = p := by unfold pAt; rw [List.getD_eq_getElem?_getD, h]; rfl
theorem dir_sz {d p : Pn} (hd : okD d = true) (hp : (0 ≤ p.x ∧ p.x ≤ 1000) ∧ (0 ≤ p.y ∧ p.y ≤ 1000)) :
    BdSz ⟨d.y, -d.x, d.y * p.x + -d.x * p.y⟩ ∧ BdSz ⟨-d.y, d.x, -d.y * p.x + d.x * p.y⟩ ∧ (-50000 ≤ d.y * p.x ∧ d.y * p.x ≤ 50000) ∧ (-50000 ≤ -d.x * p.y ∧ -d.x * p.y ≤ 50000) ∧ (-50000 ≤ -d.y * p.x ∧ -d.y * p.x ≤ 50000) ∧ (-50000 ≤ d.x * p.y ∧ d.x * p.y ≤ 50000) := by
  obtain ⟨h1, h2, h3⟩ := okD_iff.1 hd
  have m1 := mulb (A := 50) (B := 1000) (x := d.y) (y := p.x) (by omega) (by omega)
  have m2 := mulb (A := 50) (B := 1000) (x := -d.x) (y := p.y) (by omega) (by omega)
  have m3 := mulb (A := 50) (B := 1000) (x := -d.y) (y := p.x) (by omega) (by omega)
  have m4 := mulb (A := 50) (B := 1000) (x := d.x) (y := p.y) (by omega) (by omega)
  refine ⟨⟨by simp only; omega, by simp only; omega, by simp only; omega, by simp only; omega⟩, ⟨by simp only; omega, by simp only; omega, by simp only; omega, by simp only; omega⟩, by omega, by omega, by omega, by omega⟩
theorem bS_sz {N : Nt} (h : NtOk N) {p : Int} {s : Sg} (hs : s ∈ N.ss) : ∀ b ∈ bS N.ps p s, BdSz b := by
  have o := h.s s hs
  have pf := pAt_ok h o.f
  have pt := pAt_ok h o.t
  intro b hb
  unfold bS at hb
  split at hb
  · simp only [List.mem_cons, List.not_mem_nil, or_false] at hb
    rcases hb with rfl | rfl
    · exact (dir_sz o.r pf).1
    · exact (dir_sz o.l pf).2.1
  · split at hb
    · simp only [List.mem_cons, List.not_mem_nil, or_false] at hb
      rcases hb with rfl | rfl
      · exact (dir_sz o.r pt).2.1
      · exact (dir_sz o.l pt).1
    · cases hb
theorem bnds_sz {N : Nt} (h : NtOk N) (p : Int) : ∀ b ∈ bnds N p, BdSz b := by
  intro b hb
  unfold bnds at hb
  rcases List.mem_append.1 hb with hb | hb
  · obtain ⟨s, hs, hb⟩ := List.mem_flatMap.1 hb
    exact bS_sz h hs b hb
  · unfold bsq at hb
    simp only [List.mem_cons, List.not_mem_nil, or_false] at hb
    rcases hb with rfl | rfl | rfl | rfl <;> exact ⟨by decide, by decide, by decide, by decide⟩
theorem bnds_sq (N : Nt) (p : Int) : ∀ b ∈ bsq, b ∈ bnds N p := fun b hb => List.mem_append_right _ hb
theorem bS_len (ps : List Pn) (p : Int) (s : Sg) : (bS ps p s).length ≤ 2 := by
  unfold bS
  split
  · simp
  · split <;> simp
theorem bnds_len {N : Nt} (h : NtOk N) (p : Int) : (bnds N p).length ≤ 44 := by
  have key : ∀ l : List Sg, (l.flatMap (bS N.ps p)).length ≤ 2 * l.length := by
    intro l
    induction l with
    | nil => simp
    | cons s r ih =>
      have := bS_len N.ps p s
      rw [List.flatMap_cons, List.length_append, List.length_cons]; omega
  have h1 := key N.ss
  have h2 := h.m
  unfold bnds
  rw [List.length_append]
  simp only [bsq, List.length_cons, List.length_nil]
  omega
def allOf (N : Nt) (p : Int) : Bool := (offL N).all fun i => decide ((N.ss.getD i.toNat ⟨0, 0, ⟨0, 0⟩, ⟨0, 0⟩⟩).f = p ∨ (N.ss.getD i.toNat ⟨0, 0, ⟨0, 0⟩, ⟨0, 0⟩⟩).t = p)
def mvB (N : Nt) (p : Int) : Bool := allOf N p && !decide (regS (bnds N p) = [])
def mvS (N : Nt) : Int → Nat → List Int
  | _, 0 => []
  | p, n + 1 => if mvB N p = true then p :: mvS N (p + 1) n else mvS N (p + 1) n
def mvL (N : Nt) : List Int := mvS N 0 N.ps.length
theorem mvB_pts {N : Nt} (h : NtOk N) (p : Int) : mvB N p = (allOf N p && !decide (pts (bnds N p) = [])) := by
  unfold mvB
  have := reg_pts (bnds_sq N p) (bnds_sz h p)
  congr 2
  exact decide_eq_decide.2 this
theorem offS_bd (ps : List Pn) : ∀ (l : List Sg) (k : Int), ∀ x ∈ offS ps k l, k ≤ x ∧ x < k + l.length
  | [], k, x, hx => by cases hx
  | s :: r, k, x, hx => by
    rw [offS] at hx
    have ih := offS_bd ps r (k + 1)
    rw [List.length_cons]
    split at hx
    · rcases List.mem_cons.1 hx with rfl | hx
      · omega
      · have := ih x hx; omega
    · have := ih x hx; omega
theorem offS_len (ps : List Pn) : ∀ (l : List Sg) (k : Int), (offS ps k l).length ≤ l.length
  | [], k => Nat.le_refl _
  | s :: r, k => by
    have ih := offS_len ps r (k + 1)
    rw [offS]
    split <;> (try simp only [List.length_cons]) <;> omega
theorem mvS_len (N : Nt) : ∀ (n : Nat) (p : Int), (mvS N p n).length ≤ n
  | 0, p => Nat.le_refl _
  | n + 1, p => by
    have ih := mvS_len N n (p + 1)
    rw [mvS]
    split <;> (try simp only [List.length_cons]) <;> omega
end Clip

namespace Clip
theorem turnS_mem {l : List Sp} {s : Sp} : s ∈ turnS l ↔ s ∈ l := by
  unfold turnS
  rw [List.mem_append]
  constructor
  · rintro (h | h)
    · exact List.mem_of_mem_drop h
    · exact List.mem_of_mem_take h
  · intro h
    rw [← List.take_append_drop (firstS l) l, List.mem_append] at h
    exact h.symm
theorem regS_mem {bs : List Bd} {s : Sp} : s ∈ regS bs ↔ ∃ c ∈ regI bs, c.s = s := by
  unfold regS
  rw [turnS_mem, ddS_mem, List.mem_map]
  simp
def Feas (bs : List Bd) (q : Pt) : Prop := ∀ b ∈ bs, b.af.ev q ≤ 0
theorem bsq_all {bs : List Bd} (hsq : ∀ b ∈ bsq, b ∈ bs) : ∀ b ∈ [q0, q1, q2, q3], ∃ k ∈ bs, k.af = b := by
  obtain ⟨e0, e1, e2, e3⟩ := bsq_af
  intro b hb
  simp only [List.mem_cons, List.not_mem_nil, or_false] at hb
  rcases hb with rfl | rfl | rfl | rfl
  · exact ⟨_, hsq _ (by simp [bsq]), e0⟩
  · exact ⟨_, hsq _ (by simp [bsq]), e1⟩
  · exact ⟨_, hsq _ (by simp [bsq]), e2⟩
  · exact ⟨_, hsq _ (by simp [bsq]), e3⟩
theorem all_back {bs : List Bd} (hsq : ∀ b ∈ bsq, b ∈ bs) {b : Af} (hb : b ∈ (bs.map Bd.af).reverse ++ [q0, q1, q2, q3]) : ∃ k ∈ bs, k.af = b := by
  rcases List.mem_append.1 hb with hb | hb
  · obtain ⟨k, hk, rfl⟩ := List.mem_map.1 (List.mem_reverse.1 hb)
    exact ⟨k, hk, rfl⟩
  · exact bsq_all hsq b hb
theorem regI_poly {bs : List Bd} (hr : ∀ b ∈ bs, BdSz b) : (∃ g m, (regI bs).map Co.cr = g :: m ∧ Poly ((bs.map Bd.af).reverse ++ [q0, q1, q2, q3]) g m) ∨
    (regI bs = [] ∧ ¬ ∃ q : Pt, (∀ k ∈ [q0, q1, q2, q3], k.ev q ≤ 0) ∧ ∀ b ∈ bs.map Bd.af, b.ev q ≤ 0) := by
  have hR : ∀ b ∈ bs.map Bd.af, Real b := fun b hb => by
    obtain ⟨k, hk, rfl⟩ := List.mem_map.1 hb
    exact (hr k hk).real
  have e := (regI_ok bs fun b hb => (hr b hb).real).1
  rcases cuts_ok (bs.map Bd.af) _ _ _ sq_poly hR with ⟨g, m, h1, P⟩ | ⟨h1, h2⟩
  · exact .inl ⟨g, m, e.trans h1, P⟩
  · refine .inr ⟨?_, h2⟩
    have h3 : (regI bs).map Co.cr = [] := e.trans h1
    exact List.map_eq_nil_iff.1 h3
theorem reg_reach {bs : List Bd} (hsq : ∀ b ∈ bsq, b ∈ bs) (hr : ∀ b ∈ bs, BdSz b) {q : Pt} (hq : Feas bs q) (u : Af) : ∃ s ∈ regS bs, u.ev q ≤ u.ev s.pt := by
  rcases regI_poly hr with ⟨g, m, e, P⟩ | ⟨_, h2⟩
  · obtain ⟨c, hc, h⟩ := P.reach (q := q) (fun b hb => by
      obtain ⟨k, hk, rfl⟩ := all_back hsq hb
      exact hq k hk) u
    rw [← e] at hc
    obtain ⟨d, hd, rfl⟩ := List.mem_map.1 hc
    exact ⟨d.s, regS_mem.2 ⟨d, hd, rfl⟩, h⟩
  · exfalso
    refine h2 ⟨q, fun k hk => ?_, fun b hb => ?_⟩
    · obtain ⟨c, hc, rfl⟩ := bsq_all hsq k hk
      exact hq c hc
    · obtain ⟨c, hc, rfl⟩ := List.mem_map.1 hb
      exact hq c hc
theorem cutsI_inv : ∀ (bs : List Bd) (l : List Co), Inv l → (∀ b ∈ bs, BdSz b) → Inv (cutsI bs l)
  | [], _, h, _ => h
  | b :: bs, l, h, hr => cutsI_inv bs (cutI b l) (h.cut (hr b (by simp))) fun x hx => hr x (List.mem_cons_of_mem _ hx)
theorem regI_inv {bs : List Bd} (hr : ∀ b ∈ bs, BdSz b) : Inv (regI bs) := cutsI_inv bs _ sqI_inv hr
theorem regS_sz {bs : List Bd} (hr : ∀ b ∈ bs, BdSz b) {s : Sp} (h : s ∈ regS bs) : SpSz s := by
  obtain ⟨c, hc, rfl⟩ := regS_mem.1 h
  exact ((regI_inv hr).sz c hc).s
theorem reg_corner {bs : List Bd} (hsq : ∀ b ∈ bsq, b ∈ bs) (hr : ∀ b ∈ bs, BdSz b) {s : Sp} (h : s ∈ regS bs) : Feas bs s.pt ∧ ∃ a ∈ bs, ∃ b ∈ bs, (meetI a b).d ≠ 0 ∧ a.af.ev s.pt = 0 ∧ b.af.ev s.pt = 0 := by
  obtain ⟨c, hc, rfl⟩ := regS_mem.1 h
  rcases regI_poly hr with ⟨g, m, e, P⟩ | ⟨h1, _⟩
  · have hm : c.cr ∈ g :: m := by rw [← e]; exact List.mem_map_of_mem hc
    refine ⟨fun b hb => P.keep c.cr hm b.af (List.mem_append_left _ (List.mem_reverse.2 (List.mem_map_of_mem hb))), ?_⟩
    obtain ⟨k, hk, n, hn, d0, z1, z2⟩ := P.vert c.cr hm
    obtain ⟨a, ha, rfl⟩ := all_back hsq hk
    obtain ⟨b, hb, rfl⟩ := all_back hsq hn
    exact ⟨a, ha, b, hb, fun h => d0 (det_zero.2 h), z1, z2⟩
  · rw [h1] at hc; cases hc
theorem regS_ne_of {bs : List Bd} (hsq : ∀ b ∈ bsq, b ∈ bs) (hr : ∀ b ∈ bs, BdSz b) {q : Pt} (hq : Feas bs q) : regS bs ≠ [] := by
  obtain ⟨s, hs, _⟩ := reg_reach hsq hr hq ⟨0, 0, 0⟩
  exact List.ne_nil_of_mem hs
/-! ### How far -/

def dirAf (to : Pn) : Af := ⟨to.x, to.y, 0⟩
def farS' (to : Pn) (s : Sp) : Int := to.x * s.X.N * s.Y.D + to.y * s.Y.N * s.X.D
def farR (to : Pn) (s : Sp) : Rt := red (farS' to s) (s.X.D * s.Y.D)
def rcStep (to : Pn) (out : Rt) (s : Sp) : Rt := if out.D = 0 ∨ out.N * (farR to s).D < (farR to s).N * out.D then farR to s else out
def rcS (to : Pn) : Rt → List Sp → Rt
  | out, [] => out
  | out, s :: r => rcS to (rcStep to out s) r
theorem farR_q {to : Pn} {s : Sp} (h : SpOk s) : (farR to s).q = (dirAf to).ev s.pt ∧ 0 < (farR to s).D := by
  have hd : s.X.D * s.Y.D ≠ 0 := Int.ne_of_gt (Int.mul_pos h.x h.y)
  refine ⟨?_, (red_ok hd).pos⟩
  unfold farR
  rw [red_q hd]
  have h1 := Rat.div_mul_cancel (a := (s.X.N : Rat)) (ne_cast (show s.X.D ≠ 0 by have := h.x; omega))
  have h2 := Rat.div_mul_cancel (a := (s.Y.N : Rat)) (ne_cast (show s.Y.D ≠ 0 by have := h.y; omega))
  have h3 := Rat.div_mul_cancel (a := ((farS' to s : Int) : Rat)) (ne_cast hd)
  have n1 := ne_cast (show s.X.D ≠ 0 by have := h.x; omega)
  have n2 := ne_cast (show s.Y.D ≠ 0 by have := h.y; omega)
  unfold dirAf Af.ev Sp.pt Rt.q
  simp only
  unfold farS' at h3 ⊢
  rw [Rat.intCast_add, Rat.intCast_mul, Rat.intCast_mul, Rat.intCast_mul, Rat.intCast_mul, Rat.intCast_mul] at h3 ⊢
  generalize (s.X.N : Rat) / s.X.D = P at *
  generalize (s.Y.N : Rat) / s.Y.D = Q at *
  generalize ((to.x : Rat) * s.X.N * s.Y.D + to.y * s.Y.N * s.X.D) / (s.X.D * s.Y.D) = R at *
  have e : (R - (to.x * P + to.y * Q + 0)) * (s.X.D * s.Y.D) = 0 := by
    rw [← h1, ← h2] at h3
    grind
  rcases Rat.mul_eq_zero.1 e with h4 | h4
  · grind
  · rcases Rat.mul_eq_zero.1 h4 with h5 | h5
    · exact absurd h5 n1
    · exact absurd h5 n2
theorem rt_lt {a b : Rt} (ha : 0 < a.D) (hb : 0 < b.D) : a.N * b.D < b.N * a.D ↔ a.q < b.q := by
  rw [← (cmpR_q ha hb).1]
  unfold cmpR
  omega
structure RcOk (to : Pn) (l : List Sp) (r : Rt) : Prop where
  d : 0 < r.D
  at' : ∃ s ∈ l, r = farR to s
  le : ∀ s ∈ l, (dirAf to).ev s.pt ≤ r.q
theorem rcStep_ok {to : Pn} {l : List Sp} {r : Rt} {s : Sp} (hs : SpOk s) (h : (l = [] ∧ r.D = 0) ∨ RcOk to l r) : RcOk to (l ++ [s]) (rcStep to r s) := by
  obtain ⟨fq, fd⟩ := farR_q (to := to) hs
  unfold rcStep
  rcases h with ⟨rfl, h0⟩ | h
  · rw [if_pos (.inl h0)]
    exact ⟨fd, ⟨s, by simp, rfl⟩, fun x hx => by
      rw [List.nil_append, List.mem_singleton] at hx
      rw [hx, fq]; exact Rat.le_refl⟩
  · have hd := h.d
    have hlt := rt_lt hd fd
    by_cases hc : r.N * (farR to s).D < (farR to s).N * r.D
    · rw [if_pos (.inr hc)]
      have h1 := hlt.1 hc
      refine ⟨fd, ⟨s, by simp, rfl⟩, fun x hx => ?_⟩
      rcases List.mem_append.1 hx with hx | hx
      · have := h.le x hx
        grind
      · rw [List.mem_singleton] at hx
        rw [hx, fq]; exact Rat.le_refl
    · have h0 : ¬ (r.D = 0 ∨ r.N * (farR to s).D < (farR to s).N * r.D) := by
        rintro (h1 | h1)
        · omega
        · exact hc h1
      rw [if_neg h0]
      obtain ⟨z, hz, e⟩ := h.at'
      refine ⟨hd, ⟨z, List.mem_append_left _ hz, e⟩, fun x hx => ?_⟩
      rcases List.mem_append.1 hx with hx | hx
      · exact h.le x hx
      · rw [List.mem_singleton] at hx
        rw [hx, ← fq]
        exact Rat.not_lt.1 fun h1 => hc (hlt.2 h1)
theorem rcS_ok {to : Pn} : ∀ {m l : List Sp} {r : Rt}, (∀ s ∈ m, SpOk s) → ((l = [] ∧ r.D = 0) ∨ RcOk to l r) → (l ++ m ≠ []) → RcOk to (l ++ m) (rcS to r m)
  | [], l, r, _, h, hne => by
    rw [List.append_nil] at hne ⊢
    rcases h with ⟨h, _⟩ | h
    · exact absurd h hne
    · exact h
  | s :: m, l, r, hm, h, _ => by
    rw [rcS]
    have := rcS_ok (to := to) (m := m) (l := l ++ [s]) (r := rcStep to r s) (fun x hx => hm x (List.mem_cons_of_mem _ hx)) (.inr (rcStep_ok (hm s (by simp)) h)) (by simp)
    rw [List.append_assoc] at this
    exact this
theorem reach_ok {bs : List Bd} {to : Pn} (hsq : ∀ b ∈ bsq, b ∈ bs) (hr : ∀ b ∈ bs, BdSz b) (hne : regS bs ≠ []) :
    RcOk to (regS bs) (rcS to ⟨0, 0⟩ (regS bs)) ∧ ∀ q, Feas bs q → (dirAf to).ev q ≤ (rcS to ⟨0, 0⟩ (regS bs)).q := by
  have h := rcS_ok (to := to) (m := regS bs) (l := []) (r := ⟨0, 0⟩) (fun s hs => (regS_sz hr hs).ok) (.inl ⟨rfl, rfl⟩) (by simpa using hne)
  rw [List.nil_append] at h
  refine ⟨h, fun q hq => ?_⟩
  obtain ⟨s, hs, h1⟩ := reg_reach hsq hr hq (dirAf to)
  exact Rat.le_trans h1 (h.le s hs)
end Clip

namespace Clip
def crA (u a : Af) : Rat := u.a * a.b - u.b * a.a
def dtA (u a : Af) : Rat := u.a * a.a + u.b * a.b
theorem max_ratio (f g : Af → Rat) : ∀ (L : List Af), L ≠ [] → (∀ a ∈ L, 0 < g a) → ∃ a ∈ L, ∀ b ∈ L, f b * g a ≤ f a * g b
  | [], h, _ => absurd rfl h
  | [c], _, _ => ⟨c, by simp, fun b hb => by rw [List.mem_singleton] at hb; rw [hb]; exact Rat.le_refl⟩
  | c :: d :: l, _, hg => by
    obtain ⟨e, he, h⟩ := max_ratio f g (d :: l) (by simp) fun a ha => hg a (List.mem_cons_of_mem _ ha)
    have gc := hg c (by simp)
    have ge := hg e (List.mem_cons_of_mem _ he)
    rcases Rat.le_total (a := f e * g c) (b := f c * g e) with h1 | h1
    · refine ⟨c, by simp, fun x hx => ?_⟩
      rcases List.mem_cons.1 hx with rfl | hx
      · exact Rat.le_refl
      · have gx := hg x (List.mem_cons_of_mem _ hx)
        have h2 := h x hx
        have h3 := Rat.mul_le_mul_of_nonneg_right h2 (Rat.le_of_lt gc)
        have h4 := Rat.mul_le_mul_of_nonneg_right h1 (Rat.le_of_lt gx)
        have h5 : (f x * g c) * g e ≤ (f c * g x) * g e := by grind
        exact Rat.le_of_mul_le_mul_right h5 ge
    · refine ⟨e, List.mem_cons_of_mem _ he, fun x hx => ?_⟩
      rcases List.mem_cons.1 hx with rfl | hx
      · exact h1
      · exact h x hx
theorem cone2 {T : List Af} {u : Af} (hu : u.a ≠ 0 ∨ u.b ≠ 0) (h : ∀ x y : Rat, (∀ a ∈ T, a.a * x + a.b * y ≤ 0) → u.a * x + u.b * y ≤ 0) :
    (∃ a ∈ T, crA u a = 0 ∧ 0 < dtA u a) ∨ ∃ a ∈ T, ∃ b ∈ T, 0 < crA u a ∧ crA u b < 0 ∧ 0 < dtA u a * -crA u b + dtA u b * crA u a := by
  have huu : 0 < u.a * u.a + u.b * u.b := by
    have sq : ∀ x : Rat, 0 ≤ x * x := fun x => by
      rcases Rat.le_total (a := 0) (b := x) with h | h
      · exact Rat.mul_nonneg h h
      · have := Rat.mul_nonneg (show 0 ≤ -x by grind) (show 0 ≤ -x by grind)
        grind
    have sp : ∀ x : Rat, x ≠ 0 → 0 < x * x := fun x hx => by
      have := sq x
      have h2 : x * x ≠ 0 := fun h => by rcases Rat.mul_eq_zero.1 h with h | h <;> exact hx h
      grind
    rcases hu with h | h
    · have := sp _ h; have := sq u.b; grind
    · have := sp _ h; have := sq u.a; grind
  refine Classical.byContradiction fun hn => ?_
  have n1 : ∀ a ∈ T, crA u a = 0 → dtA u a ≤ 0 := fun a ha h0 => Rat.not_lt.1 fun h1 => hn (.inl ⟨a, ha, h0, h1⟩)
  have n2 : ∀ a ∈ T, ∀ b ∈ T, 0 < crA u a → crA u b < 0 → dtA u a * -crA u b + dtA u b * crA u a ≤ 0 := fun a ha b hb h1 h2 => Rat.not_lt.1 fun h3 => hn (.inr ⟨a, ha, b, hb, h1, h2, h3⟩)
  -- a turn t by which one goes on from u
  have key : ∀ t : Rat, (∀ a ∈ T, dtA u a + t * crA u a ≤ 0) → False := fun t ht => by
    have := h (u.a - t * u.b) (u.b + t * u.a) fun a ha => by
      have := ht a ha
      unfold dtA crA at this
      grind
    have e : u.a * (u.a - t * u.b) + u.b * (u.b + t * u.a) = u.a * u.a + u.b * u.b := by grind
    rw [e] at this
    grind
  let L := T.filter fun a => decide (0 < crA u a)
  let R := T.filter fun a => decide (crA u a < 0)
  have hL : ∀ a, a ∈ L ↔ a ∈ T ∧ 0 < crA u a := fun a => by simp [L]
  have hR : ∀ a, a ∈ R ↔ a ∈ T ∧ crA u a < 0 := fun a => by simp [R]
  have div : ∀ x y : Rat, y ≠ 0 → x / y * y = x := fun x y hy => Rat.div_mul_cancel hy
  by_cases eL : L = []
  · by_cases eR : R = []
    · exact key 0 fun a ha => by
        have c0 : crA u a = 0 := by
          have h1 : ¬ 0 < crA u a := fun h2 => by have := (hL a).2 ⟨ha, h2⟩; rw [eL] at this; cases this
          have h2 : ¬ crA u a < 0 := fun h2 => by have := (hR a).2 ⟨ha, h2⟩; rw [eR] at this; cases this
          grind
        have := n1 a ha c0
        grind
    · obtain ⟨b, hb, hm⟩ := max_ratio (fun a => dtA u a) (fun a => -crA u a) R eR fun a ha => by have := ((hR a).1 ha).2; grind
      have cb := ((hR b).1 hb).2
      refine key (dtA u b / -crA u b) fun a ha => ?_
      have hd := div (dtA u b) (-crA u b) (by grind)
      generalize dtA u b / -crA u b = t at *
      rcases Rat.le_total (a := crA u a) (b := 0) with h1 | h1
      · rcases (show crA u a = 0 ∨ crA u a < 0 by grind) with h2 | h2
        · have := n1 a ha h2
          rw [h2]; grind
        · have h3 := hm a ((hR a).2 ⟨ha, h2⟩)
          have h4 : (dtA u a + t * crA u a) * -crA u b ≤ 0 := by
            have : (dtA u a + t * crA u a) * -crA u b = dtA u a * -crA u b + (t * -crA u b) * crA u a := by grind
            rw [this, hd]; grind
          exact Rat.not_lt.1 fun h5 => by have := Rat.mul_pos h5 (show 0 < -crA u b by grind); grind
      · rcases (show crA u a = 0 ∨ 0 < crA u a by grind) with h2 | h2
        · have := n1 a ha h2
          rw [h2]; grind
        · exfalso
          have := (hL a).2 ⟨ha, h2⟩
          rw [eL] at this; cases this
  · obtain ⟨a0, ha0, hm⟩ := max_ratio (fun a => dtA u a) (fun a => crA u a) L eL fun a ha => ((hL a).1 ha).2
    have ca := ((hL a0).1 ha0).2
    have hT0 := ((hL a0).1 ha0).1
    refine key (-(dtA u a0 / crA u a0)) fun a ha => ?_
    have hd := div (dtA u a0) (crA u a0) (by grind)
    generalize dtA u a0 / crA u a0 = t at *
    rcases Rat.le_total (a := crA u a) (b := 0) with h1 | h1
    · rcases (show crA u a = 0 ∨ crA u a < 0 by grind) with h2 | h2
      · have := n1 a ha h2
        rw [h2]; grind
      · have h3 := n2 a0 hT0 a ha ca h2
        have h4 : (dtA u a + -t * crA u a) * crA u a0 ≤ 0 := by
          have : (dtA u a + -t * crA u a) * crA u a0 = dtA u a * crA u a0 + (t * crA u a0) * -crA u a := by grind
          rw [this, hd]; grind
        exact Rat.not_lt.1 fun h5 => by have := Rat.mul_pos h5 ca; grind
    · rcases (show crA u a = 0 ∨ 0 < crA u a by grind) with h2 | h2
      · have := n1 a ha h2
        rw [h2]; grind
      · have h3 := hm a ((hL a).2 ⟨ha, h2⟩)
        have h4 : (dtA u a + -t * crA u a) * crA u a0 ≤ 0 := by
          have : (dtA u a + -t * crA u a) * crA u a0 = dtA u a * crA u a0 - (t * crA u a0) * crA u a := by grind
          rw [this, hd]; grind
        exact Rat.not_lt.1 fun h5 => by have := Rat.mul_pos h5 ca; grind
theorem small (x y : Rat) (s : Pt) : ∀ (l : List Af), (∀ a ∈ l, a.ev s < 0) → ∃ e : Rat, 0 < e ∧ ∀ a ∈ l, a.ev s + e * (a.a * x + a.b * y) ≤ 0
  | [], _ => ⟨1, by decide, fun a ha => by cases ha⟩
  | c :: l, h => by
    obtain ⟨e, he, hl⟩ := small x y s l fun a ha => h a (List.mem_cons_of_mem _ ha)
    have hc := h c (by simp)
    have shrink : ∀ e' : Rat, 0 < e' → e' ≤ e → ∀ a ∈ l, a.ev s + e' * (a.a * x + a.b * y) ≤ 0 := fun e' h1 h2 a ha => by
      have ha1 := hl a ha
      have ha2 := h a (List.mem_cons_of_mem _ ha)
      rcases Rat.le_total (a := a.a * x + a.b * y) (b := 0) with h3 | h3
      · have := Rat.mul_nonneg (Rat.le_of_lt h1) (show 0 ≤ -(a.a * x + a.b * y) by grind)
        grind
      · have := Rat.mul_le_mul_of_nonneg_right h2 h3
        grind
    by_cases hg : c.ev s + e * (c.a * x + c.b * y) ≤ 0
    · exact ⟨e, he, fun a ha => by
        rcases List.mem_cons.1 ha with rfl | ha
        · exact hg
        · exact hl a ha⟩
    · have hg' := Rat.not_le.1 hg
      have hgp : 0 < c.a * x + c.b * y := by
        refine Rat.not_le.1 fun h4 => ?_
        have := Rat.mul_nonneg (Rat.le_of_lt he) (show 0 ≤ -(c.a * x + c.b * y) by grind)
        grind
      have hd := Rat.div_mul_cancel (a := -c.ev s) (show c.a * x + c.b * y ≠ 0 by grind)
      generalize -c.ev s / (c.a * x + c.b * y) = e' at *
      have e1 : 0 < e' := by
        refine Rat.not_le.1 fun h4 => ?_
        have := Rat.mul_nonneg (show 0 ≤ -e' by grind) (Rat.le_of_lt hgp)
        grind
      have e2 : e' ≤ e := by
        refine Rat.not_lt.1 fun h4 => ?_
        have := Rat.mul_le_mul_of_nonneg_right (Rat.le_of_lt h4) (Rat.le_of_lt hgp)
        grind
      refine ⟨e', e1, fun a ha => ?_⟩
      rcases List.mem_cons.1 ha with rfl | ha
      · grind
      · exact shrink e' e1 e2 a ha
theorem best_dir {bs : List Bd} {u : Af} {s : Pt} (hs : Feas bs s) (hb : ∀ q, Feas bs q → u.ev q ≤ u.ev s) (x y : Rat)
    (h : ∀ a ∈ (bs.map Bd.af).filter (fun a => decide (a.ev s = 0)), a.a * x + a.b * y ≤ 0) : u.a * x + u.b * y ≤ 0 := by
  obtain ⟨e, he, hl⟩ := small x y s ((bs.map Bd.af).filter fun a => decide (a.ev s < 0)) fun a ha => by simpa using (List.mem_filter.1 ha).2
  have ev : ∀ a : Af, a.ev ⟨s.x + e * x, s.y + e * y⟩ = a.ev s + e * (a.a * x + a.b * y) := fun a => by unfold Af.ev; grind
  have hf : Feas bs ⟨s.x + e * x, s.y + e * y⟩ := fun b hb2 => by
    rw [ev]
    have h0 := hs b hb2
    rcases (show b.af.ev s = 0 ∨ b.af.ev s < 0 by grind) with h1 | h1
    · have h2 := h b.af (List.mem_filter.2 ⟨List.mem_map_of_mem hb2, by simpa using h1⟩)
      have := Rat.mul_nonneg (Rat.le_of_lt he) (show 0 ≤ -(b.af.a * x + b.af.b * y) by grind)
      grind
    · exact hl b.af (List.mem_filter.2 ⟨List.mem_map_of_mem hb2, by simpa using h1⟩)
  have := hb _ hf
  rw [ev] at this
  refine Rat.not_lt.1 fun h4 => ?_
  have := Rat.mul_pos he h4
  grind
structure Pair (to : Pn) (a b : Bd) (w u v : Int) : Prop where
  pw : 0 < w
  pu : 0 ≤ u
  pv : 0 ≤ v
  ex : u * a.A + v * b.A = w * to.x
  ey : u * a.B + v * b.B = w * to.y
theorem Pair.weak {bs : List Bd} {to : Pn} {a b : Bd} {w u v : Int} (h : Pair to a b w u v) (ha : a ∈ bs) (hb : b ∈ bs) {q : Pt} (hq : Feas bs q) : (dirAf to).ev q * w ≤ ((u * a.C + v * b.C : Int) : Rat) := by
  have h1 := hq a ha
  have h2 := hq b hb
  have cu : (0 : Rat) ≤ (u : Rat) := by have := Rat.intCast_le_intCast (a := 0) (b := u); rw [Rat.intCast_zero] at this; exact this.2 h.pu
  have cv : (0 : Rat) ≤ (v : Rat) := by have := Rat.intCast_le_intCast (a := 0) (b := v); rw [Rat.intCast_zero] at this; exact this.2 h.pv
  have e1 := congrArg (fun z : Int => (z : Rat)) h.ex
  have e2 := congrArg (fun z : Int => (z : Rat)) h.ey
  simp only [Rat.intCast_add, Rat.intCast_mul] at e1 e2
  have m1 := Rat.mul_nonneg cu (show 0 ≤ -a.af.ev q by grind)
  have m2 := Rat.mul_nonneg cv (show 0 ≤ -b.af.ev q by grind)
  rw [Rat.intCast_add, Rat.intCast_mul, Rat.intCast_mul]
  unfold dirAf Af.ev
  unfold Bd.af Af.ev at m1 m2
  simp only at m1 m2 ⊢
  have k1 : ((u : Rat) * a.A + v * b.A) * q.x = w * to.x * q.x := by rw [e1]
  have k2 : ((u : Rat) * a.B + v * b.B) * q.y = w * to.y * q.y := by rw [e2]
  generalize (u : Rat) = U at *
  generalize (v : Rat) = V at *
  generalize (w : Rat) = W at *
  grind
theorem pair_ex {bs : List Bd} {to : Pn} (hsq : ∀ b ∈ bsq, b ∈ bs) (ht : ¬ (to.x = 0 ∧ to.y = 0)) {s : Pt} (hs : Feas bs s) (hb : ∀ q, Feas bs q → (dirAf to).ev q ≤ (dirAf to).ev s) :
    ∃ a ∈ bs, ∃ b ∈ bs, ∃ w u v : Int, Pair to a b w u v ∧ (w = a.A * b.B - a.B * b.A ∧ u = to.x * b.B - to.y * b.A ∧ v = a.A * to.y - a.B * to.x ∨ w = -(a.A * b.B - a.B * b.A) ∧ u = -(to.x * b.B - to.y * b.A) ∧ v = -(a.A * to.y - a.B * to.x)) ∧
      (dirAf to).ev s * w = ((u * a.C + v * b.C : Int) : Rat) := by
  have hu : (dirAf to).a ≠ 0 ∨ (dirAf to).b ≠ 0 := by
    by_cases h : to.x = 0
    · exact .inr (ne_cast fun h2 => ht ⟨h, h2⟩)
    · exact .inl (ne_cast h)
  have tight : ∀ a, a ∈ (bs.map Bd.af).filter (fun a => decide (a.ev s = 0)) → ∃ k ∈ bs, k.af = a ∧ k.af.ev s = 0 := fun a ha => by
    obtain ⟨h1, h2⟩ := List.mem_filter.1 ha
    obtain ⟨k, hk, rfl⟩ := List.mem_map.1 h1
    exact ⟨k, hk, rfl, by simpa using h2⟩
  have cx : ∀ k : Bd, crA (dirAf to) k.af = ((to.x * k.B - to.y * k.A : Int) : Rat) := fun k => by
    unfold crA dirAf Bd.af
    simp only
    rw [Rat.intCast_sub, Rat.intCast_mul, Rat.intCast_mul]
  have dx : ∀ k : Bd, dtA (dirAf to) k.af = ((to.x * k.A + to.y * k.B : Int) : Rat) := fun k => by
    unfold dtA dirAf Bd.af
    simp only
    rw [Rat.intCast_add, Rat.intCast_mul, Rat.intCast_mul]
  -- a bound on whose line the place is
  have on : ∀ k : Bd, k.af.ev s = 0 → (k.A : Rat) * s.x + k.B * s.y = k.C := fun k hk => by
    unfold Af.ev Bd.af at hk
    simp only at hk
    grind
  have fin : ∀ (a b : Bd) (w u v : Int), a.af.ev s = 0 → (v = 0 ∨ b.af.ev s = 0) → u * a.A + v * b.A = w * to.x → u * a.B + v * b.B = w * to.y → (dirAf to).ev s * w = ((u * a.C + v * b.C : Int) : Rat) := by
    intro a b w u v ha hb' e1 e2
    have o1 := on a ha
    have f1 := congrArg (fun z : Int => (z : Rat)) e1
    have f2 := congrArg (fun z : Int => (z : Rat)) e2
    simp only [Rat.intCast_add, Rat.intCast_mul] at f1 f2
    rw [Rat.intCast_add, Rat.intCast_mul, Rat.intCast_mul]
    have o2 : (v : Rat) * ((b.A : Rat) * s.x + b.B * s.y) = v * b.C := by
      rcases hb' with h | h
      · rw [h, Rat.intCast_zero, Rat.zero_mul, Rat.zero_mul]
      · rw [on b h]
    have k1 : ((u : Rat) * a.A + v * b.A) * s.x = w * to.x * s.x := by rw [f1]
    have k2 : ((u : Rat) * a.B + v * b.B) * s.y = w * to.y * s.y := by rw [f2]
    have o1' : (u : Rat) * ((a.A : Rat) * s.x + a.B * s.y) = u * a.C := by rw [o1]
    unfold dirAf Af.ev
    simp only
    grind
  rcases cone2 hu (best_dir hs hb) with ⟨a0, ha0, c0, d0⟩ | ⟨a0, ha0, b0, hb0, c1, c2, c3⟩
  · obtain ⟨a, ha, rfl, ta⟩ := tight a0 ha0
    rw [cx, ← Rat.intCast_zero] at c0
    rw [dx, cast_pos] at d0
    have c0 : to.x * a.B - to.y * a.A = 0 := Rat.intCast_inj.1 c0
    have hv : a.A * to.y - a.B * to.x = 0 := by
      have e1 := Int.mul_comm a.A to.y
      have e2 := Int.mul_comm a.B to.x
      omega
    by_cases hA : a.A = 0
    · have hB : a.B ≠ 0 := fun h => by rw [hA, h] at d0; simp at d0
      have hx : to.x = 0 := by
        rw [hA, Int.mul_zero, Int.sub_zero] at c0
        rcases Int.mul_eq_zero.1 c0 with h | h
        · exact h
        · exact absurd h hB
      rw [hx, hA] at d0
      simp only [Int.mul_zero, Int.zero_add] at d0
      have hm : ⟨1, 0, 1000⟩ ∈ bs := hsq ⟨1, 0, 1000⟩ (by simp [bsq])
      rcases Int.lt_or_lt_of_ne hB with h | h
      · have hy : to.y < 0 := by
          refine Int.not_le.1 fun h2 => ?_
          have := Int.mul_le_mul_of_nonneg_left (Int.le_of_lt h) h2
          omega
        have e1 : -a.B * to.x = 0 := by rw [hx]; simp
        refine ⟨a, ha, ⟨1, 0, 1000⟩, hm, -a.B, -to.y, 0, ⟨by omega, by omega, by omega, ?_, ?_⟩, .inl ⟨?_, ?_, ?_⟩, fin a ⟨1, 0, 1000⟩ _ _ _ ta (.inl rfl) ?_ ?_⟩
        all_goals simp only [hx, hA]
        all_goals grind
      · have hy : 0 < to.y := by
          refine Int.not_le.1 fun h2 => ?_
          have := Int.mul_le_mul_of_nonneg_right h2 (Int.le_of_lt h)
          omega
        refine ⟨a, ha, ⟨1, 0, 1000⟩, hm, a.B, to.y, 0, ⟨by omega, by omega, by omega, ?_, ?_⟩, .inr ⟨?_, ?_, ?_⟩, fin a ⟨1, 0, 1000⟩ _ _ _ ta (.inl rfl) ?_ ?_⟩
        all_goals simp only [hx, hA]
        all_goals grind
    · have hm : ⟨0, 1, 1000⟩ ∈ bs := hsq ⟨0, 1, 1000⟩ (by simp [bsq])
      have key : 0 < to.x * a.A := by
        have sq : 0 < a.A * a.A := by
          rcases Int.lt_or_lt_of_ne hA with h | h
          · exact Int.mul_pos_of_neg_of_neg h h
          · exact Int.mul_pos h h
        have sq2 : 0 ≤ a.B * a.B := by
          rcases Int.le_total 0 a.B with h | h
          · exact Int.mul_nonneg h h
          · exact Int.mul_nonneg_of_nonpos_of_nonpos h h
        have e : (to.x * a.A) * (a.A * a.A + a.B * a.B) = (to.x * a.A + to.y * a.B) * (a.A * a.A) := by grind
        refine Int.not_le.1 fun h2 => ?_
        have p1 := Int.mul_pos d0 sq
        have p2 := Int.mul_le_mul_of_nonneg_right h2 (show 0 ≤ a.A * a.A + a.B * a.B by omega)
        rw [e] at p2
        omega
      rcases Int.lt_or_lt_of_ne hA with h | h
      · have hx : to.x < 0 := by
          refine Int.not_le.1 fun h2 => ?_
          have := Int.mul_le_mul_of_nonneg_left (Int.le_of_lt h) h2
          omega
        refine ⟨a, ha, ⟨0, 1, 1000⟩, hm, -a.A, -to.x, 0, ⟨by omega, by omega, by omega, ?_, ?_⟩, .inr ⟨?_, ?_, ?_⟩, fin a ⟨0, 1, 1000⟩ _ _ _ ta (.inl rfl) ?_ ?_⟩
        all_goals try simp only
        all_goals grind
      · have hx : 0 < to.x := by
          refine Int.not_le.1 fun h2 => ?_
          have := Int.mul_le_mul_of_nonneg_right h2 (Int.le_of_lt h)
          omega
        refine ⟨a, ha, ⟨0, 1, 1000⟩, hm, a.A, to.x, 0, ⟨by omega, by omega, by omega, ?_, ?_⟩, .inl ⟨?_, ?_, ?_⟩, fin a ⟨0, 1, 1000⟩ _ _ _ ta (.inl rfl) ?_ ?_⟩
        all_goals try simp only
        all_goals grind
  · obtain ⟨a, ha, rfl, ta⟩ := tight a0 ha0
    obtain ⟨b, hb', rfl, tb⟩ := tight b0 hb0
    rw [cx, dx, cx, dx, ← Rat.intCast_neg, ← Rat.intCast_mul, ← Rat.intCast_mul, ← Rat.intCast_add, cast_pos] at c3
    rw [cx, cast_pos] at c1
    rw [cx, cast_neg] at c2
    have e : (to.x * a.A + to.y * a.B) * -(to.x * b.B - to.y * b.A) + (to.x * b.A + to.y * b.B) * (to.x * a.B - to.y * a.A) = -(a.A * b.B - a.B * b.A) * (to.x * to.x + to.y * to.y) := by grind
    have sq : ∀ x : Int, 0 ≤ x * x := fun x => by
      rcases Int.le_total 0 x with h | h
      · exact Int.mul_nonneg h h
      · exact Int.mul_nonneg_of_nonpos_of_nonpos h h
    have hw : 0 < -(a.A * b.B - a.B * b.A) := by
      refine Int.not_le.1 fun h2 => ?_
      have := Int.mul_le_mul_of_nonneg_right h2 (show 0 ≤ to.x * to.x + to.y * to.y by have := sq to.x; have := sq to.y; omega)
      rw [← e] at this
      omega
    have hv : a.A * to.y - a.B * to.x = -(to.x * a.B - to.y * a.A) := by grind
    refine ⟨a, ha, b, hb', -(a.A * b.B - a.B * b.A), -(to.x * b.B - to.y * b.A), -(a.A * to.y - a.B * to.x), ⟨hw, by omega, by omega, ?_, ?_⟩, .inr ⟨rfl, rfl, rfl⟩, fin a b _ _ _ ta (.inr tb) ?_ ?_⟩
    all_goals grind
end Clip

namespace Clip
theorem red_uniq {n d n' d' : Int} (h : d ≠ 0) (h' : d' ≠ 0) (e : (red n d).q = (red n' d').q) : red n d = red n' d' := by
  obtain ⟨a1, _, _, _, a5⟩ := red_ok (n := n) h
  obtain ⟨b1, _, _, _, b5⟩ := red_ok (n := n') h'
  have c := (cmpR_q a1 b1).2.2 e
  unfold cmpR at c
  generalize red n d = r at *
  generalize red n' d' = s at *
  obtain ⟨N, D⟩ := r
  obtain ⟨M, E⟩ := s
  simp only at *
  obtain ⟨d1, rfl⟩ : ∃ k : Nat, D = k := ⟨D.toNat, by omega⟩
  obtain ⟨e1, rfl⟩ : ∃ k : Nat, E = k := ⟨E.toNat, by omega⟩
  rw [Int.toNat_natCast] at a5 b5
  have h1 : N * e1 = M * d1 := by omega
  have h2 : N.natAbs * e1 = M.natAbs * d1 := by
    have := congrArg Int.natAbs h1
    rw [Int.natAbs_mul, Int.natAbs_mul, Int.natAbs_natCast, Int.natAbs_natCast] at this
    exact this
  have k1 : d1 ∣ e1 := (Nat.Coprime.dvd_of_dvd_mul_left (Nat.Coprime.symm a5) ⟨M.natAbs, by rw [h2, Nat.mul_comm]⟩)
  have k2 : e1 ∣ d1 := (Nat.Coprime.dvd_of_dvd_mul_left (Nat.Coprime.symm b5) ⟨N.natAbs, by rw [← h2, Nat.mul_comm]⟩)
  have hde : d1 = e1 := Nat.dvd_antisymm k1 k2
  subst hde
  have : N = M := Int.eq_of_mul_eq_mul_right (by omega) h1
  rw [this]
def prW (a b : Bd) : Int := a.A * b.B - a.B * b.A
def prU (to : Pn) (b : Bd) : Int := to.x * b.B - to.y * b.A
def prV (to : Pn) (a : Bd) : Int := a.A * to.y - a.B * to.x
def sgw (a b : Bd) (n : Int) : Int := if prW a b < 0 then -n else n
def rrB (to : Pn) (a b : Bd) : Bool := decide (¬ (sgw a b (prW a b) = 0 ∨ sgw a b (prU to b) < 0 ∨ sgw a b (prV to a) < 0))
def rrV (to : Pn) (a b : Bd) : Rt := red (sgw a b (prU to b) * a.C + sgw a b (prV to a) * b.C) (sgw a b (prW a b))
def rrStep (to : Pn) (a b : Bd) (best : Rt) : Rt := if rrB to a b = true then (if best.D = 0 ∨ (rrV to a b).N * best.D < best.N * (rrV to a b).D then rrV to a b else best) else best
def rrIn (to : Pn) (a : Bd) : List Bd → Rt → Rt
  | [], best => best
  | b :: r, best => rrIn to a r (rrStep to a b best)
def rrGo (to : Pn) (l : List Bd) : List Bd → Rt → Rt
  | [], best => best
  | a :: r, best => rrGo to l r (rrIn to a l best)
theorem rrB_pair {to : Pn} {a b : Bd} (h : rrB to a b = true) : Pair to a b (sgw a b (prW a b)) (sgw a b (prU to b)) (sgw a b (prV to a)) := by
  unfold rrB at h
  rw [decide_eq_true_eq] at h
  have h0 : prW a b ≠ 0 := fun h2 => h (.inl (by unfold sgw; split <;> omega))
  refine ⟨?_, by omega, by omega, ?_, ?_⟩
  · unfold sgw; split <;> omega
  · unfold sgw prW prU prV
    split <;> grind
  · unfold sgw prW prU prV
    split <;> grind
theorem pair_rrB {to : Pn} {a b : Bd} {w u v : Int} (h : Pair to a b w u v) (e : w = a.A * b.B - a.B * b.A ∧ u = to.x * b.B - to.y * b.A ∧ v = a.A * to.y - a.B * to.x ∨ w = -(a.A * b.B - a.B * b.A) ∧ u = -(to.x * b.B - to.y * b.A) ∧ v = -(a.A * to.y - a.B * to.x)) :
    rrB to a b = true ∧ sgw a b (prW a b) = w ∧ sgw a b (prU to b) = u ∧ sgw a b (prV to a) = v := by
  have hw := h.pw
  have hu := h.pu
  have hv := h.pv
  have key : sgw a b (prW a b) = w ∧ sgw a b (prU to b) = u ∧ sgw a b (prV to a) = v := by
    unfold sgw
    rcases e with ⟨e1, e2, e3⟩ | ⟨e1, e2, e3⟩
    · have : ¬ prW a b < 0 := by unfold prW; omega
      rw [if_neg this, if_neg this, if_neg this]
      exact ⟨e1.symm, e2.symm, e3.symm⟩
    · have : prW a b < 0 := by unfold prW; omega
      rw [if_pos this, if_pos this, if_pos this]
      exact ⟨e1.symm, e2.symm, e3.symm⟩
  refine ⟨?_, key⟩
  unfold rrB
  rw [key.1, key.2.1, key.2.2, decide_eq_true_eq]
  omega
structure RrOk (to : Pn) (S : Bd → Bd → Prop) (r : Rt) : Prop where
  at' : (r = ⟨0, 0⟩ ∧ ∀ a b, S a b → rrB to a b = false) ∨ (0 < r.D ∧ (∃ a b, S a b ∧ rrB to a b = true ∧ r = rrV to a b) ∧ ∀ a b, S a b → rrB to a b = true → r.q ≤ (rrV to a b).q)
theorem rrV_d {to : Pn} {a b : Bd} (h : rrB to a b = true) : 0 < (rrV to a b).D := (red_ok (Int.ne_of_gt (rrB_pair h).pw)).pos
theorem rrStep_ok {to : Pn} {S : Bd → Bd → Prop} {a b : Bd} {r : Rt} (h : RrOk to S r) : RrOk to (fun x y => S x y ∨ (x = a ∧ y = b)) (rrStep to a b r) := by
  unfold rrStep
  by_cases hb : rrB to a b = true
  · rw [if_pos hb]
    have vd := rrV_d hb
    rcases h.at' with ⟨rfl, h2⟩ | ⟨h1, ⟨a', b', h2, h3, h4⟩, h5⟩
    · rw [if_pos (.inl rfl)]
      refine ⟨.inr ⟨vd, ⟨a, b, .inr ⟨rfl, rfl⟩, hb, rfl⟩, fun x y hxy hx => ?_⟩⟩
      rcases hxy with hxy | ⟨rfl, rfl⟩
      · rw [h2 x y hxy] at hx; cases hx
      · exact Rat.le_refl
    · have hlt := rt_lt vd h1
      by_cases hc : (rrV to a b).N * r.D < r.N * (rrV to a b).D
      · rw [if_pos (.inr hc)]
        have := hlt.1 hc
        refine ⟨.inr ⟨vd, ⟨a, b, .inr ⟨rfl, rfl⟩, hb, rfl⟩, fun x y hxy hx => ?_⟩⟩
        rcases hxy with hxy | ⟨rfl, rfl⟩
        · have := h5 x y hxy hx; grind
        · exact Rat.le_refl
      · rw [if_neg (by rintro (h6 | h6); omega; exact hc h6)]
        refine ⟨.inr ⟨h1, ⟨a', b', .inl h2, h3, h4⟩, fun x y hxy hx => ?_⟩⟩
        rcases hxy with hxy | ⟨rfl, rfl⟩
        · exact h5 x y hxy hx
        · exact Rat.not_lt.1 fun h6 => hc (hlt.2 h6)
  · rw [if_neg hb]
    have hb : rrB to a b = false := by simpa using hb
    rcases h.at' with ⟨h1, h2⟩ | ⟨h1, ⟨a', b', h2, h3, h4⟩, h5⟩
    · refine ⟨.inl ⟨h1, fun x y hxy => ?_⟩⟩
      rcases hxy with hxy | ⟨rfl, rfl⟩
      · exact h2 x y hxy
      · exact hb
    · refine ⟨.inr ⟨h1, ⟨a', b', .inl h2, h3, h4⟩, fun x y hxy hx => ?_⟩⟩
      rcases hxy with hxy | ⟨rfl, rfl⟩
      · exact h5 x y hxy hx
      · rw [hb] at hx; cases hx
theorem RrOk.eq {to : Pn} {S S' : Bd → Bd → Prop} {r : Rt} (h : RrOk to S r) (e : ∀ x y, S x y ↔ S' x y) : RrOk to S' r := by
  have : S = S' := by funext x y; exact propext (e x y)
  rw [← this]; exact h
theorem rrIn_ok {to : Pn} {a : Bd} : ∀ {m : List Bd} {S : Bd → Bd → Prop} {r : Rt}, RrOk to S r → RrOk to (fun x y => S x y ∨ (x = a ∧ y ∈ m)) (rrIn to a m r)
  | [], S, r, h => h.eq fun x y => by simp
  | b :: m, S, r, h => by
    rw [rrIn]
    refine (rrIn_ok (m := m) (rrStep_ok (a := a) (b := b) h)).eq fun x y => ?_
    constructor
    · rintro ((h1 | ⟨h1, h2⟩) | ⟨h1, h2⟩)
      · exact .inl h1
      · exact .inr ⟨h1, by rw [h2]; simp⟩
      · exact .inr ⟨h1, List.mem_cons_of_mem _ h2⟩
    · rintro (h1 | ⟨h1, h2⟩)
      · exact .inl (.inl h1)
      · rcases List.mem_cons.1 h2 with h2 | h2
        · exact .inl (.inr ⟨h1, h2⟩)
        · exact .inr ⟨h1, h2⟩
theorem rrGo_ok {to : Pn} {l : List Bd} : ∀ {m : List Bd} {S : Bd → Bd → Prop} {r : Rt}, RrOk to S r → RrOk to (fun x y => S x y ∨ (x ∈ m ∧ y ∈ l)) (rrGo to l m r)
  | [], S, r, h => h.eq fun x y => by simp
  | a :: m, S, r, h => by
    rw [rrGo]
    refine (rrGo_ok (l := l) (m := m) (rrIn_ok (a := a) (m := l) h)).eq fun x y => ?_
    constructor
    · rintro ((h1 | ⟨h1, h2⟩) | ⟨h1, h2⟩)
      · exact .inl h1
      · exact .inr ⟨by rw [h1]; simp, h2⟩
      · exact .inr ⟨List.mem_cons_of_mem _ h1, h2⟩
    · rintro (h1 | ⟨h1, h2⟩)
      · exact .inl (.inl h1)
      · rcases List.mem_cons.1 h1 with h1 | h1
        · exact .inl (.inr ⟨h1, h2⟩)
        · exact .inr ⟨h1, h2⟩
theorem rrV_q {to : Pn} {a b : Bd} (h : rrB to a b = true) : (rrV to a b).q = ((sgw a b (prU to b) * a.C + sgw a b (prV to a) * b.C : Int) : Rat) / (sgw a b (prW a b) : Int) := red_q (Int.ne_of_gt (rrB_pair h).pw)
theorem rr_eq {bs : List Bd} {to : Pn} (hsq : ∀ b ∈ bsq, b ∈ bs) (hr : ∀ b ∈ bs, BdSz b) (ht : ¬ (to.x = 0 ∧ to.y = 0)) (hne : regS bs ≠ []) : rrGo to bs bs ⟨0, 0⟩ = rcS to ⟨0, 0⟩ (regS bs) := by
  obtain ⟨R, hR⟩ := reach_ok (to := to) hsq hr hne
  obtain ⟨s, hs, es⟩ := R.at'
  have ok := (regS_sz hr hs).ok
  obtain ⟨fq, fd⟩ := farR_q (to := to) ok
  obtain ⟨hf, _⟩ := reg_corner hsq hr hs
  have hbest : ∀ q, Feas bs q → (dirAf to).ev q ≤ (dirAf to).ev s.pt := fun q hq => by
    have := hR q hq
    rw [es, fq] at this
    exact this
  obtain ⟨a, ha, b, hb, w, u, v, hp, he, hv⟩ := pair_ex hsq ht hf hbest
  obtain ⟨k1, k2, k3, k4⟩ := pair_rrB hp he
  have hq : (rrV to a b).q = (dirAf to).ev s.pt := by
    rw [rrV_q k1, k2, k3, k4, ← hv]
    exact Rat.mul_div_cancel (ne_cast (Int.ne_of_gt hp.pw))
  have hweak : ∀ a ∈ bs, ∀ b ∈ bs, rrB to a b = true → (dirAf to).ev s.pt ≤ (rrV to a b).q := fun a ha b hb h => by
    have hP := rrB_pair h
    have h1 := hP.weak ha hb hf
    rw [rrV_q h]
    have hd := Rat.div_mul_cancel (a := ((sgw a b (prU to b) * a.C + sgw a b (prV to a) * b.C : Int) : Rat)) (ne_cast (Int.ne_of_gt hP.pw))
    have pw := cast_pos.2 hP.pw
    rw [← hd] at h1
    exact Rat.le_of_mul_le_mul_right h1 pw
  have hO := rrGo_ok (to := to) (l := bs) (m := bs) (S := fun _ _ => False) (r := ⟨0, 0⟩) ⟨.inl ⟨rfl, fun _ _ h => h.elim⟩⟩
  rw [es]
  rcases hO.at' with ⟨_, h2⟩ | ⟨h1, ⟨a', b', h2, h3, h4⟩, h5⟩
  · have := h2 a b (.inr ⟨ha, hb⟩)
    rw [k1] at this; cases this
  · rcases h2 with h2 | ⟨ha', hb'⟩
    · exact h2.elim
    · rw [h4]
      have e1 := h5 a b (.inr ⟨ha, hb⟩) k1
      rw [h4] at e1
      have e2 := hweak a' ha' b' hb' h3
      refine red_uniq (Int.ne_of_gt (rrB_pair h3).pw) (Int.ne_of_gt (Int.mul_pos ok.x ok.y)) ?_
      show (rrV to a' b').q = (farR to s).q
      rw [fq]
      rw [hq] at e1
      exact Rat.le_antisymm e1 e2
end Clip

namespace Clip
def cr2 (a b : Bd) : Int := a.A * b.B - a.B * b.A
def w3 (a b c : Bd) : Int × Int × Int := (cr2 b c, cr2 c a, cr2 a b)
def w3n (a b c : Bd) : Int × Int × Int := if cr2 b c < 0 ∨ cr2 c a < 0 ∨ cr2 a b < 0 then (-cr2 b c, -cr2 c a, -cr2 a b) else (cr2 b c, cr2 c a, cr2 a b)
def refB (a b c : Bd) : Bool := decide (¬ ((w3n a b c).1 < 0 ∨ (w3n a b c).2.1 < 0 ∨ (w3n a b c).2.2 < 0 ∨ 0 ≤ (w3n a b c).1 * a.C + (w3n a b c).2.1 * b.C + (w3n a b c).2.2 * c.C))
def Ref (a b c : Bd) : Prop := (0 ≤ cr2 b c ∧ 0 ≤ cr2 c a ∧ 0 ≤ cr2 a b ∧ cr2 b c * a.C + cr2 c a * b.C + cr2 a b * c.C < 0) ∨ (cr2 b c ≤ 0 ∧ cr2 c a ≤ 0 ∧ cr2 a b ≤ 0 ∧ 0 < cr2 b c * a.C + cr2 c a * b.C + cr2 a b * c.C)
theorem ref_iff {a b c : Bd} : refB a b c = true ↔ Ref a b c := by
  unfold refB w3n Ref
  rw [decide_eq_true_eq]
  generalize cr2 b c = x
  generalize cr2 c a = y
  generalize cr2 a b = z
  by_cases h : x < 0 ∨ y < 0 ∨ z < 0
  · rw [if_pos h]
    simp only
    have e : -x * a.C + -y * b.C + -z * c.C = -(x * a.C + y * b.C + z * c.C) := by grind
    rw [e]
    constructor
    · intro h2; exact .inr (by omega)
    · rintro (h2 | h2) <;> omega
  · rw [if_neg h]
    simp only
    constructor
    · intro h2; exact .inl (by omega)
    · rintro (h2 | ⟨h2, h3, h4, h5⟩)
      · omega
      · have e1 : x = 0 := by omega
        have e2 : y = 0 := by omega
        have e3 : z = 0 := by omega
        rw [e1, e2, e3] at h5
        simp at h5
theorem cr2_swap (a b : Bd) : cr2 b a = -cr2 a b := by unfold cr2; grind
theorem Ref.swap {a b c : Bd} (h : Ref a b c) : Ref b a c := by
  unfold Ref at h ⊢
  rw [cr2_swap c a, cr2_swap b c, cr2_swap a b]
  have e : -cr2 c a * b.C + -cr2 b c * a.C + -cr2 a b * c.C = -(cr2 b c * a.C + cr2 c a * b.C + cr2 a b * c.C) := by grind
  rw [e]
  omega
theorem Ref.turn {a b c : Bd} (h : Ref a b c) : Ref b c a := by
  unfold Ref at h ⊢
  omega
theorem Ref.not {bs : List Bd} {a b c : Bd} (h : Ref a b c) (ha : a ∈ bs) (hb : b ∈ bs) (hc : c ∈ bs) {q : Pt} (hq : Feas bs q) : False := by
  have h1 := hq a ha
  have h2 := hq b hb
  have h3 := hq c hc
  have key : ∀ x y z : Int, 0 ≤ x → 0 ≤ y → 0 ≤ z → x * a.A + y * b.A + z * c.A = 0 → x * a.B + y * b.B + z * c.B = 0 → x * a.C + y * b.C + z * c.C < 0 → False := by
    intro x y z hx hy hz e1 e2 e3
    have up : ∀ n : Int, 0 ≤ n → (0 : Rat) ≤ (n : Rat) := fun n hn => by have := Rat.intCast_le_intCast (a := 0) (b := n); rw [Rat.intCast_zero] at this; exact this.2 hn
    have f1 := congrArg (fun z : Int => (z : Rat)) e1
    have f2 := congrArg (fun z : Int => (z : Rat)) e2
    have f3 := cast_neg.2 e3
    simp only [Rat.intCast_add, Rat.intCast_mul, Rat.intCast_zero] at f1 f2 f3
    have m1 := Rat.mul_nonneg (up x hx) (show 0 ≤ -a.af.ev q by grind)
    have m2 := Rat.mul_nonneg (up y hy) (show 0 ≤ -b.af.ev q by grind)
    have m3 := Rat.mul_nonneg (up z hz) (show 0 ≤ -c.af.ev q by grind)
    unfold Bd.af Af.ev at m1 m2 m3
    simp only at m1 m2 m3
    have k1 : ((x : Rat) * a.A + y * b.A + z * c.A) * q.x = 0 := by rw [f1]; exact Rat.zero_mul _
    have k2 : ((x : Rat) * a.B + y * b.B + z * c.B) * q.y = 0 := by rw [f2]; exact Rat.zero_mul _
    generalize (x : Rat) = X at *
    generalize (y : Rat) = Y at *
    generalize (z : Rat) = Z at *
    grind
  have i1 : cr2 b c * a.A + cr2 c a * b.A + cr2 a b * c.A = 0 := by unfold cr2; grind
  have i2 : cr2 b c * a.B + cr2 c a * b.B + cr2 a b * c.B = 0 := by unfold cr2; grind
  rcases h with ⟨g1, g2, g3, g4⟩ | ⟨g1, g2, g3, g4⟩
  · exact key _ _ _ g1 g2 g3 i1 i2 g4
  · refine key (-cr2 b c) (-cr2 c a) (-cr2 a b) (by omega) (by omega) (by omega) (by grind) (by grind) ?_
    have e : -cr2 b c * a.C + -cr2 c a * b.C + -cr2 a b * c.C = -(cr2 b c * a.C + cr2 c a * b.C + cr2 a b * c.C) := by grind
    rw [e]; omega
theorem ref_last {l : List Bd} {b : Bd} (hsq : ∀ k ∈ bsq, k ∈ l) (hr : ∀ k ∈ l, BdSz k) (hb : BdSz b) {q : Pt} (hq : Feas l q) (hn : ∀ p, Feas l p → 0 < b.af.ev p) : ∃ x ∈ l, ∃ y ∈ l, Ref b x y ∧ b ≠ x ∧ b ≠ y ∧ x ≠ y := by
  have hne := regS_ne_of hsq hr hq
  have hto : ¬ (-b.A = 0 ∧ -b.B = 0) := fun h => by have := hb.nz; omega
  obtain ⟨R, hR⟩ := reach_ok (to := ⟨-b.A, -b.B⟩) hsq hr hne
  obtain ⟨s, hs, es⟩ := R.at'
  have ok := (regS_sz hr hs).ok
  obtain ⟨fq, fd⟩ := farR_q (to := ⟨-b.A, -b.B⟩) ok
  obtain ⟨hf, _⟩ := reg_corner hsq hr hs
  have hbest : ∀ q, Feas l q → (dirAf ⟨-b.A, -b.B⟩).ev q ≤ (dirAf ⟨-b.A, -b.B⟩).ev s.pt := fun q hq => by
    have := hR q hq
    rw [es, fq] at this
    exact this
  obtain ⟨x, hx, y, hy, w, u, v, hp, he, hv⟩ := pair_ex hsq hto hf hbest
  have pos := hn s.pt hf
  have nb : b ∉ l := fun h => by have := hf b h; grind
  refine ⟨x, hx, y, hy, ?_, fun h => nb (h ▸ hx), fun h => nb (h ▸ hy), fun h => ?_⟩
  · have hw := hp.pw
    have hu := hp.pu
    have hv' := hp.pv
    have hsum : w * b.C + u * x.C + v * y.C < 0 := by
      rw [← cast_neg]
      have e : ((w * b.C + u * x.C + v * y.C : Int) : Rat) = w * b.C + ((u * x.C + v * y.C : Int) : Rat) := by
        rw [Int.add_assoc, Rat.intCast_add, Rat.intCast_mul]
      rw [e, ← hv]
      have hwq := cast_pos.2 hw
      have m := Rat.mul_pos hwq pos
      have cn : ∀ n : Int, ((-n : Int) : Rat) = -(n : Rat) := fun n => Rat.intCast_neg n
      unfold dirAf Af.ev
      unfold Bd.af Af.ev at m
      simp only [cn] at m ⊢
      grind
    have e1 : cr2 x y = x.A * y.B - x.B * y.A := rfl
    have e2 : cr2 y b = -b.A * y.B - -b.B * y.A := by unfold cr2; grind
    have e3 : cr2 b x = x.A * -b.B - x.B * -b.A := by unfold cr2; grind
    unfold Ref
    rcases he with ⟨g1, g2, g3⟩ | ⟨g1, g2, g3⟩
    · rw [← e1] at g1
      rw [← e2] at g2
      rw [← e3] at g3
      left
      rw [← g1, ← g2, ← g3]
      exact ⟨by omega, hu, hv', hsum⟩
    · rw [← e1] at g1
      rw [← e2] at g2
      rw [← e3] at g3
      right
      refine ⟨by omega, by omega, by omega, ?_⟩
      have : w * b.C + u * x.C + v * y.C = -(cr2 x y * b.C + cr2 y b * x.C + cr2 b x * y.C) := by rw [g1, g2, g3]; grind
      omega
  · subst h
    have := hp.pw
    rcases he with ⟨g1, _, _⟩ | ⟨g1, _, _⟩ <;> grind
theorem ref_ex {bs : List Bd} (hsq : ∀ b ∈ bsq, b ∈ bs) (hr : ∀ b ∈ bs, BdSz b) (hno : ¬ ∃ q, Feas bs q) : ∃ a ∈ bs, ∃ b ∈ bs, ∃ c ∈ bs, Ref a b c ∧ a ≠ b ∧ a ≠ c ∧ b ≠ c := by
  have go : ∀ (r l : List Bd), (∀ k ∈ bsq, k ∈ l) → (∀ k ∈ l, k ∈ bs) → (∀ k ∈ r, k ∈ bs) → (∃ q, Feas l q) → (¬ ∃ q, Feas (l ++ r) q) → ∃ a ∈ bs, ∃ b ∈ bs, ∃ c ∈ bs, Ref a b c ∧ a ≠ b ∧ a ≠ c ∧ b ≠ c := by
    intro r
    induction r with
    | nil => intro l _ _ _ h1 h2; rw [List.append_nil] at h2; exact absurd h1 h2
    | cons b r ih =>
      intro l h1 h2 h3 h4 h5
      have hb := h3 b (by simp)
      by_cases hf : ∃ q, Feas (l ++ [b]) q
      · exact ih (l ++ [b]) (fun k hk => List.mem_append_left _ (h1 k hk)) (fun k hk => by
          rcases List.mem_append.1 hk with hk | hk
          · exact h2 k hk
          · rw [List.mem_singleton] at hk; rw [hk]; exact hb) (fun k hk => h3 k (List.mem_cons_of_mem _ hk)) hf (by rw [List.append_assoc]; exact h5)
      · obtain ⟨q, hq⟩ := h4
        obtain ⟨x, hx, y, hy, hR, n1, n2, n3⟩ := ref_last h1 (fun k hk => hr k (h2 k hk)) (hr b hb) hq (fun p hp => Rat.not_le.1 fun h6 => hf ⟨p, fun k hk => by
          rcases List.mem_append.1 hk with hk | hk
          · exact hp k hk
          · rw [List.mem_singleton] at hk; rw [hk]; exact h6⟩)
        exact ⟨b, hb, x, h2 x hx, y, h2 y hy, hR, n1, n2, n3⟩
  refine go bs bsq (fun _ h => h) hsq (fun _ h => h) ⟨⟨0, 0⟩, fun b hb => ?_⟩ fun ⟨q, hq⟩ => hno ⟨q, fun b hb => hq b (List.mem_append_right _ hb)⟩
  unfold bsq at hb
  simp only [List.mem_cons, List.not_mem_nil, or_false] at hb
  rcases hb with rfl | rfl | rfl | rfl <;> (unfold Bd.af Af.ev; decide +kernel)
theorem ref_idx {bs : List Bd} (hsq : ∀ b ∈ bsq, b ∈ bs) (hr : ∀ b ∈ bs, BdSz b) (hno : ¬ ∃ q, Feas bs q) : ∃ (i k m : Nat) (a b c : Bd), i < k ∧ k < m ∧ bs[i]? = some a ∧ bs[k]? = some b ∧ bs[m]? = some c ∧ Ref a b c := by
  obtain ⟨a, ha, b, hb, c, hc, hR, n1, n2, n3⟩ := ref_ex hsq hr hno
  obtain ⟨i, hi, rfl⟩ := List.getElem_of_mem ha
  obtain ⟨j, hj, rfl⟩ := List.getElem_of_mem hb
  obtain ⟨k, hk, rfl⟩ := List.getElem_of_mem hc
  have d1 : i ≠ j := fun h => n1 (by subst h; rfl)
  have d2 : i ≠ k := fun h => n2 (by subst h; rfl)
  have d3 : j ≠ k := fun h => n3 (by subst h; rfl)
  have gi := List.getElem?_eq_getElem hi
  have gj := List.getElem?_eq_getElem hj
  have gk := List.getElem?_eq_getElem hk
  generalize bs[i] = a at *
  generalize bs[j] = b at *
  generalize bs[k] = c at *
  rcases Nat.lt_or_gt_of_ne d1 with h1 | h1 <;> rcases Nat.lt_or_gt_of_ne d2 with h2 | h2 <;> rcases Nat.lt_or_gt_of_ne d3 with h3 | h3
  · exact ⟨i, j, k, a, b, c, h1, h3, gi, gj, gk, hR⟩
  · exact ⟨i, k, j, a, c, b, h2, h3, gi, gk, gj, hR.turn.swap.turn.turn⟩
  · omega
  · exact ⟨k, i, j, c, a, b, h2, h1, gk, gi, gj, hR.turn.turn⟩
  · exact ⟨j, i, k, b, a, c, h1, h2, gj, gi, gk, hR.swap⟩
  · omega
  · exact ⟨j, k, i, b, c, a, h3, h2, gj, gk, gi, hR.turn⟩
  · exact ⟨k, j, i, c, b, a, h3, h1, gk, gj, gi, hR.turn.swap⟩
theorem reg_none {bs : List Bd} (hsq : ∀ b ∈ bsq, b ∈ bs) (hr : ∀ b ∈ bs, BdSz b) : regS bs = [] ↔ ¬ ∃ q, Feas bs q := by
  constructor
  · rintro h ⟨q, hq⟩; exact regS_ne_of hsq hr hq h
  · intro h
    refine Classical.byContradiction fun h2 => ?_
    obtain ⟨s, hs⟩ := List.exists_mem_of_ne_nil _ h2
    exact h ⟨s.pt, (reg_corner hsq hr hs).1⟩
end Clip

namespace Clip
def Goes (k : Af) (p q : Pt) : Prop := ∃ t : Rat, 0 ≤ t ∧ q.x = p.x - t * k.b ∧ q.y = p.y + t * k.a
theorem norm_pos {k : Af} (h : Real k) : 0 < k.a * k.a + k.b * k.b := by
  have sq : ∀ x : Rat, 0 ≤ x * x := fun x => by
    rcases Rat.le_total (a := 0) (b := x) with h | h
    · exact Rat.mul_nonneg h h
    · have := Rat.mul_nonneg (show 0 ≤ -x by grind) (show 0 ≤ -x by grind)
      grind
  have sp : ∀ x : Rat, x ≠ 0 → 0 < x * x := fun x hx => by
    have := sq x
    have h2 : x * x ≠ 0 := fun h => by rcases Rat.mul_eq_zero.1 h with h | h <;> exact hx h
    grind
  rcases h.ne with h | h
  · have := sp _ h; have := sq k.b; grind
  · have := sp _ h; have := sq k.a; grind
theorem on_line {k : Af} (h : Real k) {p q : Pt} (hp : k.ev p = 0) (hq : k.ev q = 0) : ∃ t : Rat, q.x = p.x - t * k.b ∧ q.y = p.y + t * k.a := by
  have n := norm_pos h
  have hd := Rat.div_mul_cancel (a := -(q.x - p.x) * k.b + (q.y - p.y) * k.a) (show k.a * k.a + k.b * k.b ≠ 0 by grind)
  generalize (-(q.x - p.x) * k.b + (q.y - p.y) * k.a) / (k.a * k.a + k.b * k.b) = t at hd
  unfold Af.ev at hp hq
  have e : k.a * (q.x - p.x) + k.b * (q.y - p.y) = 0 := by grind
  refine ⟨t, ?_, ?_⟩
  · have : (q.x - (p.x - t * k.b)) * (k.a * k.a + k.b * k.b) = 0 := by grind
    rcases Rat.mul_eq_zero.1 this with h1 | h1
    · grind
    · grind
  · have : (q.y - (p.y + t * k.a)) * (k.a * k.a + k.b * k.b) = 0 := by grind
    rcases Rat.mul_eq_zero.1 this with h1 | h1
    · grind
    · grind
theorem sgn_pos {x y : Rat} (h : 0 < x * y) (hx : 0 ≤ x) : 0 < y := by
  refine Rat.not_le.1 fun h2 => ?_
  have := Rat.mul_nonneg hx (show 0 ≤ -y by grind)
  grind
theorem sgn_nn {x y : Rat} (h : 0 ≤ x * y) (hy : 0 < y) : 0 ≤ x := by
  refine Rat.not_lt.1 fun h2 => ?_
  have := Rat.mul_pos (show 0 < -x by grind) hy
  grind
theorem Goes.ev {k : Af} {p q : Pt} {t : Rat} (b : Af) (e1 : q.x = p.x - t * k.b) (e2 : q.y = p.y + t * k.a) : b.ev q = b.ev p + t * (b.b * k.a - b.a * k.b) := by
  unfold Af.ev; rw [e1, e2]; grind
theorem Goes.first {k b : Af} {p q m : Pt} (hk : Real k) (h : Goes k p q) (hp : k.ev p = 0) (h1 : b.ev p < 0) (h2 : 0 < b.ev q) (m1 : b.ev m = 0) (m2 : k.ev m = 0) : Goes k p m := by
  obtain ⟨t, ht, e1, e2⟩ := h
  obtain ⟨s, f1, f2⟩ := on_line hk hp m2
  have g1 := Goes.ev b e1 e2
  have g2 := Goes.ev b f1 f2
  refine ⟨s, ?_, f1, f2⟩
  have hb := sgn_pos (x := t) (y := b.b * k.a - b.a * k.b) (by grind) ht
  exact sgn_nn (y := b.b * k.a - b.a * k.b) (by grind) hb
theorem Goes.last {k b : Af} {p q m : Pt} (hk : Real k) (h : Goes k p q) (hp : k.ev p = 0) (h1 : 0 < b.ev p) (h2 : b.ev q < 0) (m1 : b.ev m = 0) (m2 : k.ev m = 0) : Goes k m q := by
  obtain ⟨t, ht, e1, e2⟩ := h
  obtain ⟨s, f1, f2⟩ := on_line hk hp m2
  have g1 := Goes.ev b e1 e2
  have g2 := Goes.ev b f1 f2
  refine ⟨t - s, ?_, by grind, by grind⟩
  have hb := sgn_pos (x := t) (y := -(b.b * k.a - b.a * k.b)) (by grind) ht
  exact sgn_nn (y := -(b.b * k.a - b.a * k.b)) (by grind) hb
theorem Goes.over {k b : Af} {p q m n : Pt} (hb : Real b) (h : Goes k p q) (h1 : b.ev p ≤ 0) (h2 : 0 < b.ev q) (m1 : b.ev m = 0) (m2 : k.ev m = 0) (n1 : b.ev n = 0) (n2 : k.ev n ≤ 0) : Goes b m n := by
  obtain ⟨t, ht, e1, e2⟩ := h
  obtain ⟨s, f1, f2⟩ := on_line hb m1 n1
  have g1 := Goes.ev b e1 e2
  have g2 := Goes.ev k f1 f2
  refine ⟨s, ?_, f1, f2⟩
  have hc := sgn_pos (x := t) (y := b.b * k.a - b.a * k.b) (by grind) ht
  exact sgn_nn (y := b.b * k.a - b.a * k.b) (by grind) hc
def Ori (c d : Cr) : Prop := Goes c.al c.p d.p
theorem adj_consO {g c : Cr} {l : List Cr} (h : Goes c.al c.p (nx g.p l)) (k : Adj Ori g l) : Adj Ori g (c :: l) := by
  cases l with
  | nil => exact h
  | cons d l => exact ⟨h, k⟩
theorem nx_mem {g : Cr} {l : List Cr} {Q : Pt → Prop} (hg : Q g.p) (hl : ∀ x ∈ l, Q x.p) : Q (nx g.p l) := by
  cases l with
  | nil => exact hg
  | cons c l => exact hl c (by simp)
theorem cut_ori {b : Af} {f g : Cr} (hb : Real b) (h1 : b.ev f.p ≤ 0 → g.p = f.p) (h2 : 0 < b.ev f.p → b.ev g.p = 0) : ∀ {c : Cr} {l : List Cr}, Adj OnL f (c :: l) → Adj Ori f (c :: l) → (∀ x ∈ c :: l, Real x.al) →
    (∀ x ∈ c :: l, x.al.ev g.p ≤ 0 ∧ ∀ y ∈ cutGo b (fun k => meetP k b) f (c :: l), x.al.ev y.p ≤ 0) → Adj Ori g (cutGo b (fun k => meetP k b) f (c :: l))
  | c, [], h, ho, hr, hk => by
    have hK := (hk c (by simp)).1
    clear hk
    show Adj Ori g (step b _ c f)
    have h : OnL c f := h
    have ho : Goes c.al c.p f.p := ho
    have rc := hr c (by simp)
    unfold step
    by_cases hc : b.ev c.p ≤ 0
    · by_cases hf : b.ev f.p ≤ 0
      · rw [if_pos ⟨hc, hf⟩]
        show Goes c.al c.p g.p
        rw [h1 hf]; exact ho
      · rw [if_neg (by grind)]
        have hf' : 0 < b.ev f.p := by grind
        by_cases h0 : b.ev c.p = 0
        · rw [if_pos h0]
          show Goes b c.p g.p
          exact ho.over hb hc hf' h0 h.1 (h2 hf') hK
        · rw [if_neg h0, if_pos (by grind)]
          obtain ⟨e1, e2, e3⟩ := meet_btw (b := b) rc h.1 h.2 (.inl ⟨by grind, by grind⟩)
          exact ⟨ho.first rc h.1 (by grind) hf' e2 (meetP_on e1).1, ho.over hb hc hf' e2 (meetP_on e1).1 (h2 hf') hK⟩
    · rw [if_neg (by grind), if_neg (by grind), if_neg (by grind)]
      by_cases hf : b.ev f.p < 0
      · rw [if_pos hf]
        obtain ⟨e1, e2, e3⟩ := meet_btw (b := b) rc h.1 h.2 (.inr ⟨by grind, hf⟩)
        show Goes c.al (meetP c.al b) g.p
        rw [h1 (by grind)]
        exact ho.last rc h.1 (by grind) hf e2 (meetP_on e1).1
      · rw [if_neg hf]; trivial
  | c, d :: l, h, ho, hr, hk => by
    have ih := cut_ori hb h1 h2 (c := d) (l := l) h.2 ho.2 (fun c hc => hr c (List.mem_cons_of_mem _ hc)) (fun x hx => ⟨(hk x (List.mem_cons_of_mem _ hx)).1, fun y hy => (hk x (List.mem_cons_of_mem _ hx)).2 y (by rw [cutGo]; exact List.mem_append_right _ hy)⟩)
    obtain ⟨n1, n2⟩ := nx_go (s := g.p) h1 h2 (c := d) (l := l) h.2 (fun c hc => hr c (List.mem_cons_of_mem _ hc))
    have hcd : OnL c d := h.1
    have hod : Goes c.al c.p d.p := ho.1
    have rc := hr c (by simp)
    have hK : c.al.ev (nx g.p (cutGo b (fun k => meetP k b) f (d :: l))) ≤ 0 := nx_mem (Q := fun p => c.al.ev p ≤ 0) (hk c (by simp)).1 fun y hy => (hk c (by simp)).2 y (by rw [cutGo]; exact List.mem_append_right _ hy)
    clear hk
    rw [cutGo]
    generalize cutGo b (fun k => meetP k b) f (d :: l) = N at *
    unfold step
    by_cases hc : b.ev c.p ≤ 0
    · by_cases hf : b.ev d.p ≤ 0
      · rw [if_pos ⟨hc, hf⟩]
        exact adj_consO (by show Goes c.al c.p (nx g.p N); rw [n1 hf]; exact hod) ih
      · rw [if_neg (by grind)]
        have hf' : 0 < b.ev d.p := by grind
        by_cases h0 : b.ev c.p = 0
        · rw [if_pos h0]
          exact adj_consO (c := ⟨c.p, b⟩) (hod.over hb hc hf' h0 hcd.1 (n2 hf') hK) ih
        · rw [if_neg h0, if_pos (by grind)]
          obtain ⟨e1, e2, e3⟩ := meet_btw (b := b) rc hcd.1 hcd.2 (.inl ⟨by grind, by grind⟩)
          exact adj_consO (hod.first rc hcd.1 (by grind) hf' e2 (meetP_on e1).1) (adj_consO (c := ⟨meetP c.al b, b⟩) (hod.over hb hc hf' e2 (meetP_on e1).1 (n2 hf') hK) ih)
    · rw [if_neg (by grind), if_neg (by grind), if_neg (by grind)]
      by_cases hf : b.ev d.p < 0
      · rw [if_pos hf]
        obtain ⟨e1, e2, e3⟩ := meet_btw (b := b) rc hcd.1 hcd.2 (.inr ⟨by grind, hf⟩)
        exact adj_consO (c := ⟨meetP c.al b, c.al⟩) (by show Goes c.al (meetP c.al b) (nx g.p N); rw [n1 (by grind)]; exact hod.last rc hcd.1 (by grind) hf e2 (meetP_on e1).1) ih
      · rw [if_neg hf]; exact ih
theorem cut_first {b : Af} {f : Cr} {l : List Cr} (hb : Real b) (hon : Adj OnL f (f :: l)) (hr : ∀ x ∈ f :: l, Real x.al) {g : Cr} {m : List Cr} (hc : cutGo b (fun k => meetP k b) f (f :: l) = g :: m) : (b.ev f.p ≤ 0 → g.p = f.p) ∧ (0 < b.ev f.p → b.ev g.p = 0) := by
  have hfb : ∃ s : Pt, (b.ev f.p ≤ 0 → s = f.p) ∧ (0 < b.ev f.p → b.ev s = 0) := by
    by_cases h1 : b.ev f.p ≤ 0
    · exact ⟨f.p, fun _ => rfl, fun h2 => by grind⟩
    · refine ⟨⟨-b.c * b.a / (b.a * b.a + b.b * b.b), -b.c * b.b / (b.a * b.a + b.b * b.b)⟩, fun h2 => absurd h2 h1, fun _ => ?_⟩
      have n := norm_pos hb
      have d1 := Rat.div_mul_cancel (a := -b.c * b.a) (show b.a * b.a + b.b * b.b ≠ 0 by grind)
      have d2 := Rat.div_mul_cancel (a := -b.c * b.b) (show b.a * b.a + b.b * b.b ≠ 0 by grind)
      unfold Af.ev
      simp only
      generalize -b.c * b.a / (b.a * b.a + b.b * b.b) = X at *
      generalize -b.c * b.b / (b.a * b.a + b.b * b.b) = Y at *
      have : (b.a * X + b.b * Y + b.c) * (b.a * b.a + b.b * b.b) = 0 := by grind
      rcases Rat.mul_eq_zero.1 this with h3 | h3
      · exact h3
      · grind
  obtain ⟨s, s1, s2⟩ := hfb
  have := nx_go (s := s) s1 s2 hon hr
  rw [hc] at this
  exact this
theorem Poly.ori {bs : List Af} {f : Cr} {l : List Cr} (h : Poly bs f l) (ho : Adj Ori f (f :: l)) {b : Af} (hb : Real b) {g : Cr} {m : List Cr} (hc : Clip.cut b (fun k => meetP k b) (f :: l) = g :: m) : Adj Ori g (g :: m) := by
  have hgo : cutGo b (fun k => meetP k b) f (f :: l) = g :: m := hc
  have P := h.cut hb hc
  obtain ⟨g1, g2⟩ := cut_first hb h.on h.real hgo
  have := cut_ori hb g1 g2 h.on ho h.real fun x hx => ⟨P.keep g (by simp) x.al (List.mem_cons_of_mem _ (h.al x hx)), fun y hy => by
    rw [hgo] at hy
    exact P.keep y hy x.al (List.mem_cons_of_mem _ (h.al x hx))⟩
  rw [hgo] at this
  exact this
theorem sq_ori : Adj Ori ⟨⟨0, 0⟩, q0⟩ [⟨⟨0, 0⟩, q0⟩, ⟨⟨1000, 0⟩, q1⟩, ⟨⟨1000, 1000⟩, q2⟩, ⟨⟨0, 1000⟩, q3⟩] := by
  refine ⟨⟨1000, by decide, ?_⟩, ⟨1000, by decide, ?_⟩, ⟨1000, by decide, ?_⟩, ⟨1000, by decide, ?_⟩⟩ <;> (simp only [q0, q1, q2, q3]; decide +kernel)
theorem cuts_ori : ∀ (bs ks : List Af) (f : Cr) (l : List Cr), Poly ks f l → Adj Ori f (f :: l) → (∀ b ∈ bs, Real b) → ∀ g m, cuts bs (f :: l) = g :: m → Adj Ori g (g :: m)
  | [], _, f, l, _, ho, _, g, m, e => by
    have e : f :: l = g :: m := e
    injection e with e1 e2
    subst e1 e2
    exact ho
  | b :: bs, ks, f, l, h, ho, hr, g, m, e => by
    rw [cuts] at e
    cases hc : Clip.cut b (fun k => meetP k b) (f :: l) with
    | nil => rw [hc, cuts_nil] at e; cases e
    | cons g' m' =>
      rw [hc] at e
      exact cuts_ori bs (b :: ks) g' m' (h.cut (hr b (by simp)) hc) (h.ori ho (hr b (by simp)) hc) (fun x hx => hr x (List.mem_cons_of_mem _ hx)) g m e
theorem regI_ori {bs : List Bd} (hr : ∀ b ∈ bs, BdSz b) {g : Cr} {m : List Cr} (e : (regI bs).map Co.cr = g :: m) : Adj Ori g (g :: m) := by
  have hR : ∀ b ∈ bs.map Bd.af, Real b := fun b hb => by
    obtain ⟨k, hk, rfl⟩ := List.mem_map.1 hb
    exact (hr k hk).real
  have e1 := (regI_ok bs fun b hb => (hr b hb).real).1
  rw [e1] at e
  exact cuts_ori _ _ _ _ sq_poly sq_ori hR g m e
end Clip

namespace Clip
theorem alike_pt {p q : Pl} (hp : 0 < p.d) (hq : 0 < q.d) : alike p q = true ↔ p.pt = q.pt := by
  unfold alike
  rw [decide_eq_true_eq]
  have key : ∀ a b : Int, (a * q.d = b * p.d ↔ (a : Rat) / p.d = (b : Rat) / q.d) := fun a b => by
    have n1 := ne_cast (show p.d ≠ 0 by omega)
    have n2 := ne_cast (show q.d ≠ 0 by omega)
    have h1 := Rat.div_mul_cancel (a := (a : Rat)) n1
    have h2 := Rat.div_mul_cancel (a := (b : Rat)) n2
    have e : (a * q.d = b * p.d) ↔ ((a : Rat) * q.d = b * p.d) := by
      rw [← Rat.intCast_mul, ← Rat.intCast_mul]
      exact ⟨fun h => by rw [h], fun h => Rat.intCast_inj.1 h⟩
    rw [e]
    generalize (a : Rat) / p.d = X at *
    generalize (b : Rat) / q.d = Y at *
    constructor
    · intro h
      have : (X - Y) * (p.d * q.d) = 0 := by grind
      rcases Rat.mul_eq_zero.1 this with h3 | h3
      · grind
      · rcases Rat.mul_eq_zero.1 h3 with h4 | h4
        · exact absurd h4 n1
        · exact absurd h4 n2
    · intro h; rw [← h1, ← h2, h]; grind
  rw [key, key]
  unfold Pl.pt
  simp only [Pt.mk.injEq]
theorem pStep_mem {l : List Bd} {a b : Bd} {out : List Pl} {p : Pl} (h : p ∈ out) : p ∈ pStep l a b out := by
  unfold pStep; split
  · exact List.mem_append_left _ h
  · exact h
theorem ptsIn_mem {l : List Bd} {a : Bd} : ∀ {r : List Bd} {out : List Pl} {p : Pl}, p ∈ out → p ∈ ptsIn l a r out
  | [], _, _, h => h
  | _ :: r, _, _, h => by rw [ptsIn]; exact ptsIn_mem (r := r) (pStep_mem h)
theorem ptsGo_mem {l : List Bd} : ∀ {r dn : List Bd} {out : List Pl} {p : Pl}, p ∈ out → p ∈ ptsGo l dn r out
  | [], _, _, _, h => h
  | _ :: r, _, _, _, h => by rw [ptsGo]; exact ptsGo_mem (r := r) (ptsIn_mem h)
def Has (a b : Bd) (out : List Pl) : Prop := ∃ q ∈ out, q = posD (meetI a b) ∨ alike q (posD (meetI a b)) = true
theorem pStep_has {l : List Bd} {a b : Bd} {out : List Pl} (h : Hit l a b) : Has a b (pStep l a b out) := by
  unfold pStep
  by_cases hk : keptB l out (posD (meetI a b)) = true
  · rw [if_pos hk]
    exact ⟨_, List.mem_append_right _ (List.mem_singleton.2 rfl), .inl rfl⟩
  · rw [if_neg hk]
    unfold keptB at hk
    have h1 : (decide ((posD (meetI a b)).d ≠ 0) && l.all fun m => decide (m.val (posD (meetI a b)) ≤ 0)) = true := by
      rw [Bool.and_eq_true, decide_eq_true_eq, List.all_eq_true]
      exact ⟨posD_zero.2 h.1, fun m hm => by rw [decide_eq_true_eq]; exact h.2 m hm⟩
    rw [h1, Bool.true_and] at hk
    have : ¬ ∀ q ∈ out, (!alike q (posD (meetI a b))) = true := fun h2 => hk (List.all_eq_true.2 h2)
    simp only [Classical.not_forall] at this
    obtain ⟨q, hq, h3⟩ := this
    exact ⟨q, hq, .inr (by simpa using h3)⟩
theorem Has.mono {a b : Bd} {o o' : List Pl} (h : Has a b o) (hs : ∀ p ∈ o, p ∈ o') : Has a b o' := by
  obtain ⟨q, hq, h⟩ := h
  exact ⟨q, hs q hq, h⟩
theorem ptsIn_has {l : List Bd} {a b : Bd} (h : Hit l a b) : ∀ {r : List Bd} {out : List Pl}, b ∈ r → Has a b (ptsIn l a r out)
  | x :: r, out, hb => by
    rw [ptsIn]
    rcases List.mem_cons.1 hb with e | hb
    · subst e
      exact (pStep_has h).mono fun p hp => ptsIn_mem (r := r) hp
    · exact ptsIn_has (r := r) h hb
theorem Has.swap {a b : Bd} {o : List Pl} (hd : (meetI a b).d ≠ 0) (h : Has b a o) : Has a b o := by
  obtain ⟨q, hq, h⟩ := h
  rw [posD_swap a b hd] at h
  exact ⟨q, hq, h⟩
theorem ptsGo_has {l : List Bd} {a b : Bd} (h : Hit l a b) : ∀ {r dn : List Bd} {out : List Pl}, ((a ∈ dn ∧ b ∈ r) ∨ (a ∈ r ∧ b ∈ dn) ∨ (a ∈ r ∧ b ∈ r)) → Has a b (ptsGo l dn r out)
  | [], dn, out, hh => by rcases hh with ⟨_, h⟩ | ⟨h, _⟩ | ⟨h, _⟩ <;> cases h
  | x :: r, dn, out, hh => by
    rw [ptsGo]
    rcases hh with ⟨h1, h2⟩ | ⟨h1, h2⟩ | ⟨h1, h2⟩
    · rcases List.mem_cons.1 h2 with e | h2
      · subst e
        exact ((ptsIn_has h.swap h1).swap h.1).mono fun p hp => ptsGo_mem (r := r) hp
      · exact ptsGo_has (r := r) h (.inl ⟨List.mem_append_left _ h1, h2⟩)
    · rcases List.mem_cons.1 h1 with e | h1
      · subst e
        exact (ptsIn_has h h2).mono fun p hp => ptsGo_mem (r := r) hp
      · exact ptsGo_has (r := r) h (.inr (.inl ⟨h1, List.mem_append_left _ h2⟩))
    · rcases List.mem_cons.1 h1 with e1 | h3
      · subst e1
        rcases List.mem_cons.1 h2 with e2 | h4
        · exfalso
          subst e2
          have := h.1
          unfold meetI at this
          simp only at this
          omega
        · exact ptsGo_has (r := r) h (.inl ⟨by simp, h4⟩)
      · rcases List.mem_cons.1 h2 with e2 | h4
        · subst e2
          exact ptsGo_has (r := r) h (.inr (.inl ⟨h3, by simp⟩))
        · exact ptsGo_has (r := r) h (.inr (.inr ⟨h3, h4⟩))
theorem PtOk.d {l : List Bd} {p : Pl} (h : PtOk l p) : 0 < p.d := by
  obtain ⟨a, _, b, _, hd, rfl⟩ := h.of
  exact posD_d hd
theorem PtOk.feas {l : List Bd} {p : Pl} (h : PtOk l p) : Feas l p.pt := fun m hm => (val_le h.d).1 (h.keep m hm)
theorem two_lines {a b : Bd} (hd : (meetI a b).d ≠ 0) {p q : Pt} (h1 : a.af.ev p = 0) (h2 : b.af.ev p = 0) (h3 : a.af.ev q = 0) (h4 : b.af.ev q = 0) : p = q := by
  have d0 : det a.af b.af ≠ 0 := fun h => hd (det_zero.1 h)
  rw [meetP_uniq d0 h1 h2, meetP_uniq d0 h3 h4]
theorem PtOk.on {l : List Bd} {p : Pl} (h : PtOk l p) : ∃ a ∈ l, ∃ b ∈ l, (meetI a b).d ≠ 0 ∧ a.af.ev p.pt = 0 ∧ b.af.ev p.pt = 0 := by
  obtain ⟨a, ha, b, hb, hd, rfl⟩ := h.of
  have d0 : det a.af b.af ≠ 0 := fun h => hd (det_zero.1 h)
  refine ⟨a, ha, b, hb, hd, ?_, ?_⟩ <;> rw [posD_pt, meetI_pt]
  · exact (meetP_on d0).1
  · exact (meetP_on d0).2
theorem ext_corner {bs : List Bd} (hsq : ∀ b ∈ bsq, b ∈ bs) (hr : ∀ b ∈ bs, BdSz b) {q : Pt} (hq : Feas bs q) {a b : Bd} (ha : a ∈ bs) (hb : b ∈ bs) (hd : (meetI a b).d ≠ 0) (h1 : a.af.ev q = 0) (h2 : b.af.ev q = 0) : ∃ s ∈ regS bs, s.pt = q := by
  obtain ⟨s, hs, h⟩ := reg_reach hsq hr hq ⟨a.af.a + b.af.a, a.af.b + b.af.b, 0⟩
  have hf := (reg_corner hsq hr hs).1
  have f1 := hf a ha
  have f2 := hf b hb
  have e : ∀ p : Pt, (⟨a.af.a + b.af.a, a.af.b + b.af.b, 0⟩ : Af).ev p = a.af.ev p + b.af.ev p - a.af.c - b.af.c := fun p => by unfold Af.ev; grind
  rw [e, e] at h
  exact ⟨s, hs, two_lines hd (by grind) (by grind) h1 h2⟩
theorem pts_reg {bs : List Bd} (hsq : ∀ b ∈ bsq, b ∈ bs) (hr : ∀ b ∈ bs, BdSz b) : (∀ p ∈ pts bs, ∃ s ∈ regS bs, s.pt = p.pt) ∧ ∀ s ∈ regS bs, ∃ p ∈ pts bs, p.pt = s.pt := by
  constructor
  · intro p hp
    have h := pts_ok bs p hp
    obtain ⟨a, ha, b, hb, hd, h1, h2⟩ := h.on
    exact ext_corner hsq hr h.feas ha hb hd h1 h2
  · intro s hs
    obtain ⟨hf, a, ha, b, hb, hd, h1, h2⟩ := reg_corner hsq hr hs
    have d0 : det a.af b.af ≠ 0 := fun h => hd (det_zero.1 h)
    have e : (posD (meetI a b)).pt = s.pt := by rw [posD_pt, meetI_pt]; exact (meetP_uniq d0 h1 h2).symm
    have hit : Hit bs a b := ⟨hd, fun m hm => by rw [val_le (posD_d hd), e]; exact hf m hm⟩
    obtain ⟨q, hq, h⟩ := ptsGo_has (l := bs) (r := bs) (dn := []) (out := []) hit (.inr (.inr ⟨ha, hb⟩))
    refine ⟨q, hq, ?_⟩
    rw [← e]
    rcases h with h | h
    · rw [h]
    · exact (alike_pt (pts_ok bs q hq).d (posD_d hd)).1 h
end Clip

namespace Clip
theorem count2 {α : Type} {P : α → Bool} : ∀ {l : List α} {a b : α}, a ∈ l → b ∈ l → a ≠ b → P a = true → P b = true → 2 ≤ l.countP P
  | [], a, _, h, _, _, _, _ => by cases h
  | x :: l, a, b, ha, hb, hn, pa, pb => by
    rw [List.countP_cons]
    rcases List.mem_cons.1 ha with e1 | ha
    · rcases List.mem_cons.1 hb with e2 | hb
      · exact absurd (e1.trans e2.symm) hn
      · have : 0 < l.countP P := List.countP_pos_iff.2 ⟨b, hb, pb⟩
        rw [← e1, if_pos pa]; omega
    · rcases List.mem_cons.1 hb with e2 | hb
      · have : 0 < l.countP P := List.countP_pos_iff.2 ⟨a, ha, pa⟩
        rw [← e2, if_pos pb]; omega
      · have := count2 ha hb hn pa pb
        omega
theorem beyond_le {b : Bd} {s : Sp} (h : SpOk s) (hf : b.af.ev s.pt ≤ 0) : beyond b s ≤ 0 := (le_iff h).2 hf
theorem corner_just {bs : List Bd} (hsq : ∀ b ∈ bsq, b ∈ bs) (hr : ∀ b ∈ bs, BdSz b) {s : Sp} (hs : s ∈ regS bs) : (∀ b ∈ bs, beyond b s ≤ 0) ∧ 2 ≤ bs.countP fun b => decide (beyond b s = 0) := by
  have ok := (regS_sz hr hs).ok
  obtain ⟨hf, a, ha, b, hb, hd, h1, h2⟩ := reg_corner hsq hr hs
  refine ⟨fun b hb => beyond_le ok (hf b hb), count2 ha hb (fun e => ?_) ?_ ?_⟩
  · subst e
    apply hd
    unfold meetI
    simp only
    omega
  · rw [decide_eq_true_eq]; exact (beyond_sign ok).2.2.2 h1
  · rw [decide_eq_true_eq]; exact (beyond_sign ok).2.2.2 h2
structure Sound (s : Sp) : Prop where
  x : (1 ≤ s.X.D ∧ s.X.D ≤ 5000) ∧ 0 ≤ s.X.N ∧ s.X.N ≤ 1000 * s.X.D
  y : (1 ≤ s.Y.D ∧ s.Y.D ≤ 5000) ∧ 0 ≤ s.Y.N ∧ s.Y.N ≤ 1000 * s.Y.D
theorem corner_sound {bs : List Bd} (hsq : ∀ b ∈ bsq, b ∈ bs) (hr : ∀ b ∈ bs, BdSz b) {s : Sp} (hs : s ∈ regS bs) : Sound s := by
  have z := regS_sz hr hs
  have k := (corner_just hsq hr hs).1
  have b1 := k ⟨1, 0, 1000⟩ (hsq _ (by simp [bsq]))
  have b2 := k ⟨-1, 0, 0⟩ (hsq _ (by simp [bsq]))
  have b3 := k ⟨0, 1, 1000⟩ (hsq _ (by simp [bsq]))
  have b4 := k ⟨0, -1, 0⟩ (hsq _ (by simp [bsq]))
  have xd := z.xd
  have yd := z.yd
  unfold beyond at b1 b2 b3 b4
  simp only [Int.one_mul, Int.zero_mul, Int.add_zero, Int.zero_add, Int.neg_mul, Int.sub_zero] at b1 b2 b3 b4
  have pos : ∀ n d : Int, 1 ≤ d → 0 ≤ n * d → 0 ≤ n := fun n d h1 h2 => by
    refine Int.not_lt.1 fun h3 => ?_
    have := Int.mul_lt_mul_of_pos_right h3 (show 0 < d by omega)
    omega
  refine ⟨⟨xd, pos _ _ yd.1 (by omega), ?_⟩, ⟨yd, pos _ _ xd.1 (by omega), ?_⟩⟩
  · have e : (1000 * s.X.D - s.X.N) * s.Y.D = 1000 * s.X.D * s.Y.D - s.X.N * s.Y.D := by grind
    have := pos (1000 * s.X.D - s.X.N) s.Y.D yd.1 (by rw [e]; omega)
    omega
  · have e : (1000 * s.Y.D - s.Y.N) * s.X.D = 1000 * s.X.D * s.Y.D - s.Y.N * s.X.D := by grind
    have := pos (1000 * s.Y.D - s.Y.N) s.X.D xd.1 (by rw [e]; omega)
    omega
def atP (p : Pn) : Pt := ⟨p.x, p.y⟩
theorem at_ev (b : Bd) (p : Pn) : b.af.ev (atP p) = ((b.A * p.x + b.B * p.y - b.C : Int) : Rat) := by
  unfold Bd.af Af.ev atP
  simp only
  rw [Rat.intCast_sub, Rat.intCast_add, Rat.intCast_mul, Rat.intCast_mul]
  grind
theorem at_feas {bs : List Bd} {p : Pn} : Feas bs (atP p) ↔ ∀ b ∈ bs, b.A * p.x + b.B * p.y ≤ b.C := by
  have key : ∀ b : Bd, b.af.ev (atP p) ≤ 0 ↔ b.A * p.x + b.B * p.y ≤ b.C := fun b => by
    rw [at_ev]
    have := Rat.intCast_le_intCast (a := b.A * p.x + b.B * p.y - b.C) (b := 0)
    rw [Rat.intCast_zero] at this
    rw [this]
    omega
  exact ⟨fun h b hb => (key b).1 (h b hb), fun h b hb => (key b).2 (h b hb)⟩
end Clip

set_option linter.unusedSectionVars false
namespace Clip
section
variable {α : Type} [DecidableEq α] {N : α → α → Prop}
def AdjA (R : α → α → Prop) (f : α) : List α → Prop
  | [] => True
  | [c] => R c f
  | c :: d :: l => R c d ∧ AdjA R f (d :: l)
def ddA : List α → List α → List α
  | out, [] => out
  | out, s :: r => ddA (if s ∈ out then out else out ++ [s]) r
def ChainN (N : α → α → Prop) (l : List α) : Prop := ∀ j a b, l[j]? = some a → l[j + 1]? = some b → N a b
theorem ChainN.snoc {l : List α} {c x : α} (h : ChainN N l) (hl : l[l.length - 1]? = some c) (hx : N c x) : ChainN N (l ++ [x]) := by
  intro j a b ha hb
  have hj : j + 1 < (l ++ [x]).length := (List.getElem?_eq_some_iff.1 hb).1
  rw [List.length_append, List.length_singleton] at hj
  rw [List.getElem?_append_left (by omega)] at ha
  rcases Nat.lt_or_ge (j + 1) l.length with h1 | h1
  · rw [List.getElem?_append_left h1] at hb
    exact h j a b ha hb
  · have e : j = l.length - 1 := by omega
    rw [List.getElem?_append_right h1, show j + 1 - l.length = 0 by omega] at hb
    simp only [List.getElem?_cons_zero, Option.some.injEq] at hb
    rw [e, hl, Option.some.injEq] at ha
    rw [← ha, ← hb]; exact hx
inductive At (N : α → α → Prop) (out : List α) (cur : α) : Prop
  | last (h : out[out.length - 1]? = some cur)
  | round (i j : Nat) (e x : α) (hji : j ≤ i) (hi : out[i]? = some cur) (he : out[out.length - 1]? = some e) (hj : out[j]? = some x) (hn : N e x)
theorem At.step {out : List α} {cur x : α} (hu : ∀ a b c, N a b → N a c → b = c) (hc : ChainN N out) (h : At N out cur) (hx : cur = x ∨ N cur x) : (x ∈ out ∧ At N out x) ∨ (out[out.length - 1]? = some cur ∧ N cur x) := by
  rcases h with h | ⟨i, j, e, y, hji, hi, he, hj, hn⟩
  · rcases hx with rfl | hx
    · exact .inl ⟨List.mem_of_getElem? h, .last h⟩
    · exact .inr ⟨h, hx⟩
  · left
    rcases hx with rfl | hx
    · exact ⟨List.mem_of_getElem? hi, .round i j e y hji hi he hj hn⟩
    · have hlt := (List.getElem?_eq_some_iff.1 hi).1
      rcases Nat.lt_or_ge (i + 1) out.length with h1 | h1
      · have hb := List.getElem?_eq_getElem h1
        have e1 := hu _ _ _ hx (hc i _ _ hi hb)
        rw [← e1] at hb
        exact ⟨List.mem_of_getElem? hb, .round (i + 1) j e y (by omega) hb he hj hn⟩
      · have e0 : i = out.length - 1 := by omega
        rw [e0, he, Option.some.injEq] at hi
        rw [← hi] at hx
        have e1 := hu _ _ _ hx hn
        rw [e1]
        exact ⟨List.mem_of_getElem? hj, .round j j e y (Nat.le_refl _) hj he hj hn⟩
theorem dd_walk (hu : ∀ a b c, N a b → N a c → b = c) {f : α} : ∀ (r out : List α) (cur : α), ChainN N out → out.Nodup → out ≠ [] → At N out cur → AdjA (fun a b => a = b ∨ N a b) f (cur :: r) →
    ChainN N (ddA out r) ∧ (ddA out r).Nodup ∧ (ddA out r)[0]? = out[0]? ∧ ∃ c, At N (ddA out r) c ∧ (c = f ∨ N c f)
  | [], out, cur, hc, hd, hne, ha, hs => ⟨hc, hd, rfl, cur, ha, hs⟩
  | x :: r, out, cur, hc, hd, hne, ha, hs => by
    rw [ddA]
    rcases ha.step hu hc hs.1 with ⟨hm, hx⟩ | ⟨hl, hx⟩
    · rw [if_pos hm]
      exact dd_walk hu r out x hc hd hne hx hs.2
    · by_cases hm : x ∈ out
      · rw [if_pos hm]
        obtain ⟨j, hj, rfl⟩ := List.getElem_of_mem hm
        exact dd_walk hu r out out[j] hc hd hne (.round j j cur out[j] (Nat.le_refl _) (List.getElem?_eq_getElem hj) hl (List.getElem?_eq_getElem hj) hx) hs.2
      · rw [if_neg hm]
        have hpos := List.length_pos_iff.2 hne
        obtain ⟨w1, w2, w3, w4⟩ := dd_walk hu r (out ++ [x]) x (hc.snoc hl hx) (List.nodup_append.2 ⟨hd, by simp, fun a ha b hb h => hm (by rw [List.mem_singleton] at hb; rw [← hb, ← h]; exact ha)⟩) (by simp) (.last (by simp)) hs.2
        exact ⟨w1, w2, by rw [w3, List.getElem?_append_left hpos], w4⟩
theorem nodup_idx {l : List α} (h : l.Nodup) {i j : Nat} {a : α} (hi : l[i]? = some a) (hj : l[j]? = some a) : i = j := by
  obtain ⟨h1, e1⟩ := List.getElem?_eq_some_iff.1 hi
  obtain ⟨h2, e2⟩ := List.getElem?_eq_some_iff.1 hj
  have hp := List.pairwise_iff_getElem.1 h
  rcases Nat.lt_trichotomy i j with h3 | h3 | h3
  · exact absurd (e1.trans e2.symm) (hp i j h1 h2 h3)
  · exact h3
  · exact absurd (e2.trans e1.symm) (hp j i h2 h1 h3)
theorem dd_round (hu : ∀ a b c, N a b → N a c → b = c) {f : α} {l : List α} (hs : AdjA (fun a b => a = b ∨ N a b) f (f :: l)) :
    ChainN N (ddA [] (f :: l)) ∧ (ddA [] (f :: l)).Nodup ∧ (ddA [] (f :: l))[0]? = some f ∧ (2 ≤ (ddA [] (f :: l)).length → ∀ e, (ddA [] (f :: l))[(ddA [] (f :: l)).length - 1]? = some e → N e f) := by
  have e0 : ddA [] (f :: l) = ddA [f] l := by rw [ddA, if_neg (by simp)]; rfl
  rw [e0]
  obtain ⟨w1, w2, w3, c, ha, hc⟩ := dd_walk hu l [f] f (fun j a b h1 h2 => by simp at h2) (by simp) (by simp) (.last rfl) hs
  have w3 : (ddA [f] l)[0]? = some f := w3
  refine ⟨w1, w2, w3, fun h2 e he => ?_⟩
  rcases ha with h | ⟨i, j, e', x, hji, hi, he', hj, hn⟩
  · rw [he, Option.some.injEq] at h
    subst h
    rcases hc with h | h
    · subst h
      have := nodup_idx w2 he w3
      omega
    · exact h
  · rw [he, Option.some.injEq] at he'
    subst he'
    rcases hc with h | h
    · subst h
      have e1 := nodup_idx w2 hi w3
      have e2 : j = 0 := by omega
      rw [e2, w3, Option.some.injEq] at hj
      rw [hj]; exact hn
    · have hlt := (List.getElem?_eq_some_iff.1 hi).1
      rcases Nat.lt_or_ge (i + 1) (ddA [f] l).length with h1 | h1
      · have hb := List.getElem?_eq_getElem h1
        have e1 := hu _ _ _ h (w1 i _ _ hi hb)
        rw [← e1] at hb
        have := nodup_idx w2 hb w3
        omega
      · have e1 : i = (ddA [f] l).length - 1 := by omega
        rw [e1, he, Option.some.injEq] at hi
        rw [hi]; exact h
theorem turn_round {l : List α} {f : α} (hc : ChainN N l) (hf : l[0]? = some f) (hw : 2 ≤ l.length → ∀ e, l[l.length - 1]? = some e → N e f) {k : Nat} (hk : k < l.length) : ChainN N (l.drop k ++ l.take k) := by
  intro j a b ha hb
  have hj : j + 1 < (l.drop k ++ l.take k).length := (List.getElem?_eq_some_iff.1 hb).1
  rw [List.length_append, List.length_drop, List.length_take] at hj
  have hd : (l.drop k).length = l.length - k := List.length_drop
  rcases Nat.lt_or_ge (j + 1) (l.length - k) with h1 | h1
  · rw [List.getElem?_append_left (by omega), List.getElem?_drop] at ha hb
    exact hc (k + j) a b ha hb
  · rw [List.getElem?_append_right (by omega), hd, List.getElem?_take, if_pos (by omega)] at hb
    rcases Nat.lt_or_ge j (l.length - k) with h2 | h2
    · rw [List.getElem?_append_left (by omega), List.getElem?_drop] at ha
      rw [show j + 1 - (l.length - k) = 0 by omega, hf, Option.some.injEq] at hb
      rw [← hb]
      refine hw (by omega) a ?_
      rw [← ha]; congr 1; omega
    · rw [List.getElem?_append_right (by omega), hd, List.getElem?_take, if_pos (by omega)] at ha
      refine hc (j - (l.length - k)) a b ha ?_
      rw [← hb]; congr 1; omega
end
end Clip

namespace Clip
def RtCop (r : Rt) : Prop := Nat.gcd r.N.natAbs r.D.toNat = 1
theorem rt_uniq {a b : Rt} (ha : 0 < a.D) (hb : 0 < b.D) (ca : RtCop a) (cb : RtCop b) (e : a.q = b.q) : a = b := by
  have c := (cmpR_q ha hb).2.2 e
  unfold cmpR at c
  unfold RtCop at ca cb
  obtain ⟨N, D⟩ := a
  obtain ⟨M, E⟩ := b
  simp only at *
  obtain ⟨d1, rfl⟩ : ∃ k : Nat, D = k := ⟨D.toNat, by omega⟩
  obtain ⟨e1, rfl⟩ : ∃ k : Nat, E = k := ⟨E.toNat, by omega⟩
  rw [Int.toNat_natCast] at ca cb
  have h1 : N * e1 = M * d1 := by omega
  have h2 : N.natAbs * e1 = M.natAbs * d1 := by
    have := congrArg Int.natAbs h1
    rw [Int.natAbs_mul, Int.natAbs_mul, Int.natAbs_natCast, Int.natAbs_natCast] at this
    exact this
  have k1 : d1 ∣ e1 := (Nat.Coprime.dvd_of_dvd_mul_left (Nat.Coprime.symm ca) ⟨M.natAbs, by rw [h2, Nat.mul_comm]⟩)
  have k2 : e1 ∣ d1 := (Nat.Coprime.dvd_of_dvd_mul_left (Nat.Coprime.symm cb) ⟨N.natAbs, by rw [← h2, Nat.mul_comm]⟩)
  have hde : d1 = e1 := Nat.dvd_antisymm k1 k2
  subst hde
  have : N = M := Int.eq_of_mul_eq_mul_right (by omega) h1
  rw [this]
structure SpCop (s : Sp) : Prop where
  x : RtCop s.X
  y : RtCop s.Y
theorem sp_uniq {a b : Sp} (ha : SpOk a) (hb : SpOk b) (ca : SpCop a) (cb : SpCop b) (e : a.pt = b.pt) : a = b := by
  unfold Sp.pt at e
  simp only [Pt.mk.injEq] at e
  have e1 := rt_uniq ha.x hb.x ca.x cb.x e.1
  have e2 := rt_uniq ha.y hb.y ca.y cb.y e.2
  cases a; cases b; simp_all
theorem meetS_cop {a b : Bd} (h : (meetI a b).d ≠ 0) : SpCop (meetS a b) := ⟨(red_ok h).cop, (red_ok h).cop⟩
theorem stepI_cop {b : Bd} {c d : Co} (hc : SpCop c.s) (hm : Cross b c d → (meetI c.al b).d ≠ 0) : ∀ x ∈ stepI b c d, SpCop x.s := by
  intro x hx
  unfold stepI at hx
  split at hx
  · rw [List.mem_singleton] at hx; subst hx; exact hc
  · rename_i h1
    split at hx
    · rw [List.mem_singleton] at hx; subst hx; exact hc
    · rename_i h2
      split at hx
      · rename_i h3
        have h4 := hm (.inl ⟨h3, by omega⟩)
        rcases List.mem_cons.1 hx with rfl | hx
        · exact hc
        · rw [List.mem_singleton] at hx; subst hx; exact meetS_cop h4
      · rename_i h3
        split at hx
        · rename_i h4
          rw [List.mem_singleton] at hx; subst hx
          exact meetS_cop (hm (.inr ⟨by omega, h4⟩))
        · cases hx
theorem goI_cop {b : Bd} {f : Co} (hf : CoSz f) : ∀ {c : Co} {l : List Co}, Adj OnL f.cr ((c :: l).map Co.cr) → (∀ x ∈ c :: l, CoSz x) → (∀ x ∈ c :: l, SpCop x.s) → ∀ x ∈ goI b f (c :: l), SpCop x.s
  | c, [], h, hs, hq, x, hx => stepI_cop (hq c (by simp)) (cross_det (hs c (by simp)) hf h) x hx
  | c, d :: l, h, hs, hq, x, hx => by
    rw [goI, List.mem_append] at hx
    rcases hx with hx | hx
    · exact stepI_cop (hq c (by simp)) (cross_det (hs c (by simp)) (hs d (by simp)) h.1) x hx
    · exact goI_cop hf (c := d) (l := l) h.2 (fun y hy => hs y (List.mem_cons_of_mem _ hy)) (fun y hy => hq y (List.mem_cons_of_mem _ hy)) x hx
theorem cutsI_cop : ∀ (bs : List Bd) (l : List Co), Inv l → (∀ b ∈ bs, BdSz b) → (∀ x ∈ l, SpCop x.s) → ∀ x ∈ cutsI bs l, SpCop x.s
  | [], _, _, _, h => h
  | b :: bs, l, hi, hr, h => by
    rw [cutsI]
    refine cutsI_cop bs (cutI b l) (hi.cut (hr b (by simp))) (fun x hx => hr x (List.mem_cons_of_mem _ hx)) ?_
    rcases hi.poly with rfl | ⟨ks, f, m, rfl, P⟩
    · intro x hx; cases hx
    · exact goI_cop (hi.sz f (by simp)) (c := f) (l := m) P.on hi.sz h
theorem regI_cop {bs : List Bd} (hr : ∀ b ∈ bs, BdSz b) : ∀ x ∈ regI bs, SpCop x.s := cutsI_cop bs _ sqI_inv hr fun c hc => by
  unfold sqI at hc
  simp only [List.mem_cons, List.not_mem_nil, or_false] at hc
  rcases hc with rfl | rfl | rfl | rfl <;> exact ⟨by unfold RtCop; decide, by unfold RtCop; decide⟩
theorem regS_cop {bs : List Bd} (hr : ∀ b ∈ bs, BdSz b) {s : Sp} (h : s ∈ regS bs) : SpCop s := by
  obtain ⟨c, hc, rfl⟩ := regS_mem.1 h
  exact regI_cop hr c hc
theorem regS_uniq {bs : List Bd} (hr : ∀ b ∈ bs, BdSz b) {s s' : Sp} (h : s ∈ regS bs) (h' : s' ∈ regS bs) (e : s.pt = s'.pt) : s = s' :=
  sp_uniq (regS_sz hr h).ok (regS_sz hr h').ok (regS_cop hr h) (regS_cop hr h') e
/-! ### The next corner -/

def orP (p q r : Pt) : Rat := (q.x - p.x) * (r.y - p.y) - (q.y - p.y) * (r.x - p.x)
theorem pt_ext {p q : Pt} (h1 : p.x = q.x) (h2 : p.y = q.y) : p = q := by cases p; cases q; simp_all
theorem ext_pt {bs : List Bd} (hsq : ∀ b ∈ bsq, b ∈ bs) (hr : ∀ b ∈ bs, BdSz b) {s : Sp} (hs : s ∈ regS bs) {p q : Pt} (hp : Feas bs p) (hq : Feas bs q) {t : Rat} (h0 : 0 < t) (h1 : t < 1) (ex : s.pt.x = p.x + t * (q.x - p.x)) (ey : s.pt.y = p.y + t * (q.y - p.y)) : p = s.pt ∧ q = s.pt := by
  obtain ⟨_, a, ha, b, hb, hd, z1, z2⟩ := reg_corner hsq hr hs
  have key : ∀ k : Bd, k ∈ bs → k.af.ev s.pt = 0 → k.af.ev p = 0 ∧ k.af.ev q = 0 := fun k hk hz => by
    have p1 := hp k hk
    have q1 := hq k hk
    have e : k.af.ev s.pt = k.af.ev p + t * (k.af.ev q - k.af.ev p) := by unfold Af.ev; rw [ex, ey]; grind
    rw [hz] at e
    have e2 : (1 - t) * -k.af.ev p + t * -k.af.ev q = 0 := by grind
    have m1 := Rat.mul_nonneg (show 0 ≤ 1 - t by grind) (show 0 ≤ -k.af.ev p by grind)
    have m2 := Rat.mul_nonneg (Rat.le_of_lt h0) (show 0 ≤ -k.af.ev q by grind)
    have r1 : (1 - t) * -k.af.ev p = 0 := by grind
    have r2 : t * -k.af.ev q = 0 := by grind
    constructor
    · rcases Rat.mul_eq_zero.1 r1 with h | h <;> grind
    · rcases Rat.mul_eq_zero.1 r2 with h | h <;> grind
  have ka := key a ha z1
  have kb := key b hb z2
  exact ⟨two_lines hd ka.1 kb.1 z1 z2, two_lines hd ka.2 kb.2 z1 z2⟩
theorem on_ray {a b c : Pt} (h : orP a b c = 0) (hab : a ≠ b) : ∃ t : Rat, c.x = a.x + t * (b.x - a.x) ∧ c.y = a.y + t * (b.y - a.y) := by
  have hr : Real ⟨b.x - a.x, b.y - a.y, 0⟩ := ⟨by
    refine Classical.byContradiction fun h2 => hab ?_
    simp only [not_or, Classical.not_not] at h2
    exact pt_ext (by grind) (by grind)⟩
  have n := norm_pos hr
  simp only at n
  have hd := Rat.div_mul_cancel (a := (c.x - a.x) * (b.x - a.x) + (c.y - a.y) * (b.y - a.y)) (show (b.x - a.x) * (b.x - a.x) + (b.y - a.y) * (b.y - a.y) ≠ 0 by grind)
  generalize ((c.x - a.x) * (b.x - a.x) + (c.y - a.y) * (b.y - a.y)) / ((b.x - a.x) * (b.x - a.x) + (b.y - a.y) * (b.y - a.y)) = t at hd
  unfold orP at h
  refine ⟨t, ?_, ?_⟩
  · have : (c.x - (a.x + t * (b.x - a.x))) * ((b.x - a.x) * (b.x - a.x) + (b.y - a.y) * (b.y - a.y)) = 0 := by grind
    rcases Rat.mul_eq_zero.1 this with h1 | h1 <;> grind
  · have : (c.y - (a.y + t * (b.y - a.y))) * ((b.x - a.x) * (b.x - a.x) + (b.y - a.y) * (b.y - a.y)) = 0 := by grind
    rcases Rat.mul_eq_zero.1 this with h1 | h1 <;> grind
structure NxtS (bs : List Bd) (a b : Sp) : Prop where
  ma : a ∈ regS bs
  mb : b ∈ regS bs
  ne : a.pt ≠ b.pt
  left : ∀ r ∈ regS bs, 0 ≤ orP a.pt b.pt r.pt
theorem tri_no {bs : List Bd} (hsq : ∀ b ∈ bsq, b ∈ bs) (hr : ∀ b ∈ bs, BdSz b) {a b c : Sp} (ha : a ∈ regS bs) (hb : b ∈ regS bs) (hc : c ∈ regS bs) (h1 : a.pt ≠ b.pt) (h2 : a.pt ≠ c.pt) (h3 : b.pt ≠ c.pt) : orP a.pt b.pt c.pt ≠ 0 := by
  intro h
  have fa := (reg_corner hsq hr ha).1
  have fb := (reg_corner hsq hr hb).1
  have fc := (reg_corner hsq hr hc).1
  obtain ⟨t, ex, ey⟩ := on_ray h h1
  rcases (show t < 0 ∨ t = 0 ∨ (0 < t ∧ t < 1) ∨ t = 1 ∨ 1 < t by grind) with h4 | h4 | h4 | h4 | h4
  · have hd := Rat.div_mul_cancel (a := (1 : Rat)) (show 1 - t ≠ 0 by grind)
    generalize 1 / (1 - t) = s at hd
    have s0 : 0 < s := sgn_pos (x := 1 - t) (by grind) (by grind)
    have s1 : s < 1 := by
      refine Rat.not_le.1 fun h5 => ?_
      have := Rat.mul_le_mul_of_nonneg_right h5 (show 0 ≤ 1 - t by grind)
      grind
    have e : ∀ x y z : Rat, z = x + t * (y - x) → x = y + s * (z - y) := fun x y z hz => by
      have : (x - (y + s * (z - y))) * (1 - t) = 0 := by rw [hz]; grind
      rcases Rat.mul_eq_zero.1 this with h5 | h5 <;> grind
    exact h1 (ext_pt hsq hr ha fb fc s0 s1 (e _ _ _ ex) (e _ _ _ ey)).1.symm
  · exact h2 (pt_ext (by rw [ex, h4]; grind) (by rw [ey, h4]; grind))
  · exact h2 (ext_pt hsq hr hc fa fb h4.1 h4.2 ex ey).1
  · exact h3 (pt_ext (by rw [ex, h4]; grind) (by rw [ey, h4]; grind))
  · have hd := Rat.div_mul_cancel (a := (1 : Rat)) (show t ≠ 0 by grind)
    generalize 1 / t = s at hd
    have s0 : 0 < s := sgn_pos (x := t) (by grind) (by grind)
    have s1 : s < 1 := by
      refine Rat.not_le.1 fun h5 => ?_
      have := Rat.mul_le_mul_of_nonneg_right h5 (show 0 ≤ t by grind)
      grind
    have e : ∀ x y z : Rat, z = x + t * (y - x) → y = x + s * (z - x) := fun x y z hz => by
      have : (y - (x + s * (z - x))) * t = 0 := by rw [hz]; grind
      rcases Rat.mul_eq_zero.1 this with h5 | h5 <;> grind
    exact h1 (ext_pt hsq hr hb fa fc s0 s1 (e _ _ _ ex) (e _ _ _ ey)).1
theorem NxtS.uniq {bs : List Bd} (hsq : ∀ b ∈ bsq, b ∈ bs) (hr : ∀ b ∈ bs, BdSz b) {a b c : Sp} (h : NxtS bs a b) (k : NxtS bs a c) : b = c := by
  refine Classical.byContradiction fun hn => ?_
  have hbc : b.pt ≠ c.pt := fun e => hn (regS_uniq hr h.mb k.mb e)
  have h1 := h.left c k.mb
  have h2 := k.left b h.mb
  have e : orP a.pt c.pt b.pt = -orP a.pt b.pt c.pt := by unfold orP; grind
  rw [e] at h2
  exact tri_no hsq hr h.ma h.mb k.mb h.ne k.ne hbc (by grind)
theorem goes_nxt {bs : List Bd} (hr : ∀ b ∈ bs, BdSz b) {c d : Co} (hc : c ∈ regI bs) (hd : d ∈ regI bs) (hon : c.al.af.ev c.s.pt = 0) (hk : ∀ r ∈ regS bs, c.al.af.ev r.pt ≤ 0) (h : Goes c.al.af c.s.pt d.s.pt) : c.s = d.s ∨ NxtS bs c.s d.s := by
  have mc : c.s ∈ regS bs := regS_mem.2 ⟨c, hc, rfl⟩
  have md : d.s ∈ regS bs := regS_mem.2 ⟨d, hd, rfl⟩
  by_cases e : c.s.pt = d.s.pt
  · exact .inl (regS_uniq hr mc md e)
  · refine .inr ⟨mc, md, e, fun r hr2 => ?_⟩
    obtain ⟨t, ht, ex, ey⟩ := h
    have h1 := hk r hr2
    have e2 : orP c.s.pt d.s.pt r.pt = t * (c.al.af.ev c.s.pt - c.al.af.ev r.pt) := by
      unfold orP Af.ev
      rw [ex, ey]; grind
    rw [e2, hon]
    exact Rat.mul_nonneg ht (by grind)
theorem adj_spots {bs : List Bd} {R : Sp → Sp → Prop} {f : Co} : ∀ {l : List Co}, Adj OnL f.cr (l.map Co.cr) → Adj Ori f.cr (l.map Co.cr) → (∀ c ∈ l, ∀ d, (d = f ∨ d ∈ l) → OnL c.cr d.cr → Ori c.cr d.cr → R c.s d.s) → AdjA R f.s (l.map Co.s)
  | [], _, _, _ => trivial
  | [c], h, k, g => g c (by simp) f (.inl rfl) h k
  | c :: d :: l, h, k, g => ⟨g c (by simp) d (.inr (by simp)) h.1 k.1, adj_spots (bs := bs) (l := d :: l) h.2 k.2 fun x hx y hy => g x (List.mem_cons_of_mem _ hx) y (hy.imp id (List.mem_cons_of_mem _))⟩
theorem dd_same : ∀ (l out : List Sp), ddS out l = ddA out l
  | [], _ => rfl
  | s :: r, out => by rw [ddS, ddA, dd_same r]
theorem regS_round {bs : List Bd} (hsq : ∀ b ∈ bsq, b ∈ bs) (hr : ∀ b ∈ bs, BdSz b) : ChainN (NxtS bs) (regS bs) ∧ (regS bs).Nodup ∧ ∀ s, (regS bs)[0]? = some s → leastB (regS bs) s = true := by
  rcases regI_poly hr with ⟨g, m, e, P⟩ | ⟨h1, _⟩
  · have hO := regI_ori hr e
    have hon := P.on
    cases hI : regI bs with
    | nil => rw [hI] at e; cases e
    | cons f l =>
      rw [hI, List.map_cons] at e
      injection e with e1 e2
      subst e1 e2
      have keepR : ∀ c ∈ regI bs, ∀ r ∈ regS bs, c.al.af.ev r.pt ≤ 0 := fun c hc r hr2 => by
        obtain ⟨d, hd, rfl⟩ := regS_mem.1 hr2
        rw [hI] at hc hd
        have hc' : c.cr ∈ f.cr :: l.map Co.cr := List.mem_map_of_mem (f := Co.cr) hc
        have hd' : d.cr ∈ f.cr :: l.map Co.cr := List.mem_map_of_mem (f := Co.cr) hd
        exact P.keep d.cr hd' c.cr.al (P.al c.cr hc')
      have hA : AdjA (fun a b => a = b ∨ NxtS bs a b) f.s ((f :: l).map Co.s) := adj_spots (bs := bs) (l := f :: l) hon hO fun c hc d hd h1 h2 => by
        have hc2 : c ∈ regI bs := by rw [hI]; exact hc
        have hd2 : d ∈ regI bs := by
          rw [hI]
          rcases hd with rfl | hd
          · simp
          · exact hd
        exact goes_nxt hr hc2 hd2 h1.1 (keepR c hc2) h2
      have hu : ∀ a b c, NxtS bs a b → NxtS bs a c → b = c := fun a b c h k => h.uniq hsq hr k
      obtain ⟨w1, w2, w3, w4⟩ := dd_round hu (f := f.s) (l := l.map Co.s) hA
      have eD : ddS [] ((regI bs).map Co.s) = ddA [] (f.s :: l.map Co.s) := by rw [hI, dd_same]; rfl
      have hS : regS bs = turnS (ddA [] (f.s :: l.map Co.s)) := by unfold regS; rw [eD]
      have hne : ddA [] (f.s :: l.map Co.s) ≠ [] := fun h => by rw [h] at w3; cases w3
      have hok : ∀ s ∈ ddA [] (f.s :: l.map Co.s), SpOk s := fun s hs => by
        refine (regS_sz hr ?_).ok
        rw [hS]; exact turnS_mem.2 hs
      have hlt := firstS_lt hne hok
      have hmem : ∀ x, x ∈ regS bs ↔ x ∈ ddA [] (f.s :: l.map Co.s) := fun x => by rw [hS]; exact turnS_mem
      generalize ddA [] (f.s :: l.map Co.s) = D at *
      refine ⟨?_, ?_, fun s hs => ?_⟩
      · rw [hS]
        unfold turnS
        exact turn_round w1 w3 w4 hlt
      · rw [hS]
        unfold turnS
        have hp : (D.drop (firstS D) ++ D.take (firstS D)).Perm D := List.perm_append_comm.trans (by rw [List.take_append_drop])
        exact hp.nodup_iff.2 w2
      · have hf : D[firstS D]? = some s := by
          rw [hS] at hs
          unfold turnS at hs
          rw [List.getElem?_append_left (by rw [List.length_drop]; omega), List.getElem?_drop, Nat.add_zero] at hs
          exact hs
        obtain ⟨h5, rfl⟩ := List.getElem?_eq_some_iff.1 hf
        have := List.findIdx_getElem (w := hlt)
        have hl : leastB D D[firstS D] = true := this
        unfold leastB at hl ⊢
        rw [List.all_eq_true] at hl ⊢
        exact fun o ho => hl o ((hmem o).1 ho)
  · have : regS bs = [] := by
      refine Classical.byContradiction fun h2 => ?_
      exact regS_ne.1 h2 h1
    rw [this]
    exact ⟨fun j a b h => by simp at h, List.nodup_nil, fun s h => by simp at h⟩
end Clip

namespace Clip
def sideI (a b c : Pl) : Int := a.x * (b.y * c.d - c.y * b.d) - a.y * (b.x * c.d - c.x * b.d) + a.d * (b.x * c.y - c.x * b.y)
def wthB (a ad c cd b bd : Int) : Bool := decide ((a * cd ≤ c * ad ∧ c * bd ≤ b * cd) ∨ (c * ad ≤ a * cd ∧ b * cd ≤ c * bd))
def betwB (a b c : Pl) : Bool := decide (sideI a b c = 0) && (wthB a.x a.d c.x c.d b.x b.d && wthB a.y a.d c.y c.d b.y b.d)
def aheadB (a b : Pl) : Bool := if a.x * b.d ≠ b.x * a.d then decide (a.x * b.d < b.x * a.d) else decide (a.y * b.d < b.y * a.d)
def spotOf (p : Pl) : Sp := ⟨red p.x p.d, red p.y p.d⟩
theorem spotOf_ok {p : Pl} (h : 0 < p.d) : SpOk (spotOf p) ∧ SpCop (spotOf p) ∧ (spotOf p).pt = p.pt := by
  have hd : p.d ≠ 0 := by omega
  refine ⟨⟨(red_ok hd).pos, (red_ok hd).pos⟩, ⟨(red_ok hd).cop, (red_ok hd).cop⟩, ?_⟩
  unfold spotOf Sp.pt Pl.pt
  simp only
  rw [red_q hd, red_q hd]
theorem side_sign {a b c : Pl} (ha : 0 < a.d) (hb : 0 < b.d) (hc : 0 < c.d) : (0 ≤ sideI a b c ↔ 0 ≤ orP a.pt b.pt c.pt) ∧ (sideI a b c = 0 ↔ orP a.pt b.pt c.pt = 0) := by
  have na := ne_cast (show a.d ≠ 0 by omega)
  have nb := ne_cast (show b.d ≠ 0 by omega)
  have nc := ne_cast (show c.d ≠ 0 by omega)
  have ax := Rat.div_mul_cancel (a := (a.x : Rat)) na
  have ay := Rat.div_mul_cancel (a := (a.y : Rat)) na
  have bx := Rat.div_mul_cancel (a := (b.x : Rat)) nb
  have by' := Rat.div_mul_cancel (a := (b.y : Rat)) nb
  have cx := Rat.div_mul_cancel (a := (c.x : Rat)) nc
  have cy := Rat.div_mul_cancel (a := (c.y : Rat)) nc
  have e : ((sideI a b c : Int) : Rat) = orP a.pt b.pt c.pt * (a.d * b.d * c.d) := by
    unfold sideI orP Pl.pt
    simp only [Rat.intCast_add, Rat.intCast_sub, Rat.intCast_mul]
    generalize (a.x : Rat) / a.d = AX at *
    generalize (a.y : Rat) / a.d = AY at *
    generalize (b.x : Rat) / b.d = BX at *
    generalize (b.y : Rat) / b.d = BY at *
    generalize (c.x : Rat) / c.d = CX at *
    generalize (c.y : Rat) / c.d = CY at *
    rw [← ax, ← ay, ← bx, ← by', ← cx, ← cy]
    grind
  have pd : (0 : Rat) < a.d * b.d * c.d := Rat.mul_pos (Rat.mul_pos (cast_pos.2 ha) (cast_pos.2 hb)) (cast_pos.2 hc)
  obtain ⟨m1, m2, m3⟩ := mul_pos_iff' (a := orP a.pt b.pt c.pt) pd
  rw [← e] at m1 m2 m3
  have z : ((sideI a b c : Int) : Rat) = 0 ↔ sideI a b c = 0 := ⟨fun h => Rat.intCast_inj.1 (h.trans Rat.intCast_zero.symm), fun h => by rw [h]; exact Rat.intCast_zero⟩
  rw [cast_neg] at m2
  rw [z] at m3
  refine ⟨?_, m3⟩
  constructor
  · intro h; exact Rat.not_lt.1 fun h2 => by have := m2.2 h2; omega
  · intro h; exact Int.not_lt.1 fun h2 => by have := m2.1 h2; grind
theorem pts_spot {bs : List Bd} (hsq : ∀ b ∈ bsq, b ∈ bs) (hr : ∀ b ∈ bs, BdSz b) {p : Pl} (hp : p ∈ pts bs) : spotOf p ∈ regS bs ∧ (spotOf p).pt = p.pt := by
  obtain ⟨s, hs, e⟩ := (pts_reg hsq hr).1 p hp
  obtain ⟨o, c, e2⟩ := spotOf_ok (pts_ok bs p hp).d
  have : spotOf p = s := sp_uniq o (regS_sz hr hs).ok c (regS_cop hr hs) (e2.trans e.symm)
  rw [this]
  exact ⟨hs, e⟩
def Apart (l : List Pl) : Prop := l.Pairwise fun p q => alike p q = false
theorem pStep_apart {l : List Bd} {a b : Bd} {out : List Pl} (h : Apart out) : Apart (pStep l a b out) := by
  unfold pStep
  split
  · rename_i hk
    refine List.pairwise_append.2 ⟨h, List.pairwise_singleton _ _, fun p hp q hq => ?_⟩
    rw [List.mem_singleton] at hq
    unfold keptB at hk
    rw [Bool.and_eq_true] at hk
    have := List.all_eq_true.1 hk.2 p hp
    rw [hq]; simpa using this
  · exact h
theorem ptsIn_apart {l : List Bd} {a : Bd} : ∀ {r : List Bd} {out : List Pl}, Apart out → Apart (ptsIn l a r out)
  | [], _, h => h
  | _ :: r, _, h => by rw [ptsIn]; exact ptsIn_apart (r := r) (pStep_apart h)
theorem ptsGo_apart {l : List Bd} : ∀ {r dn : List Bd} {out : List Pl}, Apart out → Apart (ptsGo l dn r out)
  | [], _, _, h => h
  | _ :: r, _, _, h => by rw [ptsGo]; exact ptsGo_apart (r := r) (ptsIn_apart h)
theorem pts_apart (l : List Bd) : Apart (pts l) := ptsGo_apart List.Pairwise.nil
theorem sub_len {α : Type} [DecidableEq α] : ∀ {l m : List α}, l.Nodup → (∀ x ∈ l, x ∈ m) → l.length ≤ m.length
  | [], m, _, _ => Nat.zero_le _
  | x :: l, m, h, hs => by
    obtain ⟨h1, h2⟩ := List.nodup_cons.1 h
    have hx := hs x (by simp)
    have := sub_len (l := l) (m := m.erase x) h2 fun y hy => (List.mem_erase_of_ne (fun e => h1 (by rw [← e]; exact hy))).2 (hs y (List.mem_cons_of_mem _ hy))
    rw [List.length_erase_of_mem hx] at this
    have := List.length_pos_of_mem hx
    rw [List.length_cons]; omega
theorem spots_nodup {bs : List Bd} (hsq : ∀ b ∈ bsq, b ∈ bs) (hr : ∀ b ∈ bs, BdSz b) : ((pts bs).map spotOf).Nodup := by
  have key : ∀ l : List Pl, Apart l → (∀ p ∈ l, p ∈ pts bs) → (l.map spotOf).Nodup := by
    intro l
    induction l with
    | nil => intro _ _; exact List.nodup_nil
    | cons p l ih =>
      intro h hm
      obtain ⟨h1, h2⟩ := List.pairwise_cons.1 h
      rw [List.map_cons, List.nodup_cons]
      refine ⟨fun hp => ?_, ih h2 fun q hq => hm q (List.mem_cons_of_mem _ hq)⟩
      obtain ⟨q, hq, e⟩ := List.mem_map.1 hp
      have hp2 := hm p (by simp)
      have hq2 := hm q (List.mem_cons_of_mem _ hq)
      have e1 := (pts_spot hsq hr hp2).2
      have e2 := (pts_spot hsq hr hq2).2
      have : alike p q = true := (alike_pt (pts_ok bs p hp2).d (pts_ok bs q hq2).d).2 (by rw [← e1, ← e2, e])
      rw [h1 q hq] at this; cases this
  exact key _ (pts_apart bs) fun _ h => h
theorem pts_len {bs : List Bd} (hsq : ∀ b ∈ bsq, b ∈ bs) (hr : ∀ b ∈ bs, BdSz b) : (pts bs).length = (regS bs).length := by
  have h1 := sub_len (spots_nodup hsq hr) (m := regS bs) fun s hs => by
    obtain ⟨p, hp, rfl⟩ := List.mem_map.1 hs
    exact (pts_spot hsq hr hp).1
  have h2 := sub_len (regS_round hsq hr).2.1 (m := (pts bs).map spotOf) fun s hs => by
    obtain ⟨p, hp, e⟩ := (pts_reg hsq hr).2 s hs
    refine List.mem_map.2 ⟨p, hp, ?_⟩
    have := pts_spot hsq hr hp
    exact regS_uniq hr this.1 hs (this.2.trans e)
  rw [List.length_map] at h1 h2
  omega
def nxB (own : List Pl) (now q : Pl) : Bool := !alike q now && own.all fun r => decide (0 ≤ sideI now q r)
def nxF (own : List Pl) (now : Pl) : Pl := ((own.find? (nxB own now))).getD now
def outS (own : List Pl) : Nat → Pl → List Sp
  | 0, _ => []
  | n + 1, now => spotOf now :: outS own n (nxF own now)
theorem nxF_ok {bs : List Bd} (hsq : ∀ b ∈ bsq, b ∈ bs) (hr : ∀ b ∈ bs, BdSz b) {p : Pl} {s s' : Sp} (hp : p ∈ pts bs) (e : spotOf p = s) (h : NxtS bs s s') : nxF (pts bs) p ∈ pts bs ∧ spotOf (nxF (pts bs) p) = s' := by
  subst e
  have pd := (pts_ok bs p hp).d
  have pe := (pts_spot hsq hr hp).2
  have nx : ∀ q ∈ pts bs, nxB (pts bs) p q = true ↔ NxtS bs (spotOf p) (spotOf q) := fun q hq => by
    have qd := (pts_ok bs q hq).d
    obtain ⟨q1, q2⟩ := pts_spot hsq hr hq
    unfold nxB
    rw [Bool.and_eq_true, List.all_eq_true]
    constructor
    · rintro ⟨h1, h2⟩
      refine ⟨(pts_spot hsq hr hp).1, q1, fun e => ?_, fun r hr2 => ?_⟩
      · rw [pe, q2] at e
        have := (alike_pt qd pd).2 e.symm
        rw [this] at h1; cases h1
      · obtain ⟨w, hw, ew⟩ := (pts_reg hsq hr).2 r hr2
        have := h2 w hw
        rw [decide_eq_true_eq, (side_sign pd qd (pts_ok bs w hw).d).1] at this
        rw [pe, q2, ← ew]; exact this
    · intro k
      refine ⟨?_, fun w hw => ?_⟩
      · cases h1 : alike q p
        · rfl
        · have := (alike_pt qd pd).1 h1
          exact absurd (by rw [pe, q2, this]) k.ne
      · obtain ⟨w1, w2⟩ := pts_spot hsq hr hw
        rw [decide_eq_true_eq, (side_sign pd qd (pts_ok bs w hw).d).1, ← pe, ← q2, ← w2]
        exact k.left _ w1
  obtain ⟨q, hq, e⟩ := (pts_reg hsq hr).2 s' h.mb
  have eq : spotOf q = s' := by
    have := pts_spot hsq hr hq
    exact regS_uniq hr this.1 h.mb (this.2.trans e)
  unfold nxF
  cases hf : (pts bs).find? (nxB (pts bs) p) with
  | none =>
    have := List.find?_eq_none.1 hf q hq
    exact absurd ((nx q hq).2 (by rw [eq]; exact h)) this
  | some w =>
    have hw := List.mem_of_find?_eq_some hf
    have hb := List.find?_some hf
    refine ⟨hw, ?_⟩
    have k := (nx w hw).1 hb
    exact k.uniq hsq hr h
theorem outS_eq {bs : List Bd} (hsq : ∀ b ∈ bsq, b ∈ bs) (hr : ∀ b ∈ bs, BdSz b) : ∀ (n j : Nat) (p : Pl), p ∈ pts bs → (regS bs)[j]? = some (spotOf p) → j + n = (regS bs).length → outS (pts bs) n p = (regS bs).drop j
  | 0, j, p, _, _, hn => by
    rw [outS, List.drop_of_length_le (by omega)]
  | n + 1, j, p, hp, hj, hn => by
    obtain ⟨hlt, e⟩ := List.getElem?_eq_some_iff.1 hj
    rw [outS, List.drop_eq_getElem_cons hlt, e]
    congr 1
    cases n with
    | zero => rw [outS, List.drop_of_length_le (by omega)]
    | succ n =>
      have hb : (regS bs)[j + 1]? = some ((regS bs)[j + 1]'(by omega)) := List.getElem?_eq_getElem _
      obtain ⟨h1, h2⟩ := nxF_ok hsq hr hp rfl ((regS_round hsq hr).1 j _ _ hj hb)
      exact outS_eq hsq hr (n + 1) (j + 1) _ h1 (by rw [hb, h2]) (by omega)
end Clip

open Go.Vm
open Clip (Pn Sg Nt Bd Rt Sp Co Pl)
namespace Go.Proofs.YtdlnjnfkbneibaaGreat
set_option maxRecDepth 20000
set_option maxHeartbeats 2000000

def encPn (p : Pn) : List D := [DI p.x, DI p.y]
theorem encPn_len (p : Pn) : (encPn p).length = 2 := rfl
def pns (l : List Pn) : V := .fs 2 l.length (l.flatMap encPn)
def vPn (p : Pn) : V := .agg [I p.x, I p.y]
def encSg (s : Sg) : List D := [DI s.f, DI s.t, DI s.r.x, DI s.r.y, DI s.l.x, DI s.l.y]
theorem encSg_len (s : Sg) : (encSg s).length = 6 := rfl
def sgs (l : List Sg) : V := .fs 6 l.length (l.flatMap encSg)
def vSg (s : Sg) : V := .agg [I s.f, I s.t, I s.r.x, I s.r.y, I s.l.x, I s.l.y]
def encN (N : Nt) : List D := [.sl 2 N.ps.length (N.ps.flatMap encPn), .sl 6 N.ss.length (N.ss.flatMap encSg)]
def vN (N : Nt) : V := .agg [pns N.ps, sgs N.ss]
def encBd (b : Bd) : List D := [DI b.A, DI b.B, DI b.C]
theorem encBd_len (b : Bd) : (encBd b).length = 3 := rfl
def bds (l : List Bd) : V := .fs 3 l.length (l.flatMap encBd)
def vBd (b : Bd) : V := .agg [I b.A, I b.B, I b.C]
def encSp (s : Sp) : List D := [DI s.X.N, DI s.X.D, DI s.Y.N, DI s.Y.D]
theorem encSp_len (s : Sp) : (encSp s).length = 4 := rfl
def sps (l : List Sp) : V := .fs 4 l.length (l.flatMap encSp)
def encCo (c : Co) : List D := [DI c.s.X.N, DI c.s.X.D, DI c.s.Y.N, DI c.s.Y.D, DI c.al.A, DI c.al.B, DI c.al.C]
theorem encCo_len (c : Co) : (encCo c).length = 7 := rfl
def encPl (p : Pl) : List D := [DI p.x, DI p.y, DI p.d]
theorem encPl_len (p : Pl) : (encPl p).length = 3 := rfl
end Go.Proofs.YtdlnjnfkbneibaaGreat

open Go.Vm
open Clip (Pn Sg Nt Bd Rt Sp Co Pl okP okD crs okP_iff okD_iff sgE chkG chk)
namespace Go.Proofs.YtdlnjnfkbneibaaGreat
set_option maxRecDepth 20000
set_option maxHeartbeats 2000000

theorem vc_from (n a b : Int) (h : Hp) : VC Tryz.prog 86 [I n, I a, I b] h (B (decide (a ≤ n ∧ n ≤ b))) h := by
  refine VC.body Tryz.func86 rfl Tryz.ntmps86 Tryz.call86 (h.grows_refl) rfl ?_; conv => whnf
  repeat' (first | ((first | refine zs1 ?_ | refine zs2 ?_ | refine zs3 ?_ | refine zs4 ?_ | refine zs5 ?_ | refine zs6 [] ?_); conv => whnf) | ((first | apply zi1 | apply zi2 | apply zi3 | apply zi4 | apply zi5) <;> intro _ <;> conv => whnf))
  all_goals (refine VOut.same ?_; simp [V.ren]; try omega)
theorem vc_beside (n a b : Int) (h : Hp) : VC Tryz.prog 104 [I n, I a, I b] h (B (decide (n < a ∨ b < n))) h := by
  refine VC.body Tryz.func104 rfl Tryz.ntmps104 Tryz.call104 (h.grows_refl) rfl ?_; conv => whnf
  repeat' (first | ((first | refine zs1 ?_ | refine zs2 ?_ | refine zs3 ?_ | refine zs4 ?_ | refine zs5 ?_ | refine zs6 [] ?_); conv => whnf) | ((first | apply zi1 | apply zi2 | apply zi3 | apply zi4 | apply zi5) <;> intro _ <;> conv => whnf))
  all_goals (refine VOut.same ?_; simp [V.ren]; try omega)
def PnB (p : Pn) : Prop := (-2000000 ≤ p.x ∧ p.x ≤ 2000000) ∧ (-2000000 ≤ p.y ∧ p.y ≤ 2000000)
theorem crs_b {a b : Pn} (ha : PnB a) (hb : PnB b) : (-4000000000000 ≤ a.x * b.y ∧ a.x * b.y ≤ 4000000000000) ∧ (-4000000000000 ≤ a.y * b.x ∧ a.y * b.x ≤ 4000000000000) := by
  have h1 := Clip.mulb (A := 2000000) (B := 2000000) ha.1 hb.2
  have h2 := Clip.mulb (A := 2000000) (B := 2000000) ha.2 hb.1
  omega
theorem vc_cross (a b : Pn) (h : Hp) (ha : PnB a) (hb : PnB b) : VC Tryz.prog 89 [vPn a, vPn b] h (I (crs a b)) h := by
  have hc := crs_b ha hb
  refine VC.body Tryz.func89 rfl Tryz.ntmps89 Tryz.call89 (h.grows_refl) rfl ?_; conv => whnf
  repeat' (first | ((first | refine zs1 ?_ | refine zs2 ?_ | refine zs3 ?_ | refine zs4 ?_ | refine zs5 ?_ | refine zs6 [] ?_); conv => whnf) | ((first | apply zi1 | apply zi2 | apply zi3 | apply zi4 | apply zi5) <;> intro _ <;> conv => whnf))
  exact VOut.same rfl
theorem vc_rcross (a b c d : Int) (h : Hp) (ha : PnB ⟨a, b⟩) (hb : PnB ⟨c, d⟩) : VC Tryz.prog 77 [I a, I b, I c, I d] h (I (crs ⟨a, b⟩ ⟨c, d⟩)) h := by
  have hc := crs_b ha hb
  dsimp only at hc
  refine VC.body Tryz.func77 rfl Tryz.ntmps77 Tryz.call77 (h.grows_refl) rfl ?_; conv => whnf
  repeat' (first | ((first | refine zs1 ?_ | refine zs2 ?_ | refine zs3 ?_ | refine zs4 ?_ | refine zs5 ?_ | refine zs6 [] ?_); conv => whnf) | ((first | apply zi1 | apply zi2 | apply zi3 | apply zi4 | apply zi5) <;> intro _ <;> conv => whnf))
  exact VOut.same rfl
theorem vne60 (a b c d : Int) : vaggeq Tryz.prog .neq 27 (.agg [I a, I b]) (.agg [I c, I d]) = some (B (decide (¬ (a = c ∧ b = d)))) := by
  have : (!((a == c) && ((b == d) && true))) = decide (¬ (a = c ∧ b = d)) := by
    rw [Bool.eq_iff_iff, decide_eq_true_eq]; simp [-not_and]; omega
  rw [← this]
  unfold vaggeq
  rw [show eqTop Tryz.prog 27 = some (Sh.cons 0 1 false Sh.int (Sh.cons 1 1 false Sh.int Sh.nil)) by kernel_rfl]
  rfl
theorem vc_turned (d : Pn) (h : Hp) : VC Tryz.prog 51 [vPn d] h (B (okD d)) h := by
  unfold okD
  refine VC.body Tryz.func51 rfl Tryz.ntmps51 Tryz.call51 (h.grows_refl) rfl ?_; conv => whnf
  repeat' (first | ((first | refine zs1 ?_ | refine zs2 ?_ | refine zs3 ?_ | refine zs4 ?_ | refine zs5 ?_ | refine zs6 [] ?_); conv => whnf) | ((first | apply zi1 | apply zi2 | apply zi3 | apply zi4 | apply zi5) <;> intro _ <;> conv => whnf) | (refine VAgg.intro (vne60 _ _ _ _) ?_; conv => whnf) | (refine VCall.intro (vc_from _ _ _ _) ?_; conv => whnf))
  all_goals (refine VOut.dec ?_; first | (simp only [decide_eq_true_eq]; omega) | (simp; omega) | (simp; done))
theorem vc_landed (p : Pn) (h : Hp) : VC Tryz.prog 88 [vPn p] h (B (okP p)) h := by
  unfold okP
  refine VC.body Tryz.func88 rfl Tryz.ntmps88 Tryz.call88 (h.grows_refl) rfl ?_; conv => whnf
  repeat' (first | ((first | refine zs1 ?_ | refine zs2 ?_ | refine zs3 ?_ | refine zs4 ?_ | refine zs5 ?_ | refine zs6 [] ?_); conv => whnf) | ((first | apply zi1 | apply zi2 | apply zi3 | apply zi4 | apply zi5) <;> intro _ <;> conv => whnf) | (refine VCall.intro (vc_from _ _ _ _) ?_; conv => whnf))
  all_goals (refine VOut.dec ?_; first | (simp only [decide_eq_true_eq]; omega) | (simp; omega) | (simp; done))
theorem okD_not (d : Pn) : (!okD d) = decide ((d.x = 0 ∧ d.y = 0) ∨ (d.x < -50 ∨ 50 < d.x) ∨ (d.y < -50 ∨ 50 < d.y)) := by
  cases h : okD d
  · rw [Bool.not_false, eq_comm, decide_eq_true_eq]
    have : ¬ (okD d = true) := by rw [h]; decide
    rw [okD_iff] at this; omega
  · have := okD_iff.1 h
    rw [Bool.not_true, eq_comm, decide_eq_false_iff_not]; omega
theorem vc_turnless (d : Pn) (h : Hp) : VC Tryz.prog 57 [vPn d] h (B (!okD d)) h := by
  rw [okD_not]
  refine VC.body Tryz.func57 rfl Tryz.ntmps57 Tryz.call57 (h.grows_refl) rfl ?_; conv => whnf
  repeat' (first | ((first | refine zs1 ?_ | refine zs2 ?_ | refine zs3 ?_ | refine zs4 ?_ | refine zs5 ?_ | refine zs6 [] ?_); conv => whnf) | ((first | apply zi1 | apply zi2 | apply zi3 | apply zi4 | apply zi5) <;> intro _ <;> conv => whnf) | (refine VCall.intro (vc_beside _ _ _ _) ?_; conv => whnf))
  all_goals (refine VOut.dec ?_; first | (simp only [decide_eq_true_eq]; omega) | (simp; omega) | (simp; done))
/-! ### all, of points -/

def fidx {α : Type} (q : α → Bool) : List α → Int → Int
  | [], _ => -1
  | a :: r, i => bif q a then i else fidx q r (i + 1)
theorem fidx_at {α : Type} {q : α → Bool} {a : α} {l : List α} {k : Nat} (ha : l[k]? = some a) : fidx q (l.drop k) k = bif q a then (k : Int) else fidx q (l.drop (k + 1)) ((k + 1 : Nat) : Int) := by
  obtain ⟨h1, rfl⟩ := List.getElem?_eq_some_iff.1 ha
  rw [List.drop_eq_getElem_cons h1, fidx]; rfl
theorem fidx_nn {α : Type} {q : α → Bool} : ∀ (l : List α) (i : Int), 0 ≤ i → ((0 ≤ fidx q l i) ↔ l.any q = true)
  | [], i, _ => by simp [fidx]
  | a :: r, i, hi => by
    rw [fidx, List.any_cons]
    cases h : q a
    · rw [cond_false, fidx_nn r (i + 1) (by omega), Bool.false_or]
    · rw [cond_true, Bool.true_or]; simp [hi]
theorem vc_IndexP (l : List Pn) (q : Pn → Bool) (g : FuncId) (caps : List D) (hl : l.length ≤ 200000000) (hso : ∀ (e : Pn) (h : Hp), VC Tryz.prog g ([vPn e] ++ D.vs caps) h (B (q e)) h) (h : Hp) :
    VC Tryz.prog 140 [pns l, .func (.func g) [] (D.vs caps)] h (I (fidx q l 0)) h := by
  obtain ⟨E, hE⟩ : ∃ E, E = fidx q l 0 := ⟨_, rfl⟩
  rw [← hE]
  refine VC.body Tryz.func140 rfl Tryz.ntmps140 Tryz.call140 (h.grows_refl) rfl ?_; conv => whnf
  rw [rens_dvs]
  refine VCode.lp (fun k : Nat => [(0, pns l), (1, .func (.func g) [] (D.vs caps)), (7, I l.length), (8, I k)]) (fun _ => []) (fun k => k ≤ l.length ∧ E = fidx q (l.drop k) k) (fun k => l.length - k) 0 ⟨Nat.zero_le _, hE⟩ ?_ ?_
  · conv => whnf
    refine Retell.turn ⟨[], 0, [], []⟩ (TurnOk.mk' _ _ [] [] (OutOk.lift _) rfl (by decide) zb trivial trivial rfl) zv zm
  · rintro k ⟨h1, h2⟩
    conv => whnf
    refine VIte.dec (fun h3 => ?_) (fun h3 => ?_)
    · have ha : l[k]? = some l[k] := List.getElem?_eq_getElem (by omega)
      generalize l[k] = a at ha
      rw [fidx_at ha] at h2
      conv => whnf
      repeat' (first | ((first | refine zs1 ?_ | refine zs2 ?_ | refine zs3 ?_ | refine zs4 ?_ | refine zs5 ?_ | refine zs6 [] ?_); conv => whnf) | ((first | apply zi1 | apply zi2 | apply zi3 | apply zi4 | apply zi5) <;> intro _ <;> conv => whnf) | (refine VAny.ix encPn_len k (by omega) rfl ha ?_; conv => whnf))
      refine VCall.intro (hso a _) ?_
      conv => whnf
      cases hq : q a
      · rw [hq] at h2
        conv => whnf
        repeat (first | ((first | refine zs1 ?_ | refine zs2 ?_ | refine zs3 ?_ | refine zs4 ?_ | refine zs5 ?_ | refine zs6 [] ?_); conv => whnf))
        refine LEnd.intro (k + 1) ⟨by omega, h2⟩ (by omega) ?_
        conv => whnf
        refine Retell.turn ⟨[], 0, [], []⟩ (TurnOk.mk' _ _ [] [] (OutOk.lift _) rfl (by decide) zb trivial trivial rfl) zv zm
      · rw [hq] at h2
        rw [h2]
        conv => whnf
        repeat (first | ((first | refine zs1 ?_ | refine zs2 ?_ | refine zs3 ?_ | refine zs4 ?_ | refine zs5 ?_ | refine zs6 [] ?_); conv => whnf))
        exact VOut.same rfl
    · rw [List.drop_of_length_le (by omega), fidx] at h2
      rw [h2]
      conv => whnf
      repeat (first | ((first | refine zs1 ?_ | refine zs2 ?_ | refine zs3 ?_ | refine zs4 ?_ | refine zs5 ?_ | refine zs6 [] ?_); conv => whnf))
      exact VOut.same rfl
theorem vc_ContP (l : List Pn) (q : Pn → Bool) (g : FuncId) (caps : List D) (hl : l.length ≤ 200000000) (hso : ∀ (e : Pn) (h : Hp), VC Tryz.prog g ([vPn e] ++ D.vs caps) h (B (q e)) h) (h : Hp) :
    VC Tryz.prog 125 [pns l, .func (.func g) [] (D.vs caps)] h (B (decide (l.any q = true))) h := by
  have e := fidx_nn (q := q) l 0 (Int.le_refl _)
  have c := fun h => vc_IndexP l q g caps hl hso h
  generalize fidx q l 0 = E at e c
  refine VC.body Tryz.func125 rfl Tryz.ntmps125 Tryz.call125 (h.grows_refl) rfl ?_; conv => whnf
  rw [rens_dvs]
  repeat' (first | ((first | refine zs1 ?_ | refine zs2 ?_ | refine zs3 ?_ | refine zs4 ?_ | refine zs5 ?_ | refine zs6 [] ?_); conv => whnf) | ((first | apply zi1 | apply zi2 | apply zi3 | apply zi4 | apply zi5) <;> intro _ <;> conv => whnf) | (refine VCall.intro (c _) ?_; conv => whnf))
  refine VOut.dec ?_
  rw [decide_eq_true_eq]
  exact e
theorem vc_all1 (q : Pn → Bool) (g : FuncId) (hso : ∀ (e : Pn) (h : Hp), VC Tryz.prog g [vPn e] h (B (q e)) h) (p : Pn) (h : Hp) : VC Tryz.prog 126 ([vPn p] ++ D.vs [.pt [.func (.func g) [] []]]) h (B (!q p)) h := by
  have c := fun h => hso p h
  refine VC.body Tryz.func126 rfl Tryz.ntmps126 Tryz.call126 (h.grows_refl) rfl ?_; conv => whnf
  repeat' (first | ((first | refine zs1 ?_ | refine zs2 ?_ | refine zs3 ?_ | refine zs4 ?_ | refine zs5 ?_ | refine zs6 [] ?_); conv => whnf) | ((first | apply zi1 | apply zi2 | apply zi3 | apply zi4 | apply zi5) <;> intro _ <;> conv => whnf) | (refine VCall.intro (c _) ?_; conv => whnf))
  exact VOut.same rfl
theorem vc_all (l : List Pn) (q : Pn → Bool) (g : FuncId) (hl : l.length ≤ 200000000) (hso : ∀ (e : Pn) (h : Hp), VC Tryz.prog g [vPn e] h (B (q e)) h) (h : Hp) : VC Tryz.prog 87 [pns l, .func (.func g) [] []] h (B (l.all q)) h := by
  have c := fun h => vc_ContP l (fun p => !q p) 126 [.pt [.func (.func g) [] []]] hl (fun p h => vc_all1 q g hso p h) h
  have e : (!decide ((l.any fun p => !q p) = true)) = l.all q := by
    rw [List.all_eq_not_any_not]
    generalize (l.any fun p => !q p) = z
    cases z <;> rfl
  rw [← e]
  generalize decide ((l.any fun p => !q p) = true) = E at c
  refine VC.body Tryz.func87 rfl Tryz.ntmps87 Tryz.call87 (h.grows_refl) rfl ?_; conv => whnf
  repeat (first | ((first | refine zs1 ?_ | refine zs2 ?_ | refine zs3 ?_ | refine zs4 ?_ | refine zs5 ?_ | refine zs6 [] ?_); conv => whnf))
  refine VCall.intro (VC.give (args' := [pns l, .func (.func 126) [] [.fp [.func (.func g) [] []]]]) (loc' := [.dead]) [(0, [.func (.func g) [] []])] [] (OutOk.lift _) zb zf (by exact FmAll.nil) rfl zv (c _)) ?_
  conv => whnf
  repeat (first | ((first | refine zs1 ?_ | refine zs2 ?_ | refine zs3 ?_ | refine zs4 ?_ | refine zs5 ?_ | refine zs6 [] ?_); conv => whnf))
  exact VOut.same rfl
end Go.Proofs.YtdlnjnfkbneibaaGreat

open Go.Vm
open Clip (Pn Sg Nt Bd Rt Sp Co Pl okP okD crs okP_iff okD_iff sgE chkG chk)
namespace Go.Proofs.YtdlnjnfkbneibaaGreat
set_option maxRecDepth 20000
set_option maxHeartbeats 4000000

theorem chkG_at {n : Int} {l : List Sg} {k : Nat} {s : Sg} (h : l[k]? = some s) : chkG n (l.drop k) = if sgE n s = 0 then chkG n (l.drop (k + 1)) else sgE n s := by
  obtain ⟨hlt, rfl⟩ := List.getElem?_eq_some_iff.1 h
  rw [List.drop_eq_getElem_cons hlt, chkG]
theorem okD_b {d : Pn} (h : okD d = true) : PnB d := by
  have := okD_iff.1 h
  exact ⟨by omega, by omega⟩
theorem vc_check (N : Nt) (h : Hp) (hn : N.ps.length ≤ 4000000) (hm : N.ss.length ≤ 4000000) : VC Tryz.prog 35 [vN N] h (I (chk N)) h := by
  obtain ⟨E, hE⟩ : ∃ E, E = chk N := ⟨_, rfl⟩
  rw [← hE]
  unfold chk at hE
  have cA := fun h => vc_all N.ps okP 88 (by omega) vc_landed h
  generalize hP : N.ps.all okP = P at cA hE
  refine VC.body Tryz.func35 rfl Tryz.ntmps35 Tryz.call35 (h.grows_refl) rfl ?_; conv => whnf
  repeat' (first | ((first | refine zs1 ?_ | refine zs2 ?_ | refine zs3 ?_ | refine zs4 ?_ | refine zs5 ?_ | refine zs6 [] ?_); conv => whnf) | ((first | apply zi1 | apply zi2 | apply zi3 | apply zi4 | apply zi5) <;> intro _ <;> conv => whnf) | (refine VCall.intro (vc_from _ _ _ _) ?_; conv => whnf) | (refine VCall.intro (cA _) ?_; conv => whnf))
  · rw [if_pos (by omega)] at hE; rw [hE]; exact VOut.same rfl
  · rw [if_pos (by omega)] at hE; rw [hE]; exact VOut.same rfl
  · rename_i h1 h2 h3
    rw [if_neg (by omega), if_neg (by simpa using h3)] at hE; rw [hE]; exact VOut.same rfl
  · rename_i h1 h2 h3
    rw [if_neg (by omega), if_pos (by simpa using h3)] at hE
    refine VCode.lp (fun k : Nat => [(1, .ptr (.loc 0) 0), (2, I 0), (23, sgs N.ss), (24, I N.ss.length), (25, I k)]) (fun _ => [.flat true (encN N)]) (fun k => k ≤ N.ss.length ∧ E = chkG N.ps.length (N.ss.drop k)) (fun k => N.ss.length - k) 0 ⟨Nat.zero_le _, hE⟩ ?_ ?_
    · conv => whnf
      refine Retell.turn ⟨[0], 1, [], []⟩ (TurnOk.mk' _ _ [] [] (OutOk.lift _) rfl (by decide) zb trivial trivial rfl) zv zm
    · rintro k ⟨h4, h5⟩
      conv => whnf
      refine VIte.dec (fun h6 => ?_) (fun h6 => ?_)
      · have hk : N.ss[k]? = some N.ss[k] := List.getElem?_eq_getElem (by omega)
        generalize N.ss[k] = s at hk
        rw [chkG_at hk] at h5
        have cR := fun h => vc_turned s.r h
        have cL := fun h => vc_turned s.l h
        have hs : sgE N.ps.length s = if s.f < 0 ∨ (N.ps.length : Int) - 1 < s.f ∨ s.t < 0 ∨ (N.ps.length : Int) - 1 < s.t ∨ s.f = s.t then 2 else if okD s.r = true ∧ okD s.l = true ∧ 0 < crs s.r s.l then 0 else 4 := rfl
        cases hr : okD s.r <;> cases hl : okD s.l
        all_goals (
          rw [hr] at cR hs
          rw [hl] at cL hs
          conv => whnf
          refine VAny.ix encSg_len k rfl rfl hk ?_
          conv => whnf
          try have cC := fun h => vc_cross s.r s.l h (okD_b hr) (okD_b hl)
          repeat' (first | ((first | refine zs1 ?_ | refine zs2 ?_ | refine zs3 ?_ | refine zs4 ?_ | refine zs5 ?_ | refine zs6 [] ?_); conv => whnf) | ((first | apply zi1 | apply zi2 | apply zi3 | apply zi4 | apply zi5) <;> intro _ <;> conv => whnf) | (refine VCall.intro (vc_from _ _ _ _) ?_; conv => whnf) | (refine VCall.intro (cR _) ?_; conv => whnf) | (refine VCall.intro (cL _) ?_; conv => whnf) | (refine VCall.intro (cC _) ?_; conv => whnf)))
        all_goals first
          | (rw [if_pos (by omega)] at hs; rw [hs, if_neg (by decide)] at h5; rw [h5]; exact VOut.same rfl)
          | (rw [if_neg (by omega), if_neg (by omega)] at hs; rw [hs, if_neg (by decide)] at h5; rw [h5]; exact VOut.same rfl)
          | (rw [if_neg (by omega), if_neg (by simp)] at hs; rw [hs, if_neg (by decide)] at h5; rw [h5]; exact VOut.same rfl)
          | (rw [if_neg (by omega), if_pos ⟨rfl, rfl, by omega⟩] at hs
             rw [hs, if_pos rfl] at h5
             refine LEnd.intro (k + 1) ⟨by omega, h5⟩ (by omega) ?_
             conv => whnf
             refine Retell.turn ⟨[0], 2, [], []⟩ (TurnOk.mk' _ _ [] [] (OutOk.lift _) rfl (by decide) zb trivial trivial rfl) zv zm)
      · rw [List.drop_of_length_le (by omega), chkG] at h5
        rw [h5]
        conv => whnf
        repeat' (first | ((first | refine zs1 ?_ | refine zs2 ?_ | refine zs3 ?_ | refine zs4 ?_ | refine zs5 ?_ | refine zs6 [] ?_); conv => whnf) | ((first | apply zi1 | apply zi2 | apply zi3 | apply zi4 | apply zi5) <;> intro _ <;> conv => whnf))
        exact VOut.same rfl
theorem vc_rcheck (N : Nt) (h : Hp) (hn : N.ps.length ≤ 4000000) (hm : N.ss.length ≤ 4000000) : VC Tryz.prog 80 [vN N] h (I (chk N)) h := by
  obtain ⟨E, hE⟩ : ∃ E, E = chk N := ⟨_, rfl⟩
  rw [← hE]
  unfold chk at hE
  refine VC.body Tryz.func80 rfl Tryz.ntmps80 Tryz.call80 (h.grows_refl) rfl ?_; conv => whnf
  repeat' (first | ((first | refine zs1 ?_ | refine zs2 ?_ | refine zs3 ?_ | refine zs4 ?_ | refine zs5 ?_ | refine zs6 [] ?_); conv => whnf) | ((first | apply zi1 | apply zi2 | apply zi3 | apply zi4 | apply zi5) <;> intro _ <;> conv => whnf))
  · rw [if_pos (by omega)] at hE; rw [hE]; exact VOut.same rfl
  · rw [if_pos (by omega)] at hE; rw [hE]; exact VOut.same rfl
  · rw [if_pos (by omega)] at hE; rw [hE]; exact VOut.same rfl
  · rw [if_neg (by omega)] at hE
    refine VCode.lp (fun k : Nat => [(1, .ptr (.loc 0) 0), (2, I 0), (3, I k)]) (fun _ => [.flat true (encN N)]) (fun k => k ≤ N.ps.length ∧ E = if (N.ps.drop k).all okP = true then chkG N.ps.length N.ss else 4) (fun k => N.ps.length - k) 0 ⟨Nat.zero_le _, hE⟩ ?_ ?_
    · conv => whnf
      refine Retell.turn ⟨[0], 1, [], []⟩ (TurnOk.mk' _ _ [] [] (OutOk.lift _) rfl (by decide) zb trivial trivial rfl) zv zm
    · rintro k ⟨h4, h5⟩
      conv => whnf
      repeat' (first | ((first | refine zs1 ?_ | refine zs2 ?_ | refine zs3 ?_ | refine zs4 ?_ | refine zs5 ?_ | refine zs6 [] ?_); conv => whnf) | ((first | apply zi1 | apply zi2 | apply zi3 | apply zi4 | apply zi5) <;> intro _ <;> conv => whnf))
      · have hk : N.ps[k]? = some N.ps[k] := List.getElem?_eq_getElem (by omega)
        have hd : N.ps.drop k = N.ps[k] :: N.ps.drop (k + 1) := List.drop_eq_getElem_cons (by omega)
        rw [hd, List.all_cons] at h5
        generalize N.ps[k] = p at hk h5 hd
        have hp := okP_iff (p := p)
        repeat' (first | ((first | refine zs1 ?_ | refine zs2 ?_ | refine zs3 ?_ | refine zs4 ?_ | refine zs5 ?_ | refine zs6 [] ?_); conv => whnf) | ((first | apply zi1 | apply zi2 | apply zi3 | apply zi4 | apply zi5) <;> intro _ <;> conv => whnf) | (refine VAny.ix encPn_len k rfl rfl hk ?_; conv => whnf) | (refine VCall.intro (vc_beside _ _ _ _) ?_; conv => whnf))
        all_goals cases ho : okP p
        all_goals rw [ho] at hp h5
        all_goals first
          | (exfalso; have := hp.1 rfl; omega)
          | (exact absurd (hp.2 (by omega)) (by decide))
          | (rw [Bool.false_and, if_neg (by decide)] at h5; rw [h5]; exact VOut.same rfl)
          | (rw [Bool.true_and] at h5
             refine LEnd.intro (k + 1) ⟨by omega, h5⟩ (by omega) ?_
             conv => whnf
             refine Retell.turn ⟨[0], 1, [], []⟩ (TurnOk.mk' _ _ [] [] (OutOk.lift _) rfl (by decide) zb trivial trivial rfl) zv zm)
      · rw [List.drop_of_length_le (by omega), List.all_nil, if_pos rfl] at h5
        clear hE
        refine VCode.lp (fun k : Nat => [(1, .ptr (.loc 0) 0), (2, I 0), (4, I k)]) (fun _ => [.flat true (encN N)]) (fun k => k ≤ N.ss.length ∧ E = chkG N.ps.length (N.ss.drop k)) (fun k => N.ss.length - k) 0 ⟨Nat.zero_le _, h5⟩ ?_ ?_
        · conv => whnf
          refine Retell.turn ⟨[0], 1, [], []⟩ (TurnOk.mk' _ _ [] [] (OutOk.lift _) rfl (by decide) zb trivial trivial rfl) zv zm
        · rintro k ⟨h4, h5⟩
          conv => whnf
          repeat' (first | ((first | refine zs1 ?_ | refine zs2 ?_ | refine zs3 ?_ | refine zs4 ?_ | refine zs5 ?_ | refine zs6 [] ?_); conv => whnf) | ((first | apply zi1 | apply zi2 | apply zi3 | apply zi4 | apply zi5) <;> intro _ <;> conv => whnf))
          · have hk : N.ss[k]? = some N.ss[k] := List.getElem?_eq_getElem (by omega)
            generalize N.ss[k] = s at hk
            rw [chkG_at hk] at h5
            have cR := fun h => vc_turnless s.r h
            have cL := fun h => vc_turnless s.l h
            have hs : sgE N.ps.length s = if s.f < 0 ∨ (N.ps.length : Int) - 1 < s.f ∨ s.t < 0 ∨ (N.ps.length : Int) - 1 < s.t ∨ s.f = s.t then 2 else if okD s.r = true ∧ okD s.l = true ∧ 0 < crs s.r s.l then 0 else 4 := rfl
            cases hr : okD s.r <;> cases hl : okD s.l
            all_goals (
              rw [hr] at cR hs
              rw [hl] at cL hs
              try have cC := fun h => vc_rcross s.r.x s.r.y s.l.x s.l.y h (okD_b hr) (okD_b hl)
              repeat' (first | ((first | refine zs1 ?_ | refine zs2 ?_ | refine zs3 ?_ | refine zs4 ?_ | refine zs5 ?_ | refine zs6 [] ?_); conv => whnf) | ((first | apply zi1 | apply zi2 | apply zi3 | apply zi4 | apply zi5) <;> intro _ <;> conv => whnf) | (refine VAny.ix encSg_len k rfl rfl hk ?_; conv => whnf) | (refine VCall.intro (vc_beside _ _ _ _) ?_; conv => whnf) | (refine VCall.intro (cR _) ?_; conv => whnf) | (refine VCall.intro (cL _) ?_; conv => whnf) | (refine VCall.intro (cC _) ?_; conv => whnf)))
            all_goals first
              | (rw [if_pos (by omega)] at hs; rw [hs, if_neg (by decide)] at h5; rw [h5]; exact VOut.same rfl)
              | (rw [if_neg (by omega), if_neg (by omega)] at hs; rw [hs, if_neg (by decide)] at h5; rw [h5]; exact VOut.same rfl)
              | (rename_i hq; rw [if_neg (by omega), if_neg (fun hh => absurd hh.2.2 (by have hq2 : crs ⟨s.r.x, s.r.y⟩ ⟨s.l.x, s.l.y⟩ < 1 := hq; have e : crs s.r s.l = crs ⟨s.r.x, s.r.y⟩ ⟨s.l.x, s.l.y⟩ := rfl; omega))] at hs; rw [hs, if_neg (by decide)] at h5; rw [h5]; exact VOut.same rfl)
              | (rename_i hq
                 rw [if_neg (by omega), if_pos ⟨rfl, rfl, by have hq2 : ¬ crs ⟨s.r.x, s.r.y⟩ ⟨s.l.x, s.l.y⟩ < 1 := hq; have e : crs s.r s.l = crs ⟨s.r.x, s.r.y⟩ ⟨s.l.x, s.l.y⟩ := rfl; omega⟩] at hs
                 rw [hs, if_pos rfl] at h5
                 refine LEnd.intro (k + 1) ⟨by omega, h5⟩ (by omega) ?_
                 conv => whnf
                 refine Retell.turn ⟨[0], 2, [], []⟩ (TurnOk.mk' _ _ [] [] (OutOk.lift _) rfl (by decide) zb trivial trivial rfl) zv zm)
              | (rw [if_neg (by omega), if_neg (fun hh => by simp at hh)] at hs; rw [hs, if_neg (by decide)] at h5; rw [h5]; exact VOut.same rfl)
          · rw [List.drop_of_length_le (by omega), chkG] at h5
            rw [h5]
            conv => whnf
            repeat' (first | ((first | refine zs1 ?_ | refine zs2 ?_ | refine zs3 ?_ | refine zs4 ?_ | refine zs5 ?_ | refine zs6 [] ?_); conv => whnf) | ((first | apply zi1 | apply zi2 | apply zi3 | apply zi4 | apply zi5) <;> intro _ <;> conv => whnf))
            exact VOut.same rfl
end Go.Proofs.YtdlnjnfkbneibaaGreat

open Go.Vm
open Clip (Pn Sg Nt Bd Rt Sp Co Pl okP okD crs okP_iff okD_iff sgE chkG chk NtOk SgOk pAt pAt_ok pAt_get offB offS offL offS_len chk_ok)
namespace Go.Proofs.YtdlnjnfkbneibaaGreat
set_option maxRecDepth 20000
set_option maxHeartbeats 4000000

def encDk (N : Nt) (p : Int) : List D := [.sl 2 N.ps.length (N.ps.flatMap encPn), .sl 6 N.ss.length (N.ss.flatMap encSg), DI p]
theorem okP_b {p : Pn} (h : (0 ≤ p.x ∧ p.x ≤ 1000) ∧ (0 ≤ p.y ∧ p.y ≤ 1000)) : PnB p := ⟨by omega, by omega⟩
def lessP (a b : Pn) : Pn := ⟨a.x - b.x, a.y - b.y⟩
theorem lessP_b {a b : Pn} (ha : (0 ≤ a.x ∧ a.x ≤ 1000) ∧ (0 ≤ a.y ∧ a.y ≤ 1000)) (hb : (0 ≤ b.x ∧ b.x ≤ 1000) ∧ (0 ≤ b.y ∧ b.y ≤ 1000)) : PnB (lessP a b) := ⟨by unfold lessP; dsimp only; omega, by unfold lessP; dsimp only; omega⟩
theorem vc_less (a b : Pn) (h : Hp) (ha : PnB a) (hb : PnB b) : VC Tryz.prog 152 [vPn a, vPn b] h (vPn (lessP a b)) h := by
  have h1 := ha.1
  have h2 := ha.2
  have h3 := hb.1
  have h4 := hb.2
  refine VC.body Tryz.func152 rfl Tryz.ntmps152 Tryz.call152 (h.grows_refl) rfl ?_; conv => whnf
  repeat' (first | ((first | refine zs1 ?_ | refine zs2 ?_ | refine zs3 ?_ | refine zs4 ?_ | refine zs5 ?_ | refine zs6 [] ?_); conv => whnf) | ((first | apply zi1 | apply zi2 | apply zi3 | apply zi4 | apply zi5) <;> intro _ <;> conv => whnf))
  exact VOut.same rfl
theorem vc_holds (s : Sg) (a b : Pn) (h : Hp) (hr : okD s.r = true) (hl : okD s.l = true) (ha : (0 ≤ a.x ∧ a.x ≤ 1000) ∧ (0 ≤ a.y ∧ a.y ≤ 1000)) (hb : (0 ≤ b.x ∧ b.x ≤ 1000) ∧ (0 ≤ b.y ∧ b.y ≤ 1000)) :
    VC Tryz.prog 130 [vSg s, vPn a, vPn b] h (B (decide (0 ≤ crs s.r (lessP b a) ∧ 0 ≤ crs (lessP b a) s.l))) h := by
  have hv := lessP_b hb ha
  have c1 := fun h => vc_less b a h (okP_b hb) (okP_b ha)
  have c2 := fun h => vc_cross s.r (lessP b a) h (okD_b hr) hv
  have c3 := fun h => vc_cross (lessP b a) s.l h hv (okD_b hl)
  generalize crs s.r (lessP b a) = X at c2 ⊢
  generalize crs (lessP b a) s.l = Y at c3 ⊢
  generalize lessP b a = v at c1 c2 c3
  refine VC.body Tryz.func130 rfl Tryz.ntmps130 Tryz.call130 (h.grows_refl) rfl ?_; conv => whnf
  repeat' (first | ((first | refine zs1 ?_ | refine zs2 ?_ | refine zs3 ?_ | refine zs4 ?_ | refine zs5 ?_ | refine zs6 [] ?_); conv => whnf) | ((first | apply zi1 | apply zi2 | apply zi3 | apply zi4 | apply zi5) <;> intro _ <;> conv => whnf) | (refine VCall.intro (c1 _) ?_; conv => whnf) | (refine VCall.intro (c2 _) ?_; conv => whnf) | (refine VCall.intro (c3 _) ?_; conv => whnf))
  all_goals (refine VOut.dec ?_; first | (simp only [decide_eq_true_eq]; omega) | (simp; omega) | (simp; done))
theorem offS_at {ps : List Pn} {l : List Sg} {k : Nat} {s : Sg} (h : l[k]? = some s) : offS ps k (l.drop k) = if offB ps s = true then (k : Int) :: offS ps ((k + 1 : Nat) : Int) (l.drop (k + 1)) else offS ps ((k + 1 : Nat) : Int) (l.drop (k + 1)) := by
  obtain ⟨hlt, rfl⟩ := List.getElem?_eq_some_iff.1 h
  rw [List.drop_eq_getElem_cons hlt, offS]; rfl
theorem offB_eq {ps : List Pn} {s : Sg} {a b : Pn} (ha : pAt ps s.f = a) (hb : pAt ps s.t = b) : (!offB ps s) = decide (0 ≤ crs s.r (lessP b a) ∧ 0 ≤ crs (lessP b a) s.l) := by
  unfold offB lessP
  rw [ha, hb]
  generalize crs s.r _ = X
  generalize crs _ s.l = Y
  rw [Bool.eq_iff_iff, decide_eq_true_eq]
  simp
theorem vc_off (N : Nt) (p : Int) (h : Hp) (o : NtOk N) : VC Tryz.prog 98 [.fp (encDk N p)] h (ints (offL N)) h := by
  have hn := o.n
  have hm := o.m
  obtain ⟨O, hO⟩ : ∃ O, O = offL N := ⟨_, rfl⟩
  rw [← hO]
  refine VC.body Tryz.func98 rfl Tryz.ntmps98 Tryz.call98 (h.grows_refl) rfl ?_; conv => whnf
  repeat' (first | ((first | refine zs1 ?_ | refine zs2 ?_ | refine zs3 ?_ | refine zs4 ?_ | refine zs5 ?_ | refine zs6 [] ?_); conv => whnf) | ((first | apply zi1 | apply zi2 | apply zi3 | apply zi4 | apply zi5) <;> intro _ <;> conv => whnf))
  refine VCode.lp (fun y : Nat × List Int => [(0, .fp (encDk N p)), (3, .gl (.loc 0) 1 y.2.length), (10, sgs N.ss), (11, I N.ss.length), (12, I y.1)]) (fun y => [.flat true (y.2.flatMap encI)]) (fun y => y.1 ≤ N.ss.length ∧ y.2.length ≤ y.1 ∧ O = y.2 ++ offS N.ps y.1 (N.ss.drop y.1)) (fun y => N.ss.length - y.1) (0, []) ⟨Nat.zero_le _, Nat.le_refl _, hO⟩ ?_ ?_
  · conv => whnf
    refine Retell.turn ⟨[0], 0, [], []⟩ (TurnOk.mk' _ _ [] [] (OutOk.lift _) rfl (by decide) zb trivial trivial rfl) zv zm
  · rintro ⟨k, w⟩ ⟨h1, h2, h3⟩
    dsimp only at h1 h2 h3
    conv => whnf
    refine VIte.dec (fun h4 => ?_) (fun h4 => ?_)
    · have hk : N.ss[k]? = some N.ss[k] := List.getElem?_eq_getElem (by omega)
      have so := o.s N.ss[k] (List.getElem_mem (by omega))
      generalize N.ss[k] = s at hk so
      have sf := so.f
      have st := so.t
      have hf : N.ps[s.f.toNat]? = some (N.ps[s.f.toNat]'(by omega)) := List.getElem?_eq_getElem _
      have ht : N.ps[s.t.toNat]? = some (N.ps[s.t.toNat]'(by omega)) := List.getElem?_eq_getElem _
      have pf := pAt_ok o sf
      have pt := pAt_ok o st
      rw [pAt_get hf] at pf
      rw [pAt_get ht] at pt
      have hb := offB_eq (s := s) (pAt_get hf) (pAt_get ht)
      generalize N.ps[s.f.toNat]'(by omega) = a at hf pf hb
      generalize N.ps[s.t.toNat]'(by omega) = b at ht pt hb
      have cH := fun h => vc_holds s a b h so.r so.l pf pt
      rw [← hb] at cH
      rw [offS_at hk] at h3
      cases hB : offB N.ps s
      all_goals (
        rw [hB] at cH h3
        conv => whnf
        refine VAny.ix encSg_len k rfl rfl hk ?_
        conv => whnf
        repeat' (first | ((first | refine zs1 ?_ | refine zs2 ?_ | refine zs3 ?_ | refine zs4 ?_ | refine zs5 ?_ | refine zs6 [] ?_); conv => whnf) | ((first | apply zi1 | apply zi2 | apply zi3 | apply zi4 | apply zi5) <;> intro _ <;> conv => whnf) | (refine VAny.ix encPn_len s.f.toNat (by omega) rfl hf ?_; conv => whnf) | (refine VAny.ix encPn_len s.t.toNat (by omega) rfl ht ?_; conv => whnf) | (refine VCall.intro (cH _) ?_; conv => whnf)))
      all_goals try (rename_i hz; exact absurd rfl hz)
      · rw [if_neg (by decide)] at h3
        refine LEnd.intro (k + 1, w) ⟨by dsimp only; omega, by dsimp only; omega, h3⟩ (by dsimp only; omega) ?_
        conv => whnf
        refine Retell.turn ⟨[0], 2, [], []⟩ (TurnOk.mk' _ _ [] [] (OutOk.lift _) rfl (by decide) zb trivial trivial rfl) zv zm
      · rw [if_pos rfl] at h3
        refine VMem.app1 (l := w) (k : Int) encI_len rfl rfl rfl rfl rfl (by omega) ?_
        conv => whnf
        repeat' (first | ((first | refine zs1 ?_ | refine zs2 ?_ | refine zs3 ?_ | refine zs4 ?_ | refine zs5 ?_ | refine zs6 [] ?_); conv => whnf) | ((first | apply zi1 | apply zi2 | apply zi3 | apply zi4 | apply zi5) <;> intro _ <;> conv => whnf))
        refine LEnd.intro (k + 1, w ++ [(k : Int)]) ⟨by dsimp only; omega, by dsimp only; rw [List.length_append]; simp only [List.length_singleton]; omega, by dsimp only; rw [h3, List.append_assoc]; rfl⟩ (by dsimp only; omega) ?_
        conv => whnf
        rw [List.length_append]
        refine Retell.turn ⟨[3], 4, [], []⟩ (TurnOk.mk' _ _ [] [] (OutOk.lift _) rfl (by decide) zb trivial trivial rfl) zv zm
    · rw [List.drop_of_length_le (by dsimp only at h4; omega), offS, List.append_nil] at h3
      subst h3
      conv => whnf
      repeat' (first | ((first | refine zs1 ?_ | refine zs2 ?_ | refine zs3 ?_ | refine zs4 ?_ | refine zs5 ?_ | refine zs6 [] ?_); conv => whnf) | ((first | apply zi1 | apply zi2 | apply zi3 | apply zi4 | apply zi5) <;> intro _ <;> conv => whnf))
      refine VOut.data 1 [(0, O.flatMap encI)] [] rfl zf (by exact FmAll.nil) zv
end Go.Proofs.YtdlnjnfkbneibaaGreat

open Go.Vm
open Clip (Pn Sg Nt Bd Rt Sp Co Pl okP okD crs okP_iff okD_iff sgE chkG chk NtOk SgOk pAt pAt_ok pAt_get offB offS offL offS_len chk_ok)
namespace Go.Proofs.YtdlnjnfkbneibaaGreat
set_option maxRecDepth 20000
set_option maxHeartbeats 4000000

theorem vc_Off_no (N : Nt) (h : Hp) (hn : N.ps.length ≤ 4000000) (hm : N.ss.length ≤ 4000000) (h0 : chk N ≠ 0) : VC Tryz.prog 46 [vN N] h (.tuple [.nilslice, I (chk N)]) h := by
  have c := fun h => vc_check N h hn hm
  generalize chk N = E at c h0
  refine VC.body Tryz.func46 rfl Tryz.ntmps46 Tryz.call46 (h.grows_refl) rfl ?_; conv => whnf
  repeat' (first | ((first | refine zs1 ?_ | refine zs2 ?_ | refine zs3 ?_ | refine zs4 ?_ | refine zs5 ?_ | refine zs6 [] ?_); conv => whnf) | ((first | apply zi1 | apply zi2 | apply zi3 | apply zi4 | apply zi5) <;> intro _ <;> conv => whnf) | (refine VCall.intro (c _) ?_; conv => whnf))
  · exact VOut.same rfl
  · exfalso; omega
theorem vc_Off_ok (N : Nt) (h : Hp) (o : NtOk N) : VC Tryz.prog 46 [vN N] h (.tuple [ints (offL N), I 0]) h := by
  have hn := o.n
  have hm := o.m
  have c := fun h => vc_check N h (by omega) (by omega)
  rw [chk_ok.2 o] at c
  have c2 := fun h => vc_off N 0 h o
  generalize offL N = O at c2
  refine VC.body Tryz.func46 rfl Tryz.ntmps46 Tryz.call46 (h.grows_refl) rfl ?_; conv => whnf
  repeat' (first | ((first | refine zs1 ?_ | refine zs2 ?_ | refine zs3 ?_ | refine zs4 ?_ | refine zs5 ?_ | refine zs6 [] ?_); conv => whnf) | ((first | apply zi1 | apply zi2 | apply zi3 | apply zi4 | apply zi5) <;> intro _ <;> conv => whnf) | (refine VCall.intro (c _) ?_; conv => whnf))
  · refine VCall.intro (VC.give (args' := [.fp (encDk N 0)]) (loc' := [.flat true (encN N), .dead]) [(1, encDk N 0)] [] (OutOk.lift _) zb zf (by exact FmAll.nil) rfl zv (c2 _)) ?_
    conv => whnf
    repeat (first | ((first | refine zs1 ?_ | refine zs2 ?_ | refine zs3 ?_ | refine zs4 ?_ | refine zs5 ?_ | refine zs6 [] ?_); conv => whnf))
    exact VOut.same rfl
def brE (N : Nt) (p : Int) : Int := if chk N ≠ 0 then chk N else if p < 0 ∨ (N.ps.length : Int) - 1 < p then 2 else 0
theorem vc_begun (N : Nt) (p : Int) (h : Hp) (hn : N.ps.length ≤ 4000000) (hm : N.ss.length ≤ 4000000) : VC Tryz.prog 50 [vN N, I p] h (.tuple [.fp (encDk N p), I (brE N p)]) h := by
  have c := fun h => vc_check N h hn hm
  obtain ⟨E, hE⟩ : ∃ E, E = brE N p := ⟨_, rfl⟩
  rw [← hE]
  unfold brE at hE
  generalize chk N = C at c hE
  refine VC.body Tryz.func50 rfl Tryz.ntmps50 Tryz.call50 (h.grows_refl) rfl ?_; conv => whnf
  repeat' (first | ((first | refine zs1 ?_ | refine zs2 ?_ | refine zs3 ?_ | refine zs4 ?_ | refine zs5 ?_ | refine zs6 [] ?_); conv => whnf) | ((first | apply zi1 | apply zi2 | apply zi3 | apply zi4 | apply zi5) <;> intro _ <;> conv => whnf) | (refine VCall.intro (c _) ?_; conv => whnf) | (refine VCall.intro (vc_from _ _ _ _) ?_; conv => whnf))
  all_goals first
    | (have : E = C := by rw [hE]; split <;> (try split) <;> omega
       rw [this]
       refine VOut.data 2 [(1, encDk N p)] [] rfl zf (by exact FmAll.nil) zv
       done)
    | (have : E = 2 := by rw [hE]; split <;> (try split) <;> omega
       rw [this]
       refine VOut.data 2 [(1, encDk N p)] [] rfl zf (by exact FmAll.nil) zv
       done)
theorem vc_roff (N : Nt) (s : Sg) (h : Hp) (o : NtOk N) (so : SgOk N.ps.length s) : VC Tryz.prog 123 [vN N, vSg s] h (B (offB N.ps s)) h := by
  have sf := so.f
  have st := so.t
  have hf : N.ps[s.f.toNat]? = some (N.ps[s.f.toNat]'(by omega)) := List.getElem?_eq_getElem _
  have ht : N.ps[s.t.toNat]? = some (N.ps[s.t.toNat]'(by omega)) := List.getElem?_eq_getElem _
  have pf := pAt_ok o sf
  have pt := pAt_ok o st
  rw [pAt_get hf] at pf
  rw [pAt_get ht] at pt
  obtain ⟨E, hE⟩ : ∃ E, E = offB N.ps s := ⟨_, rfl⟩
  rw [← hE]
  unfold offB at hE
  rw [pAt_get hf, pAt_get ht] at hE
  generalize N.ps[s.f.toNat]'(by omega) = a at hf pf hE
  generalize N.ps[s.t.toNat]'(by omega) = b at ht pt hE
  have hv : PnB ⟨b.x - a.x, b.y - a.y⟩ := lessP_b pt pf
  have c1 := fun h => vc_rcross s.r.x s.r.y (b.x - a.x) (b.y - a.y) h (okD_b so.r) hv
  have c2 := fun h => vc_rcross (b.x - a.x) (b.y - a.y) s.l.x s.l.y h hv (okD_b so.l)
  have e1 : crs s.r ⟨b.x - a.x, b.y - a.y⟩ = crs ⟨s.r.x, s.r.y⟩ ⟨b.x - a.x, b.y - a.y⟩ := rfl
  have e2 : crs ⟨b.x - a.x, b.y - a.y⟩ s.l = crs ⟨b.x - a.x, b.y - a.y⟩ ⟨s.l.x, s.l.y⟩ := rfl
  rw [e1, e2] at hE
  generalize crs ⟨s.r.x, s.r.y⟩ ⟨b.x - a.x, b.y - a.y⟩ = X at c1 hE
  generalize crs ⟨b.x - a.x, b.y - a.y⟩ ⟨s.l.x, s.l.y⟩ = Y at c2 hE
  rw [hE]
  refine VC.body Tryz.func123 rfl Tryz.ntmps123 Tryz.call123 (h.grows_refl) rfl ?_; conv => whnf
  repeat' (first | ((first | refine zs1 ?_ | refine zs2 ?_ | refine zs3 ?_ | refine zs4 ?_ | refine zs5 ?_ | refine zs6 [] ?_); conv => whnf) | ((first | apply zi1 | apply zi2 | apply zi3 | apply zi4 | apply zi5) <;> intro _ <;> conv => whnf) | (refine VAny.ix encPn_len s.f.toNat (by omega) rfl hf ?_; conv => whnf) | (refine VAny.ix encPn_len s.t.toNat (by omega) rfl ht ?_; conv => whnf) | (refine VCall.intro (c1 _) ?_; conv => whnf) | (refine VCall.intro (c2 _) ?_; conv => whnf))
  all_goals (refine VOut.dec ?_; first | (simp only [decide_eq_true_eq]; omega) | (simp; omega) | (simp; done))
theorem vc_rOff_no (N : Nt) (h : Hp) (hn : N.ps.length ≤ 4000000) (hm : N.ss.length ≤ 4000000) (h0 : chk N ≠ 0) : VC Tryz.prog 81 [vN N] h (.tuple [.nilslice, I (chk N)]) h := by
  have c := fun h => vc_rcheck N h hn hm
  generalize chk N = E at c h0
  refine VC.body Tryz.func81 rfl Tryz.ntmps81 Tryz.call81 (h.grows_refl) rfl ?_; conv => whnf
  repeat' (first | ((first | refine zs1 ?_ | refine zs2 ?_ | refine zs3 ?_ | refine zs4 ?_ | refine zs5 ?_ | refine zs6 [] ?_); conv => whnf) | ((first | apply zi1 | apply zi2 | apply zi3 | apply zi4 | apply zi5) <;> intro _ <;> conv => whnf) | (refine VCall.intro (c _) ?_; conv => whnf))
  · exact VOut.same rfl
  · exfalso; omega
theorem vc_rOff_ok (N : Nt) (h : Hp) (o : NtOk N) : VC Tryz.prog 81 [vN N] h (.tuple [ints (offL N), I 0]) h := by
  have hn := o.n
  have hm := o.m
  have c := fun h => vc_rcheck N h (by omega) (by omega)
  rw [chk_ok.2 o] at c
  obtain ⟨O, hO⟩ : ∃ O, O = offL N := ⟨_, rfl⟩
  rw [← hO]
  refine VC.body Tryz.func81 rfl Tryz.ntmps81 Tryz.call81 (h.grows_refl) rfl ?_; conv => whnf
  repeat' (first | ((first | refine zs1 ?_ | refine zs2 ?_ | refine zs3 ?_ | refine zs4 ?_ | refine zs5 ?_ | refine zs6 [] ?_); conv => whnf) | ((first | apply zi1 | apply zi2 | apply zi3 | apply zi4 | apply zi5) <;> intro _ <;> conv => whnf) | (refine VCall.intro (c _) ?_; conv => whnf))
  · refine VCode.lp (fun y : Nat × List Int => [(1, .ptr (.loc 0) 0), (2, .nilslice), (3, I 0), (5, .gl (.loc 1) 1 y.2.length), (6, I y.1)]) (fun y => [.flat true (encN N), .flat true (y.2.flatMap encI)]) (fun y => y.1 ≤ N.ss.length ∧ y.2.length ≤ y.1 ∧ O = y.2 ++ offS N.ps y.1 (N.ss.drop y.1)) (fun y => N.ss.length - y.1) (0, []) ⟨Nat.zero_le _, Nat.le_refl _, hO⟩ ?_ ?_
    · conv => whnf
      refine Retell.turn ⟨[0,1], 1, [], []⟩ (TurnOk.mk' _ _ [] [] (OutOk.lift _) rfl (by decide) zb trivial trivial rfl) zv zm
    · rintro ⟨k, w⟩ ⟨h1, h2, h3⟩
      dsimp only at h1 h2 h3
      conv => whnf
      repeat' (first | ((first | refine zs1 ?_ | refine zs2 ?_ | refine zs3 ?_ | refine zs4 ?_ | refine zs5 ?_ | refine zs6 [] ?_); conv => whnf) | ((first | apply zi1 | apply zi2 | apply zi3 | apply zi4 | apply zi5) <;> intro _ <;> conv => whnf))
      · rename_i h4
        dsimp only at h4
        have hk : N.ss[k]? = some N.ss[k] := List.getElem?_eq_getElem (by omega)
        have so := o.s N.ss[k] (List.getElem_mem (by omega))
        generalize N.ss[k] = s at hk so
        have cH := fun h => vc_roff N s h o so
        rw [offS_at hk] at h3
        cases hB : offB N.ps s
        all_goals (
          rw [hB] at cH h3
          repeat' (first | ((first | refine zs1 ?_ | refine zs2 ?_ | refine zs3 ?_ | refine zs4 ?_ | refine zs5 ?_ | refine zs6 [] ?_); conv => whnf) | ((first | apply zi1 | apply zi2 | apply zi3 | apply zi4 | apply zi5) <;> intro _ <;> conv => whnf) | (refine VAny.ix encSg_len k rfl rfl hk ?_; conv => whnf) | (refine VCall.intro (cH _) ?_; conv => whnf)))
        all_goals try (rename_i hz; exact absurd rfl hz)
        · rw [if_neg (by decide)] at h3
          refine LEnd.intro (k + 1, w) ⟨by dsimp only; omega, by dsimp only; omega, h3⟩ (by dsimp only; omega) ?_
          conv => whnf
          refine Retell.turn ⟨[0,1], 2, [], []⟩ (TurnOk.mk' _ _ [] [] (OutOk.lift _) rfl (by decide) zb trivial trivial rfl) zv zm
        · rw [if_pos rfl] at h3
          refine VMem.app1 (l := w) (k : Int) encI_len rfl rfl rfl rfl rfl (by omega) ?_
          conv => whnf
          repeat' (first | ((first | refine zs1 ?_ | refine zs2 ?_ | refine zs3 ?_ | refine zs4 ?_ | refine zs5 ?_ | refine zs6 [] ?_); conv => whnf) | ((first | apply zi1 | apply zi2 | apply zi3 | apply zi4 | apply zi5) <;> intro _ <;> conv => whnf))
          refine LEnd.intro (k + 1, w ++ [(k : Int)]) ⟨by dsimp only; omega, by dsimp only; rw [List.length_append]; simp only [List.length_singleton]; omega, by dsimp only; rw [h3, List.append_assoc]; rfl⟩ (by dsimp only; omega) ?_
          conv => whnf
          rw [List.length_append]
          refine Retell.turn ⟨[0,3], 4, [], []⟩ (TurnOk.mk' _ _ [] [] (OutOk.lift _) rfl (by decide) zb trivial trivial rfl) zv zm
      · rename_i h4
        rw [List.drop_of_length_le (by dsimp only at h4; omega), offS, List.append_nil] at h3
        subst h3
        repeat' (first | ((first | refine zs1 ?_ | refine zs2 ?_ | refine zs3 ?_ | refine zs4 ?_ | refine zs5 ?_ | refine zs6 [] ?_); conv => whnf) | ((first | apply zi1 | apply zi2 | apply zi3 | apply zi4 | apply zi5) <;> intro _ <;> conv => whnf))
        refine VOut.data 2 [(1, O.flatMap encI)] [] rfl zf (by exact FmAll.nil) zv
end Go.Proofs.YtdlnjnfkbneibaaGreat

open Go.Vm
open Clip (Pn Sg Nt Bd Rt Sp Co Pl okP okD crs okP_iff okD_iff sgE chkG chk NtOk SgOk pAt pAt_ok pAt_get offB offS offL offS_len chk_ok bS bnds bsq dir_sz bS_len)
namespace Go.Proofs.YtdlnjnfkbneibaaGreat
set_option maxRecDepth 20000
set_option maxHeartbeats 4000000
@[simp] theorem sumc {α : Type} (c : Nat) : ∀ l : List α, (l.map fun _ => c).sum = l.length * c
  | [] => by simp
  | a :: l => by rw [List.map_cons, List.sum_cons, sumc c l, List.length_cons, Nat.add_mul]; omega
attribute [simp] encBd_len encPn_len encSg_len encSp_len encCo_len encPl_len

theorem vc_tback (a b : Int) (h : Hp) (ha : -50 ≤ a ∧ a ≤ 50) (hb : -50 ≤ b ∧ b ≤ 50) : VC Tryz.prog 99 [vBd ⟨a, b, 0⟩] h (vBd ⟨0 - a, 0 - b, 0⟩) h := by
  refine VC.body Tryz.func99 rfl Tryz.ntmps99 Tryz.call99 (h.grows_refl) rfl ?_; conv => whnf
  repeat' (first | ((first | refine zs1 ?_ | refine zs2 ?_ | refine zs3 ?_ | refine zs4 ?_ | refine zs5 ?_ | refine zs6 [] ?_); conv => whnf) | ((first | apply zi1 | apply zi2 | apply zi3 | apply zi4 | apply zi5) <;> intro _ <;> conv => whnf))
  exact VOut.same rfl
theorem vc_of (N : Nt) (p : Int) (s : Sg) (h : Hp) : VC Tryz.prog 65 [.fp (encDk N p), vSg s] h (B (decide (s.f = p ∨ s.t = p))) h := by
  refine VC.body Tryz.func65 rfl Tryz.ntmps65 Tryz.call65 (h.grows_refl) rfl ?_; conv => whnf
  repeat' (first | ((first | refine zs1 ?_ | refine zs2 ?_ | refine zs3 ?_ | refine zs4 ?_ | refine zs5 ?_ | refine zs6 [] ?_); conv => whnf) | ((first | apply zi1 | apply zi2 | apply zi3 | apply zi4 | apply zi5) <;> intro _ <;> conv => whnf))
  all_goals (refine VOut.dec ?_; first | (simp only [decide_eq_true_eq]; omega) | (simp; omega) | (simp; done))
theorem bS_at {ps : List Pn} {p : Int} {l : List Sg} {k : Nat} {s : Sg} (h : l[k]? = some s) : (l.drop k).flatMap (bS ps p) = bS ps p s ++ (l.drop (k + 1)).flatMap (bS ps p) := by
  obtain ⟨hlt, rfl⟩ := List.getElem?_eq_some_iff.1 h
  rw [List.drop_eq_getElem_cons hlt, List.flatMap_cons]
theorem bS_t {ps : List Pn} {p : Int} {s : Sg} {a : Pn} (h : pAt ps s.f = a) (hp : s.t = p) : bS ps p s = [⟨s.r.y, 0 - s.r.x, s.r.y * a.x + (0 - s.r.x) * a.y⟩, ⟨0 - s.l.y, s.l.x, (0 - s.l.y) * a.x + s.l.x * a.y⟩] := by
  unfold bS; rw [h, if_pos hp, Int.zero_sub, Int.zero_sub]
theorem bS_f {ps : List Pn} {p : Int} {s : Sg} {a : Pn} (h : pAt ps s.t = a) (hn : s.t ≠ p) (hp : s.f = p) : bS ps p s = [⟨0 - s.r.y, s.r.x, (0 - s.r.y) * a.x + s.r.x * a.y⟩, ⟨s.l.y, 0 - s.l.x, s.l.y * a.x + (0 - s.l.x) * a.y⟩] := by
  unfold bS; rw [h, if_neg hn, if_pos hp, Int.zero_sub, Int.zero_sub]
theorem vc_bounds (N : Nt) (p : Int) (h : Hp) (o : NtOk N) : VC Tryz.prog 52 [.fp (encDk N p)] h (bds (bnds N p)) h := by
  have hn := o.n
  have hm := o.m
  obtain ⟨E, hE⟩ : ∃ E, E = N.ss.flatMap (bS N.ps p) ++ bsq := ⟨_, rfl⟩
  have hE' : bnds N p = E := hE.symm
  rw [hE']
  refine VC.body Tryz.func52 rfl Tryz.ntmps52 Tryz.call52 (h.grows_refl) rfl ?_; conv => whnf
  repeat' (first | ((first | refine zs1 ?_ | refine zs2 ?_ | refine zs3 ?_ | refine zs4 ?_ | refine zs5 ?_ | refine zs6 [] ?_); conv => whnf) | ((first | apply zi1 | apply zi2 | apply zi3 | apply zi4 | apply zi5) <;> intro _ <;> conv => whnf))
  refine VCode.lp (fun y : Nat × List Bd => [(0, .fp (encDk N p)), (3, .gl (.loc 0) 3 y.2.length), (4, .func (.func 65) [.fp (encDk N p)] []), (16, sgs N.ss), (17, I N.ss.length), (18, I y.1)]) (fun y => [.flat true (y.2.flatMap encBd)]) (fun y => y.1 ≤ N.ss.length ∧ y.2.length ≤ 2 * y.1 ∧ E = y.2 ++ ((N.ss.drop y.1).flatMap (bS N.ps p) ++ bsq)) (fun y => N.ss.length - y.1) (0, []) ⟨Nat.zero_le _, Nat.zero_le _, hE⟩ ?_ ?_
  · conv => whnf
    refine Retell.turn ⟨[0], 0, [], []⟩ (TurnOk.mk' _ _ [] [] (OutOk.lift _) rfl (by decide) zb trivial trivial rfl) zv zm
  · rintro ⟨k, w⟩ ⟨h1, h2, h3⟩
    dsimp only at h1 h2 h3
    conv => whnf
    refine VIte.dec (fun h4 => ?_) (fun h4 => ?_)
    · have hk : N.ss[k]? = some N.ss[k] := List.getElem?_eq_getElem (by omega)
      have so := o.s N.ss[k] (List.getElem_mem (by omega))
      generalize N.ss[k] = s at hk so
      have sf := so.f
      have st := so.t
      have sr := okD_iff.1 so.r
      have sl := okD_iff.1 so.l
      have hf : N.ps[s.f.toNat]? = some (N.ps[s.f.toNat]'(by omega)) := List.getElem?_eq_getElem _
      have ht : N.ps[s.t.toNat]? = some (N.ps[s.t.toNat]'(by omega)) := List.getElem?_eq_getElem _
      have pf := pAt_ok o sf
      have pt := pAt_ok o st
      rw [pAt_get hf] at pf
      rw [pAt_get ht] at pt
      have bt := fun hp => bS_t (ps := N.ps) (p := p) (s := s) (pAt_get hf) hp
      have bf := fun hn hp => bS_f (ps := N.ps) (p := p) (s := s) (pAt_get ht) hn hp
      have bn : s.t ≠ p → s.f ≠ p → bS N.ps p s = [] := fun h1 h2 => by unfold bS; rw [if_neg h1, if_neg h2]
      generalize N.ps[s.f.toNat]'(by omega) = a at hf pf bt
      generalize N.ps[s.t.toNat]'(by omega) = b at ht pt bf
      have z1 := dir_sz so.r pf
      have z2 := dir_sz so.l pf
      have z3 := dir_sz so.r pt
      have z4 := dir_sz so.l pt
      have zz1 := z1.2.2
      have zz2 := z2.2.2
      have zz3 := z3.2.2
      have zz4 := z4.2.2
      clear z1 z2 z3 z4
      rw [bS_at hk] at h3
      generalize bS N.ps p s = X at bt bf bn h3
      have cO := fun h => vc_of N p s h
      have c1 := fun h => vc_tback s.r.y (0 - s.r.x) h (by omega) (by omega)
      have c2 := fun h => vc_tback (0 - s.l.y) s.l.x h (by omega) (by omega)
      have nn : ∀ x : Int, 0 - (0 - x) = x := fun x => by omega
      rw [nn] at c1 c2
      clear nn
      simp only [← Int.zero_sub] at zz1 zz2 zz3 zz4
      have hne := so.ne
      conv => whnf
      refine VAny.ix encSg_len k rfl rfl hk ?_
      conv => whnf
      repeat (first | ((first | refine zs1 ?_ | refine zs2 ?_ | refine zs3 ?_ | refine zs4 ?_ | refine zs5 ?_ | refine zs6 [] ?_); conv => whnf))
      refine VCall.intro (cO _) ?_
      conv => whnf
      repeat' (first | ((first | refine zs1 ?_ | refine zs2 ?_ | refine zs3 ?_ | refine zs4 ?_ | refine zs5 ?_); conv => whnf) | ((first | apply zi1 | apply zi2 | apply zi3 | apply zi4 | apply zi5) <;> intro _ <;> conv => whnf))
      · rename_i hz
        have hX := bn (by omega) (by omega)
        subst hX
        refine LEnd.intro (k + 1, w) ⟨by dsimp only at h4 ⊢; omega, by dsimp only; omega, h3⟩ (by dsimp only at h4 ⊢; omega) ?_
        conv => whnf
        refine Retell.turn ⟨[0], 2, [], []⟩ (TurnOk.mk' _ _ [] [] (OutOk.lift _) rfl (by decide) zb trivial trivial rfl) zv zm
      · rename_i hz
        refine zs6 [(10, 18), (14, 18)] ?_
        conv => whnf
        repeat' (first | ((first | refine zs1 ?_ | refine zs2 ?_ | refine zs3 ?_ | refine zs4 ?_ | refine zs5 ?_); conv => whnf) | ((first | apply zi1 | apply zi2 | apply zi3 | apply zi4 | apply zi5) <;> intro _ <;> conv => whnf))
        refine zs6 [] ?_
        conv => whnf
        repeat' (first | ((first | refine zs1 ?_ | refine zs2 ?_ | refine zs3 ?_ | refine zs4 ?_ | refine zs5 ?_); conv => whnf) | ((first | apply zi1 | apply zi2 | apply zi3 | apply zi4 | apply zi5) <;> intro _ <;> conv => whnf) | (refine VAny.ix encPn_len s.f.toNat (by omega) rfl hf ?_; conv => whnf))
        refine zs6 [] ?_
        conv => whnf
        repeat' (first | ((first | refine zs1 ?_ | refine zs2 ?_ | refine zs3 ?_ | refine zs4 ?_ | refine zs5 ?_); conv => whnf) | ((first | apply zi1 | apply zi2 | apply zi3 | apply zi4 | apply zi5) <;> intro _ <;> conv => whnf))
        · rename_i hq
          have hX := bf (by omega) hq
          subst hX
          refine zs6 [(1, 2), (1, 8), (3, 8), (1, 10), (3, 10), (1, 12), (3, 12), (8, 13), (10, 13), (12, 13), (8, 14), (10, 14), (12, 14)] ?_
          conv => whnf
          repeat' (first | ((first | refine zs1 ?_ | refine zs2 ?_ | refine zs3 ?_ | refine zs4 ?_ | refine zs5 ?_); conv => whnf) | ((first | apply zi1 | apply zi2 | apply zi3 | apply zi4 | apply zi5) <;> intro _ <;> conv => whnf) | (refine VCall.intro (c1 _) ?_; conv => whnf) | (refine VCall.intro (c2 _) ?_; conv => whnf) | (refine VAny.ix encPn_len s.t.toNat (by omega) rfl ht ?_; conv => whnf))
          refine zs6 [(12, 23), (14, 23), (17, 23), (19, 23)] ?_
          conv => whnf
          repeat' (first | ((first | refine zs1 ?_ | refine zs2 ?_ | refine zs3 ?_ | refine zs4 ?_ | refine zs5 ?_); conv => whnf) | ((first | apply zi1 | apply zi2 | apply zi3 | apply zi4 | apply zi5) <;> intro _ <;> conv => whnf))
          refine VMem.appG (l := w) [⟨0 - s.r.y, s.r.x, (0 - s.r.y) * b.x + s.r.x * b.y⟩, ⟨s.l.y, 0 - s.l.x, s.l.y * b.x + (0 - s.l.x) * b.y⟩] encBd_len rfl rfl rfl rfl rfl rfl (by simp only [List.length_cons, List.length_nil]; omega) ?_
          conv => whnf
          repeat' (first | ((first | refine zs1 ?_ | refine zs2 ?_ | refine zs3 ?_ | refine zs4 ?_ | refine zs5 ?_); conv => whnf) | ((first | apply zi1 | apply zi2 | apply zi3 | apply zi4 | apply zi5) <;> intro _ <;> conv => whnf))
          rw [← List.append_assoc, ← List.append_assoc] at h3
          refine LEnd.intro (k + 1, w ++ [⟨0 - s.r.y, s.r.x, (0 - s.r.y) * b.x + s.r.x * b.y⟩, ⟨s.l.y, 0 - s.l.x, s.l.y * b.x + (0 - s.l.x) * b.y⟩]) ⟨by dsimp only at h4 ⊢; omega, by dsimp only; rw [List.length_append]; simp only [List.length_cons, List.length_nil]; omega, by dsimp only; rw [h3, List.append_assoc]⟩ (by dsimp only at h4 ⊢; omega) ?_
          conv => whnf
          rw [List.length_append]
          refine Retell.turn ⟨[6], 7, [], []⟩ (TurnOk.mk' _ _ [] [] (OutOk.lift _) rfl (by decide) zb trivial trivial rfl) zv zm
        · rename_i hq
          have hX := bt (by omega)
          subst hX
          refine zs6 [(12, 23), (14, 23), (17, 23), (19, 23)] ?_
          conv => whnf
          repeat' (first | ((first | refine zs1 ?_ | refine zs2 ?_ | refine zs3 ?_ | refine zs4 ?_ | refine zs5 ?_); conv => whnf) | ((first | apply zi1 | apply zi2 | apply zi3 | apply zi4 | apply zi5) <;> intro _ <;> conv => whnf))
          refine VMem.appG (l := w) [⟨s.r.y, 0 - s.r.x, s.r.y * a.x + (0 - s.r.x) * a.y⟩, ⟨0 - s.l.y, s.l.x, (0 - s.l.y) * a.x + s.l.x * a.y⟩] encBd_len rfl rfl rfl rfl rfl rfl (by simp only [List.length_cons, List.length_nil]; omega) ?_
          conv => whnf
          repeat' (first | ((first | refine zs1 ?_ | refine zs2 ?_ | refine zs3 ?_ | refine zs4 ?_ | refine zs5 ?_); conv => whnf) | ((first | apply zi1 | apply zi2 | apply zi3 | apply zi4 | apply zi5) <;> intro _ <;> conv => whnf))
          rw [← List.append_assoc, ← List.append_assoc] at h3
          refine LEnd.intro (k + 1, w ++ [⟨s.r.y, 0 - s.r.x, s.r.y * a.x + (0 - s.r.x) * a.y⟩, ⟨0 - s.l.y, s.l.x, (0 - s.l.y) * a.x + s.l.x * a.y⟩]) ⟨by dsimp only at h4 ⊢; omega, by dsimp only; rw [List.length_append]; simp only [List.length_cons, List.length_nil]; omega, by dsimp only; rw [h3, List.append_assoc]⟩ (by dsimp only at h4 ⊢; omega) ?_
          conv => whnf
          rw [List.length_append]
          refine Retell.turn ⟨[6], 7, [], []⟩ (TurnOk.mk' _ _ [] [] (OutOk.lift _) rfl (by decide) zb trivial trivial rfl) zv zm
    · rw [List.drop_of_length_le (by dsimp only at h4; omega), List.flatMap_nil, List.nil_append] at h3
      conv => whnf
      repeat' (first | ((first | refine zs1 ?_ | refine zs2 ?_ | refine zs3 ?_ | refine zs4 ?_ | refine zs5 ?_ | refine zs6 [] ?_); conv => whnf) | ((first | apply zi1 | apply zi2 | apply zi3 | apply zi4 | apply zi5) <;> intro _ <;> conv => whnf))
      refine VMem.appG (l := w) bsq encBd_len rfl rfl rfl rfl rfl rfl (by simp only [bsq, List.length_cons, List.length_nil]; omega) ?_
      rw [show (k, w).snd.length + 4 = (w ++ bsq).length by rw [List.length_append]; rfl, ← h3]
      conv => whnf
      repeat' (first | ((first | refine zs1 ?_ | refine zs2 ?_ | refine zs3 ?_ | refine zs4 ?_ | refine zs5 ?_ | refine zs6 [] ?_); conv => whnf) | ((first | apply zi1 | apply zi2 | apply zi3 | apply zi4 | apply zi5) <;> intro _ <;> conv => whnf))
      refine VOut.data 3 [(2, E.flatMap encBd)] [] rfl zf (by exact FmAll.nil) zv
end Go.Proofs.YtdlnjnfkbneibaaGreat

open Go.Vm
open Clip (Pn Sg Nt Bd Rt Sp Co Pl okP okD crs okP_iff okD_iff sgE chkG chk NtOk SgOk pAt pAt_ok pAt_get offB offS offL offS_len chk_ok bS bnds bsq dir_sz bS_len)
namespace Go.Proofs.YtdlnjnfkbneibaaGreat
set_option maxRecDepth 20000
set_option maxHeartbeats 4000000
theorem brE_ok {N : Nt} {p : Int} : brE N p = 0 ↔ NtOk N ∧ 0 ≤ p ∧ p < N.ps.length := by
  unfold brE
  rw [← chk_ok]
  constructor
  · intro h
    split at h
    · omega
    · split at h <;> omega
  · rintro ⟨h1, h2⟩
    rw [if_neg (by omega), if_neg (by omega)]
theorem vc_Bounds_ok (N : Nt) (p : Int) (h : Hp) (h0 : brE N p = 0) : VC Tryz.prog 39 [vN N, I p] h (.tuple [bds (bnds N p), I 0]) h := by
  have o := (brE_ok.1 h0).1
  have hn := o.n
  have hm := o.m
  have c := fun h => vc_begun N p h (by omega) (by omega)
  rw [h0] at c
  have c2 := fun h => vc_bounds N p h o
  generalize bnds N p = O at c2
  refine VC.body Tryz.func39 rfl Tryz.ntmps39 Tryz.call39 (h.grows_refl) rfl ?_; conv => whnf
  repeat' (first | ((first | refine zs1 ?_ | refine zs2 ?_ | refine zs3 ?_ | refine zs4 ?_ | refine zs5 ?_ | refine zs6 [] ?_); conv => whnf) | ((first | apply zi1 | apply zi2 | apply zi3 | apply zi4 | apply zi5) <;> intro _ <;> conv => whnf) | (refine VCall.intro (c _) ?_; conv => whnf) | (refine VCall.intro (c2 _) ?_; conv => whnf))
  · exact VOut.same rfl
theorem vc_rPillar (N : Nt) (p : Int) (h : Hp) (hn : N.ps.length ≤ 4000000) (hm : N.ss.length ≤ 4000000) : VC Tryz.prog 56 [vN N, I p] h (I (brE N p)) h := by
  have c := fun h => vc_rcheck N h hn hm
  obtain ⟨E, hE⟩ : ∃ E, E = brE N p := ⟨_, rfl⟩
  rw [← hE]
  unfold brE at hE
  generalize chk N = C at c hE
  refine VC.body Tryz.func56 rfl Tryz.ntmps56 Tryz.call56 (h.grows_refl) rfl ?_; conv => whnf
  repeat' (first | ((first | refine zs1 ?_ | refine zs2 ?_ | refine zs3 ?_ | refine zs4 ?_ | refine zs5 ?_ | refine zs6 [] ?_); conv => whnf) | ((first | apply zi1 | apply zi2 | apply zi3 | apply zi4 | apply zi5) <;> intro _ <;> conv => whnf) | (refine VCall.intro (c _) ?_; conv => whnf) | (refine VCall.intro (vc_beside _ _ _ _) ?_; conv => whnf))
  all_goals first
    | (have : E = C := by rw [hE]; split <;> (try split) <;> omega
       rw [this]
       exact VOut.same rfl
       done)
    | (have : E = 2 := by rw [hE]; split <;> (try split) <;> omega
       rw [this]
       exact VOut.same rfl
       done)
    | (have : E = 0 := by rw [hE]; split <;> (try split) <;> omega
       rw [this]
       exact VOut.same rfl
       done)
def bKs (ps : List Pn) (p sk : Int) : Nat → List Sg → List Bd
  | _, [] => []
  | k, s :: r => (if (k : Int) = sk then [] else bS ps p s) ++ bKs ps p sk (k + 1) r
def bndK (N : Nt) (p sk : Int) : List Bd := bKs N.ps p sk 0 N.ss ++ bsq
theorem bKs_none {ps : List Pn} {p sk : Int} : ∀ {k : Nat} {l : List Sg}, sk < (k : Int) → bKs ps p sk k l = l.flatMap (bS ps p)
  | k, [], h => rfl
  | k, s :: r, h => by rw [bKs, if_neg (by omega), bKs_none (k := k + 1) (l := r) (by omega), List.flatMap_cons]
theorem bndK_none {N : Nt} {p : Int} : bndK N p (-1) = bnds N p := by unfold bndK bnds; rw [bKs_none (by decide)]
theorem bKs_erase {ps : List Pn} {p : Int} : ∀ {j k : Nat} {l : List Sg}, bKs ps p ((k + j : Nat) : Int) k l = (l.eraseIdx j).flatMap (bS ps p)
  | j, k, [] => by simp [bKs]
  | 0, k, s :: r => by rw [bKs, if_pos (by omega), bKs_none (by omega)]; rfl
  | j + 1, k, s :: r => by rw [bKs, if_neg (by omega), show k + (j + 1) = (k + 1) + j by omega, bKs_erase (j := j) (k := k + 1) (l := r)]; rfl
theorem bKs_at {ps : List Pn} {p sk : Int} {l : List Sg} {k : Nat} {s : Sg} (h : l[k]? = some s) : bKs ps p sk k (l.drop k) = (if (k : Int) = sk then [] else bS ps p s) ++ bKs ps p sk (k + 1) (l.drop (k + 1)) := by
  obtain ⟨hlt, rfl⟩ := List.getElem?_eq_some_iff.1 h
  rw [List.drop_eq_getElem_cons hlt, bKs]
theorem rS_t {ps : List Pn} {p : Int} {s : Sg} {a : Pn} (h : pAt ps s.f = a) (hp : s.t = p) : bS ps p s = [⟨s.r.y, 0 - s.r.x, s.r.y * a.x - s.r.x * a.y⟩, ⟨0 - s.l.y, s.l.x, s.l.x * a.y - s.l.y * a.x⟩] := by
  rw [bS_t h hp, Int.zero_sub, Int.zero_sub, Int.neg_mul, Int.neg_mul, Int.add_comm (-(s.l.y * a.x))]; rfl
theorem rS_f {ps : List Pn} {p : Int} {s : Sg} {a : Pn} (h : pAt ps s.t = a) (hn : s.t ≠ p) (hp : s.f = p) : bS ps p s = [⟨0 - s.r.y, s.r.x, s.r.x * a.y - s.r.y * a.x⟩, ⟨s.l.y, 0 - s.l.x, s.l.y * a.x - s.l.x * a.y⟩] := by
  rw [bS_f h hn hp, Int.zero_sub, Int.zero_sub, Int.neg_mul, Int.neg_mul, Int.add_comm (-(s.r.y * a.x))]; rfl
theorem vc_rbounds (N : Nt) (p sk : Int) (h : Hp) (o : NtOk N) : VC Tryz.prog 58 [vN N, I p, I sk] h (bds (bndK N p sk)) h := by
  have hn := o.n
  have hm := o.m
  obtain ⟨E, hE⟩ : ∃ E, E = bKs N.ps p sk 0 N.ss ++ bsq := ⟨_, rfl⟩
  have hE' : bndK N p sk = E := hE.symm
  rw [hE']
  refine VC.body Tryz.func58 rfl Tryz.ntmps58 Tryz.call58 (h.grows_refl) rfl ?_; conv => whnf
  repeat' (first | ((first | refine zs1 ?_ | refine zs2 ?_ | refine zs3 ?_ | refine zs4 ?_ | refine zs5 ?_ | refine zs6 [] ?_); conv => whnf) | ((first | apply zi1 | apply zi2 | apply zi3 | apply zi4 | apply zi5) <;> intro _ <;> conv => whnf))
  refine VCode.lp (fun y : Nat × List Bd => [(1, I p), (2, I sk), (3, .ptr (.loc 0) 0), (6, .nilslice), (7, .gl (.loc 1) 3 y.2.length), (8, I y.1)]) (fun y => [.flat true (encN N), .flat true (y.2.flatMap encBd)]) (fun y => y.1 ≤ N.ss.length ∧ y.2.length ≤ 2 * y.1 ∧ E = y.2 ++ (bKs N.ps p sk y.1 (N.ss.drop y.1) ++ bsq)) (fun y => N.ss.length - y.1) (0, []) ⟨Nat.zero_le _, Nat.zero_le _, hE⟩ ?_ ?_
  · conv => whnf
    refine Retell.turn ⟨[0,1], 1, [], []⟩ (TurnOk.mk' _ _ [] [] (OutOk.lift _) rfl (by decide) zb trivial trivial rfl) zv zm
  · rintro ⟨k, w⟩ ⟨h1, h2, h3⟩
    dsimp only at h1 h2 h3
    conv => whnf
    repeat' (first | ((first | refine zs1 ?_ | refine zs2 ?_ | refine zs3 ?_ | refine zs4 ?_ | refine zs5 ?_ | refine zs6 [] ?_); conv => whnf) | ((first | apply zi1 | apply zi2 | apply zi3 | apply zi4 | apply zi5) <;> intro _ <;> conv => whnf))
    · rename_i h4
      dsimp only at h4
      have hk : N.ss[k]? = some N.ss[k] := List.getElem?_eq_getElem (by omega)
      have so := o.s N.ss[k] (List.getElem_mem (by omega))
      generalize N.ss[k] = s at hk so
      have sf := so.f
      have st := so.t
      have sr := okD_iff.1 so.r
      have sl := okD_iff.1 so.l
      have hf : N.ps[s.f.toNat]? = some (N.ps[s.f.toNat]'(by omega)) := List.getElem?_eq_getElem _
      have ht : N.ps[s.t.toNat]? = some (N.ps[s.t.toNat]'(by omega)) := List.getElem?_eq_getElem _
      have pf := pAt_ok o sf
      have pt := pAt_ok o st
      rw [pAt_get hf] at pf
      rw [pAt_get ht] at pt
      have bt := fun hp => rS_t (ps := N.ps) (p := p) (s := s) (pAt_get hf) hp
      have bf := fun hn hp => rS_f (ps := N.ps) (p := p) (s := s) (pAt_get ht) hn hp
      have bn : s.t ≠ p → s.f ≠ p → bS N.ps p s = [] := fun h1 h2 => by unfold bS; rw [if_neg h1, if_neg h2]
      generalize N.ps[s.f.toNat]'(by omega) = a at hf pf bt
      generalize N.ps[s.t.toNat]'(by omega) = b at ht pt bf
      have z1 := dir_sz so.r pf
      have z2 := dir_sz so.l pf
      have z3 := dir_sz so.r pt
      have z4 := dir_sz so.l pt
      have zz1 := z1.2.2
      have zz2 := z2.2.2
      have zz3 := z3.2.2
      have zz4 := z4.2.2
      clear z1 z2 z3 z4
      simp only [Int.neg_mul] at zz1 zz2 zz3 zz4
      rw [bKs_at hk] at h3
      generalize bS N.ps p s = X at bt bf bn h3
      have hne := so.ne
      refine VAny.ix encSg_len k rfl rfl hk ?_
      conv => whnf
      repeat' (first | ((first | refine zs1 ?_ | refine zs2 ?_ | refine zs3 ?_ | refine zs4 ?_ | refine zs5 ?_ | refine zs6 [] ?_); conv => whnf) | ((first | apply zi1 | apply zi2 | apply zi3 | apply zi4 | apply zi5) <;> intro _ <;> conv => whnf) | (refine VAny.ix encPn_len s.f.toNat (by omega) rfl hf ?_; conv => whnf) | (refine VAny.ix encPn_len s.t.toNat (by omega) rfl ht ?_; conv => whnf))
      · rename_i ha hb
        rw [if_neg ha] at h3
        have hX := bt hb
        subst hX
        refine VMem.appG (l := w) [⟨s.r.y, 0 - s.r.x, s.r.y * a.x - s.r.x * a.y⟩, ⟨0 - s.l.y, s.l.x, s.l.x * a.y - s.l.y * a.x⟩] encBd_len rfl rfl rfl rfl rfl rfl (by simp only [List.length_cons, List.length_nil]; omega) ?_
        conv => whnf
        repeat' (first | ((first | refine zs1 ?_ | refine zs2 ?_ | refine zs3 ?_ | refine zs4 ?_ | refine zs5 ?_ | refine zs6 [] ?_); conv => whnf) | ((first | apply zi1 | apply zi2 | apply zi3 | apply zi4 | apply zi5) <;> intro _ <;> conv => whnf))
        all_goals try (exfalso; omega)
        all_goals try (exfalso; contradiction)
        rw [← List.append_assoc, ← List.append_assoc] at h3
        refine LEnd.intro (Y := Nat × List Bd) (k + 1, w ++ [⟨s.r.y, 0 - s.r.x, s.r.y * a.x - s.r.x * a.y⟩, ⟨0 - s.l.y, s.l.x, s.l.x * a.y - s.l.y * a.x⟩]) ⟨by dsimp only; omega, by dsimp only; rw [List.length_append]; simp only [List.length_cons, List.length_nil]; omega, by dsimp only; rw [h3, List.append_assoc]⟩ (by dsimp only; omega) ?_
        conv => whnf
        rw [List.length_append]
        refine Retell.turn ⟨[0,4], 5, [], []⟩ (TurnOk.mk' _ _ [] [] (OutOk.lift _) rfl (by decide) zb trivial trivial rfl) zv zm
      · rename_i ha hb hc hd
        rw [if_neg ha] at h3
        have hX := bf hb hd
        subst hX
        refine VMem.appG (l := w) [⟨0 - s.r.y, s.r.x, s.r.x * b.y - s.r.y * b.x⟩, ⟨s.l.y, 0 - s.l.x, s.l.y * b.x - s.l.x * b.y⟩] encBd_len rfl rfl rfl rfl rfl rfl (by simp only [List.length_cons, List.length_nil]; omega) ?_
        conv => whnf
        repeat' (first | ((first | refine zs1 ?_ | refine zs2 ?_ | refine zs3 ?_ | refine zs4 ?_ | refine zs5 ?_ | refine zs6 [] ?_); conv => whnf) | ((first | apply zi1 | apply zi2 | apply zi3 | apply zi4 | apply zi5) <;> intro _ <;> conv => whnf))
        rw [← List.append_assoc, ← List.append_assoc] at h3
        refine LEnd.intro (Y := Nat × List Bd) (k + 1, w ++ [⟨0 - s.r.y, s.r.x, s.r.x * b.y - s.r.y * b.x⟩, ⟨s.l.y, 0 - s.l.x, s.l.y * b.x - s.l.x * b.y⟩]) ⟨by dsimp only; omega, by dsimp only; rw [List.length_append]; simp only [List.length_cons, List.length_nil]; omega, by dsimp only; rw [h3, List.append_assoc]⟩ (by dsimp only; omega) ?_
        conv => whnf
        rw [List.length_append]
        refine Retell.turn ⟨[0,4], 5, [], []⟩ (TurnOk.mk' _ _ [] [] (OutOk.lift _) rfl (by decide) zb trivial trivial rfl) zv zm
      · rename_i ha hb hc hd
        rw [if_neg ha] at h3
        have hX := bn hb hd
        subst hX
        refine LEnd.intro (k + 1, w) ⟨by dsimp only; omega, by dsimp only; omega, h3⟩ (by dsimp only; omega) ?_
        conv => whnf
        refine Retell.turn ⟨[0,1], 3, [], []⟩ (TurnOk.mk' _ _ [] [] (OutOk.lift _) rfl (by decide) zb trivial trivial rfl) zv zm
      · rename_i ha hb hc
        exact absurd hc ha
      · rename_i ha hb hc
        exact absurd ha hb
      · rename_i ha hb hc
        exact absurd ha hb
      · rename_i ha hb
        rw [if_pos hb] at h3
        refine LEnd.intro (k + 1, w) ⟨by dsimp only; omega, by dsimp only; omega, h3⟩ (by dsimp only; omega) ?_
        conv => whnf
        refine Retell.turn ⟨[0,1], 3, [], []⟩ (TurnOk.mk' _ _ [] [] (OutOk.lift _) rfl (by decide) zb trivial trivial rfl) zv zm
    · rename_i h4
      rw [List.drop_of_length_le (by dsimp only at h4; omega), bKs, List.nil_append] at h3
      conv => whnf
      repeat' (first | ((first | refine zs1 ?_ | refine zs2 ?_ | refine zs3 ?_ | refine zs4 ?_ | refine zs5 ?_ | refine zs6 [] ?_); conv => whnf) | ((first | apply zi1 | apply zi2 | apply zi3 | apply zi4 | apply zi5) <;> intro _ <;> conv => whnf))
      refine VMem.appG (l := w) bsq encBd_len rfl rfl rfl rfl rfl rfl (by simp only [bsq, List.length_cons, List.length_nil]; omega) ?_
      rw [show (k, w).snd.length + 4 = (w ++ bsq).length by rw [List.length_append]; rfl, ← h3]
      conv => whnf
      repeat' (first | ((first | refine zs1 ?_ | refine zs2 ?_ | refine zs3 ?_ | refine zs4 ?_ | refine zs5 ?_ | refine zs6 [] ?_); conv => whnf) | ((first | apply zi1 | apply zi2 | apply zi3 | apply zi4 | apply zi5) <;> intro _ <;> conv => whnf))
      refine VOut.data 4 [(3, E.flatMap encBd)] [] rfl zf (by exact FmAll.nil) zv
theorem vc_rBounds_ok (N : Nt) (p : Int) (h : Hp) (h0 : brE N p = 0) : VC Tryz.prog 82 [vN N, I p] h (.tuple [bds (bnds N p), I 0]) h := by
  have o := (brE_ok.1 h0).1
  have hn := o.n
  have hm := o.m
  have c := fun h => vc_rPillar N p h (by omega) (by omega)
  rw [h0] at c
  have c2 := fun h => vc_rbounds N p (-1) h o
  rw [bndK_none] at c2
  generalize bnds N p = O at c2
  refine VC.body Tryz.func82 rfl Tryz.ntmps82 Tryz.call82 (h.grows_refl) rfl ?_; conv => whnf
  repeat' (first | ((first | refine zs1 ?_ | refine zs2 ?_ | refine zs3 ?_ | refine zs4 ?_ | refine zs5 ?_ | refine zs6 [] ?_); conv => whnf) | ((first | apply zi1 | apply zi2 | apply zi3 | apply zi4 | apply zi5) <;> intro _ <;> conv => whnf) | (refine VCall.intro (c _) ?_; conv => whnf) | (refine VCall.intro (c2 _) ?_; conv => whnf))
  · exact VOut.same rfl
end Go.Proofs.YtdlnjnfkbneibaaGreat

open Go.Vm
open Clip (Pn Sg Nt Bd Rt Sp Co Pl okP okD red beyond meetI meetS BdSz SpSz CoSz)
namespace Go.Proofs.YtdlnjnfkbneibaaGreat
set_option maxRecDepth 20000
set_option maxHeartbeats 4000000

def vRt (r : Rt) : V := .agg [I r.N, I r.D]
def vSp (s : Sp) : V := .agg [I s.X.N, I s.X.D, I s.Y.N, I s.Y.D]
theorem vc_ratioP (n d : Int) (h : Hp) (hd : 0 < d) (hb : d ≤ 1000000000000000) (hn : -1000000000000000 ≤ n ∧ n ≤ 1000000000000000) : VC Tryz.prog 55 [I n, I d] h (vRt (red n d)) h := by
  obtain ⟨E, hE⟩ : ∃ E, E = red n d := ⟨_, rfl⟩
  rw [← hE]
  unfold red at hE
  simp only [if_neg (show ¬ d < 0 by omega)] at hE
  obtain ⟨G, hG⟩ : ∃ G, G = Nat.gcd (n).natAbs (d).toNat := ⟨_, rfl⟩
  have hGp : 0 < G := by rw [hG]; exact Nat.gcd_pos_of_pos_right _ (by omega)
  have hGd : G ≤ (d).toNat := by rw [hG]; exact Nat.le_of_dvd (by omega) (Nat.gcd_dvd_right _ _)
  rw [← hG] at hE
  have q1 : -1000000000000000 ≤ (n).tdiv G ∧ (n).tdiv G ≤ 1000000000000000 := by
    have := Int.natAbs_tdiv_le_natAbs (n) G
    omega
  have q2 : -1000000000000000 ≤ (d).tdiv G ∧ (d).tdiv G ≤ 1000000000000000 := by
    have := Int.natAbs_tdiv_le_natAbs (d) G
    omega
  refine VC.body Tryz.func55 rfl Tryz.ntmps55 Tryz.call55 (h.grows_refl) rfl ?_; conv => whnf
  repeat' (first | ((first | refine zs1 ?_ | refine zs2 ?_ | refine zs3 ?_ | refine zs4 ?_ | refine zs5 ?_ | refine zs6 [] ?_); conv => whnf) | ((first | apply zi1 | apply zi2 | apply zi3 | apply zi4 | apply zi5) <;> intro _ <;> conv => whnf))
  · exfalso; omega
  · refine VCode.lp (fun y : Nat × Nat => [(0, I (n)), (1, I (d)), (4, .ptr (.loc 0) 0), (5, I (y.1 : Nat)), (6, I (y.2 : Nat))]) (fun y => [.flat true [DI 0, DI 0]]) (fun y => y.1 ≤ 1000000000000000 ∧ y.2 ≤ 1000000000000000 ∧ Nat.gcd y.1 y.2 = G) (fun y => y.2) ((n).natAbs, (d).toNat) ⟨by dsimp only; omega, by dsimp only; omega, hG.symm⟩ ?_ ?_
    · conv => whnf
      refine Retell.turn ⟨[0], 1, [], []⟩ (TurnOk.mk' _ _ [] [] (OutOk.lift _) rfl (by decide) zb trivial trivial rfl) zv zm
    · rintro ⟨a, b⟩ ⟨h1, h2, h3⟩
      dsimp only at h1 h2 h3
      have hrem : (a : Int).tmod (b : Int) = ((a % b : Nat) : Int) := (Int.ofNat_tmod a b).symm
      rcases Nat.eq_zero_or_pos b with hb0 | hb0
      · subst hb0
        rw [Nat.gcd_zero_right] at h3
        subst h3
        have w1 : IntKind.i64.wrap ((n).tdiv (a : Int)) = (n).tdiv (a : Int) := wrap_i64 (by omega)
        have w2 : IntKind.i64.wrap ((d).tdiv (a : Int)) = (d).tdiv (a : Int) := wrap_i64 (by omega)
        conv => whnf
        repeat' (first | ((first | refine zs1 ?_ | refine zs2 ?_ | refine zs3 ?_ | refine zs4 ?_ | refine zs5 ?_ | refine zs6 [] ?_); conv => whnf) | ((first | apply zi1 | apply zi2 | apply zi3 | apply zi4 | apply zi5) <;> intro _ <;> conv => whnf))
        · rw [hE]
          exact VOut.same (by show V.agg [I (IntKind.i64.wrap _), I (IntKind.i64.wrap _)] = _; rw [w1, w2]; rfl)
      · conv => whnf
        repeat' (first | ((first | refine zs1 ?_ | refine zs2 ?_ | refine zs3 ?_ | refine zs4 ?_ | refine zs5 ?_ | refine zs6 [] ?_); conv => whnf) | ((first | apply zi1 | apply zi2 | apply zi3 | apply zi4 | apply zi5) <;> intro _ <;> conv => whnf))
        all_goals try (rename_i hz; dsimp only at hz; exfalso; omega)
        have hlt : a % b < b := Nat.mod_lt _ (by omega)
        refine LEnd.intro (b, a % b) ⟨by dsimp only; omega, by dsimp only; omega, by dsimp only; rw [Nat.gcd_comm, ← Nat.gcd_rec, Nat.gcd_comm]; exact h3⟩ (by dsimp only; omega) ?_
        conv => whnf
        refine Retell.turn ⟨[0], 1, [], []⟩ (TurnOk.mk' _ _ [] [] (OutOk.lift _) rfl (by decide) zb trivial trivial rfl) zv zm
theorem vc_ratioN (n d : Int) (h : Hp) (hd : 0 < 0 - d) (hb : 0 - d ≤ 1000000000000000) (hn : -1000000000000000 ≤ n ∧ n ≤ 1000000000000000) : VC Tryz.prog 55 [I n, I d] h (vRt (red n d)) h := by
  obtain ⟨E, hE⟩ : ∃ E, E = red n d := ⟨_, rfl⟩
  rw [← hE]
  unfold red at hE
  simp only [if_pos (show d < 0 by omega), ← Int.zero_sub] at hE
  obtain ⟨G, hG⟩ : ∃ G, G = Nat.gcd (0 - n).natAbs (0 - d).toNat := ⟨_, rfl⟩
  have hGp : 0 < G := by rw [hG]; exact Nat.gcd_pos_of_pos_right _ (by omega)
  have hGd : G ≤ (0 - d).toNat := by rw [hG]; exact Nat.le_of_dvd (by omega) (Nat.gcd_dvd_right _ _)
  rw [← hG] at hE
  have q1 : -1000000000000000 ≤ (0 - n).tdiv G ∧ (0 - n).tdiv G ≤ 1000000000000000 := by
    have := Int.natAbs_tdiv_le_natAbs (0 - n) G
    omega
  have q2 : -1000000000000000 ≤ (0 - d).tdiv G ∧ (0 - d).tdiv G ≤ 1000000000000000 := by
    have := Int.natAbs_tdiv_le_natAbs (0 - d) G
    omega
  refine VC.body Tryz.func55 rfl Tryz.ntmps55 Tryz.call55 (h.grows_refl) rfl ?_; conv => whnf
  repeat' (first | ((first | refine zs1 ?_ | refine zs2 ?_ | refine zs3 ?_ | refine zs4 ?_ | refine zs5 ?_ | refine zs6 [] ?_); conv => whnf) | ((first | apply zi1 | apply zi2 | apply zi3 | apply zi4 | apply zi5) <;> intro _ <;> conv => whnf))
  · refine VCode.lp (fun y : Nat × Nat => [(0, I (0 - n)), (1, I (0 - d)), (4, .ptr (.loc 0) 0), (5, I (y.1 : Nat)), (6, I (y.2 : Nat))]) (fun y => [.flat true [DI 0, DI 0]]) (fun y => y.1 ≤ 1000000000000000 ∧ y.2 ≤ 1000000000000000 ∧ Nat.gcd y.1 y.2 = G) (fun y => y.2) ((0 - n).natAbs, (0 - d).toNat) ⟨by dsimp only; omega, by dsimp only; omega, hG.symm⟩ ?_ ?_
    · conv => whnf
      refine Retell.turn ⟨[0], 1, [], []⟩ (TurnOk.mk' _ _ [] [] (OutOk.lift _) rfl (by decide) zb trivial trivial rfl) zv zm
    · rintro ⟨a, b⟩ ⟨h1, h2, h3⟩
      dsimp only at h1 h2 h3
      have hrem : (a : Int).tmod (b : Int) = ((a % b : Nat) : Int) := (Int.ofNat_tmod a b).symm
      rcases Nat.eq_zero_or_pos b with hb0 | hb0
      · subst hb0
        rw [Nat.gcd_zero_right] at h3
        subst h3
        have w1 : IntKind.i64.wrap ((0 - n).tdiv (a : Int)) = (0 - n).tdiv (a : Int) := wrap_i64 (by omega)
        have w2 : IntKind.i64.wrap ((0 - d).tdiv (a : Int)) = (0 - d).tdiv (a : Int) := wrap_i64 (by omega)
        conv => whnf
        repeat' (first | ((first | refine zs1 ?_ | refine zs2 ?_ | refine zs3 ?_ | refine zs4 ?_ | refine zs5 ?_ | refine zs6 [] ?_); conv => whnf) | ((first | apply zi1 | apply zi2 | apply zi3 | apply zi4 | apply zi5) <;> intro _ <;> conv => whnf))
        · rw [hE]
          exact VOut.same (by show V.agg [I (IntKind.i64.wrap _), I (IntKind.i64.wrap _)] = _; rw [w1, w2]; rfl)
      · conv => whnf
        repeat' (first | ((first | refine zs1 ?_ | refine zs2 ?_ | refine zs3 ?_ | refine zs4 ?_ | refine zs5 ?_ | refine zs6 [] ?_); conv => whnf) | ((first | apply zi1 | apply zi2 | apply zi3 | apply zi4 | apply zi5) <;> intro _ <;> conv => whnf))
        all_goals try (rename_i hz; dsimp only at hz; exfalso; omega)
        have hlt : a % b < b := Nat.mod_lt _ (by omega)
        refine LEnd.intro (b, a % b) ⟨by dsimp only; omega, by dsimp only; omega, by dsimp only; rw [Nat.gcd_comm, ← Nat.gcd_rec, Nat.gcd_comm]; exact h3⟩ (by dsimp only; omega) ?_
        conv => whnf
        refine Retell.turn ⟨[0], 1, [], []⟩ (TurnOk.mk' _ _ [] [] (OutOk.lift _) rfl (by decide) zb trivial trivial rfl) zv zm
  · exfalso; omega
theorem vc_ratio (n d : Int) (h : Hp) (hd : d ≠ 0) (hb : -1000000000000000 ≤ d ∧ d ≤ 1000000000000000) (hn : -1000000000000000 ≤ n ∧ n ≤ 1000000000000000) : VC Tryz.prog 55 [I n, I d] h (vRt (red n d)) h := by
  by_cases h0 : 0 < d
  · exact vc_ratioP n d h h0 hb.2 hn
  · exact vc_ratioN n d h (by omega) (by omega) hn
theorem vc_beyond (b : Bd) (s : Sp) (h : Hp) (hb : BdSz b) (hs : SpSz s) : VC Tryz.prog 109 [vBd b, vSp s] h (I (beyond b s)) h := by
  have hz := Clip.beyond_sz hb hs
  refine VC.body Tryz.func109 rfl Tryz.ntmps109 Tryz.call109 (h.grows_refl) rfl ?_; conv => whnf
  repeat' (first | ((first | refine zs1 ?_ | refine zs2 ?_ | refine zs3 ?_ | refine zs4 ?_ | refine zs5 ?_ | refine zs6 [] ?_); conv => whnf) | ((first | apply zi1 | apply zi2 | apply zi3 | apply zi4 | apply zi5) <;> intro _ <;> conv => whnf))
  exact VOut.same rfl
theorem vc_meet (a b : Bd) (h : Hp) (ha : BdSz a) (hb : BdSz b) (hd : (meetI a b).d ≠ 0) : VC Tryz.prog 110 [vBd a, vBd b] h (vSp (meetS a b)) h := by
  have hz := Clip.meetI_sz ha hb
  have c1 := Clip.mulb (A := 100000) (B := 50) ha.c hb.b'
  have c2 := Clip.mulb (A := 100000) (B := 50) hb.c ha.b'
  have c3 := Clip.mulb (A := 50) (B := 100000) ha.a hb.c
  have c4 := Clip.mulb (A := 50) (B := 100000) hb.a ha.c
  have c5 := Clip.mulb (A := 50) (B := 50) ha.a hb.b'
  have c6 := Clip.mulb (A := 50) (B := 50) hb.a ha.b'
  have e1 := fun h => vc_ratio (meetI a b).x (meetI a b).d h hd (by omega) (by omega)
  have e2 := fun h => vc_ratio (meetI a b).y (meetI a b).d h hd (by omega) (by omega)
  obtain ⟨X, hX⟩ : ∃ X, X = red (meetI a b).x (meetI a b).d := ⟨_, rfl⟩
  obtain ⟨Y, hY⟩ : ∃ Y, Y = red (meetI a b).y (meetI a b).d := ⟨_, rfl⟩
  have hM : meetS a b = ⟨X, Y⟩ := by rw [hX, hY]; rfl
  rw [← hX] at e1
  rw [← hY] at e2
  rw [hM]
  unfold meetI at e1 e2
  dsimp only at e1 e2
  refine VC.body Tryz.func110 rfl Tryz.ntmps110 Tryz.call110 (h.grows_refl) rfl ?_; conv => whnf
  repeat' (first | ((first | refine zs1 ?_ | refine zs2 ?_ | refine zs3 ?_ | refine zs4 ?_ | refine zs5 ?_); conv => whnf) | ((first | apply zi1 | apply zi2 | apply zi3 | apply zi4 | apply zi5) <;> intro _ <;> conv => whnf))
  refine zs6 [(12, 14), (12, 16), (12, 19), (12, 21)] ?_
  conv => whnf
  repeat' (first | ((first | refine zs1 ?_ | refine zs2 ?_ | refine zs3 ?_ | refine zs4 ?_ | refine zs5 ?_); conv => whnf) | ((first | apply zi1 | apply zi2 | apply zi3 | apply zi4 | apply zi5) <;> intro _ <;> conv => whnf) | (refine VCall.intro (e1 _) ?_; conv => whnf) | (refine VCall.intro (e2 _) ?_; conv => whnf))
  exact VOut.same rfl
end Go.Proofs.YtdlnjnfkbneibaaGreat

