/- Part 2 of the proof that passageSeen: with fewer sights word goes no faster. No condition. -/
import Derived.Test.YtoeendggmalcpaaSe1
set_option linter.unusedVariables false
set_option linter.unusedSimpArgs false
namespace Clip
def OnL (c d : Cr) : Prop := c.al.ev c.p = 0 ∧ c.al.ev d.p = 0
theorem Adj.mono {R S : Cr → Cr → Prop} {f : Cr} : ∀ {l : List Cr}, (∀ c ∈ l, ∀ d, R c d → S c d) → Adj R f l → Adj S f l
  | [], _, _ => trivial
  | [c], h, k => h c (by simp) f k
  | c :: d :: l, h, k => ⟨h c (by simp) d k.1, Adj.mono (fun c hc => h c (List.mem_cons_of_mem _ hc)) k.2⟩
theorem adj_meet {b : Af} {f : Cr} {l : List Cr} (h : Adj OnL f l) (hr : ∀ c ∈ l, Real c.al) : Adj (fun c d => Sides b c d → MeetOk b (fun k => meetP k b) c d) f l :=
  Adj.mono (fun c hc d hd hs => by
    obtain ⟨h1, h2, h3⟩ := meet_btw (hr c hc) hd.1 hd.2 hs
    exact ⟨h2, h3⟩) h
def nx (s : Pt) : List Cr → Pt
  | [] => s
  | c :: _ => c.p
theorem nx_append (s : Pt) (a b : List Cr) : nx s (a ++ b) = nx (nx s b) a := by cases a <;> rfl
theorem nx_go {b : Af} {f : Cr} {s : Pt} (h1 : b.ev f.p ≤ 0 → s = f.p) (h2 : 0 < b.ev f.p → b.ev s = 0) : ∀ {c : Cr} {l : List Cr}, Adj OnL f (c :: l) → (∀ x ∈ c :: l, Real x.al) →
    (b.ev c.p ≤ 0 → nx s (cutGo b (fun k => meetP k b) f (c :: l)) = c.p) ∧ (0 < b.ev c.p → b.ev (nx s (cutGo b (fun k => meetP k b) f (c :: l))) = 0)
  | c, [], h, hr => by
    show (b.ev c.p ≤ 0 → nx s (step b _ c f) = c.p) ∧ (0 < b.ev c.p → b.ev (nx s (step b _ c f)) = 0)
    have h : OnL c f := h
    unfold step
    refine ⟨fun hc => ?_, fun hc => ?_⟩
    · by_cases hf : b.ev f.p ≤ 0
      · rw [if_pos ⟨hc, hf⟩]; rfl
      · rw [if_neg (by grind)]
        by_cases h0 : b.ev c.p = 0
        · rw [if_pos h0]; rfl
        · rw [if_neg h0, if_pos (by grind)]; rfl
    · rw [if_neg (by grind), if_neg (by grind), if_neg (by grind)]
      by_cases hf : b.ev f.p < 0
      · rw [if_pos hf]
        exact (meet_btw (hr c (by simp)) h.1 h.2 (.inr ⟨hc, hf⟩)).2.1
      · rw [if_neg hf]
        show b.ev s = 0
        by_cases hf0 : 0 < b.ev f.p
        · exact h2 hf0
        · rw [h1 (by grind)]; grind
  | c, d :: l, h, hr => by
    obtain ⟨ih1, ih2⟩ := nx_go h1 h2 (c := d) (l := l) h.2 (fun c hc => hr c (List.mem_cons_of_mem _ hc))
    have hcd : OnL c d := h.1
    rw [cutGo, nx_append]
    generalize nx s (cutGo b (fun k => meetP k b) f (d :: l)) = N at *
    unfold step
    refine ⟨fun hc => ?_, fun hc => ?_⟩
    · by_cases hf : b.ev d.p ≤ 0
      · rw [if_pos ⟨hc, hf⟩]; rfl
      · rw [if_neg (by grind)]
        by_cases h0 : b.ev c.p = 0
        · rw [if_pos h0]; rfl
        · rw [if_neg h0, if_pos (by grind)]; rfl
    · rw [if_neg (by grind), if_neg (by grind), if_neg (by grind)]
      by_cases hf : b.ev d.p < 0
      · rw [if_pos hf]
        exact (meet_btw (hr c (by simp)) hcd.1 hcd.2 (.inr ⟨hc, hf⟩)).2.1
      · rw [if_neg hf]
        show b.ev N = 0
        by_cases hf0 : 0 < b.ev d.p
        · exact ih2 hf0
        · rw [ih1 (by grind)]; grind
theorem adj_cons {g : Cr} {c : Cr} {l : List Cr} (h : c.al.ev c.p = 0) (h2 : c.al.ev (nx g.p l) = 0) (k : Adj OnL g l) : Adj OnL g (c :: l) := by
  cases l with
  | nil => exact ⟨h, h2⟩
  | cons d l => exact ⟨⟨h, h2⟩, k⟩
theorem cut_adj {b : Af} {f g : Cr} (h1 : b.ev f.p ≤ 0 → g.p = f.p) (h2 : 0 < b.ev f.p → b.ev g.p = 0) : ∀ {c : Cr} {l : List Cr}, Adj OnL f (c :: l) → (∀ x ∈ c :: l, Real x.al) → Adj OnL g (cutGo b (fun k => meetP k b) f (c :: l))
  | c, [], h, hr => by
    show Adj OnL g (step b _ c f)
    have h : OnL c f := h
    unfold step
    by_cases hc : b.ev c.p ≤ 0
    · by_cases hf : b.ev f.p ≤ 0
      · rw [if_pos ⟨hc, hf⟩]
        exact ⟨h.1, by show c.al.ev g.p = 0; rw [h1 hf]; exact h.2⟩
      · rw [if_neg (by grind)]
        by_cases h0 : b.ev c.p = 0
        · rw [if_pos h0]
          exact ⟨h0, h2 (by grind)⟩
        · rw [if_neg h0, if_pos (by grind)]
          obtain ⟨e1, e2, e3⟩ := meet_btw (b := b) (hr c (by simp)) h.1 h.2 (.inl ⟨by grind, by grind⟩)
          exact ⟨⟨h.1, (meetP_on e1).1⟩, ⟨e2, h2 (by grind)⟩⟩
    · rw [if_neg (by grind), if_neg (by grind), if_neg (by grind)]
      by_cases hf : b.ev f.p < 0
      · rw [if_pos hf]
        obtain ⟨e1, e2, e3⟩ := meet_btw (b := b) (hr c (by simp)) h.1 h.2 (.inr ⟨by grind, hf⟩)
        exact ⟨(meetP_on e1).1, by show c.al.ev g.p = 0; rw [h1 (by grind)]; exact h.2⟩
      · rw [if_neg hf]; trivial
  | c, d :: l, h, hr => by
    have ih := cut_adj h1 h2 (c := d) (l := l) h.2 (fun c hc => hr c (List.mem_cons_of_mem _ hc))
    obtain ⟨n1, n2⟩ := nx_go (s := g.p) h1 h2 (c := d) (l := l) h.2 (fun c hc => hr c (List.mem_cons_of_mem _ hc))
    have hcd : OnL c d := h.1
    rw [cutGo]
    generalize cutGo b (fun k => meetP k b) f (d :: l) = N at *
    unfold step
    by_cases hc : b.ev c.p ≤ 0
    · by_cases hf : b.ev d.p ≤ 0
      · rw [if_pos ⟨hc, hf⟩]
        exact adj_cons hcd.1 (by show c.al.ev (nx g.p N) = 0; rw [n1 hf]; exact hcd.2) ih
      · rw [if_neg (by grind)]
        by_cases h0 : b.ev c.p = 0
        · rw [if_pos h0]
          exact adj_cons (c := ⟨c.p, b⟩) h0 (n2 (by grind)) ih
        · rw [if_neg h0, if_pos (by grind)]
          obtain ⟨e1, e2, e3⟩ := meet_btw (b := b) (hr c (by simp)) hcd.1 hcd.2 (.inl ⟨by grind, by grind⟩)
          exact adj_cons hcd.1 (meetP_on e1).1 (adj_cons (c := ⟨meetP c.al b, b⟩) e2 (n2 (by grind)) ih)
    · rw [if_neg (by grind), if_neg (by grind), if_neg (by grind)]
      by_cases hf : b.ev d.p < 0
      · rw [if_pos hf]
        obtain ⟨e1, e2, e3⟩ := meet_btw (b := b) (hr c (by simp)) hcd.1 hcd.2 (.inr ⟨by grind, hf⟩)
        exact adj_cons (c := ⟨meetP c.al b, c.al⟩) (meetP_on e1).1 (by show c.al.ev (nx g.p N) = 0; rw [n1 (by grind)]; exact hcd.2) ih
      · rw [if_neg hf]; exact ih
theorem step_mem {b : Af} {m : Af → Pt} {c d x : Cr} (h : x ∈ step b m c d) : (x.p = c.p ∧ b.ev c.p ≤ 0 ∧ (x.al = c.al ∨ x.al = b)) ∨ (Sides b c d ∧ x.p = m c.al ∧ (x.al = c.al ∨ x.al = b)) := by
  unfold step at h
  by_cases hc : b.ev c.p ≤ 0
  · by_cases hd : b.ev d.p ≤ 0
    · rw [if_pos ⟨hc, hd⟩, List.mem_singleton] at h; subst h; exact .inl ⟨rfl, hc, .inl rfl⟩
    · rw [if_neg (by grind)] at h
      by_cases h0 : b.ev c.p = 0
      · rw [if_pos h0, List.mem_singleton] at h; subst h; exact .inl ⟨rfl, hc, .inr rfl⟩
      · rw [if_neg h0, if_pos (by grind)] at h
        rcases List.mem_cons.1 h with rfl | h
        · exact .inl ⟨rfl, hc, .inl rfl⟩
        · rw [List.mem_singleton] at h; subst h; exact .inr ⟨.inl ⟨by grind, by grind⟩, rfl, .inr rfl⟩
  · rw [if_neg (by grind), if_neg (by grind), if_neg (by grind)] at h
    by_cases hd : b.ev d.p < 0
    · rw [if_pos hd, List.mem_singleton] at h; subst h; exact .inr ⟨.inr ⟨by grind, hd⟩, rfl, .inl rfl⟩
    · rw [if_neg hd] at h; cases h
theorem go_mem {b : Af} {m : Af → Pt} {f x : Cr} {R : Cr → Cr → Prop} : ∀ {l : List Cr}, Adj R f l → x ∈ cutGo b m f l → ∃ c ∈ l, ∃ d, (d = f ∨ d ∈ l) ∧ R c d ∧ x ∈ step b m c d
  | [], _, h => by cases h
  | [c], k, h => ⟨c, by simp, f, .inl rfl, k, h⟩
  | c :: d :: l, k, h => by
    rw [cutGo, List.mem_append] at h
    rcases h with h | h
    · exact ⟨c, by simp, d, .inr (by simp), k.1, h⟩
    · obtain ⟨c', h1, d', h2, h3, h4⟩ := go_mem k.2 h
      exact ⟨c', List.mem_cons_of_mem _ h1, d', h2.imp id (List.mem_cons_of_mem _), h3, h4⟩
structure Poly (bs : List Af) (f : Cr) (l : List Cr) : Prop where
  on : Adj OnL f (f :: l)
  real : ∀ c ∈ f :: l, Real c.al
  keep : ∀ c ∈ f :: l, ∀ b ∈ bs, b.ev c.p ≤ 0
  vert : ∀ c ∈ f :: l, ∃ k ∈ bs, ∃ m ∈ bs, det k m ≠ 0 ∧ k.ev c.p = 0 ∧ m.ev c.p = 0
  al : ∀ c ∈ f :: l, c.al ∈ bs
  uni : Uni ((f :: l).map Cr.p)
  span : Spans ((f :: l).map Cr.p) fun q => ∀ b ∈ bs, b.ev q ≤ 0
theorem Btw.le {c e d : Pt} (h : Btw c e d) {b : Af} (h1 : b.ev c ≤ 0) (h2 : b.ev d ≤ 0) : b.ev e ≤ 0 := by
  have := h.pos (u := b) (by unfold Clip.pos; rw [decide_eq_false (by grind), decide_eq_false (by grind)])
  unfold Clip.pos at this
  rw [decide_eq_false (show ¬ 0 < b.ev c by grind), decide_eq_false_iff_not] at this
  grind
theorem Poly.cut {bs : List Af} {f : Cr} {l : List Cr} (h : Poly bs f l) {b : Af} (hb : Real b) {g : Cr} {m : List Cr} (hc : cut b (fun k => meetP k b) (f :: l) = g :: m) : Poly (b :: bs) g m := by
  have hA := adj_meet (b := b) h.on h.real
  obtain ⟨hU, hS⟩ := cut_ok hA h.uni h.span
  rw [hc] at hU hS
  have hgo : cutGo b (fun k => meetP k b) f (f :: l) = g :: m := hc
  have hmem : ∀ x ∈ g :: m, ∃ c ∈ f :: l, ∃ d ∈ f :: l, OnL c d ∧ x ∈ step b (fun k => meetP k b) c d := by
    intro x hx
    rw [← hgo] at hx
    obtain ⟨c, h1, d, h2, h3, h4⟩ := go_mem h.on hx
    exact ⟨c, h1, d, by rcases h2 with rfl | h2; exact List.mem_cons_self; exact h2, h3, h4⟩
  -- the first one
  have hfb : ∃ s : Pt, (b.ev f.p ≤ 0 → s = f.p) ∧ (0 < b.ev f.p → b.ev s = 0) := by
    by_cases h1 : b.ev f.p ≤ 0
    · exact ⟨f.p, fun _ => rfl, fun h2 => by grind⟩
    · refine ⟨?_, fun h2 => absurd h2 h1, fun _ => ?_⟩
      · exact if b.a = 0 then ⟨0, -b.c / b.b⟩ else ⟨-b.c / b.a, 0⟩
      · unfold Af.ev
        rcases hb.ne with h2 | h2
        · rw [if_neg h2]
          simp only
          have := Rat.div_mul_cancel (a := -b.c) h2
          generalize -b.c / b.a = X at *
          grind
        · by_cases h3 : b.a = 0
          · rw [if_pos h3]
            simp only
            have := Rat.div_mul_cancel (a := -b.c) h2
            generalize -b.c / b.b = X at *
            grind
          · rw [if_neg h3]
            simp only
            have := Rat.div_mul_cancel (a := -b.c) h3
            generalize -b.c / b.a = X at *
            grind
  obtain ⟨s, s1, s2⟩ := hfb
  obtain ⟨n1, n2⟩ := nx_go s1 s2 h.on h.real
  rw [hgo] at n1 n2
  have hadj := cut_adj (g := g) n1 n2 h.on h.real
  rw [hgo] at hadj
  refine ⟨hadj, fun x hx => ?_, fun x hx k hk => ?_, fun x hx => ?_, fun x hx => ?_, hU, ?_⟩
  · obtain ⟨c, h1, d, h2, h3, h4⟩ := hmem x hx
    rcases step_mem h4 with ⟨_, _, h5 | h5⟩ | ⟨_, _, h5 | h5⟩ <;> rw [h5]
    · exact h.real c h1
    · exact hb
    · exact h.real c h1
    · exact hb
  · obtain ⟨c, h1, d, h2, h3, h4⟩ := hmem x hx
    rcases step_mem h4 with ⟨e1, e2, _⟩ | ⟨e1, e2, _⟩
    · rw [e1]
      rcases List.mem_cons.1 hk with rfl | hk
      · exact e2
      · exact h.keep c h1 k hk
    · obtain ⟨f1, f2, f3⟩ := meet_btw (b := b) (h.real c h1) h3.1 h3.2 e1
      rw [e2]
      rcases List.mem_cons.1 hk with rfl | hk
      · show _ ≤ _; rw [f2]; exact Rat.le_refl
      · exact f3.le (h.keep c h1 k hk) (h.keep d h2 k hk)
  · obtain ⟨c, h1, d, h2, h3, h4⟩ := hmem x hx
    rcases step_mem h4 with ⟨e1, e2, _⟩ | ⟨e1, e2, _⟩
    · obtain ⟨k, hk, m, hm, q⟩ := h.vert c h1
      rw [e1]
      exact ⟨k, List.mem_cons_of_mem _ hk, m, List.mem_cons_of_mem _ hm, q⟩
    · obtain ⟨f1, f2, f3⟩ := meet_btw (b := b) (h.real c h1) h3.1 h3.2 e1
      rw [e2]
      exact ⟨c.al, List.mem_cons_of_mem _ (h.al c h1), b, List.mem_cons_self, f1, (meetP_on f1).1, f2⟩
  · obtain ⟨c, h1, d, h2, h3, h4⟩ := hmem x hx
    rcases step_mem h4 with ⟨_, _, h5 | h5⟩ | ⟨_, _, h5 | h5⟩ <;> rw [h5]
    · exact List.mem_cons_of_mem _ (h.al c h1)
    · exact List.mem_cons_self
    · exact List.mem_cons_of_mem _ (h.al c h1)
    · exact List.mem_cons_self
  · intro u q hq
    exact hS u q ⟨fun k hk => hq k (List.mem_cons_of_mem _ hk), hq b List.mem_cons_self⟩
theorem Poly.none {bs : List Af} {f : Cr} {l : List Cr} (h : Poly bs f l) {b : Af} (hc : Clip.cut b (fun k => meetP k b) (f :: l) = []) : ¬ ∃ q : Pt, (∀ k ∈ bs, k.ev q ≤ 0) ∧ b.ev q ≤ 0 := by
  rintro ⟨q, h1, h2⟩
  have hA := adj_meet (b := b) h.on h.real
  obtain ⟨_, hS⟩ := cut_ok hA h.uni h.span
  rw [hc] at hS
  obtain ⟨c, hc, _⟩ := hS ⟨0, 0, 1⟩ q ⟨h1, h2⟩ (by unfold Af.ev; grind)
  cases hc
end Clip

namespace Clip
def q0 : Af := ⟨0, -1, 0⟩
def q1 : Af := ⟨1, 0, -1000⟩
def q2 : Af := ⟨0, 1, -1000⟩
def q3 : Af := ⟨-1, 0, 0⟩
def sq : List Cr := [⟨⟨0, 0⟩, q0⟩, ⟨⟨1000, 0⟩, q1⟩, ⟨⟨1000, 1000⟩, q2⟩, ⟨⟨0, 1000⟩, q3⟩]
end Clip

namespace Clip
structure Bd where
  A : Int
  B : Int
  C : Int
  deriving DecidableEq
def Bd.af (b : Bd) : Af := ⟨b.A, b.B, -(b.C : Rat)⟩
structure Pl where
  x : Int
  y : Int
  d : Int
  deriving DecidableEq
def Pl.pt (p : Pl) : Pt := ⟨(p.x : Rat) / p.d, (p.y : Rat) / p.d⟩
def Bd.val (b : Bd) (p : Pl) : Int := b.A * p.x + b.B * p.y - b.C * p.d
theorem val_ev (b : Bd) (p : Pl) (hd : p.d ≠ 0) : ((b.val p : Int) : Rat) = b.af.ev p.pt * p.d := by
  have h : (p.d : Rat) ≠ 0 := fun h => hd (by have := Rat.intCast_inj.1 (h.trans (Rat.intCast_zero).symm); exact this)
  unfold Bd.val Bd.af Af.ev Pl.pt
  simp only
  have e1 := Rat.div_mul_cancel (a := (p.x : Rat)) h
  have e2 := Rat.div_mul_cancel (a := (p.y : Rat)) h
  rw [Rat.intCast_sub, Rat.intCast_add, Rat.intCast_mul, Rat.intCast_mul, Rat.intCast_mul]
  generalize (p.x : Rat) / p.d = X at *
  generalize (p.y : Rat) / p.d = Y at *
  grind
theorem cast_pos {n : Int} : 0 < (n : Rat) ↔ 0 < n := by
  have := Rat.intCast_lt_intCast (a := 0) (b := n)
  rw [Rat.intCast_zero] at this; exact this
theorem cast_neg {n : Int} : (n : Rat) < 0 ↔ n < 0 := by
  have := Rat.intCast_lt_intCast (a := n) (b := 0)
  rw [Rat.intCast_zero] at this; exact this
theorem mul_pos_iff' {a b : Rat} (hb : 0 < b) : (0 < a * b ↔ 0 < a) ∧ (a * b < 0 ↔ a < 0) ∧ (a * b = 0 ↔ a = 0) := by
  refine ⟨⟨fun h => ?_, fun h => Rat.mul_pos h hb⟩, ⟨fun h => ?_, fun h => ?_⟩, ⟨fun h => ?_, fun h => by rw [h]; grind⟩⟩
  · rcases Rat.le_total (a := a) (b := 0) with h1 | h1
    · have := Rat.mul_nonneg (show 0 ≤ -a by grind) (Rat.le_of_lt hb); grind
    · rcases (show a = 0 ∨ 0 < a by grind) with h2 | h2
      · rw [h2] at h; grind
      · exact h2
  · rcases Rat.le_total (a := 0) (b := a) with h1 | h1
    · have := Rat.mul_nonneg h1 (Rat.le_of_lt hb); grind
    · rcases (show a = 0 ∨ a < 0 by grind) with h2 | h2
      · rw [h2] at h; grind
      · exact h2
  · have := Rat.mul_pos (show 0 < -a by grind) hb; grind
  · rcases Rat.mul_eq_zero.1 h with h1 | h1
    · exact h1
    · grind
theorem val_sign {b : Bd} {p : Pl} (hd : 0 < p.d) : (0 < b.val p ↔ 0 < b.af.ev p.pt) ∧ (b.val p < 0 ↔ b.af.ev p.pt < 0) ∧ (b.val p = 0 ↔ b.af.ev p.pt = 0) := by
  have h := val_ev b p (by omega)
  obtain ⟨a1, a2, a3⟩ := mul_pos_iff' (a := b.af.ev p.pt) (cast_pos.2 hd)
  rw [← h] at a1 a2 a3
  refine ⟨cast_pos.symm.trans a1, cast_neg.symm.trans a2, ?_⟩
  rw [← a3]
  constructor
  · intro h; rw [h]; exact Rat.intCast_zero
  · intro h; exact Rat.intCast_inj.1 (h.trans Rat.intCast_zero.symm)
def meetI (a b : Bd) : Pl := ⟨a.C * b.B - b.C * a.B, a.A * b.C - b.A * a.C, a.A * b.B - b.A * a.B⟩
def posD (p : Pl) : Pl := if p.d < 0 then ⟨-p.x, -p.y, -p.d⟩ else p
theorem neg_div' {x d : Rat} (h : d ≠ 0) : (-x) / (-d) = x / d := by
  have e1 := Rat.div_mul_cancel (a := -x) (show -d ≠ 0 by grind)
  have e2 := Rat.div_mul_cancel (a := x) h
  generalize (-x) / (-d) = X at *
  generalize x / d = Y at *
  have : (X - Y) * d = 0 := by grind
  rcases Rat.mul_eq_zero.1 this with h1 | h1
  · grind
  · exact absurd h1 h
theorem posD_pt (p : Pl) : (posD p).pt = p.pt := by
  unfold posD
  split
  · rename_i h
    have hd : (p.d : Rat) ≠ 0 := fun h2 => by have := Rat.intCast_inj.1 (h2.trans Rat.intCast_zero.symm); omega
    unfold Pl.pt
    simp only [Rat.intCast_neg]
    rw [neg_div' hd, neg_div' hd]
  · rfl
theorem posD_d {p : Pl} (h : p.d ≠ 0) : 0 < (posD p).d := by
  unfold posD
  split
  · simp only; omega
  · omega
theorem det_cast (a b : Bd) : det a.af b.af = ((meetI a b).d : Rat) := by
  unfold det meetI Bd.af
  simp only
  rw [Rat.intCast_sub, Rat.intCast_mul, Rat.intCast_mul]
theorem meetI_pt (a b : Bd) : (meetI a b).pt = meetP a.af b.af := by
  unfold meetP
  rw [det_cast]
  unfold Pl.pt meetI Bd.af
  simp only
  rw [Rat.intCast_sub, Rat.intCast_mul, Rat.intCast_mul, Rat.intCast_sub, Rat.intCast_mul, Rat.intCast_mul, Rat.intCast_sub, Rat.intCast_mul, Rat.intCast_mul]
  congr 2 <;> grind
theorem det_zero {a b : Bd} : det a.af b.af = 0 ↔ (meetI a b).d = 0 := by
  rw [det_cast]
  constructor
  · intro h; exact Rat.intCast_inj.1 (h.trans Rat.intCast_zero.symm)
  · intro h; rw [h]; exact Rat.intCast_zero
end Clip

namespace Clip
structure Rt where
  N : Int
  D : Int
  deriving DecidableEq
def red (n d : Int) : Rt :=
  let m := if d < 0 then -n else n
  let e := if d < 0 then -d else d
  ⟨m.tdiv (Nat.gcd m.natAbs e.toNat : Nat), e.tdiv (Nat.gcd m.natAbs e.toNat : Nat)⟩
structure RtOk (n d : Int) (r : Rt) : Prop where
  pos : 0 < r.D
  bd : r.D ≤ d.natAbs
  num : r.N.natAbs ≤ n.natAbs
  eq : r.N * d = n * r.D
  cop : Nat.gcd r.N.natAbs r.D.toNat = 1
theorem red_ok {n d : Int} (h : d ≠ 0) : RtOk n d (red n d) := by
  have key : ∀ m e : Int, 0 < e → RtOk m e ⟨m.tdiv (Nat.gcd m.natAbs e.toNat : Nat), e.tdiv (Nat.gcd m.natAbs e.toNat : Nat)⟩ := by
    intro m e he
    obtain ⟨E, rfl⟩ : ∃ E : Nat, e = E := ⟨e.toNat, by omega⟩
    rw [Int.toNat_natCast]
    have hE : 0 < E := by omega
    have hg := Nat.gcd_pos_of_pos_right m.natAbs hE
    have d1 := Nat.gcd_dvd_left m.natAbs E
    have d2 := Nat.gcd_dvd_right m.natAbs E
    have hc : Nat.gcd (m.natAbs / Nat.gcd m.natAbs E) (E / Nat.gcd m.natAbs E) = 1 := Nat.coprime_div_gcd_div_gcd hg
    generalize Nat.gcd m.natAbs E = g at *
    obtain ⟨y, hy⟩ := d2
    obtain ⟨x, hx⟩ := d1
    have e1 : (E : Int).tdiv g = y := by
      rw [hy, Int.natCast_mul]
      exact Int.mul_tdiv_cancel_left _ (by omega)
    have ex : ∃ X : Int, m = g * X ∧ X.natAbs = x := by
      rcases Int.natAbs_eq m with h | h
      · exact ⟨x, by rw [h, hx, Int.natCast_mul], Int.natAbs_natCast x⟩
      · exact ⟨-x, by rw [h, hx, Int.natCast_mul, Int.mul_neg], by simp⟩
    obtain ⟨X, hX, hXx⟩ := ex
    have e2 : m.tdiv g = X := by
      rw [hX]
      exact Int.mul_tdiv_cancel_left _ (by omega)
    have hyp : 0 < y := by
      rcases Nat.eq_zero_or_pos y with h | h
      · rw [h, Nat.mul_zero] at hy; omega
      · exact h
    rw [e1, e2]
    rw [hx, hy, Nat.mul_div_cancel_left _ hg, Nat.mul_div_cancel_left _ hg] at hc
    refine ⟨by show (0 : Int) < y; omega, ?_, ?_, ?_, ?_⟩
    · show (y : Int) ≤ ((E : Int).natAbs : Int)
      rw [Int.natAbs_natCast, hy]
      have : y ≤ g * y := Nat.le_mul_of_pos_left _ hg
      omega
    · show X.natAbs ≤ m.natAbs
      rw [hXx, hx]; exact Nat.le_mul_of_pos_left _ hg
    · show X * (E : Int) = m * (y : Int)
      rw [hX, hy, Int.natCast_mul, Int.mul_left_comm, Int.mul_assoc]
    · show Nat.gcd X.natAbs (y : Int).toNat = 1
      rw [hXx, Int.toNat_natCast]; exact hc
  unfold red
  by_cases hd : d < 0
  · simp only [if_pos hd]
    obtain ⟨a1, a2, a3, a4, a5⟩ := key (-n) (-d) (by omega)
    refine ⟨a1, by have e := Int.natAbs_neg d; omega, by have e := Int.natAbs_neg n; omega, ?_, a5⟩
    rw [Int.mul_neg, Int.neg_mul] at a4
    omega
  · simp only [if_neg hd]
    exact key n d (by omega)
def Rt.q (r : Rt) : Rat := (r.N : Rat) / r.D
theorem ne_cast {n : Int} (h : n ≠ 0) : (n : Rat) ≠ 0 := fun h2 => h (Rat.intCast_inj.1 (h2.trans Rat.intCast_zero.symm))
theorem red_q {n d : Int} (h : d ≠ 0) : (red n d).q = (n : Rat) / d := by
  obtain ⟨a1, a2, a3, a4, a5⟩ := red_ok (n := n) h
  unfold Rt.q
  generalize red n d = r at *
  have e := congrArg (fun z : Int => (z : Rat)) a4
  simp only [Rat.intCast_mul] at e
  have h1 := Rat.div_mul_cancel (a := (r.N : Rat)) (ne_cast (show r.D ≠ 0 by omega))
  have h2 := Rat.div_mul_cancel (a := (n : Rat)) (ne_cast h)
  have hD := ne_cast (show r.D ≠ 0 by omega)
  have hd := ne_cast h
  generalize (r.N : Rat) / r.D = X at *
  generalize (n : Rat) / d = Y at *
  have : (X - Y) * (r.D * d) = 0 := by grind
  rcases Rat.mul_eq_zero.1 this with h3 | h3
  · grind
  · rcases Rat.mul_eq_zero.1 h3 with h4 | h4
    · exact absurd h4 hD
    · exact absurd h4 hd
structure Sp where
  X : Rt
  Y : Rt
  deriving DecidableEq
def Sp.pt (s : Sp) : Pt := ⟨s.X.q, s.Y.q⟩
def Sp.pl (s : Sp) : Pl := ⟨s.X.N * s.Y.D, s.Y.N * s.X.D, s.X.D * s.Y.D⟩
structure SpOk (s : Sp) : Prop where
  x : 0 < s.X.D
  y : 0 < s.Y.D
theorem Sp.pl_pt {s : Sp} (h : SpOk s) : s.pl.pt = s.pt := by
  have hx := ne_cast (show s.X.D ≠ 0 by have := h.x; omega)
  have hy := ne_cast (show s.Y.D ≠ 0 by have := h.y; omega)
  unfold Pl.pt Sp.pl Sp.pt Rt.q
  simp only [Rat.intCast_mul]
  have key : ∀ a b c : Rat, b ≠ 0 → c ≠ 0 → (a * c) / (b * c) = a / b := by
    intro a b c hb hc
    have hbc : b * c ≠ 0 := fun h => by rcases Rat.mul_eq_zero.1 h with h | h; exact hb h; exact hc h
    have e1 := Rat.div_mul_cancel (a := a * c) hbc
    have e2 := Rat.div_mul_cancel (a := a) hb
    generalize (a * c) / (b * c) = P at *
    generalize a / b = Q at *
    have : (P - Q) * (b * c) = 0 := by grind
    rcases Rat.mul_eq_zero.1 this with h | h
    · grind
    · exact absurd h hbc
  rw [key _ _ _ hx hy, show (s.X.D : Rat) * s.Y.D = s.Y.D * s.X.D by rw [Rat.mul_comm], key _ _ _ hy hx]
theorem Sp.pl_d {s : Sp} (h : SpOk s) : 0 < s.pl.d := Int.mul_pos h.x h.y
def beyond (b : Bd) (s : Sp) : Int := b.A * s.X.N * s.Y.D + b.B * s.Y.N * s.X.D - b.C * s.X.D * s.Y.D
theorem beyond_val (b : Bd) (s : Sp) : beyond b s = b.val s.pl := by
  unfold beyond Bd.val Sp.pl
  simp only [Int.mul_assoc]
theorem beyond_sign {b : Bd} {s : Sp} (h : SpOk s) : (0 < beyond b s ↔ 0 < b.af.ev s.pt) ∧ (beyond b s < 0 ↔ b.af.ev s.pt < 0) ∧ (beyond b s = 0 ↔ b.af.ev s.pt = 0) := by
  rw [beyond_val, ← Sp.pl_pt h]
  exact val_sign (Sp.pl_d h)
def meetS (a b : Bd) : Sp := ⟨red (meetI a b).x (meetI a b).d, red (meetI a b).y (meetI a b).d⟩
theorem meetS_ok {a b : Bd} (h : (meetI a b).d ≠ 0) : SpOk (meetS a b) := ⟨(red_ok h).pos, (red_ok h).pos⟩
theorem meetS_pt {a b : Bd} (h : (meetI a b).d ≠ 0) : (meetS a b).pt = meetP a.af b.af := by
  rw [← meetI_pt]
  unfold Sp.pt meetS Pl.pt
  simp only
  rw [red_q h, red_q h]
structure Co where
  s : Sp
  al : Bd
  deriving DecidableEq
def Co.cr (c : Co) : Cr := ⟨c.s.pt, c.al.af⟩
def stepI (b : Bd) (c d : Co) : List Co :=
  if beyond b c.s ≤ 0 ∧ beyond b d.s ≤ 0 then [c]
  else if beyond b c.s = 0 then [⟨c.s, b⟩]
  else if beyond b c.s < 0 then [c, ⟨meetS c.al b, b⟩]
  else if beyond b d.s < 0 then [⟨meetS c.al b, c.al⟩]
  else []
def goI (b : Bd) (f : Co) : List Co → List Co
  | [] => []
  | [c] => stepI b c f
  | c :: d :: l => stepI b c d ++ goI b f (d :: l)
def cutI (b : Bd) : List Co → List Co
  | [] => []
  | f :: l => goI b f (f :: l)
def AllOk (l : List Co) : Prop := ∀ c ∈ l, SpOk c.s
theorem le_iff {b : Bd} {s : Sp} (h : SpOk s) : beyond b s ≤ 0 ↔ b.af.ev s.pt ≤ 0 := by
  have := (beyond_sign (b := b) h).1
  constructor
  · intro h2; exact Rat.not_lt.1 fun h3 => by have := this.2 h3; omega
  · intro h2
    rcases Int.lt_or_le 0 (beyond b s) with h3 | h3
    · have := this.1 h3; grind
    · exact h3
theorem stepI_map {b : Bd} {c d : Co} (hc : SpOk c.s) (hd : SpOk d.s) (h : Sides b.af c.cr d.cr → (meetI c.al b).d ≠ 0) : (stepI b c d).map Co.cr = step b.af (fun k => meetP k b.af) c.cr d.cr ∧ AllOk (stepI b c d) := by
  obtain ⟨s1, s2, s3⟩ := beyond_sign (b := b) hc
  obtain ⟨t1, t2, t3⟩ := beyond_sign (b := b) hd
  have l1 := le_iff (b := b) hc
  have l2 := le_iff (b := b) hd
  unfold stepI step
  have e1 : c.cr.p = c.s.pt := rfl
  have e2 : d.cr.p = d.s.pt := rfl
  rw [e1, e2]
  by_cases h1 : beyond b c.s ≤ 0
  · by_cases h2 : beyond b d.s ≤ 0
    · rw [if_pos ⟨h1, h2⟩, if_pos ⟨l1.1 h1, l2.1 h2⟩]
      exact ⟨rfl, by intro x hx; rw [List.mem_singleton] at hx; subst hx; exact hc⟩
    · have n1 : ¬ (beyond b c.s ≤ 0 ∧ beyond b d.s ≤ 0) := fun hh => h2 hh.2
      have n2 : ¬ (b.af.ev c.s.pt ≤ 0 ∧ b.af.ev d.s.pt ≤ 0) := fun hh => h2 (l2.2 hh.2)
      rw [if_neg n1, if_neg n2]
      by_cases h0 : beyond b c.s = 0
      · rw [if_pos h0, if_pos (s3.1 h0)]
        exact ⟨rfl, by intro x hx; rw [List.mem_singleton] at hx; subst hx; exact hc⟩
      · have hn : beyond b c.s < 0 := by omega
        have hp : 0 < beyond b d.s := by omega
        have hm := h (.inl ⟨s2.1 hn, t1.1 hp⟩)
        have n3 : ¬ b.af.ev c.s.pt = 0 := fun hh => h0 (s3.2 hh)
        rw [if_neg h0, if_neg n3, if_pos hn, if_pos (s2.1 hn)]
        refine ⟨?_, fun x hx => ?_⟩
        · simp only [List.map_cons, List.map_nil]
          congr 2
          unfold Co.cr
          simp only
          rw [meetS_pt hm]
        · rcases List.mem_cons.1 hx with rfl | hx
          · exact hc
          · rw [List.mem_singleton] at hx; subst hx; exact meetS_ok hm
  · have hp : 0 < beyond b c.s := by omega
    have n1 : ¬ (beyond b c.s ≤ 0 ∧ beyond b d.s ≤ 0) := fun hh => h1 hh.1
    have n2 : ¬ (b.af.ev c.s.pt ≤ 0 ∧ b.af.ev d.s.pt ≤ 0) := fun hh => h1 (l1.2 hh.1)
    have n3 : ¬ beyond b c.s = 0 := by omega
    have n4 : ¬ b.af.ev c.s.pt = 0 := fun hh => n3 (s3.2 hh)
    have n5 : ¬ beyond b c.s < 0 := by omega
    have n6 : ¬ b.af.ev c.s.pt < 0 := fun hh => n5 (s2.2 hh)
    rw [if_neg n1, if_neg n2, if_neg n3, if_neg n4, if_neg n5, if_neg n6]
    by_cases h2 : beyond b d.s < 0
    · have hm := h (.inr ⟨s1.1 hp, t2.1 h2⟩)
      rw [if_pos h2, if_pos (t2.1 h2)]
      refine ⟨?_, fun x hx => ?_⟩
      · simp only [List.map_cons, List.map_nil]
        unfold Co.cr
        simp only
        rw [meetS_pt hm]
      · rw [List.mem_singleton] at hx; subst hx; exact meetS_ok hm
    · have n7 : ¬ b.af.ev d.s.pt < 0 := fun hh => h2 (t2.2 hh)
      rw [if_neg h2, if_neg n7]
      exact ⟨rfl, by intro x hx; cases hx⟩
end Clip

namespace Clip
theorem sides_det {b : Bd} {c d : Co} (h : OnL c.cr d.cr) (hr : Real c.al.af) (hs : Sides b.af c.cr d.cr) : (meetI c.al b).d ≠ 0 := by
  obtain ⟨h1, _, _⟩ := meet_btw hr h.1 h.2 hs
  exact fun h2 => h1 (det_zero.2 h2)
theorem goI_map {b : Bd} {f : Co} (hf : SpOk f.s) : ∀ {c : Co} {l : List Co}, Adj OnL f.cr ((c :: l).map Co.cr) → (∀ x ∈ c :: l, Real x.al.af) → AllOk (c :: l) →
    (goI b f (c :: l)).map Co.cr = cutGo b.af (fun k => meetP k b.af) f.cr ((c :: l).map Co.cr) ∧ AllOk (goI b f (c :: l))
  | c, [], h, hr, ho => stepI_map (ho c (by simp)) hf (sides_det h (hr c (by simp)))
  | c, d :: l, h, hr, ho => by
    have hcd : OnL c.cr d.cr := h.1
    obtain ⟨i1, i2⟩ := goI_map (b := b) hf (c := d) (l := l) h.2 (fun x hx => hr x (List.mem_cons_of_mem _ hx)) (fun x hx => ho x (List.mem_cons_of_mem _ hx))
    obtain ⟨s1, s2⟩ := stepI_map (b := b) (ho c (by simp)) (ho d (by simp)) (sides_det hcd (hr c (by simp)))
    constructor
    · rw [goI, List.map_append, s1, i1]; rfl
    · intro x hx
      rw [goI, List.mem_append] at hx
      rcases hx with hx | hx
      · exact s2 x hx
      · exact i2 x hx
end Clip

namespace Clip
theorem mulb {x y A B : Int} (h1 : -A ≤ x ∧ x ≤ A) (h2 : -B ≤ y ∧ y ≤ B) : -(A * B) ≤ x * y ∧ x * y ≤ A * B := by
  have hA : 0 ≤ A := by omega
  have hB : 0 ≤ B := by omega
  have a1 : x.natAbs ≤ A.toNat := by omega
  have a2 : y.natAbs ≤ B.toNat := by omega
  have a3 := Nat.mul_le_mul a1 a2
  rw [← Int.natAbs_mul] at a3
  have a4 : ((A.toNat * B.toNat : Nat) : Int) = A * B := by rw [Int.natCast_mul, Int.toNat_of_nonneg hA, Int.toNat_of_nonneg hB]
  omega
structure BdSz (b : Bd) : Prop where
  a : -50 ≤ b.A ∧ b.A ≤ 50
  b' : -50 ≤ b.B ∧ b.B ≤ 50
  c : -100000 ≤ b.C ∧ b.C ≤ 100000
  nz : b.A ≠ 0 ∨ b.B ≠ 0
theorem BdSz.real {b : Bd} (h : BdSz b) : Real b.af := by
  refine ⟨?_⟩
  rcases h.nz with h | h
  · exact .inl (ne_cast h)
  · exact .inr (ne_cast h)
structure SpSz (s : Sp) : Prop where
  xn : -10000000 ≤ s.X.N ∧ s.X.N ≤ 10000000
  xd : 1 ≤ s.X.D ∧ s.X.D ≤ 5000
  yn : -10000000 ≤ s.Y.N ∧ s.Y.N ≤ 10000000
  yd : 1 ≤ s.Y.D ∧ s.Y.D ≤ 5000
theorem SpSz.ok {s : Sp} (h : SpSz s) : SpOk s := ⟨by have := h.xd; omega, by have := h.yd; omega⟩
theorem meetI_sz {a b : Bd} (ha : BdSz a) (hb : BdSz b) : (-10000000 ≤ (meetI a b).x ∧ (meetI a b).x ≤ 10000000) ∧ (-10000000 ≤ (meetI a b).y ∧ (meetI a b).y ≤ 10000000) ∧ (-5000 ≤ (meetI a b).d ∧ (meetI a b).d ≤ 5000) := by
  have c1 := mulb (A := 100000) (B := 50) ha.c hb.b'
  have c2 := mulb (A := 100000) (B := 50) hb.c ha.b'
  have c3 := mulb (A := 50) (B := 100000) ha.a hb.c
  have c4 := mulb (A := 50) (B := 100000) hb.a ha.c
  have c5 := mulb (A := 50) (B := 50) ha.a hb.b'
  have c6 := mulb (A := 50) (B := 50) hb.a ha.b'
  unfold meetI
  simp only
  omega
theorem red_sz {n d N D : Int} (hd : d ≠ 0) (h1 : -N ≤ n ∧ n ≤ N) (h2 : -D ≤ d ∧ d ≤ D) : (-N ≤ (red n d).N ∧ (red n d).N ≤ N) ∧ 1 ≤ (red n d).D ∧ (red n d).D ≤ D := by
  obtain ⟨a1, a2, a3, _, _⟩ := red_ok (n := n) hd
  omega
theorem meetS_sz {a b : Bd} (ha : BdSz a) (hb : BdSz b) (h : (meetI a b).d ≠ 0) : SpSz (meetS a b) := by
  obtain ⟨m1, m2, m3⟩ := meetI_sz ha hb
  obtain ⟨x1, x2⟩ := red_sz h m1 m3
  obtain ⟨y1, y2⟩ := red_sz h m2 m3
  exact ⟨x1, x2, y1, y2⟩
structure CoSz (c : Co) : Prop where
  s : SpSz c.s
  al : BdSz c.al
def Cross (b : Bd) (c d : Co) : Prop := (beyond b c.s < 0 ∧ 0 < beyond b d.s) ∨ (0 < beyond b c.s ∧ beyond b d.s < 0)
theorem stepI_sz {b : Bd} {c d : Co} (hb : BdSz b) (hc : CoSz c) (hm : Cross b c d → (meetI c.al b).d ≠ 0) : ∀ x ∈ stepI b c d, CoSz x := by
  intro x hx
  unfold stepI at hx
  split at hx
  · rw [List.mem_singleton] at hx; subst hx; exact hc
  · rename_i h1
    split at hx
    · rw [List.mem_singleton] at hx; subst hx; exact ⟨hc.s, hb⟩
    · rename_i h2
      split at hx
      · rename_i h3
        have h4 := hm (.inl ⟨h3, by omega⟩)
        rcases List.mem_cons.1 hx with rfl | hx
        · exact hc
        · rw [List.mem_singleton] at hx; subst hx; exact ⟨meetS_sz hc.al hb h4, hb⟩
      · rename_i h3
        split at hx
        · rename_i h4
          rw [List.mem_singleton] at hx; subst hx
          exact ⟨meetS_sz hc.al hb (hm (.inr ⟨by omega, h4⟩)), hc.al⟩
        · cases hx
theorem cross_det {b : Bd} {c d : Co} (hc : CoSz c) (hd : CoSz d) (h : OnL c.cr d.cr) (hs : Cross b c d) : (meetI c.al b).d ≠ 0 := by
  refine sides_det (b := b) h hc.al.real ?_
  obtain ⟨s1, s2, s3⟩ := beyond_sign (b := b) hc.s.ok
  obtain ⟨t1, t2, t3⟩ := beyond_sign (b := b) hd.s.ok
  rcases hs with ⟨h1, h2⟩ | ⟨h1, h2⟩
  · exact .inl ⟨s2.1 h1, t1.1 h2⟩
  · exact .inr ⟨s1.1 h1, t2.1 h2⟩
theorem goI_sz {b : Bd} {f : Co} (hb : BdSz b) (hf : CoSz f) : ∀ {c : Co} {l : List Co}, Adj OnL f.cr ((c :: l).map Co.cr) → (∀ x ∈ c :: l, CoSz x) → ∀ x ∈ goI b f (c :: l), CoSz x
  | c, [], h, hs, x, hx => stepI_sz hb (hs c (by simp)) (cross_det (hs c (by simp)) hf h) x hx
  | c, d :: l, h, hs, x, hx => by
    rw [goI, List.mem_append] at hx
    rcases hx with hx | hx
    · exact stepI_sz hb (hs c (by simp)) (cross_det (hs c (by simp)) (hs d (by simp)) h.1) x hx
    · exact goI_sz hb hf (c := d) (l := l) h.2 (fun y hy => hs y (List.mem_cons_of_mem _ hy)) x hx
structure Inv (l : List Co) : Prop where
  sz : ∀ c ∈ l, CoSz c
  poly : l = [] ∨ ∃ ks f m, l = f :: m ∧ Poly ks f.cr (m.map Co.cr)
theorem Inv.ok {l : List Co} (h : Inv l) : AllOk l := fun c hc => (h.sz c hc).s.ok
theorem Inv.cut {l : List Co} {b : Bd} (h : Inv l) (hb : BdSz b) : Inv (cutI b l) := by
  rcases h.poly with rfl | ⟨ks, f, m, rfl, P⟩
  · exact h
  · have hreal : ∀ x ∈ f :: m, Real x.al.af := fun x hx => (h.sz x hx).al.real
    obtain ⟨g1, g2⟩ := goI_map (b := b) (h.ok f (by simp)) (c := f) (l := m) P.on hreal h.ok
    have e1 : (cutI b (f :: m)).map Co.cr = Clip.cut b.af (fun k => meetP k b.af) ((f :: m).map Co.cr) := g1
    constructor
    · exact goI_sz hb (h.sz f (by simp)) (c := f) (l := m) P.on h.sz
    · cases hc : cutI b (f :: m) with
      | nil => exact .inl rfl
      | cons g k =>
        rw [hc] at e1
        exact .inr ⟨_, g, k, rfl, P.cut hb.real (g := g.cr) (m := k.map Co.cr) e1.symm⟩
end Clip

namespace Clip
structure PtOk (l : List Bd) (p : Pl) : Prop where
  of : ∃ a ∈ l, ∃ b ∈ l, (meetI a b).d ≠ 0 ∧ p = posD (meetI a b)
  keep : ∀ m ∈ l, m.val p ≤ 0
end Clip

namespace Clip
structure Pn where
  x : Int
  y : Int
  deriving DecidableEq
structure Sg where
  f : Int
  t : Int
  r : Pn
  l : Pn
  deriving DecidableEq
structure Nt where
  ps : List Pn
  ss : List Sg
def okP (p : Pn) : Bool := decide ((0 ≤ p.x ∧ p.x ≤ 1000) ∧ (0 ≤ p.y ∧ p.y ≤ 1000))
def okD (d : Pn) : Bool := decide (¬ (d.x = 0 ∧ d.y = 0) ∧ (-50 ≤ d.x ∧ d.x ≤ 50) ∧ (-50 ≤ d.y ∧ d.y ≤ 50))
def crs (a b : Pn) : Int := a.x * b.y - a.y * b.x
def sgE (n : Int) (s : Sg) : Int := if s.f < 0 ∨ n - 1 < s.f ∨ s.t < 0 ∨ n - 1 < s.t ∨ s.f = s.t then 2 else if okD s.r = true ∧ okD s.l = true ∧ 0 < crs s.r s.l then 0 else 4
def chkG (n : Int) : List Sg → Int
  | [] => 0
  | s :: r => if sgE n s = 0 then chkG n r else sgE n s
def chk (N : Nt) : Int := if N.ps.length < 1 ∨ 10 < N.ps.length ∨ 20 < N.ss.length then 3 else if N.ps.all okP = true then chkG N.ps.length N.ss else 4
structure SgOk (n : Nat) (s : Sg) : Prop where
  f : 0 ≤ s.f ∧ s.f < n
  t : 0 ≤ s.t ∧ s.t < n
  ne : s.f ≠ s.t
  r : okD s.r = true
  l : okD s.l = true
  c : 0 < crs s.r s.l
structure NtOk (N : Nt) : Prop where
  n : 1 ≤ N.ps.length ∧ N.ps.length ≤ 10
  m : N.ss.length ≤ 20
  p : ∀ p ∈ N.ps, okP p = true
  s : ∀ s ∈ N.ss, SgOk N.ps.length s
theorem sgE_ok {n : Nat} {s : Sg} : sgE n s = 0 ↔ SgOk n s := by
  unfold sgE
  constructor
  · intro h
    split at h
    · omega
    · rename_i h1
      split at h
      · rename_i h2
        exact ⟨by omega, by omega, by omega, h2.1, h2.2.1, h2.2.2⟩
      · omega
  · intro h
    have h1 := h.f
    have h2 := h.t
    have h3 := h.ne
    rw [if_neg (by omega), if_pos ⟨h.r, h.l, h.c⟩]
theorem chkG_ok {n : Nat} : ∀ {l : List Sg}, chkG n l = 0 ↔ ∀ s ∈ l, SgOk n s
  | [] => by simp [chkG]
  | s :: r => by
    rw [chkG]
    split
    · rename_i h
      rw [chkG_ok (l := r)]
      constructor
      · intro k x hx
        rcases List.mem_cons.1 hx with rfl | hx
        · exact sgE_ok.1 h
        · exact k x hx
      · exact fun k x hx => k x (List.mem_cons_of_mem _ hx)
    · rename_i h
      constructor
      · intro k; exact absurd k h
      · intro k; exact absurd (sgE_ok.2 (k s (by simp))) h
theorem chk_ok {N : Nt} : chk N = 0 ↔ NtOk N := by
  unfold chk
  constructor
  · intro h
    split at h
    · omega
    · rename_i h1
      split at h
      · rename_i h2
        exact ⟨by omega, by omega, fun p hp => List.all_eq_true.1 h2 p hp, chkG_ok.1 h⟩
      · omega
  · intro h
    have h1 := h.n
    have h2 := h.m
    rw [if_neg (by omega), if_pos (List.all_eq_true.2 h.p)]
    exact chkG_ok.2 h.s
def pAt (ps : List Pn) (i : Int) : Pn := ps.getD i.toNat ⟨0, 0⟩
def offB (ps : List Pn) (s : Sg) : Bool := decide (crs s.r ⟨(pAt ps s.t).x - (pAt ps s.f).x, (pAt ps s.t).y - (pAt ps s.f).y⟩ < 0 ∨ crs ⟨(pAt ps s.t).x - (pAt ps s.f).x, (pAt ps s.t).y - (pAt ps s.f).y⟩ s.l < 0)
def offS (ps : List Pn) : Int → List Sg → List Int
  | _, [] => []
  | k, s :: r => if offB ps s = true then k :: offS ps (k + 1) r else offS ps (k + 1) r
def offL (N : Nt) : List Int := offS N.ps 0 N.ss
theorem okP_iff {p : Pn} : okP p = true ↔ (0 ≤ p.x ∧ p.x ≤ 1000) ∧ (0 ≤ p.y ∧ p.y ≤ 1000) := by unfold okP; rw [decide_eq_true_eq]
theorem okD_iff {p : Pn} : okD p = true ↔ ¬ (p.x = 0 ∧ p.y = 0) ∧ (-50 ≤ p.x ∧ p.x ≤ 50) ∧ (-50 ≤ p.y ∧ p.y ≤ 50) := by unfold okD; rw [decide_eq_true_eq]
theorem pAt_ok {N : Nt} (h : NtOk N) {i : Int} (hi : 0 ≤ i ∧ i < N.ps.length) : (0 ≤ (pAt N.ps i).x ∧ (pAt N.ps i).x ≤ 1000) ∧ (0 ≤ (pAt N.ps i).y ∧ (pAt N.ps i).y ≤ 1000) := by
  have hlt : i.toNat < N.ps.length := by omega
  have : pAt N.ps i = N.ps[i.toNat] := by unfold pAt; simp [List.getElem?_eq_getElem hlt]
  rw [this]
  exact okP_iff.1 (h.p _ (List.getElem_mem hlt))
theorem pAt_get {ps : List Pn} {i : Int} {p : Pn} (h : ps[i.toNat]? = some p) : pAt ps i = p := by unfold pAt; rw [List.getD_eq_getElem?_getD, h]; rfl
end Clip

namespace Clip
def Feas (bs : List Bd) (q : Pt) : Prop := ∀ b ∈ bs, b.af.ev q ≤ 0
end Clip

namespace Clip
def cr2 (a b : Bd) : Int := a.A * b.B - a.B * b.A
def Ref (a b c : Bd) : Prop := (0 ≤ cr2 b c ∧ 0 ≤ cr2 c a ∧ 0 ≤ cr2 a b ∧ cr2 b c * a.C + cr2 c a * b.C + cr2 a b * c.C < 0) ∨ (cr2 b c ≤ 0 ∧ cr2 c a ≤ 0 ∧ cr2 a b ≤ 0 ∧ 0 < cr2 b c * a.C + cr2 c a * b.C + cr2 a b * c.C)
theorem Ref.turn {a b c : Bd} (h : Ref a b c) : Ref b c a := by
  unfold Ref at h ⊢
  omega
theorem Ref.not {bs : List Bd} {a b c : Bd} (h : Ref a b c) (ha : a ∈ bs) (hb : b ∈ bs) (hc : c ∈ bs) {q : Pt} (hq : Feas bs q) : False := by
  have h1 := hq a ha
  have h2 := hq b hb
  have h3 := hq c hc
  have key : ∀ x y z : Int, 0 ≤ x → 0 ≤ y → 0 ≤ z → x * a.A + y * b.A + z * c.A = 0 → x * a.B + y * b.B + z * c.B = 0 → x * a.C + y * b.C + z * c.C < 0 → False := by
    intro x y z hx hy hz e1 e2 e3
    have up : ∀ n : Int, 0 ≤ n → (0 : Rat) ≤ (n : Rat) := fun n hn => by have := Rat.intCast_le_intCast (a := 0) (b := n); rw [Rat.intCast_zero] at this; exact this.2 hn
    have f1 := congrArg (fun z : Int => (z : Rat)) e1
    have f2 := congrArg (fun z : Int => (z : Rat)) e2
    have f3 := cast_neg.2 e3
    simp only [Rat.intCast_add, Rat.intCast_mul, Rat.intCast_zero] at f1 f2 f3
    have m1 := Rat.mul_nonneg (up x hx) (show 0 ≤ -a.af.ev q by grind)
    have m2 := Rat.mul_nonneg (up y hy) (show 0 ≤ -b.af.ev q by grind)
    have m3 := Rat.mul_nonneg (up z hz) (show 0 ≤ -c.af.ev q by grind)
    unfold Bd.af Af.ev at m1 m2 m3
    simp only at m1 m2 m3
    have k1 : ((x : Rat) * a.A + y * b.A + z * c.A) * q.x = 0 := by rw [f1]; exact Rat.zero_mul _
    have k2 : ((x : Rat) * a.B + y * b.B + z * c.B) * q.y = 0 := by rw [f2]; exact Rat.zero_mul _
    generalize (x : Rat) = X at *
    generalize (y : Rat) = Y at *
    generalize (z : Rat) = Z at *
    grind
  have i1 : cr2 b c * a.A + cr2 c a * b.A + cr2 a b * c.A = 0 := by unfold cr2; grind
  have i2 : cr2 b c * a.B + cr2 c a * b.B + cr2 a b * c.B = 0 := by unfold cr2; grind
  rcases h with ⟨g1, g2, g3, g4⟩ | ⟨g1, g2, g3, g4⟩
  · exact key _ _ _ g1 g2 g3 i1 i2 g4
  · refine key (-cr2 b c) (-cr2 c a) (-cr2 a b) (by omega) (by omega) (by omega) (by grind) (by grind) ?_
    have e : -cr2 b c * a.C + -cr2 c a * b.C + -cr2 a b * c.C = -(cr2 b c * a.C + cr2 c a * b.C + cr2 a b * c.C) := by grind
    rw [e]; omega
end Clip

namespace Clip
def Goes (k : Af) (p q : Pt) : Prop := ∃ t : Rat, 0 ≤ t ∧ q.x = p.x - t * k.b ∧ q.y = p.y + t * k.a
theorem norm_pos {k : Af} (h : Real k) : 0 < k.a * k.a + k.b * k.b := by
  have sq : ∀ x : Rat, 0 ≤ x * x := fun x => by
    rcases Rat.le_total (a := 0) (b := x) with h | h
    · exact Rat.mul_nonneg h h
    · have := Rat.mul_nonneg (show 0 ≤ -x by grind) (show 0 ≤ -x by grind)
      grind
  have sp : ∀ x : Rat, x ≠ 0 → 0 < x * x := fun x hx => by
    have := sq x
    have h2 : x * x ≠ 0 := fun h => by rcases Rat.mul_eq_zero.1 h with h | h <;> exact hx h
    grind
  rcases h.ne with h | h
  · have := sp _ h; have := sq k.b; grind
  · have := sp _ h; have := sq k.a; grind
theorem on_line {k : Af} (h : Real k) {p q : Pt} (hp : k.ev p = 0) (hq : k.ev q = 0) : ∃ t : Rat, q.x = p.x - t * k.b ∧ q.y = p.y + t * k.a := by
  have n := norm_pos h
  have hd := Rat.div_mul_cancel (a := -(q.x - p.x) * k.b + (q.y - p.y) * k.a) (show k.a * k.a + k.b * k.b ≠ 0 by grind)
  generalize (-(q.x - p.x) * k.b + (q.y - p.y) * k.a) / (k.a * k.a + k.b * k.b) = t at hd
  unfold Af.ev at hp hq
  have e : k.a * (q.x - p.x) + k.b * (q.y - p.y) = 0 := by grind
  refine ⟨t, ?_, ?_⟩
  · have : (q.x - (p.x - t * k.b)) * (k.a * k.a + k.b * k.b) = 0 := by grind
    rcases Rat.mul_eq_zero.1 this with h1 | h1
    · grind
    · grind
  · have : (q.y - (p.y + t * k.a)) * (k.a * k.a + k.b * k.b) = 0 := by grind
    rcases Rat.mul_eq_zero.1 this with h1 | h1
    · grind
    · grind
theorem sgn_pos {x y : Rat} (h : 0 < x * y) (hx : 0 ≤ x) : 0 < y := by
  refine Rat.not_le.1 fun h2 => ?_
  have := Rat.mul_nonneg hx (show 0 ≤ -y by grind)
  grind
theorem sgn_nn {x y : Rat} (h : 0 ≤ x * y) (hy : 0 < y) : 0 ≤ x := by
  refine Rat.not_lt.1 fun h2 => ?_
  have := Rat.mul_pos (show 0 < -x by grind) hy
  grind
theorem Goes.ev {k : Af} {p q : Pt} {t : Rat} (b : Af) (e1 : q.x = p.x - t * k.b) (e2 : q.y = p.y + t * k.a) : b.ev q = b.ev p + t * (b.b * k.a - b.a * k.b) := by
  unfold Af.ev; rw [e1, e2]; grind
theorem Goes.first {k b : Af} {p q m : Pt} (hk : Real k) (h : Goes k p q) (hp : k.ev p = 0) (h1 : b.ev p < 0) (h2 : 0 < b.ev q) (m1 : b.ev m = 0) (m2 : k.ev m = 0) : Goes k p m := by
  obtain ⟨t, ht, e1, e2⟩ := h
  obtain ⟨s, f1, f2⟩ := on_line hk hp m2
  have g1 := Goes.ev b e1 e2
  have g2 := Goes.ev b f1 f2
  refine ⟨s, ?_, f1, f2⟩
  have hb := sgn_pos (x := t) (y := b.b * k.a - b.a * k.b) (by grind) ht
  exact sgn_nn (y := b.b * k.a - b.a * k.b) (by grind) hb
end Clip

namespace Clip
theorem PtOk.d {l : List Bd} {p : Pl} (h : PtOk l p) : 0 < p.d := by
  obtain ⟨a, _, b, _, hd, rfl⟩ := h.of
  exact posD_d hd
theorem PtOk.on {l : List Bd} {p : Pl} (h : PtOk l p) : ∃ a ∈ l, ∃ b ∈ l, (meetI a b).d ≠ 0 ∧ a.af.ev p.pt = 0 ∧ b.af.ev p.pt = 0 := by
  obtain ⟨a, ha, b, hb, hd, rfl⟩ := h.of
  have d0 : det a.af b.af ≠ 0 := fun h => hd (det_zero.1 h)
  refine ⟨a, ha, b, hb, hd, ?_, ?_⟩ <;> rw [posD_pt, meetI_pt]
  · exact (meetP_on d0).1
  · exact (meetP_on d0).2
end Clip

open Go.Vm
open Clip (Pn Sg Nt Bd Rt Sp Co Pl)
namespace Go.Proofs.Ytoeendggmalcpaa.St
set_option maxRecDepth 20000
set_option maxHeartbeats 2000000

def encPn (p : Pn) : List D := [DI p.x, DI p.y]
theorem encPn_len (p : Pn) : (encPn p).length = 2 := rfl
def pns (l : List Pn) : V := .fs 2 l.length (l.flatMap encPn)
def vPn (p : Pn) : V := .agg [I p.x, I p.y]
def encSg (s : Sg) : List D := [DI s.f, DI s.t, DI s.r.x, DI s.r.y, DI s.l.x, DI s.l.y]
theorem encSg_len (s : Sg) : (encSg s).length = 6 := rfl
def sgs (l : List Sg) : V := .fs 6 l.length (l.flatMap encSg)
def vSg (s : Sg) : V := .agg [I s.f, I s.t, I s.r.x, I s.r.y, I s.l.x, I s.l.y]
def encN (N : Nt) : List D := [.sl 2 N.ps.length (N.ps.flatMap encPn), .sl 6 N.ss.length (N.ss.flatMap encSg)]
def vN (N : Nt) : V := .agg [pns N.ps, sgs N.ss]
end Go.Proofs.Ytoeendggmalcpaa.St

