/- Part 1 of the proof that passageFerried: ferries take a herd as far as the cells are. No condition. -/
import Derived.Test.YtoeendggmalcpaaFe0
set_option linter.unusedVariables false
set_option linter.unusedSimpArgs false
namespace Psg
theorem totR_set : ∀ {R : Rw} {p s : Nat} {x v : Int}, p < R.length → (R.getD p [])[s]? = some x → 0 ≤ v → v < x → totR (setR R p s v) < totR R
  | r :: R, 0, s, x, v, _, h, h0, hv => by
    have := tot_set (l := r) (by simpa using h) h0 hv
    simp only [setR, List.set_cons_zero, totR, List.map_cons, List.sum_cons]
    simp only [List.getD_cons_zero]
    omega
  | r :: R, p + 1, s, x, v, hp, h, h0, hv => by
    have := totR_set (R := R) (p := p) (by simpa using hp) (by simpa using h) h0 hv
    simp only [setR, List.set_cons_succ, totR, List.map_cons, List.sum_cons, List.getD_cons_succ] at this ⊢
    omega
  | [], _, _, _, _, hp, _, _, _ => by simp at hp
def rx (p s : Nat) (x : Rw × Bool) (w : Wy) : Rw × Bool :=
  match gone w ⟨p, atR x.1 p s, s⟩ with
  | none => x
  | some y => if y.d < atR x.1 y.p y.s then (setR x.1 y.p.toNat y.s.toNat y.d, true) else x
def rxs (ws : List Wy) (p s : Nat) (x : Rw × Bool) : Rw × Bool := ws.foldl (rx p s) x
def rxS (ws : List Wy) (p : Nat) : Nat → Rw × Bool → Rw × Bool
  | 0, x => x
  | m + 1, x => rxs ws p m (rxS ws p m x)
def rxP (ws : List Wy) : Nat → Rw × Bool → Rw × Bool
  | 0, x => x
  | m + 1, x => rxS ws m 16 (rxP ws m x)
def rgo (n : Nat) (ws : List Wy) : Nat → Rw → Rw
  | 0, R => R
  | N + 1, R => if (rxP ws n (R, false)).2 then rgo n ws N (rxP ws n (R, false)).1 else (rxP ws n (R, false)).1
theorem atR_get {n : Nat} {R : Rw} {k : Ky} (h : Sz n R) (hk : InR n k) : k.1.toNat < R.length ∧ (R.getD k.1.toNat [])[k.2.toNat]? = some (atR R k.1 k.2) := by
  have h1 := hk.1; have h2 := hk.2
  unfold Pp at h2
  have hl : k.1.toNat < R.length := by rw [h.len]; omega
  refine ⟨hl, ?_⟩
  have hrow : (R.getD k.1.toNat []).length = 16 := by
    rw [List.getD_eq_getElem?_getD, List.getElem?_eq_getElem hl]
    exact h.row _ (List.getElem_mem hl)
  have : k.2.toNat < (R.getD k.1.toNat []).length := by omega
  unfold atR
  rw [List.getD_eq_getElem?_getD (l := R.getD k.1.toNat []), List.getElem?_eq_getElem this]; rfl
theorem rx_ok {n : Nat} {ws : List Wy} {h : Hd} {R0 : Rw} {x : Rw × Bool} {done : Ky → Wy → Prop} {p s : Nat} {w : Wy} (hw : ∀ w ∈ ws, WOk n w) (hh : HOk n h) (hk : InR n ((p : Int), (s : Int))) (hm : w ∈ ws)
    (hJ : RJ n ws h R0 x done) : RJ n ws h R0 (rx p s x w) (fun k u => done k u ∨ (k = ((p : Int), (s : Int)) ∧ u = w)) := by
  unfold rx
  cases hg : gone w ⟨p, atR x.1 p s, s⟩ with
  | none =>
    refine ⟨hJ.ri, fun hf => ⟨(hJ.no hf).1, fun k hkR u hu hd y hy => ?_⟩, hJ.yes⟩
    rcases hd with hd | ⟨rfl, rfl⟩
    · exact (hJ.no hf).2 k hkR u hu hd y hy
    · dsimp only at hy
      rw [← (hJ.no hf).1, hg] at hy; cases hy
  | some y =>
    have hy := gone_ok (hw _ hm) hk.2 hg
    dsimp only
    split
    · rename_i hlt
      have hyR : InR n (y.p, y.s) := ⟨hy.2.2.1, hy.2.2.2.2.2.2⟩
      have hat : ∀ j, InR n j → atR (setR x.1 y.p.toNat y.s.toNat y.d) j.1 j.2 = if (y.p, y.s) = j then y.d else atR x.1 j.1 j.2 := fun j hj => atR_set (k := (y.p, y.s)) hJ.ri.sz hyR hj
      have hkd := (hJ.ri.rng _ hk).1
      have hyd := hy.2.2.2.1
      dsimp only at hkd hyd
      have hyo : (y.p, y.s) ≠ (h.p, h.s) := fun h1 => by
        injection h1 with h1 h2
        rw [h1, h2, hJ.ri.own] at hlt
        omega
      have hlt2 : totR (setR x.1 y.p.toNat y.s.toNat y.d) < totR x.1 := by
        have := atR_get hJ.ri.sz hyR
        exact totR_set this.1 this.2 hy.2.2.2.2.1 hlt
      refine ⟨⟨hJ.ri.sz.set (by have := hyR.1; dsimp only at this; omega), fun j hj => ?_, ?_, fun j hj hd => ?_⟩, (fun hf => nomatch hf), fun _ => ?_⟩
      · rw [hat j hj]
        split
        · have := hy.2.2.2.2.2.1; omega
        · exact hJ.ri.rng j hj
      · have := hat (h.p, h.s) ⟨hh.p, hh.s⟩; rw [if_neg hyo] at this; dsimp only at this ⊢; rw [this]; exact hJ.ri.own
      · have h1 := hat j hj
        dsimp only at hd ⊢
        by_cases hjy : (y.p, y.s) = j
        · rw [if_pos hjy] at h1
          rw [h1]
          obtain ⟨r, hr⟩ := hJ.ri.att _ hk hy.1.2
          obtain ⟨i, hi, hwi⟩ := List.getElem_of_mem hm
          refine ⟨r ++ [i], ?_⟩
          rw [fol_snoc, hr]
          simp only [fol]
          rw [List.getElem?_eq_getElem hi, hwi]
          dsimp only
          rw [hg, ← hjy]
        · rw [if_neg hjy] at h1
          rw [h1] at hd ⊢
          exact hJ.ri.att j hj hd
      · cases hx : x.2
        · have := (hJ.no hx).1; rw [← this]; exact hlt2
        · exact Nat.lt_trans hlt2 (hJ.yes hx)
    · rename_i hge
      refine ⟨hJ.ri, fun hf => ⟨(hJ.no hf).1, fun k hkR u hu hd z hz => ?_⟩, hJ.yes⟩
      rcases hd with hd | ⟨rfl, rfl⟩
      · exact (hJ.no hf).2 k hkR u hu hd z hz
      · dsimp only at hz
        rw [← (hJ.no hf).1, hg] at hz
        injection hz with hz; subst hz
        rw [← (hJ.no hf).1]; omega
theorem rxs_ok {n : Nat} {ws : List Wy} {h : Hd} {R0 : Rw} {p s : Nat} (hw : ∀ w ∈ ws, WOk n w) (hh : HOk n h) (hk : InR n ((p : Int), (s : Int))) : ∀ (l : List Wy) (x : Rw × Bool) (done : Ky → Wy → Prop), (∀ w ∈ l, w ∈ ws) →
    RJ n ws h R0 x done → RJ n ws h R0 (l.foldl (rx p s) x) (fun k u => done k u ∨ (k = ((p : Int), (s : Int)) ∧ u ∈ l))
  | [], x, done, _, hJ => hJ.mono fun k w _ _ h1 => by simpa using h1
  | w :: l, x, done, hl, hJ => by
    have h1 := rxs_ok hw hh hk l _ _ (fun v hv => hl v (List.mem_cons_of_mem _ hv)) (rx_ok hw hh hk (hl w List.mem_cons_self) hJ)
    refine h1.mono fun k u _ _ h2 => ?_
    rcases h2 with h2 | ⟨h2, h3⟩
    · exact .inl (.inl h2)
    · rcases List.mem_cons.1 h3 with h4 | h4
      · exact .inl (.inr ⟨h2, h4⟩)
      · exact .inr ⟨h2, h4⟩
theorem rxS_ok {n : Nat} {ws : List Wy} {h : Hd} {R0 : Rw} {p : Nat} (hw : ∀ w ∈ ws, WOk n w) (hh : HOk n h) (hp : p < n) {x : Rw × Bool} {done : Ky → Wy → Prop} (hJ : RJ n ws h R0 x done) :
    ∀ m, m ≤ 16 → RJ n ws h R0 (rxS ws p m x) (fun k u => done k u ∨ (k.1 = p ∧ k.2 < m))
  | 0, _ => hJ.mono fun k w _ hk h1 => by
    rcases h1 with h1 | h1
    · exact h1
    · have := hk.2.1; have := h1.2; omega
  | m + 1, hm => by
    have h1 := rxs_ok (p := p) (s := m) hw hh ⟨by dsimp only; omega, by unfold Pp; dsimp only; omega⟩ ws _ _ (fun _ h => h) (rxS_ok hw hh hp hJ m (by omega))
    refine h1.mono fun k u hu hk h2 => ?_
    rcases h2 with h2 | ⟨h2, h3⟩
    · exact .inl (.inl h2)
    · by_cases h4 : k.2 < m
      · exact .inl (.inr ⟨h2, h4⟩)
      · exact .inr ⟨by rw [← h2, show (m : Int) = k.2 from by omega], hu⟩
theorem rxP_ok {n : Nat} {ws : List Wy} {h : Hd} {R0 : Rw} (hw : ∀ w ∈ ws, WOk n w) (hh : HOk n h) (hI : RI n ws h R0) :
    ∀ m, m ≤ n → RJ n ws h R0 (rxP ws m (R0, false)) (fun k _ => k.1 < m)
  | 0, _ => ⟨hI, fun _ => ⟨rfl, fun k hk _ _ h1 => by have := hk.1; omega⟩, fun h1 => by cases h1⟩
  | m + 1, hm => by
    have h1 := rxS_ok hw hh (by omega : m < n) (rxP_ok hw hh hI m (by omega)) 16 (Nat.le_refl _)
    refine h1.mono fun k u _ hk h2 => ?_
    by_cases h4 : k.1 < m
    · exact .inl h4
    · exact .inr ⟨by omega, hk.2.2⟩
end Psg

namespace Psg
def rt0 (n : Nat) (h : Hd) : Rw := setR (List.replicate n (List.replicate 16 1001)) h.p.toNat h.s.toNat h.d
def rtab (n : Nat) (ws : List Wy) (h : Hd) : Rw := rgo n ws 200000 (rt0 n h)
theorem sz_rep (n : Nat) : Sz n (List.replicate n (List.replicate 16 (1001 : Int))) :=
  ⟨List.length_replicate, fun r hr => by rw [List.eq_of_mem_replicate hr, List.length_replicate]⟩
theorem ri0 {n : Nat} {ws : List Wy} {h : Hd} (hh : HOk n h) : RI n ws h (rt0 n h) := by
  have hR : InR n (h.p, h.s) := ⟨hh.p, hh.s⟩
  have hd := hh.d
  have hat : ∀ j, InR n j → atR (rt0 n h) j.1 j.2 = if (h.p, h.s) = j then h.d else 1001 := fun j hj => by
    have h1 := atR_set (R := List.replicate n (List.replicate 16 1001)) (k := (h.p, h.s)) (v := h.d) (sz_rep n) hR hj
    have h2 : atR (List.replicate n (List.replicate 16 1001)) j.1 j.2 = 1001 := by
      unfold atR
      rw [List.getD_eq_getElem?_getD (l := List.replicate n _), List.getElem?_replicate]
      split
      · show (List.replicate 16 (1001 : Int)).getD _ 1001 = 1001
        rw [List.getD_eq_getElem?_getD, List.getElem?_replicate]
        split <;> rfl
      · rfl
    rw [h2] at h1
    exact h1
  refine ⟨(sz_rep n).set (by have := hh.p; omega), fun j hj => ?_, ?_, fun j hj hj1 => ?_⟩
  · rw [hat j hj]; split <;> omega
  · have := hat _ hR; rw [if_pos rfl] at this; exact this
  · have h1 := hat j hj
    by_cases h2 : (h.p, h.s) = j
    · rw [if_pos h2] at h1
      refine ⟨[], ?_⟩
      rw [h1, ← h2]; rfl
    · rw [if_neg h2] at h1; omega
theorem totR_le : ∀ (R : Rw), (∀ r ∈ R, tot r ≤ 16 * 1001) → totR R ≤ R.length * (16 * 1001)
  | [], _ => Nat.zero_le _
  | r :: R, h => by
    have h1 := totR_le R fun x hx => h x (List.mem_cons_of_mem _ hx)
    have h2 := h r List.mem_cons_self
    simp only [totR, List.map_cons, List.sum_cons, List.length_cons] at h1 ⊢
    rw [Nat.succ_mul]
    omega
theorem mem_at {n : Nat} {R : Rw} (hs : Sz n R) {r : List Int} (hr : r ∈ R) {x : Int} (hx : x ∈ r) : ∃ k, InR n k ∧ atR R k.1 k.2 = x := by
  obtain ⟨i, hi, hri⟩ := List.getElem_of_mem hr
  obtain ⟨j, hj, hxj⟩ := List.getElem_of_mem hx
  have h16 := hs.row r hr
  have hl := hs.len
  refine ⟨((i : Int), (j : Int)), ⟨by dsimp only; omega, by unfold Pp; dsimp only; omega⟩, ?_⟩
  unfold atR
  dsimp only
  rw [Int.toNat_natCast, Int.toNat_natCast, List.getD_eq_getElem?_getD (l := R), List.getElem?_eq_getElem hi, hri]
  show r.getD j 1001 = x
  rw [List.getD_eq_getElem?_getD, List.getElem?_eq_getElem hj, hxj]; rfl
theorem ri_tot {n : Nat} {ws : List Wy} {h : Hd} {R : Rw} (hI : RI n ws h R) (hn : n ≤ 10) : totR R < 200000 := by
  have h1 := totR_le R fun r hr => by
    have := tot_le r 1001 fun x hx => by
      obtain ⟨k, hk, rfl⟩ := mem_at hI.sz hr hx
      exact (hI.rng k hk).2
    rw [hI.sz.row r hr] at this
    exact this
  rw [hI.sz.len] at h1
  have : n * (16 * 1001) ≤ 10 * (16 * 1001) := Nat.mul_le_mul_right _ hn
  omega
end Psg

open Go.Vm
open Psg
namespace Go.Proofs.Ytoeendggmalcpaa
set_option maxRecDepth 20000
set_option maxHeartbeats 4000000
theorem vc_beside (n a b : Int) (h : Hp) : VC Try.prog 76 [I n, I a, I b] h (B (decide (n < a ∨ b < n))) h := by
  refine VC.body Try.func76 rfl Try.ntmps76 Try.call76 (h.grows_refl) rfl ?_; conv => whnf
  repeat' (first | ((first | refine zs1 ?_ | refine zs2 ?_ | refine zs3 ?_ | refine zs4 ?_ | refine zs5 ?_ | refine zs6 [] ?_); conv => whnf) | ((first | apply zi1 | apply zi2 | apply zi3 | apply zi4 | apply zi5) <;> intro _ <;> conv => whnf))
  all_goals (refine VOut.same ?_; simp [V.ren]; try omega)
end Go.Proofs.Ytoeendggmalcpaa

open Go.Vm
open Psg
namespace Go.Proofs.Ytoeendggmalcpaa
set_option maxRecDepth 20000
set_option maxHeartbeats 4000000
/-! ### The reference's way -/
def jn (a b : Int) (j : Nat) : Int := (((a.toNat ||| b.toNat) % 2 ^ j : Nat) : Int)
theorem k_jn : ∀ (a b : Fin 16) (j : Fin 4), (a.val ||| b.val) % 2 ^ (j.val + 1) = (a.val ||| b.val) % 2 ^ j.val + (if a.val / 2 ^ j.val % 2 = 1 ∨ b.val / 2 ^ j.val % 2 = 1 then 2 ^ j.val else 0) := by decide +kernel
theorem k_sub : ∀ (a b : Fin 16), (a.val ||| b.val = a.val) ↔ (a.val &&& b.val = b.val) := by decide +kernel
def pw (j : Nat) : Int := ((2 ^ j : Nat) : Int)
theorem jn_step {a b : Int} (ha : Pp a) (hb : Pp b) {j : Nat} (hj : j < 4) : jn a b (j + 1) = jn a b j + (if a / pw j % 2 = 1 ∨ b / pw j % 2 = 1 then pw j else 0) := by
  obtain ⟨x, rfl⟩ := pp_cases ha
  obtain ⟨y, rfl⟩ := pp_cases hb
  have h := k_jn x y ⟨j, hj⟩
  unfold jn pw
  rw [Int.toNat_natCast, Int.toNat_natCast]
  dsimp only at h
  rw [h]
  rw [Int.natCast_add]
  congr 1
  have e1 : ((x.val : Int) / ((2 ^ j : Nat) : Int) % 2 = 1) ↔ (x.val / 2 ^ j % 2 = 1) := by omega
  have e2 : ((y.val : Int) / ((2 ^ j : Nat) : Int) % 2 = 1) ↔ (y.val / 2 ^ j % 2 = 1) := by omega
  by_cases c : x.val / 2 ^ j % 2 = 1 ∨ y.val / 2 ^ j % 2 = 1
  · rw [if_pos c, if_pos (by rw [e1, e2]; exact c)]
  · rw [if_neg c, if_neg (by rw [e1, e2]; exact c)]; rfl
theorem quo_bit {a c : Int} (ha : 0 ≤ a ∧ a < 16) (hc : 0 < c) : (IntKind.i64.wrap (a.tdiv c)).tmod 2 = a / c % 2 := by
  have h1 : 0 ≤ a / c := Int.ediv_nonneg ha.1 (by omega)
  have h2 : a / c ≤ a := Int.ediv_le_self c ha.1
  rw [Int.tdiv_eq_ediv_of_nonneg ha.1, wrap_i64 (by omega), Int.tmod_eq_emod_of_nonneg h1]
theorem jn_four {a b : Int} (ha : Pp a) (hb : Pp b) : jn a b 4 = por a b := by
  unfold jn
  have h := por_pp ha hb
  unfold por Pp at *
  rw [Nat.mod_eq_of_lt (by omega)]
theorem jn_bd {a b : Int} (j : Nat) (hj : j ≤ 4) : 0 ≤ jn a b j ∧ jn a b j ≤ 16 := by
  unfold jn
  have := Nat.mod_lt (a.toNat ||| b.toNat) (show 0 < 2 ^ j from Nat.two_pow_pos j)
  have : 2 ^ j ≤ 2 ^ 4 := Nat.pow_le_pow_right (by decide) hj
  omega
theorem vc_joined (a b : Int) (h : Hp) (ha : Pp a) (hb : Pp b) : VC Try.prog 125 [I a, I b] h (I (por a b)) h := by
  rw [← jn_four ha hb]
  have ha' := ha
  have hb' := hb
  unfold Pp at ha' hb'
  refine VC.body Try.func125 rfl Try.ntmps125 Try.call125 (h.grows_refl) rfl ?_; conv => whnf
  repeat' (first | ((first | refine zs1 ?_ | refine zs2 ?_ | refine zs3 ?_ | refine zs4 ?_ | refine zs5 ?_ | refine zs6 [] ?_); conv => whnf) | ((first | apply zi1 | apply zi2 | apply zi3 | apply zi4 | apply zi5) <;> intro _ <;> conv => whnf))
  refine VCode.lp (fun j : Nat => [(0, I a), (1, I b), (5, I (jn a b j)), (6, I (pw j))]) (fun _ => []) (fun j => j ≤ 4) (fun j => 4 - j) 0 (Nat.zero_le _) ?_ ?_
  · have e : jn a b 0 = 0 := by unfold jn; rw [Nat.pow_zero, Nat.mod_one]; rfl
    rw [e, show pw 0 = 1 from rfl]
    conv => whnf
    refine Retell.turn ⟨[], 0, [], []⟩ (TurnOk.mk' _ _ [] [] (OutOk.lift _) rfl (by decide) zb trivial trivial rfl) zw zm
  · intro j hj
    rcases Nat.lt_or_ge j 4 with h4 | h4
    · have hs := jn_step ha hb h4
      have hb1 := jn_bd (a := a) (b := b) j hj
      have hp : 1 ≤ pw j ∧ pw j ≤ 8 := by
        have : ∀ j : Fin 4, 1 ≤ pw j ∧ pw j ≤ 8 := by decide
        exact this ⟨j, h4⟩
      have hp2 : pw (j + 1) = 2 * pw j := by unfold pw; rw [Nat.pow_succ]; omega
      have qa := quo_bit ha' (show 0 < pw j by omega)
      have qb := quo_bit hb' (show 0 < pw j by omega)
      have hne : (pw j != 0) = true := by rw [bne_iff_ne]; omega
      generalize hO : jn a b (j + 1) = o1 at hs
      generalize hC : pw (j + 1) = c1 at hp2
      generalize jn a b j = o at hs hb1
      generalize pw j = c at hs hp hp2 qa qb hne
      conv => whnf
      repeat' (first | ((first | refine zs1 ?_ | refine zs2 ?_ | refine zs3 ?_ | refine zs4 ?_ | refine zs5 ?_ | refine zs6 [] ?_); conv => whnf) | ((first | apply zi1 | apply zi2 | apply zi3 | apply zi4 | apply zi5) <;> intro _ <;> conv => whnf))
      all_goals try (exfalso; omega)
      all_goals
        refine LEnd.intro (j + 1) (by omega) (by omega) ?_
        rw [hO, hC, hp2]
      · rename_i h1
        rw [if_pos (.inl (by omega))] at hs
        rw [hs]
        conv => whnf
        refine Retell.turn ⟨[], 0, [], []⟩ (TurnOk.mk' _ _ [] [] (OutOk.lift _) rfl (by decide) zb trivial trivial rfl) zw zm
      · rename_i h1 h2
        rw [if_pos (.inr (by omega))] at hs
        rw [hs]
        conv => whnf
        refine Retell.turn ⟨[], 0, [], []⟩ (TurnOk.mk' _ _ [] [] (OutOk.lift _) rfl (by decide) zb trivial trivial rfl) zw zm
      · rename_i h1 h2
        rw [if_neg (by omega), Int.add_zero] at hs
        rw [hs]
        conv => whnf
        refine Retell.turn ⟨[], 0, [], []⟩ (TurnOk.mk' _ _ [] [] (OutOk.lift _) rfl (by decide) zb trivial trivial rfl) zw zm
    · obtain rfl : j = 4 := by omega
      have hb1 := jn_bd (a := a) (b := b) 4 hj
      rw [show pw 4 = 16 from rfl]
      conv => whnf
      repeat' (first | ((first | refine zs1 ?_ | refine zs2 ?_ | refine zs3 ?_ | refine zs4 ?_ | refine zs5 ?_ | refine zs6 [] ?_); conv => whnf) | ((first | apply zi1 | apply zi2 | apply zi3 | apply zi4 | apply zi5) <;> intro _ <;> conv => whnf))
      · exact VOut.same rfl
def rgV (w : Wy) (x : Hd) : Hd := if x.p = w.f ∧ pand x.s w.n = w.n ∧ x.d ≤ w.hi then gnV w x else ⟨0, 0, 0⟩
theorem sub_iff {a b : Int} (ha : Pp a) (hb : Pp b) : por a b = a ↔ pand a b = b := by
  obtain ⟨x, rfl⟩ := pp_cases ha
  obtain ⟨y, rfl⟩ := pp_cases hb
  have h := k_sub x y
  unfold por pand
  rw [Int.toNat_natCast, Int.toNat_natCast]
  omega
theorem vc_rgone {n : Nat} (w : Wy) (x : Hd) (h : Hp) (hw : WOk n w) (hd : -2000 ≤ x.d ∧ x.d ≤ 2000) (hs : Pp x.s) : VC Try.prog 81 [vWy w, vHd x] h (.tuple [vHd (rgV w x), B (gnB w x)]) h := by
  have h1 := hw.d
  have h2 := hw.lo
  have h3 := hw.hi
  have c1 := fun h => vc_joined x.s w.n h hs hw.n
  have c2 := fun h => vc_joined x.s w.g h hs hw.g
  have hi := sub_iff hs hw.n
  obtain ⟨G, hG⟩ : ∃ G, G = gnB w x := ⟨_, rfl⟩
  obtain ⟨R, hR⟩ : ∃ R, R = rgV w x := ⟨_, rfl⟩
  rw [← hG, ← hR]
  unfold gnB at hG
  unfold rgV gnV at hR
  generalize hJ : por x.s w.n = J at c1 hi
  generalize por x.s w.g = M at c2 hR
  refine VC.body Try.func81 rfl Try.ntmps81 Try.call81 (h.grows_refl) rfl ?_; conv => whnf
  repeat' (first | ((first | refine zs1 ?_ | refine zs2 ?_ | refine zs3 ?_ | refine zs4 ?_ | refine zs5 ?_); conv => whnf) | ((first | apply zi1 | apply zi2 | apply zi3 | apply zi4 | apply zi5) <;> intro _ <;> conv => whnf))
  refine zs6 [(10, 12)] ?_
  conv => whnf
  repeat' (first | ((first | refine zs1 ?_ | refine zs2 ?_ | refine zs3 ?_ | refine zs4 ?_ | refine zs5 ?_); conv => whnf) | ((first | apply zi1 | apply zi2 | apply zi3 | apply zi4 | apply zi5) <;> intro _ <;> conv => whnf) | (refine VCall.intro (c1 _) ?_; conv => whnf))
  all_goals try (
    refine zs6 [(1, 7)] ?_
    conv => whnf
    repeat' (first | ((first | refine zs1 ?_ | refine zs2 ?_ | refine zs3 ?_ | refine zs4 ?_ | refine zs5 ?_); conv => whnf) | ((first | apply zi1 | apply zi2 | apply zi3 | apply zi4 | apply zi5) <;> intro _ <;> conv => whnf) | (refine VCall.intro (c2 _) ?_; conv => whnf)))
  any_goals first
    | (have e1 : R = ⟨0, 0, 0⟩ := by rw [hR, if_neg (by omega)]
       have e2 : G = false := by rw [hG, decide_eq_false_iff_not]; omega
       rw [e1, e2]
       exact VOut.same rfl)
    | (have e1 : R = ⟨w.t, w.lo + w.d, M⟩ := by rw [hR, if_pos (by omega), show max x.d w.lo = w.lo by omega]
       have e2 : G = decide (w.lo + w.d ≤ 1000) := by rw [hG]; exact decide_eq_decide.2 (by omega)
       rw [e1, e2]
       exact VOut.same rfl)
    | (have e1 : R = ⟨w.t, x.d + w.d, M⟩ := by rw [hR, if_pos (by omega), show max x.d w.lo = x.d by omega]
       have e2 : G = decide (x.d + w.d ≤ 1000) := by rw [hG]; exact decide_eq_decide.2 (by omega)
       rw [e1, e2]
       exact VOut.same rfl)
theorem rgV_gn {w : Wy} {x : Hd} (h : gnB w x = true) : rgV w x = gnV w x := by
  unfold gnB at h
  rw [decide_eq_true_eq] at h
  unfold rgV
  rw [if_pos ⟨h.1, h.2.1, h.2.2.1⟩]
end Go.Proofs.Ytoeendggmalcpaa

open Go.Vm
open Psg
namespace Go.Proofs.Ytoeendggmalcpaa
set_option maxRecDepth 20000
set_option maxHeartbeats 4000000
structure Hold (R : Prop) : Prop where
  out : R
theorem suffices_ {R G : Prop} (main : Hold R → G) (rest : R) : G := main ⟨rest⟩
theorem rowsV_at {n q : Nat} (h : q < n) : (rowsV n)[q]? = some (.gl (.loc (q + 1)) 1 16) := by
  unfold rowsV
  rw [List.getElem?_map, List.getElem?_range h]; rfl
theorem VLd.rowP {n q off : Nat} {h : Hp} {K : V → Prop} (hb : h.get (.loc 0) = some (.cells true (rowsV n))) (hq : q < n) (ho : off = q) (hK : K (.gl (.loc (q + 1)) 1 16)) : VLd (tiOf Try.prog) 32 (.ptr (.loc 0) off) h K := by
  subst ho
  exact VLd.cell rfl rfl hb (rowsV_at hq) hK
theorem VMem.setTab {b : Blk} {X : Rw} {r : List Blk} {h : Hp} {p off : Nat} {v : Int} {K : V → Hp → Prop} (s : Nat) (hl : h.loc = tabB b X r) (hp : p < X.length) (h10 : p < 10) (hs : s < (X.getD p []).length) (ho : off = s) (hK : K .undef ⟨h.outer, tabB b (setR X p s v) r⟩) : VMem Try.prog (opStore 3) [.ptr (.loc (p + 1)) off, I v] h K := by
  have hb : h.get (.loc (p + 1)) = some (.flat true ((X.getD p []).flatMap Vm.encI)) := by
    show h.loc[p + 1]? = _
    rw [hl]; exact tab_get b X r h10
  refine VMem.setRec Vm.encI_len s 0 v rfl rfl hb (List.getElem?_eq_getElem hs) (by decide) rfl (by omega) ?_
  have e : h.set (.loc (p + 1)) (.flat true (((X.getD p []).set s v).flatMap Vm.encI)) = ⟨h.outer, tabB b (setR X p s v) r⟩ := by
    unfold Hp.set
    simp only [hl]
    rw [tab_set b r hp h10]
  rw [e]
  exact hK
theorem rx_if {p s : Nat} {X : Rw} {ch : Bool} {w : Wy} : rx p s (X, ch) w = if gnB w ⟨p, atR X p s, s⟩ = true then (if (gnV w ⟨p, atR X p s, s⟩).d < atR X (gnV w ⟨p, atR X p s, s⟩).p (gnV w ⟨p, atR X p s, s⟩).s then (setR X (gnV w ⟨p, atR X p s, s⟩).p.toNat (gnV w ⟨p, atR X p s, s⟩).s.toNat (gnV w ⟨p, atR X p s, s⟩).d, true) else (X, ch)) else (X, ch) := by
  unfold rx
  dsimp only
  rw [gone_eq]
  cases gnB w ⟨p, atR X p s, s⟩ <;> rfl
theorem atR_at {n : Nat} {X : Rw} {p s : Nat} (h : Sz n X) (hp : p < n) (hs : s < 16) : (X.getD p [])[s]? = some (atR X p s) := by
  have := (atR_get h (k := ((p : Int), (s : Int))) ⟨by dsimp only; omega, by unfold Pp; dsimp only; omega⟩).2
  exact this
theorem sz_row {n : Nat} {X : Rw} {p : Nat} (h : Sz n X) (hp : p < n) : (X.getD p []).length = 16 := by
  have hl : p < X.length := by rw [h.len]; exact hp
  rw [List.getD_eq_getElem?_getD, List.getElem?_eq_getElem hl]
  exact h.row _ (List.getElem_mem hl)
theorem lt_row {n : Nat} {X : Rw} {p s : Nat} (h : Sz n X) (hp : p < n) (hs : s < 16) : s < (X.getD p []).length := by rw [sz_row h hp]; exact hs
theorem lt_len {n : Nat} {X : Rw} {p : Nat} (h : Sz n X) (hp : p < n) : p < X.length := by rw [h.len]; exact hp
def fzL (X : Rw) : List (Nat × List D) := (0, X.map dRow) :: (List.range X.length).map fun q => (q + 1, (X.getD q []).flatMap Vm.encI)
theorem assoc_map {α : Type} (f : Nat → α) {k : Nat} : ∀ {l : List Nat}, k ∈ l → assoc (l.map fun q => (q + 1, f q)) (k + 1) = some (f k)
  | a :: l, h => by
    rw [List.map_cons, assoc]
    cases hb : Nat.beq (a + 1) (k + 1) with
    | true =>
      have := Nat.eq_of_beq_eq_true hb
      have : a = k := by omega
      subst this; rfl
    | false =>
      have hne := Nat.ne_of_beq_eq_false hb
      refine assoc_map f ?_
      rcases List.mem_cons.1 h with h | h
      · omega
      · exact h
theorem tab_out {X : Rw} (h : Hp) (hz : Sz X.length X) (hn : X.length ≤ 10) : VOut h ⟨h.lift, tabB (.cells true (rowsV X.length)) X []⟩ (.gl (.loc 0) 1 X.length) (rws X) h := by
  have hf : ∀ q, q < X.length → assoc (fzL X) (q + 1) = some ((X.getD q []).flatMap Vm.encI) := fun q hq => assoc_map (fun q => (X.getD q []).flatMap Vm.encI) (List.mem_range.2 hq)
  have hat : ∀ (L : Nat), VTo ⟨[], L, fzL X, []⟩ (.gl (.loc 0) 1 X.length) (.fs 1 X.length (X.map dRow)) := fun L => VTo.fsGl rfl (by rw [List.length_map, Nat.mul_one])
  refine VOut.data 11 (fzL X) [] rfl (FzAll.of fun e he => ?_) FmAll.nil (hat 11)
  rcases List.mem_cons.1 he with rfl | he
  · refine ⟨_, rowsV X.length, rfl, rfl, by simp [rowsV], fun i v' hv => ?_⟩
    dsimp only at hv
    rw [List.getElem?_map, List.getElem?_map] at hv
    cases hi : X[i]? with
    | none => rw [hi] at hv; cases hv
    | some r =>
      rw [hi] at hv
      have hlt := (List.getElem?_eq_some_iff.1 hi).1
      have hr := hz.row r (List.mem_of_getElem? hi)
      have e : X.getD i [] = r := by rw [List.getD_eq_getElem?_getD, hi]; rfl
      simp only [Option.map_some, Option.some.injEq] at hv
      subst hv
      refine ⟨_, rowsV_at hlt, ?_⟩
      show VTo _ _ (.fs 1 r.length (r.flatMap Vm.encI))
      rw [hr]
      refine VTo.fsGl ?_ (by rw [flat_len Vm.encI_len, hr])
      have := hf i hlt
      rw [e] at this
      exact this
  · obtain ⟨q, hq, rfl⟩ := List.mem_map.1 he
    have hq := List.mem_range.1 hq
    exact ⟨_, ((X.getD q []).flatMap Vm.encI).map D.v, tab_get _ X [] (by omega), rfl, RowTo.dv _ _⟩
end Go.Proofs.Ytoeendggmalcpaa

