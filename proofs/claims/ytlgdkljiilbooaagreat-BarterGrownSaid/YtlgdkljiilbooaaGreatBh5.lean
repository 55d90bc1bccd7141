/- Part 5 of the proof that what a river gave and took is exchanged back as the given statement says. No condition. -/
import Derived.Test.YtlgdkljiilbooaaGreatBh4
set_option linter.unusedVariables false
set_option linter.unusedSimpArgs false
open Go.Vm
namespace Go.Proofs.YtlgdkljiilbooaaGreat.Bt
set_option maxRecDepth 20000
set_option maxHeartbeats 1000000
theorem hN_set : ∀ {ss : List Str} {ps : List Int} {i : Nat} {s : Str} {p : Int} (v : Int), ss[i]? = some s → ps[i]? = some p → hN ss (ps.set i v) = hN ss ps + s.no * (v - p)
  | [], _, _, _, _, _, h, _ => by simp at h
  | _ :: _, [], _, _, _, _, _, h => by simp at h
  | t :: ss, q :: ps, 0, s, p, v, h1, h2 => by
    simp at h1 h2; subst h1 h2
    rw [List.set_cons_zero, hN, hN, Int.mul_sub]; omega
  | t :: ss, q :: ps, i + 1, s, p, v, h1, h2 => by
    rw [List.set_cons_succ, hN, hN, hN_set v (by simpa using h1) (by simpa using h2)]; omega
theorem hS_set {w : Int} : ∀ {ss : List Str} {ps : List Int} {i : Nat} {s : Str} {p : Int} (v : Int), ss[i]? = some s → ps[i]? = some p → hS w ss (ps.set i v) = hS w ss ps - s.so * (v - p)
  | [], _, _, _, _, _, h, _ => by simp at h
  | _ :: _, [], _, _, _, _, _, h => by simp at h
  | t :: ss, q :: ps, 0, s, p, v, h1, h2 => by
    simp at h1 h2; subst h1 h2
    rw [List.set_cons_zero, hS, hS, Int.mul_sub, Int.mul_sub, Int.mul_sub]; omega
  | t :: ss, q :: ps, i + 1, s, p, v, h1, h2 => by
    rw [List.set_cons_succ, hS, hS, hS_set v (by simpa using h1) (by simpa using h2)]; omega
theorem hN_scale (w : Int) : ∀ (ss : List Str) (ps : List Int), hN ss (ps.map (w * ·)) = w * hN ss ps
  | [], ps => by cases ps <;> simp [hN]
  | s :: ss, [] => by simp [hN]
  | s :: ss, p :: ps => by
    rw [List.map_cons, hN, hN, hN_scale w ss ps, Int.mul_add, ← Int.mul_assoc, ← Int.mul_assoc, Int.mul_comm s.no w]
theorem hS_scale (w : Int) : ∀ (ss : List Str) (ps : List Int), hS w ss (ps.map (w * ·)) = w * hS 1 ss ps
  | [], ps => by cases ps <;> simp [hS]
  | s :: ss, [] => by simp [hS]
  | s :: ss, p :: ps => by
    have e : w - w * p = w * (1 - p) := by rw [Int.mul_sub]; omega
    rw [List.map_cons, hS, hS, hS_scale w ss ps, Int.mul_add, e, ← Int.mul_assoc, ← Int.mul_assoc, Int.mul_comm s.so w]
theorem hN_mono : ∀ {ss : List Str} {ps qs : List Int}, (∀ s ∈ ss, 0 ≤ s.no) → ps.length = ss.length → qs.length = ss.length → (∀ (i : Nat) p q, ps[i]? = some p → qs[i]? = some q → p ≤ q) → hN ss ps ≤ hN ss qs
  | [], _, _, _, _, _, _ => by simp [hN]
  | s :: ss, [], _, _, h, _, _ => by simp at h
  | s :: ss, _ :: _, [], _, _, h, _ => by simp at h
  | s :: ss, p :: ps, q :: qs, hs, h1, h2, h => by
    have := hN_mono (fun t hm => hs t (List.mem_cons_of_mem _ hm)) (by simpa using h1) (by simpa using h2) (fun i p q hp hq => h (i + 1) p q (by simpa using hp) (by simpa using hq))
    have h0 := Int.mul_le_mul_of_nonneg_left (h 0 p q rfl rfl) (hs s (by simp))
    rw [hN, hN]; omega
theorem hS_mono {w : Int} : ∀ {ss : List Str} {ps qs : List Int}, (∀ s ∈ ss, 0 ≤ s.so) → ps.length = ss.length → qs.length = ss.length → (∀ (i : Nat) p q, ps[i]? = some p → qs[i]? = some q → p ≤ q) → hS w ss qs ≤ hS w ss ps
  | [], _, _, _, _, _, _ => by simp [hS]
  | s :: ss, [], _, _, h, _, _ => by simp at h
  | s :: ss, _ :: _, [], _, _, h, _ => by simp at h
  | s :: ss, p :: ps, q :: qs, hs, h1, h2, h => by
    have := hS_mono (w := w) (fun t hm => hs t (List.mem_cons_of_mem _ hm)) (by simpa using h1) (by simpa using h2) (fun i p q hp hq => h (i + 1) p q (by simpa using hp) (by simpa using hq))
    have h0 := Int.mul_le_mul_of_nonneg_left (show w - q ≤ w - p by have := h 0 p q rfl rfl; omega) (hs s (by simp))
    rw [hS, hS]; omega
/-! ### The order, place by place -/
theorem selS_nodup (q : Nat → Bool) : ∀ k, (selS q k).Nodup
  | 0 => List.nodup_nil
  | k + 1 => by
    rw [selS]
    split
    · rw [List.nodup_append]
      refine ⟨selS_nodup q k, by simp, ?_⟩
      intro a ha b hb
      rw [List.mem_singleton] at hb
      obtain ⟨j, h1, h2, _⟩ := mem_selS.1 ha
      omega
    · exact selS_nodup q k
theorem insS_nodup {q : Int → Bool} {out : List Int} {x : Int} (h : out.Nodup) (hx : x ∉ out) : (insS q out x).Nodup := by
  unfold insS
  generalize posS q out out.length = p
  rw [← List.take_append_drop p out] at h hx
  generalize out.take p = A at h hx
  generalize out.drop p = B at h hx
  rw [List.nodup_append] at h ⊢
  obtain ⟨h1, h2, h3⟩ := h
  refine ⟨h1, ?_, ?_⟩
  · rw [List.nodup_cons]
    exact ⟨fun hb => hx (List.mem_append.2 (.inr hb)), h2⟩
  · intro a ha b hb
    rcases List.mem_cons.1 hb with rfl | hb
    · intro e; subst e; exact hx (List.mem_append.2 (.inl ha))
    · exact h3 a ha b hb
theorem isGo_nodup {q : Int → Int → Bool} {l : List Int} (h : l.Nodup) : ∀ m, m ≤ l.length → (isGo q l m).Nodup ∧ ∀ y ∈ isGo q l m, y ∈ l.take m
  | 0, _ => ⟨List.nodup_nil, fun y hy => by cases hy⟩
  | m + 1, hm => by
    obtain ⟨h1, h2⟩ := isGo_nodup h m (by omega)
    have hx : l[m]? = some l[m] := List.getElem?_eq_getElem (by omega)
    have hg : l.getD m 0 = l[m] := by rw [List.getD_eq_getElem?_getD, hx]; rfl
    have hnot : l[m] ∉ l.take m := by
      intro hin
      rw [← List.take_append_drop m l, List.nodup_append] at h
      refine h.2.2 _ hin l[m] ?_ rfl
      rw [List.drop_eq_getElem_cons (by omega)]; exact List.mem_cons_self
    have htk : l.take (m + 1) = l.take m ++ [l[m]] := by rw [List.take_add_one, hx]; rfl
    rw [isGo, hg]
    refine ⟨insS_nodup h1 fun hin => hnot (h2 _ hin), fun y hy => ?_⟩
    rw [htk]
    rcases insS_mem.1 hy with rfl | hy
    · exact List.mem_append.2 (.inr List.mem_cons_self)
    · exact List.mem_append.2 (.inl (h2 y hy))
theorem ord_nodup (l : Lnd) : (ordL l).Nodup := (isGo_nodup (selS_nodup _ _) _ (Nat.le_refl _)).1
def oS (l : Lnd) (k : Nat) : Str := sAt l ((ordL l).getD k 0).toNat
structure AtK (l : Lnd) (k j : Nat) : Prop where
  at_ : (ordL l)[k]? = some (j : Int)
  lt : j < l.ss.length
  free : freeQ l j = true
  new : (j : Int) ∉ (ordL l).take k
  tk : (ordL l).take (k + 1) = (ordL l).take k ++ [(j : Int)]
  cut : cutC l k = j
  st : l.ss[j]? = some (oS l k)
theorem at_k {l : Lnd} {k : Nat} (hk : k < (ordL l).length) : ∃ j, AtK l k j := by
  have hx : (ordL l)[k]? = some (ordL l)[k] := List.getElem?_eq_getElem hk
  obtain ⟨j, h1, h2, h3⟩ := ord_mem (List.getElem_mem hk)
  rw [h2] at hx
  have hs : l.ss[j]? = some l.ss[j] := List.getElem?_eq_getElem h1
  refine ⟨j, hx, h1, h3, ?_, by rw [List.take_add_one, hx]; rfl, by unfold cutC; rw [List.getD_eq_getElem?_getD, hx]; rfl, ?_⟩
  · intro hin
    have hn := ord_nodup l
    rw [← List.take_append_drop k (ordL l), List.nodup_append] at hn
    refine hn.2.2 _ hin (j : Int) ?_ rfl
    rw [List.drop_eq_getElem_cons hk, h2]; simp
  · unfold oS
    rw [List.getD_eq_getElem?_getD, hx, Option.getD_some, Int.toNat_natCast, sAt_eq hs]; exact hs
def xK (l : Lnd) (k : Nat) : Exc := ⟨1, exL l ((ordL l).take k) (-1) 0 1⟩
def xC (l : Lnd) (k : Nat) (n w : Int) : Exc := ⟨w, exL l ((ordL l).take k) (cutC l k) n w⟩
theorem prt_free {l : Lnd} {f : List Int} {n w : Int} {j : Nat} (hf : freeQ l j = true) (hn : (j : Int) ∉ f) : prt l f (-1) n w j = 0 := by
  have h1 : ¬ ((j : Int) = -1) := by omega
  unfold prt
  rw [if_neg h1, if_neg hn, hf]; rfl
theorem xC_zero {l : Lnd} {k : Nat} (w : Int) : exL l ((ordL l).take k) (cutC l k) 0 w = exL l ((ordL l).take k) (-1) 0 w := by
  rcases Nat.lt_or_ge k (ordL l).length with hk | hk
  · obtain ⟨j, A⟩ := at_k hk
    have hat := exL_at (l := l) (f := (ordL l).take k) (c := -1) (n := 0) (w := w) A.lt
    rw [prt_free A.free A.new] at hat
    rw [A.cut, ← exL_cut (m := 0) A.lt]
    obtain ⟨h5, h6⟩ := List.getElem?_eq_some_iff.1 hat
    conv => rhs; rw [← List.set_getElem_self h5]
    rw [h6]
  · have : cutC l k = -1 := by unfold cutC; rw [List.getD_eq_getElem?_getD, List.getElem?_eq_none hk]; rfl
    rw [this]
theorem exL_scale (l : Lnd) (f : List Int) (n w : Int) : exL l f (-1) n w = (exL l f (-1) 0 1).map (w * ·) := by
  unfold exL
  rw [List.map_map]
  refine List.map_congr_left fun i _ => ?_
  have h1 : ¬ ((i : Int) = -1) := by omega
  simp only [Function.comp_apply]
  unfold prt
  rw [if_neg h1, if_neg h1]
  split
  · omega
  · cases freeQ l i
    · simp only [cond_false]; rw [Int.mul_one, Int.mul_comm]
    · simp
def nK (l : Lnd) (k : Nat) : Int := gnN l (xK l k)
def sK (l : Lnd) (k : Nat) : Int := gnS l (xK l k)
theorem nK_succ {l : Lnd} {k : Nat} (hk : k < (ordL l).length) : nK l (k + 1) = nK l k + (oS l k).no ∧ sK l (k + 1) = sK l k - (oS l k).so := by
  obtain ⟨j, A⟩ := at_k hk
  have hat := exL_at (l := l) (f := (ordL l).take k) (c := -1) (n := 0) (w := 1) A.lt
  rw [prt_free A.free A.new] at hat
  have e : exL l ((ordL l).take (k + 1)) (-1) 0 1 = (exL l ((ordL l).take k) (-1) 0 1).set j 1 := by rw [A.tk, exL_set A.lt]
  have e1 := hN_set 1 A.st hat
  have e2 := hS_set (w := 1) 1 A.st hat
  rw [← e] at e1 e2
  unfold nK sK gnN gnS hasN hasS xK
  dsimp only
  rw [e1, e2]
  omega
theorem xC_gn {l : Lnd} {k : Nat} (n w : Int) (hk : k < (ordL l).length) : gnN l (xC l k n w) = w * nK l k + n * (oS l k).no ∧ gnS l (xC l k n w) = w * sK l k - n * (oS l k).so := by
  obtain ⟨j, A⟩ := at_k hk
  have hat := exL_at (l := l) (f := (ordL l).take k) (c := -1) (n := 0) (w := w) A.lt
  rw [prt_free A.free A.new] at hat
  have e : exL l ((ordL l).take k) (cutC l k) n w = (exL l ((ordL l).take k) (-1) 0 w).set j n := by rw [A.cut, exL_cut A.lt]
  have e1 := hN_set n A.st hat
  have e2 := hS_set (w := w) n A.st hat
  rw [← e, exL_scale l _ 0 w, hN_scale] at e1
  rw [← e, exL_scale l _ 0 w, hS_scale] at e2
  unfold nK sK gnN gnS hasN hasS xK xC
  dsimp only
  rw [e1, e2]
  simp only [Int.mul_sub, Int.one_mul, Int.mul_zero, Int.sub_zero, Int.mul_comm n]
  constructor <;> omega
end Go.Proofs.YtlgdkljiilbooaaGreat.Bt

open Go.Vm
namespace Go.Proofs.YtlgdkljiilbooaaGreat.Bt
set_option maxRecDepth 20000
set_option maxHeartbeats 4000000

theorem exL_ok {l : Lnd} {f : List Int} {c n w : Int} (o : Ok l) (hn : 0 ≤ n ∧ n ≤ w) (hw : 1 ≤ w ∧ w ≤ 2000) : XOk l ⟨w, exL l f c n w⟩ where
  w := hw
  len := exL_len l f c n w
  ps := fun p hp => by
    obtain ⟨i, hi, rfl⟩ := List.mem_map.1 hp
    rw [List.mem_range] at hi
    have hs : l.ss[i]? = some l.ss[i] := List.getElem?_eq_getElem hi
    have q := (o.ss _ (List.getElem_mem hi)).ow
    show 0 ≤ prt l f c n w i ∧ prt l f c n w i ≤ w
    unfold prt
    rw [sAt_eq hs]
    split
    · exact hn
    · split
      · omega
      · cases freeQ l i
        · rw [cond_false]
          rcases q with e | e <;> rw [e] <;> omega
        · rw [cond_true]; omega
theorem xK_ok {l : Lnd} (o : Ok l) (k : Nat) : XOk l (xK l k) := exL_ok o (by omega) (by omega)
theorem xC_ok {l : Lnd} (o : Ok l) (k : Nat) {n w : Int} (hn : 0 ≤ n ∧ n ≤ w) (hw : 1 ≤ w ∧ w ≤ 2000) : XOk l (xC l k n w) := exL_ok o hn hw
def xR (l : Lnd) (k n w : Nat) : Exc := xC l k ((n / Nat.gcd n w : Nat) : Int) ((w / Nat.gcd n w : Nat) : Int)
theorem red_bd {n w : Nat} (hn : n ≤ w) (hw : 1 ≤ w) (hw2 : w ≤ 2000) : (0 ≤ ((n / Nat.gcd n w : Nat) : Int) ∧ ((n / Nat.gcd n w : Nat) : Int) ≤ ((w / Nat.gcd n w : Nat) : Int)) ∧ 1 ≤ ((w / Nat.gcd n w : Nat) : Int) ∧ ((w / Nat.gcd n w : Nat) : Int) ≤ 2000 := by
  have hg := Nat.gcd_pos_of_pos_right n hw
  have hgw : Nat.gcd n w ≤ w := Nat.le_of_dvd hw (Nat.gcd_dvd_right _ _)
  have h1 : n / Nat.gcd n w ≤ w / Nat.gcd n w := Nat.div_le_div_right hn
  have h2 : 0 < w / Nat.gcd n w := Nat.div_pos hgw hg
  have h3 : w / Nat.gcd n w ≤ w := Nat.div_le_self _ _
  generalize n / Nat.gcd n w = a at *
  generalize w / Nat.gcd n w = b at *
  omega
theorem xR_zero {l : Lnd} {k w : Nat} (hw : 1 ≤ w) : xR l k 0 w = xK l k := by
  unfold xR xC xK
  rw [Nat.gcd_zero_left, Nat.zero_div, Nat.div_self (by omega)]
  show (⟨1, exL l _ (cutC l k) 0 1⟩ : Exc) = _
  rw [xC_zero]
theorem nK_bd {l : Lnd} (o : Ok l) (k : Nat) : (-16000 ≤ nK l k ∧ nK l k ≤ 16000) ∧ -16000 ≤ sK l k ∧ sK l k ≤ 16000 := by
  have b1 := nowN_b o
  have b2 := nowS_b o
  have hx := xK_ok o k
  have a1 := hasN_b o hx
  have a2 := hasS_b o hx
  have c1 := hN_b1 l.ss (xK l k).ps (o.nos 0) (hx.pss 0)
  have c2 := hS_b1 l.ss (xK l k).ps (o.sos 0) (hx.pss 0)
  have hn := o.n
  have e1 : hasN l (xK l k) = hN l.ss (xK l k).ps := rfl
  have e2 : hasS l (xK l k) = hS 1 l.ss (xK l k).ps := rfl
  have e3 : (xK l k).w = 1 := rfl
  unfold nK sK gnN gnS
  rw [e3]
  omega
theorem less0 {l : Lnd} (o : Ok l) : 0 ≤ sK l 0 - nK l 0 := by
  have hle : ∀ (i : Nat) p q, (xK l 0).ps[i]? = some p → (nowP l)[i]? = some q → p ≤ q := by
    intro i p q hp hq
    have hi : i < l.ss.length := by rw [← nowP_len l]; exact (List.getElem?_eq_some_iff.1 hq).1
    have hs : l.ss[i]? = some l.ss[i] := List.getElem?_eq_getElem hi
    have q1 := (o.ss _ (List.getElem_mem hi)).ow
    have e1 : (xK l 0).ps[i]? = some (prt l [] (-1) 0 1 i) := exL_at (f := []) hi
    rw [e1] at hp
    have e2 : (nowP l)[i]? = some (1 - l.ss[i].ow) := by simp [nowP, hs]
    rw [e2] at hq
    cases hp; cases hq
    have hk1 : ¬ ((i : Int) = -1) := by omega
    unfold prt
    rw [if_neg hk1, if_neg (by simp), sAt_eq hs]
    cases freeQ l i
    · rw [cond_false]; omega
    · rw [cond_true]; omega
  have h1 := hN_mono (ss := l.ss) (fun s hs => by have := (o.ss s hs).no; omega) (exL_len l _ _ _ _) (nowP_len l) hle
  have h2 := hS_mono (w := 1) (ss := l.ss) (fun s hs => by have := (o.ss s hs).so; omega) (exL_len l _ _ _ _) (nowP_len l) hle
  have e1 : hasN l (xK l 0) = hN l.ss (xK l 0).ps := rfl
  have e2 : hasS l (xK l 0) = hS 1 l.ss (xK l 0).ps := rfl
  have e3 : hasN l (nowX l) = hN l.ss (nowP l) := rfl
  have e4 : hasS l (nowX l) = hS 1 l.ss (nowP l) := rfl
  have e5 : (xK l 0).w = 1 := rfl
  unfold sK nK gnN gnS
  rw [e5, e1, e2, e3, e4]
  have e6 : (xK l 0).ps = exL l ((ordL l).take 0) (-1) 0 1 := rfl
  rw [e6]
  omega
theorem vc_given0 (l : Lnd) (f : List Int) (h : Hp) (o : Ok l) (hf : ∀ x ∈ f, ∃ j : Nat, j < l.ss.length ∧ x = j) (hfl : f.length ≤ 4000000) :
    VC Tryz.prog 23 [.fp (encN l), ints f, I (-1), I 0, I 1] h (vX ⟨1, exL l f (-1) 0 1⟩) h := vc_given l f (-1) 0 1 h o hf hfl (.inl rfl) (by decide) (by decide) (by decide)
theorem vc_givenC (l : Lnd) (k j n w : Nat) (h : Hp) (o : Ok l) (A : AtK l k j) (hw : 0 < w) (hw2 : w ≤ 2000) (hnb : n ≤ 1000000) :
    VC Tryz.prog 23 [.fp (encN l), ints ((ordL l).take k), I j, I n, I w] h (vX (xR l k n w)) h := by
  have := vc_given l ((ordL l).take k) j n w h o (fun x hx => by obtain ⟨j, h1, h2, _⟩ := ord_mem (List.mem_of_mem_take hx); exact ⟨j, h1, h2⟩) (by have := ord_len l; have := o.n; rw [List.length_take]; omega) (.inr ⟨j, A.lt, rfl⟩) hw hw2 hnb
  rw [← A.cut] at this
  rw [← A.cut]; exact this
theorem vc_givenK (l : Lnd) (k : Nat) (h : Hp) (o : Ok l) :
    VC Tryz.prog 23 [.fp (encN l), ints ((ordL l).take k), I (-1), I 0, I 1] h (vX (xK l k)) h :=
  vc_given0 l ((ordL l).take k) h o (fun x hx => by obtain ⟨j, h1, h2, _⟩ := ord_mem (List.mem_of_mem_take hx); exact ⟨j, h1, h2⟩) (by have := ord_len l; have := o.n; rw [List.length_take]; omega)
def stepK (l : Lnd) (k : Nat) : Int := (oS l k).no + (oS l k).so
def evGo (l : Lnd) : Nat → Nat → Exc
  | k, 0 => xK l k
  | k, d + 1 => if sK l k - nK l k < stepK l k then xR l k (sK l k - nK l k).toNat (stepK l k).toNat else evGo l (k + 1) d
def evX (l : Lnd) : Exc := evGo l 0 (ordL l).length
theorem vc_Even_ok (l : Lnd) (h : Hp) (o : Ok l) : VC Tryz.prog 7 [vL l] h (.tuple [vX (evX l), I 0]) h := by
  obtain ⟨R, hR⟩ : ∃ R, R = evX l := ⟨_, rfl⟩
  rw [← hR]
  unfold evX at hR
  have hn := o.n
  have hol := ord_len l
  refine VC.body Tryz.func7 rfl Tryz.ntmps7 Tryz.call7 (h.grows_refl) rfl ?_; conv => whnf
  repeat' (first | ((first | refine zs1 ?_ | refine zs2 ?_ | refine zs3 ?_ | refine zs4 ?_ | refine zs5 ?_ | refine zs6 [] ?_); conv => whnf) | ((first | apply zi1 | apply zi2 | apply zi3 | apply zi4 | apply zi5) <;> intro _ <;> conv => whnf) | (refine VCall.intro (vc_opened_ok l _ o) ?_; conv => whnf) | (refine VCall.intro (vc_order l _ o) ?_; conv => whnf))
  refine VCode.lp (fun k : Nat => [(2, .ptr (.loc 0) 0), (4, .fp (encN l)), (6, ints (ordL l)), (23, ints (ordL l)), (24, I (ordL l).length), (25, I k)]) (fun _ => [.flat true [DI 0, .nilslice]]) (fun k => k ≤ (ordL l).length ∧ R = evGo l k ((ordL l).length - k) ∧ 0 ≤ sK l k - nK l k) (fun k => (ordL l).length - k) 0 ⟨Nat.zero_le _, hR, less0 o⟩ ?_ ?_
  · conv => whnf
    refine Retell.turn ⟨[1], 2, [], []⟩ (TurnOk.mk' _ _ [] [] (OutOk.lift _) rfl (by decide) zb trivial trivial rfl) zv zm
  · rintro k ⟨hk, hRk, hless⟩
    conv => whnf
    refine VIte.dec (fun h3 => ?_) (fun h3 => ?_)
    · have hkl : k < (ordL l).length := by omega
      obtain ⟨j, A⟩ := at_k hkl
      have hsok := o.ss _ (List.mem_of_getElem? A.st)
      have hst : stepK l k = (oS l k).no + (oS l k).so := rfl
      rw [show (ordL l).length - k = ((ordL l).length - (k + 1)) + 1 by omega, evGo] at hRk
      obtain ⟨n1, n2⟩ := nK_succ hkl
      have hbd := nK_bd o k
      have q1 := hsok.no
      have q2 := hsok.so
      have c1 := fun h => vc_givenK l k h o
      have c2 := fun h => vc_gains l (xK l k) h o (xK_ok o k)
      have e1 : gnN l (xK l k) = nK l k := rfl
      have e2 : gnS l (xK l k) = sK l k := rfl
      rw [e1, e2] at c2
      obtain ⟨m, hm⟩ : ∃ m : Nat, (m : Int) = sK l k - nK l k := ⟨(sK l k - nK l k).toNat, by omega⟩
      obtain ⟨s, hs⟩ : ∃ s : Nat, (s : Int) = stepK l k := ⟨(stepK l k).toNat, by omega⟩
      have c3 := fun h => vc_givenC l k j m s h o A (by omega) (by omega) (by omega)
      rw [show (sK l k - nK l k).toNat = m by omega, show (stepK l k).toNat = s by omega] at hRk
      have hAs := A.st
      have hAa := A.at_
      have hsub : ((ordL l).drop (Int.toNat 0)).take ((k : Int) - 0).toNat = (ordL l).take k := by simp
      generalize oS l k = st at hAs hst q1 q2 n1 n2
      generalize sK l k = S at *
      generalize nK l k = N at *
      conv => whnf
      repeat' (first | ((first | refine zs1 ?_ | refine zs2 ?_ | refine zs3 ?_ | refine zs4 ?_ | refine zs5 ?_); conv => whnf) | ((first | apply zi1 | apply zi2 | apply zi3 | apply zi4 | apply zi5) <;> intro _ <;> conv => whnf) | (refine VAny.ix encI_len k rfl rfl hAa ?_; conv => whnf))
      refine VAny.sub encI_len rfl (by omega) ?_
      rw [hsub]
      conv => whnf
      repeat' (first | ((first | refine zs1 ?_ | refine zs2 ?_ | refine zs3 ?_ | refine zs4 ?_ | refine zs5 ?_); conv => whnf) | ((first | apply zi1 | apply zi2 | apply zi3 | apply zi4 | apply zi5) <;> intro _ <;> conv => whnf) | (refine VCall.intro (c1 _) ?_; conv => whnf) | (refine VCall.intro (c2 _) ?_; conv => whnf))
      refine VDraw.go [] (by kernel_rfl) (by kernel_rfl) ?_
      conv => whnf
      repeat' (first | ((first | refine zs1 ?_ | refine zs2 ?_ | refine zs3 ?_ | refine zs4 ?_ | refine zs5 ?_); conv => whnf) | ((first | apply zi1 | apply zi2 | apply zi3 | apply zi4 | apply zi5) <;> intro _ <;> conv => whnf) | (refine VAny.ix encT_len j rfl rfl hAs ?_; conv => whnf))
      · rename_i h5
        refine VAny.sub encI_len rfl (by omega) ?_
        rw [hsub]
        simp only [hm, hs, hst] at c3
        conv => whnf
        repeat' (first | ((first | refine zs1 ?_ | refine zs2 ?_ | refine zs3 ?_ | refine zs4 ?_ | refine zs5 ?_); conv => whnf) | ((first | apply zi1 | apply zi2 | apply zi3 | apply zi4 | apply zi5) <;> intro _ <;> conv => whnf) | (refine VCall.intro (c3 _) ?_; conv => whnf))
        rw [hRk, if_pos (by omega)]
        exact VOut.same rfl
      · rename_i h5
        refine LEnd.intro (k + 1) ⟨by omega, by rw [hRk, if_neg (by omega)], by rw [n1, n2]; omega⟩ (by omega) ?_
        conv => whnf
        refine Retell.turn ⟨[0], 2, [], []⟩ (TurnOk.mk' _ _ [] [] (OutOk.lift _) rfl (by decide) zb trivial trivial rfl) zv zm
    · have hkl : k = (ordL l).length := by omega
      subst hkl
      rw [Nat.sub_self, evGo] at hRk
      subst hRk
      have c1 := fun h => vc_givenK l (ordL l).length h o
      rw [List.take_of_length_le (Nat.le_refl _)] at c1
      conv => whnf
      repeat' (first | ((first | refine zs1 ?_ | refine zs2 ?_ | refine zs3 ?_ | refine zs4 ?_ | refine zs5 ?_ | refine zs6 [] ?_); conv => whnf) | ((first | apply zi1 | apply zi2 | apply zi3 | apply zi4 | apply zi5) <;> intro _ <;> conv => whnf) | (refine VCall.intro (c1 _) ?_; conv => whnf))
      exact VOut.same rfl
end Go.Proofs.YtlgdkljiilbooaaGreat.Bt

open Go.Vm
namespace Go.Proofs.YtlgdkljiilbooaaGreat.Bt
set_option maxRecDepth 20000
set_option maxHeartbeats 4000000
theorem xR_gn {l : Lnd} {k n w : Nat} (hk : k < (ordL l).length) (hw : 0 < w) :
    ∃ g a b : Nat, 0 < g ∧ n = g * a ∧ w = g * b ∧ xR l k n w = xC l k a b ∧ gnN l (xR l k n w) = b * nK l k + a * (oS l k).no ∧ gnS l (xR l k n w) = b * sK l k - a * (oS l k).so := by
  have hg := Nat.gcd_pos_of_pos_right n hw
  obtain ⟨e1, e2⟩ := xC_gn (l := l) (k := k) ((n / Nat.gcd n w : Nat) : Int) ((w / Nat.gcd n w : Nat) : Int) hk
  exact ⟨Nat.gcd n w, n / Nat.gcd n w, w / Nat.gcd n w, hg, (Nat.mul_div_cancel' (Nat.gcd_dvd_left _ _)).symm, (Nat.mul_div_cancel' (Nat.gcd_dvd_right _ _)).symm, rfl, e1, e2⟩
end Go.Proofs.YtlgdkljiilbooaaGreat.Bt

open Go.Vm
namespace Go.Proofs.YtlgdkljiilbooaaGreat.Bt
set_option maxRecDepth 20000
set_option maxHeartbeats 4000000

def mxGo (l : Lnd) (g : Int) : Nat → Nat → Exc
  | k, 0 => xK l k
  | k, d + 1 => if g - nK l k ≤ 0 then xK l k else if g - nK l k < (oS l k).no then xR l k (g - nK l k).toNat (oS l k).no.toNat else mxGo l g (k + 1) d
def mxX (l : Lnd) (g : Int) : Exc := mxGo l g 0 (ordL l).length
def allN (l : Lnd) : Int := nK l (ordL l).length
theorem vc_lacks (l : Lnd) (g : Int) (k : Nat) (h : Hp) (o : Ok l) (hk : k ≤ (ordL l).length) (hg : -20000 ≤ g ∧ g ≤ 20000) :
    VC Tryz.prog 34 [I k, .fp [DI g], .fp [.pt (encN l)], .fp [.sl 1 (ordL l).length ((ordL l).flatMap Vm.encI)]] h (I (g - nK l k)) h := by
  have c1 := fun h => vc_givenK l k h o
  have c2 := fun h => vc_gains l (xK l k) h o (xK_ok o k)
  have e1 : gnN l (xK l k) = nK l k := rfl
  have e2 : gnS l (xK l k) = sK l k := rfl
  rw [e1, e2] at c2
  have hbd := nK_bd o k
  have hsub : ((ordL l).drop (Int.toNat 0)).take ((k : Int) - 0).toNat = (ordL l).take k := by simp
  have hn := o.n
  have hol := ord_len l
  generalize sK l k = S at *
  generalize nK l k = N at *
  refine VC.body Tryz.func34 rfl Tryz.ntmps34 Tryz.call34 (h.grows_refl) rfl ?_; conv => whnf
  repeat' (first | ((first | refine zs1 ?_ | refine zs2 ?_ | refine zs3 ?_ | refine zs4 ?_ | refine zs5 ?_); conv => whnf) | ((first | apply zi1 | apply zi2 | apply zi3 | apply zi4 | apply zi5) <;> intro _ <;> conv => whnf))
  refine VDraw.go [(0, 5), (1, 5), (2, 5), (0, 6), (1, 6), (0, 7)] (by kernel_rfl) (by kernel_rfl) ?_
  conv => whnf
  repeat' (first | ((first | refine zs1 ?_ | refine zs2 ?_ | refine zs3 ?_ | refine zs4 ?_ | refine zs5 ?_); conv => whnf) | ((first | apply zi1 | apply zi2 | apply zi3 | apply zi4 | apply zi5) <;> intro _ <;> conv => whnf))
  refine VAny.sub encI_len rfl (by omega) ?_
  rw [hsub]
  conv => whnf
  repeat' (first | ((first | refine zs1 ?_ | refine zs2 ?_ | refine zs3 ?_ | refine zs4 ?_ | refine zs5 ?_); conv => whnf) | ((first | apply zi1 | apply zi2 | apply zi3 | apply zi4 | apply zi5) <;> intro _ <;> conv => whnf) | (refine VCall.intro (c1 _) ?_; conv => whnf) | (refine VCall.intro (c2 _) ?_; conv => whnf))
  exact VOut.same rfl
def mxV (l : Lnd) (g : Int) : V := .tuple (if g ≤ allN l then [vX (mxX l g), I 0] else [.agg [I 0, .nilslice], I 7])
theorem vc_Most_ok (l : Lnd) (g : Int) (h : Hp) (o : Ok l) : VC Tryz.prog 19 [vL l, I g] h (mxV l g) h := by
  obtain ⟨R, hR⟩ : ∃ R, R = mxX l g := ⟨_, rfl⟩
  unfold mxV
  rw [← hR]
  unfold mxX at hR
  have hn := o.n
  have hol := ord_len l
  have c1 := fun h => vc_givenK l (ordL l).length h o
  rw [List.take_of_length_le (Nat.le_refl _)] at c1
  have c2 := fun h => vc_gains l (xK l (ordL l).length) h o (xK_ok o _)
  have e1 : gnN l (xK l (ordL l).length) = allN l := rfl
  have e2 : gnS l (xK l (ordL l).length) = sK l (ordL l).length := rfl
  have hb0 : -16000 ≤ allN l ∧ allN l ≤ 16000 := (nK_bd o _).1
  rw [e1, e2] at c2
  generalize allN l = A at c2 hb0 ⊢
  generalize sK l (ordL l).length = SA at c2
  refine VC.body Tryz.func19 rfl Tryz.ntmps19 Tryz.call19 (h.grows_refl) rfl ?_; conv => whnf
  repeat' (first | ((first | refine zs1 ?_ | refine zs2 ?_ | refine zs3 ?_ | refine zs4 ?_ | refine zs5 ?_); conv => whnf) | ((first | apply zi1 | apply zi2 | apply zi3 | apply zi4 | apply zi5) <;> intro _ <;> conv => whnf) | (refine VCall.intro (vc_opened_ok l _ o) ?_; conv => whnf) | (refine VCall.intro (vc_order l _ o) ?_; conv => whnf))
  refine VDraw.go [(0, 3)] (by kernel_rfl) (by kernel_rfl) ?_
  conv => whnf
  repeat' (first | ((first | refine zs1 ?_ | refine zs2 ?_ | refine zs3 ?_ | refine zs4 ?_ | refine zs5 ?_); conv => whnf) | ((first | apply zi1 | apply zi2 | apply zi3 | apply zi4 | apply zi5) <;> intro _ <;> conv => whnf) | (refine VCall.intro (c1 _) ?_; conv => whnf) | (refine VCall.intro (c2 _) ?_; conv => whnf))
  · rename_i h1
    rw [if_neg (by omega)]
    exact VOut.same rfl
  · rename_i h1
    rw [if_pos (by omega)]
    refine VCode.lp (fun k : Nat => [(4, .ptr (.loc 0) 0), (6, .fp [.pt (encN l)]), (8, .fp [.sl 1 (ordL l).length ((ordL l).flatMap Vm.encI)]), (10, .func (.func 34) [] [.fp [DI (max g (-16000))], .fp [.pt (encN l)], .fp [.sl 1 (ordL l).length ((ordL l).flatMap Vm.encI)]]), (39, ints (ordL l)), (40, I (ordL l).length), (41, I k)]) (fun _ => [.flat true [DI 0, .nilslice]]) (fun k => k ≤ (ordL l).length ∧ R = mxGo l g k ((ordL l).length - k)) (fun k => (ordL l).length - k) 0 ⟨Nat.zero_le _, hR⟩ ?_ ?_
    · conv => whnf
      refine Retell.turn ⟨[2], 6, [(1, [DI (max g (-16000))]), (3, [.pt (encN l)]), (4, [.sl 1 (ordL l).length ((ordL l).flatMap Vm.encI)])], []⟩ (TurnOk.mk' _ _ [(1, [DI (max g (-16000))]), (3, [.pt (encN l)]), (4, [.sl 1 (ordL l).length ((ordL l).flatMap Vm.encI)])] [] (OutOk.lift _) rfl (by decide) zb zf trivial rfl) zv zm
    · rintro k ⟨hk, hRk⟩
      conv => whnf
      refine VIte.dec (fun h3 => ?_) (fun h3 => ?_)
      · have hkl : k < (ordL l).length := by omega
        obtain ⟨j, A'⟩ := at_k hkl
        have hsok := o.ss _ (List.mem_of_getElem? A'.st)
        rw [show (ordL l).length - k = ((ordL l).length - (k + 1)) + 1 by omega, mxGo] at hRk
        have hbd := nK_bd o k
        have q1 := hsok.no
        have c3 := fun h => vc_givenK l k h o
        have c4 := fun h => vc_lacks l (max g (-16000)) k h o hk (by omega)
        obtain ⟨s, hs⟩ : ∃ s : Nat, (s : Int) = (oS l k).no := ⟨(oS l k).no.toNat, by omega⟩
        rw [← hs, Int.toNat_natCast] at hRk
        have c5 := fun (m : Nat) h => vc_givenC l k j m s h o A' (by omega) (by omega)
        have hAs := A'.st
        have hAa := A'.at_
        have hsub : ((ordL l).drop (Int.toNat 0)).take ((k : Int) - 0).toNat = (ordL l).take k := by simp
        generalize oS l k = st at hAs hs q1
        generalize nK l k = N at *
        conv => whnf
        repeat' (first | ((first | refine zs1 ?_ | refine zs2 ?_ | refine zs3 ?_ | refine zs4 ?_ | refine zs5 ?_); conv => whnf) | ((first | apply zi1 | apply zi2 | apply zi3 | apply zi4 | apply zi5) <;> intro _ <;> conv => whnf) | (refine VAny.ix encI_len k rfl rfl hAa ?_; conv => whnf))
        refine VDraw.go [(0, 10), (4, 10), (7, 10)] (by kernel_rfl) (by kernel_rfl) ?_
        conv => whnf
        repeat' (first | ((first | refine zs1 ?_ | refine zs2 ?_ | refine zs3 ?_ | refine zs4 ?_ | refine zs5 ?_); conv => whnf) | ((first | apply zi1 | apply zi2 | apply zi3 | apply zi4 | apply zi5) <;> intro _ <;> conv => whnf) | (refine VAny.ix encT_len j rfl rfl hAs ?_; conv => whnf) | (refine VCall.intro (c4 _) ?_; conv => whnf))
        · rename_i h5
          rw [if_pos (by omega)] at hRk
          subst hRk
          refine VDraw.go [(0, 3)] (by kernel_rfl) (by kernel_rfl) ?_
          conv => whnf
          repeat' (first | ((first | refine zs1 ?_ | refine zs2 ?_ | refine zs3 ?_ | refine zs4 ?_ | refine zs5 ?_); conv => whnf) | ((first | apply zi1 | apply zi2 | apply zi3 | apply zi4 | apply zi5) <;> intro _ <;> conv => whnf))
          refine VAny.sub encI_len rfl (by omega) ?_
          rw [hsub]
          conv => whnf
          repeat' (first | ((first | refine zs1 ?_ | refine zs2 ?_ | refine zs3 ?_ | refine zs4 ?_ | refine zs5 ?_); conv => whnf) | ((first | apply zi1 | apply zi2 | apply zi3 | apply zi4 | apply zi5) <;> intro _ <;> conv => whnf) | (refine VCall.intro (c3 _) ?_; conv => whnf))
          exact VOut.same rfl
        · rename_i h5 h6
          obtain ⟨m, hm⟩ : ∃ m : Nat, (m : Int) = max g (-16000) - N := ⟨(max g (-16000) - N).toNat, by omega⟩
          rw [if_neg (by omega), if_pos (by omega), show (g - N).toNat = m by omega] at hRk
          subst hRk
          have c6 := fun h => c5 m h (by omega)
          simp only [hm, hs] at c6
          refine VDraw.go [(0, 3), (3, 7)] (by kernel_rfl) (by kernel_rfl) ?_
          conv => whnf
          repeat' (first | ((first | refine zs1 ?_ | refine zs2 ?_ | refine zs3 ?_ | refine zs4 ?_ | refine zs5 ?_); conv => whnf) | ((first | apply zi1 | apply zi2 | apply zi3 | apply zi4 | apply zi5) <;> intro _ <;> conv => whnf))
          refine VAny.sub encI_len rfl (by omega) ?_
          rw [hsub]
          conv => whnf
          repeat' (first | ((first | refine zs1 ?_ | refine zs2 ?_ | refine zs3 ?_ | refine zs4 ?_ | refine zs5 ?_); conv => whnf) | ((first | apply zi1 | apply zi2 | apply zi3 | apply zi4 | apply zi5) <;> intro _ <;> conv => whnf) | (refine VCall.intro (c6 _) ?_; conv => whnf))
          exact VOut.same rfl
        · rename_i h5 h6
          rw [if_neg (by omega), if_neg (by omega)] at hRk
          refine LEnd.intro (k + 1) ⟨by omega, hRk⟩ (by omega) ?_
          conv => whnf
          refine Retell.turn ⟨[0], 2, [], []⟩ (TurnOk.mk' _ _ [] [] (OutOk.lift _) rfl (by decide) zb trivial trivial rfl) zv zm
      · have hkl : k = (ordL l).length := by omega
        subst hkl
        rw [Nat.sub_self, mxGo] at hRk
        subst hRk
        conv => whnf
        repeat' (first | ((first | refine zs1 ?_ | refine zs2 ?_ | refine zs3 ?_ | refine zs4 ?_ | refine zs5 ?_ | refine zs6 [] ?_); conv => whnf) | ((first | apply zi1 | apply zi2 | apply zi3 | apply zi4 | apply zi5) <;> intro _ <;> conv => whnf) | (refine VCall.intro (c1 _) ?_; conv => whnf))
        exact VOut.same rfl
end Go.Proofs.YtlgdkljiilbooaaGreat.Bt

open Go.Vm
namespace Go.Proofs.YtlgdkljiilbooaaGreat.Bt
set_option maxRecDepth 20000
set_option maxHeartbeats 4000000

def three : Lnd := ⟨[⟨0, 10, 30, -1⟩, ⟨1, 40, 20, -1⟩, ⟨1, 20, 20, -1⟩], []⟩
def threeW : Lnd := ⟨[⟨0, 10, 30, 0⟩, ⟨1, 40, 20, -1⟩, ⟨1, 20, 20, -1⟩], [0]⟩
theorem three_ok : Ok three := chk_ok.1 (by decide)
theorem threeW_ok : Ok threeW := chk_ok.1 (by decide)
theorem three_ord : ordL three = [1, 2, 0] := by decide
theorem three_al : alB three ⟨1, [1, 0, 0]⟩ = true := by decide
theorem three_wst : wst three ⟨1, [1, 0, 0]⟩ = some (1, 0) := by decide
theorem three_gn : gnN three ⟨1, [0, 1, 0]⟩ = 30 ∧ gnS three ⟨1, [0, 1, 0]⟩ = 10 := by decide
theorem three_hl : hlB three ⟨1, [0, 1, 0]⟩ 1 1 = true := by decide
theorem three_even : evX three = ⟨3, [0, 2, 0]⟩ := by decide
theorem three_m30 : mxX three 30 = ⟨1, [0, 1, 0]⟩ := by decide
theorem three_m40 : mxX three 40 = ⟨2, [0, 2, 1]⟩ := by decide
theorem three_all : allN three = 60 := by decide
theorem threeW_even : evX threeW = ⟨1, [1, 0, 0]⟩ := by decide
end Go.Proofs.YtlgdkljiilbooaaGreat.Bt

open Go.Vm
namespace Go.Proofs.YtlgdkljiilbooaaGreat.Bt
set_option maxRecDepth 20000
set_option maxHeartbeats 4000000

theorem vc_is (x : Exc) (w : Int) (ps : List Int) (h : Hp) (h1 : x.ps.length ≤ 4000000) (h2 : ps.length ≤ 4000000) : VC Tryz.prog 18 [vX x, I w, ints ps] h (B (decide (x.w = w) && decide (x.ps = ps))) h := by
  have ce := fun h => vc_equalI x.ps ps h h1 h2
  generalize decide (x.ps = ps) = E at ce ⊢
  refine VC.body Tryz.func18 rfl Tryz.ntmps18 Tryz.call18 (h.grows_refl) rfl ?_; conv => whnf
  repeat' (first | ((first | refine zs1 ?_ | refine zs2 ?_ | refine zs3 ?_ | refine zs4 ?_ | refine zs5 ?_ | refine zs6 [] ?_); conv => whnf) | ((first | apply zi1 | apply zi2 | apply zi3 | apply zi4 | apply zi5) <;> intro _ <;> conv => whnf) | (refine VCall.intro (ce _) ?_; conv => whnf))
  · rename_i h3
    rw [decide_eq_true h3, Bool.true_and]
    exact VOut.same rfl
  · rename_i h3
    rw [decide_eq_false h3, Bool.false_and]
    exact VOut.same rfl
theorem vc_Three (h : Hp) : VC Tryz.prog 14 [] h (.agg [strs three.ss, .nilslice]) h := by
  refine VC.body Tryz.func14 rfl Tryz.ntmps14 Tryz.call14 (h.grows_refl) rfl ?_; conv => whnf
  repeat' (first | ((first | refine zs1 ?_ | refine zs2 ?_ | refine zs3 ?_ | refine zs4 ?_ | refine zs5 ?_ | refine zs6 [] ?_); conv => whnf) | ((first | apply zi1 | apply zi2 | apply zi3 | apply zi4 | apply zi5) <;> intro _ <;> conv => whnf))
  refine VOut.data 2 [(1, three.ss.flatMap encT)] [] rfl zf (by exact FmAll.nil) zv
theorem VOut.ownL {h : Hp} {loc : List Blk} {esz n : Nat} {ds : List D} (j L : Nat) (hL : Nat.ble loc.length L = true) (hj : loc[j]? = some (.flat true ds)) : VOut h ⟨h.lift, loc⟩ (.agg [.gl (.loc j) esz n, .nilslice]) (.agg [.gl h.fresh esz n, .nilslice]) (h.push (.flat true ds)) := by
  refine VOut.upd [] [.flat true ds] [j] L hL (by intro p hp; cases hp) (by simp) rfl ?_ ?_ rfl
  · intro k b hk
    cases k with
    | zero => rw [List.getElem?_cons_zero, Option.some.injEq] at hk; subst hk; exact ⟨j, rfl, hj⟩
    | succ k => simp at hk
  · intro σ x hx
    have : (V.agg [.gl h.fresh esz n, .nilslice]).ren (backR h.loc.length [j] L) = .agg [.gl (.loc j) esz n, .nilslice] := by simp [V.ren, V.rens, backR, Hp.fresh]
    rw [this]; exact hx
theorem vc_ThreeO (h : Hp) : VC Tryz.prog 14 [] h (.agg [.gl h.fresh 4 3, .nilslice]) (h.push (.flat true (three.ss.flatMap encT))) := by
  refine VC.body Tryz.func14 rfl Tryz.ntmps14 Tryz.call14 (h.grows_push _) rfl ?_
  conv => whnf
  repeat' (first | ((first | refine zs1 ?_ | refine zs2 ?_ | refine zs3 ?_ | refine zs4 ?_ | refine zs5 ?_ | refine zs6 [] ?_); conv => whnf) | ((first | apply zi1 | apply zi2 | apply zi3 | apply zi4 | apply zi5) <;> intro _ <;> conv => whnf))
  exact VOut.ownL 1 2 rfl rfl
end Go.Proofs.YtlgdkljiilbooaaGreat.Bt

open Go.Vm
namespace Go.Proofs.YtlgdkljiilbooaaGreat.Bt
set_option maxRecDepth 20000
set_option maxHeartbeats 4000000

def d100 : List D := [DI 1, DI 0, DI 0]
def d120 : List D := [DI 1, DI 2, DI 0]
def d020 : List D := [DI 0, DI 2, DI 0]
def d0 : List D := [DI 0]
def d021 : List D := [DI 0, DI 2, DI 1]
def d010 : List D := [DI 0, DI 1, DI 0]
theorem vc_awake (h : Hp) : VC Tryz.prog 6 [] h (B true) h := by
  have c15 := fun h => vc_Order_ok three h three_ok
  rw [three_ord] at c15
  have c32 := fun h => vc_Waste_ok three ⟨1, [1, 0, 0]⟩ h three_ok ⟨by decide, by decide, by decide⟩
  have e32 : wsV three ⟨1, [1, 0, 0]⟩ = .tuple [I 1, I 0, I 0] := by unfold wsV; rw [three_al, three_wst]; rfl
  rw [e32] at c32
  have c26 := fun h => vc_Gains_ok three ⟨1, [0, 1, 0]⟩ h three_ok ⟨by decide, by decide, by decide⟩
  rw [three_gn.1, three_gn.2] at c26
  have c34 := fun h => vc_Holds three ⟨1, [0, 1, 0]⟩ 1 1 h (by decide) (by decide) (by decide)
  have e34 : hlE three ⟨1, [0, 1, 0]⟩ 1 1 = 0 := by decide
  rw [three_hl, e34] at c34
  have c21 := fun h => vc_Even_ok three h three_ok
  rw [three_even] at c21
  have c17 := fun h => eqI [1, 2, 0] h (by decide)
  have c50 := fun h => vc_is ⟨3, [0, 2, 0]⟩ 3 [0, 2, 0] h (by decide) (by decide)
  have c30 := fun h => vc_Most_ok three 30 h three_ok
  have c40 := fun h => vc_Most_ok three 40 h three_ok
  have c61 := fun h => vc_Most_ok three 61 h three_ok
  unfold mxV at c30 c40 c61
  rw [three_all, if_pos (by decide), three_m30] at c30
  rw [three_all, if_pos (by decide), three_m40] at c40
  rw [three_all, if_neg (by decide)] at c61
  have cW := fun h => vc_Even_ok threeW h threeW_ok
  rw [threeW_even] at cW
  have k1 := fun h => vc_is ⟨1, [0, 1, 0]⟩ 1 [0, 1, 0] h (by decide) (by decide)
  have k2 := fun h => vc_is ⟨2, [0, 2, 1]⟩ 2 [0, 2, 1] h (by decide) (by decide)
  have k3 := fun h => vc_is ⟨1, [1, 0, 0]⟩ 1 [1, 0, 0] h (by decide) (by decide)
  refine VC.body Tryz.func6 rfl Tryz.ntmps6 Tryz.call6 (h.grows_refl) rfl ?_; conv => whnf
  repeat' (first | ((first | refine zs1 ?_ | refine zs2 ?_ | refine zs3 ?_ | refine zs4 ?_ | refine zs5 ?_ | refine zs6 [] ?_); conv => whnf) | ((first | apply zi1 | apply zi2 | apply zi3 | apply zi4 | apply zi5) <;> intro _ <;> conv => whnf) | (refine VCall.intro (vc_Three _) ?_; conv => whnf) | (refine VCall.intro (VC.give (args' := [vL three]) (loc' := []) [] [] (OutOk.lift _) zb zf (by exact FmAll.nil) rfl zv (c15 _)) ?_; conv => whnf))
  refine VCall.intro (VC.give (args' := [vL three, vX ⟨1, [1, 0, 0]⟩]) (loc' := [.dead]) [(0, d100)] [] (OutOk.lift _) zb zf (by exact FmAll.nil) rfl zv (c32 _)) ?_
  conv => whnf
  repeat' (first | ((first | refine zs1 ?_ | refine zs2 ?_ | refine zs3 ?_ | refine zs4 ?_ | refine zs5 ?_ | refine zs6 [] ?_); conv => whnf) | ((first | apply zi1 | apply zi2 | apply zi3 | apply zi4 | apply zi5) <;> intro _ <;> conv => whnf) | (refine VCall.intro (vc_Three _) ?_; conv => whnf))
  refine VCall.intro (VC.give (args' := [vL three, vX ⟨1, [0, 1, 0]⟩]) (loc' := [.dead, .dead]) [(1, d010)] [] (OutOk.lift _) zb zf (by exact FmAll.nil) rfl zv (c26 _)) ?_
  conv => whnf
  repeat' (first | ((first | refine zs1 ?_ | refine zs2 ?_ | refine zs3 ?_ | refine zs4 ?_ | refine zs5 ?_ | refine zs6 [] ?_); conv => whnf) | ((first | apply zi1 | apply zi2 | apply zi3 | apply zi4 | apply zi5) <;> intro _ <;> conv => whnf) | (refine VCall.intro (vc_Three _) ?_; conv => whnf))
  refine VCall.intro (VC.give (args' := [vL three, vX ⟨1, [0, 1, 0]⟩, I 1, I 1]) (loc' := [.dead, .dead, .dead]) [(2, d010)] [] (OutOk.lift _) zb zf (by exact FmAll.nil) rfl zv (c34 _)) ?_
  conv => whnf
  repeat' (first | ((first | refine zs1 ?_ | refine zs2 ?_ | refine zs3 ?_ | refine zs4 ?_ | refine zs5 ?_ | refine zs6 [] ?_); conv => whnf) | ((first | apply zi1 | apply zi2 | apply zi3 | apply zi4 | apply zi5) <;> intro _ <;> conv => whnf) | (refine VCall.intro (vc_Three _) ?_; conv => whnf))
  refine VCall.intro (VC.give (args' := [vL three]) (loc' := [.dead, .dead, .dead]) [] [] (OutOk.lift _) zb zf (by exact FmAll.nil) rfl zv (c21 _)) ?_
  conv => whnf
  repeat' (first | ((first | refine zs1 ?_ | refine zs2 ?_ | refine zs3 ?_ | refine zs4 ?_ | refine zs5 ?_ | refine zs6 [] ?_); conv => whnf) | ((first | apply zi1 | apply zi2 | apply zi3 | apply zi4 | apply zi5) <;> intro _ <;> conv => whnf))
  refine VCall.intro (VC.give (args' := [ints [1, 2, 0], ints [1, 2, 0]]) (loc' := [.dead, .dead, .dead, .flat true (encX ⟨3, [0, 2, 0]⟩), .dead]) [(4, d120)] [] (OutOk.lift _) zb zf (by exact FmAll.nil) rfl zv (c17 _)) ?_
  conv => whnf
  repeat' (first | ((first | refine zs1 ?_ | refine zs2 ?_ | refine zs3 ?_ | refine zs4 ?_ | refine zs5 ?_ | refine zs6 [] ?_); conv => whnf) | ((first | apply zi1 | apply zi2 | apply zi3 | apply zi4 | apply zi5) <;> intro _ <;> conv => whnf))
  refine VCall.intro (VC.give (args' := [vX ⟨3, [0, 2, 0]⟩, I 3, ints [0, 2, 0]]) (loc' := [.dead, .dead, .dead, .flat true (encX ⟨3, [0, 2, 0]⟩), .dead, .dead]) [(5, d020)] [] (OutOk.lift _) zb zf (by exact FmAll.nil) rfl zv (c50 _)) ?_
  conv => whnf
  repeat' (first | ((first | refine zs1 ?_ | refine zs2 ?_ | refine zs3 ?_ | refine zs4 ?_ | refine zs5 ?_ | refine zs6 [] ?_); conv => whnf) | ((first | apply zi1 | apply zi2 | apply zi3 | apply zi4 | apply zi5) <;> intro _ <;> conv => whnf) | (refine VCall.intro (vc_Three _) ?_; conv => whnf))
  refine VCall.intro (VC.give (args' := [vL three, I 30]) (loc' := [.dead, .dead, .dead, .flat true (encX ⟨3, [0, 2, 0]⟩), .dead, .dead]) [] [] (OutOk.lift _) zb zf (by exact FmAll.nil) rfl zv (c30 _)) ?_
  conv => whnf
  repeat' (first | ((first | refine zs1 ?_ | refine zs2 ?_ | refine zs3 ?_ | refine zs4 ?_ | refine zs5 ?_ | refine zs6 [] ?_); conv => whnf) | ((first | apply zi1 | apply zi2 | apply zi3 | apply zi4 | apply zi5) <;> intro _ <;> conv => whnf) | (refine VCall.intro (vc_Three _) ?_; conv => whnf))
  refine VCall.intro (VC.give (args' := [vL three, I 40]) (loc' := [.dead, .dead, .dead, .flat true (encX ⟨3, [0, 2, 0]⟩), .dead, .dead, .flat true (encX ⟨1, [0, 1, 0]⟩)]) [] [] (OutOk.lift _) zb zf (by exact FmAll.nil) rfl zv (c40 _)) ?_
  conv => whnf
  repeat' (first | ((first | refine zs1 ?_ | refine zs2 ?_ | refine zs3 ?_ | refine zs4 ?_ | refine zs5 ?_ | refine zs6 [] ?_); conv => whnf) | ((first | apply zi1 | apply zi2 | apply zi3 | apply zi4 | apply zi5) <;> intro _ <;> conv => whnf) | (refine VCall.intro (vc_Three _) ?_; conv => whnf))
  refine VCall.intro (VC.give (args' := [vL three, I 61]) (loc' := [.dead, .dead, .dead, .flat true (encX ⟨3, [0, 2, 0]⟩), .dead, .dead, .flat true (encX ⟨1, [0, 1, 0]⟩), .flat true (encX ⟨2, [0, 2, 1]⟩)]) [] [] (OutOk.lift _) zb zf (by exact FmAll.nil) rfl zv (c61 _)) ?_
  conv => whnf
  repeat' (first | ((first | refine zs1 ?_ | refine zs2 ?_ | refine zs3 ?_ | refine zs4 ?_ | refine zs5 ?_ | refine zs6 [] ?_); conv => whnf) | ((first | apply zi1 | apply zi2 | apply zi3 | apply zi4 | apply zi5) <;> intro _ <;> conv => whnf) | (refine VCall.intro (vc_ThreeO _) ?_; conv => whnf))
  refine VCall.intro (VC.give (args' := [vL threeW]) (loc' := [.dead, .dead, .dead, .flat true (encX ⟨3, [0, 2, 0]⟩), .dead, .dead, .flat true (encX ⟨1, [0, 1, 0]⟩), .flat true (encX ⟨2, [0, 2, 1]⟩), .dead, .dead, .dead]) [(8, threeW.ss.flatMap encT), (10, d0)] [] (OutOk.lift _) zb zf (by exact FmAll.nil) rfl zv (cW _)) ?_
  conv => whnf
  repeat' (first | ((first | refine zs1 ?_ | refine zs2 ?_ | refine zs3 ?_ | refine zs4 ?_ | refine zs5 ?_ | refine zs6 [] ?_); conv => whnf) | ((first | apply zi1 | apply zi2 | apply zi3 | apply zi4 | apply zi5) <;> intro _ <;> conv => whnf))
  refine VCall.intro (VC.give (args' := [vX ⟨1, [0, 1, 0]⟩, I 1, ints [0, 1, 0]]) (loc' := [.dead, .dead, .dead, .flat true (encX ⟨3, [0, 2, 0]⟩), .dead, .dead, .flat true (encX ⟨1, [0, 1, 0]⟩), .flat true (encX ⟨2, [0, 2, 1]⟩), .dead, .dead, .dead, .flat true (encX ⟨1, [1, 0, 0]⟩), .dead]) [(12, d010)] [] (OutOk.lift _) zb zf (by exact FmAll.nil) rfl zv (k1 _)) ?_
  conv => whnf
  repeat' (first | ((first | refine zs1 ?_ | refine zs2 ?_ | refine zs3 ?_ | refine zs4 ?_ | refine zs5 ?_ | refine zs6 [] ?_); conv => whnf) | ((first | apply zi1 | apply zi2 | apply zi3 | apply zi4 | apply zi5) <;> intro _ <;> conv => whnf))
  refine VCall.intro (VC.give (args' := [vX ⟨2, [0, 2, 1]⟩, I 2, ints [0, 2, 1]]) (loc' := [.dead, .dead, .dead, .flat true (encX ⟨3, [0, 2, 0]⟩), .dead, .dead, .flat true (encX ⟨1, [0, 1, 0]⟩), .flat true (encX ⟨2, [0, 2, 1]⟩), .dead, .dead, .dead, .flat true (encX ⟨1, [1, 0, 0]⟩), .dead, .dead]) [(13, d021)] [] (OutOk.lift _) zb zf (by exact FmAll.nil) rfl zv (k2 _)) ?_
  conv => whnf
  repeat' (first | ((first | refine zs1 ?_ | refine zs2 ?_ | refine zs3 ?_ | refine zs4 ?_ | refine zs5 ?_ | refine zs6 [] ?_); conv => whnf) | ((first | apply zi1 | apply zi2 | apply zi3 | apply zi4 | apply zi5) <;> intro _ <;> conv => whnf))
  refine VCall.intro (VC.give (args' := [vX ⟨1, [1, 0, 0]⟩, I 1, ints [1, 0, 0]]) (loc' := [.dead, .dead, .dead, .flat true (encX ⟨3, [0, 2, 0]⟩), .dead, .dead, .flat true (encX ⟨1, [0, 1, 0]⟩), .flat true (encX ⟨2, [0, 2, 1]⟩), .dead, .dead, .dead, .flat true (encX ⟨1, [1, 0, 0]⟩), .dead, .dead, .dead]) [(14, d100)] [] (OutOk.lift _) zb zf (by exact FmAll.nil) rfl zv (k3 _)) ?_
  conv => whnf
  repeat' (first | ((first | refine zs1 ?_ | refine zs2 ?_ | refine zs3 ?_ | refine zs4 ?_ | refine zs5 ?_ | refine zs6 [] ?_); conv => whnf) | ((first | apply zi1 | apply zi2 | apply zi3 | apply zi4 | apply zi5) <;> intro _ <;> conv => whnf))
  exact VOut.same rfl
end Go.Proofs.YtlgdkljiilbooaaGreat.Bt

namespace Riv
structure Mp where
  w : Int
  h : Int
  c : List Int
  deriving DecidableEq
def Nb (W a b : Nat) : Prop := a = b + W ∨ b = a + W ∨ (a = b + 1 ∧ a % W ≠ 0) ∨ (b = a + 1 ∧ b % W ≠ 0)
instance (W a b : Nat) : Decidable (Nb W a b) := by unfold Nb; infer_instance
theorem Nb.symm {W a b : Nat} (h : Nb W a b) : Nb W b a := by
  rcases h with h | h | h | h
  · exact .inr (.inl h)
  · exact .inl h
  · exact .inr (.inr (.inr h))
  · exact .inr (.inr (.inl h))
def nbs (W L n : Nat) : List Nat := (if n < W then [] else [n - W]) ++ (if n % W = 0 then [] else [n - 1]) ++ (if n % W = W - 1 then [] else [n + 1]) ++ (if L ≤ n + W then [] else [n + W])
theorem mod_succ {W n : Nat} (hW : 2 ≤ W) : (n + 1) % W = if n % W = W - 1 then 0 else n % W + 1 := by
  have h1 := Nat.div_add_mod n W
  have h2 := Nat.mod_lt n (show 0 < W by omega)
  generalize n % W = r at *
  generalize n / W = q at *
  subst h1
  split
  · rename_i h
    subst h
    rw [show W * q + (W - 1) + 1 = W * (q + 1) by rw [Nat.mul_succ]; omega, Nat.mul_mod_right]
  · rw [Nat.add_assoc, Nat.mul_add_mod, Nat.mod_eq_of_lt (by omega)]
theorem nbs_iff {W L H n k : Nat} (hW : 2 ≤ W) (hL : L = W * H) (hn : n < L) : k ∈ nbs W L n ↔ k < L ∧ Nb W n k := by
  have hm := mod_succ (n := n) hW
  have hr := Nat.mod_lt n (show 0 < W by omega)
  have hend : n % W ≠ W - 1 → n + 1 < L := by
    intro h
    rw [if_neg h] at hm
    have : n + 1 ≠ L := fun e => by
      rw [e, hL, Nat.mul_mod_right] at hm
      omega
    omega
  unfold nbs Nb
  simp only [List.mem_append]
  constructor
  · rintro (((h | h) | h) | h)
    · split at h
      · simp at h
      · simp at h; subst h; exact ⟨by omega, .inl (by omega)⟩
    · split at h
      · simp at h
      · rename_i h2
        simp at h; subst h
        have : n ≠ 0 := fun e => h2 (by rw [e]; exact Nat.zero_mod W)
        exact ⟨by omega, .inr (.inr (.inl ⟨by omega, h2⟩))⟩
    · split at h
      · simp at h
      · rename_i h2
        simp at h; subst h
        exact ⟨hend h2, .inr (.inr (.inr ⟨rfl, by rw [hm, if_neg h2]; omega⟩))⟩
    · split at h
      · simp at h
      · simp at h; subst h; exact ⟨by omega, .inr (.inl rfl)⟩
  · rintro ⟨h0, h | h | h | h⟩
    · refine .inl (.inl (.inl ?_))
      rw [if_neg (by omega)]; simp; omega
    · refine .inr ?_
      rw [if_neg (by omega)]; simp; omega
    · refine .inl (.inl (.inr ?_))
      rw [if_neg h.2]; simp; omega
    · refine .inl (.inr ?_)
      have h2 := h.2
      rw [h.1, hm] at h2
      rw [if_neg (fun e => h2 (by rw [if_pos e]))]
      simp; omega
end Riv

namespace Riv
def at0 (l : List Int) (n : Nat) : Int := l.getD n (-1)
def Thr (c : List Int) (s : Int) (k : Nat) : Prop := at0 c k = 0 ∨ at0 c k = s
def Opn (c : List Int) (k : Nat) : Prop := at0 c k = 0 ∨ at0 c k = 3
instance (c : List Int) (s : Int) (k : Nat) : Decidable (Thr c s k) := by unfold Thr; infer_instance
instance (c : List Int) (k : Nat) : Decidable (Opn c k) := by unfold Opn; infer_instance
structure Fit (c : List Int) (W : Nat) (s : Int) (T : List Int) (n : Nat) : Prop where
  own : at0 c n = s → at0 T n = 0
  opn : at0 c n ≠ s → Opn c n → (at0 T n = -1 ∧ ∀ k, k < c.length → Nb W n k → Thr c s k → at0 T k = -1) ∨ ∃ k, k < c.length ∧ Nb W n k ∧ Thr c s k ∧ at0 T k ≠ -1 ∧ at0 T n = at0 T k + 1 ∧ ∀ j, j < c.length → Nb W n j → Thr c s j → at0 T j ≠ -1 → at0 T k ≤ at0 T j
  oth : at0 c n ≠ s → ¬ Opn c n → at0 T n = -1
structure Hld (c : List Int) (W : Nat) (s : Int) (T : List Int) : Prop where
  len : T.length = c.length
  fit : ∀ n, n < c.length → Fit c W s T n
theorem low_ex : ∀ T : List Int, ∃ B : Nat, ∀ n, -1 - (B : Int) ≤ at0 T n
  | [] => ⟨0, fun n => by simp [at0]⟩
  | x :: T => by
    obtain ⟨B, hB⟩ := low_ex T
    refine ⟨B + x.natAbs, fun n => ?_⟩
    cases n with
    | zero => simp [at0]; omega
    | succ n =>
      have := hB n
      simp only [at0, List.getD_cons_succ] at this ⊢
      omega
theorem at0_out {T : List Int} {n : Nat} (h : T.length ≤ n) : at0 T n = -1 := by
  unfold at0
  rw [List.getD_eq_getElem?_getD, List.getElem?_eq_none h]; rfl
theorem Hld.low {c : List Int} {W : Nat} {s : Int} {T : List Int} (h : Hld c W s T) (n : Nat) : -1 ≤ at0 T n := by
  obtain ⟨B, hB⟩ := low_ex T
  revert hB
  induction B with
  | zero => intro hB; have := hB n; omega
  | succ B ih =>
    intro hB
    refine ih fun m => ?_
    rcases Nat.lt_or_ge m c.length with hm | hm
    · have hf := h.fit m hm
      by_cases h1 : at0 c m = s
      · rw [hf.own h1]; omega
      · by_cases h2 : Opn c m
        · rcases hf.opn h1 h2 with h3 | ⟨k, _, _, _, _, h3, _⟩
          · rw [h3.1]; omega
          · have := hB k; omega
        · rw [hf.oth h1 h2]; omega
    · rw [at0_out (by rw [h.len]; exact hm)]; omega
theorem Hld.step {c : List Int} {W : Nat} {s : Int} {T : List Int} (h : Hld c W s T) {n : Nat} (hn : n < c.length) (k : Nat) : at0 T n = (k : Int) + 1 ↔ at0 c n ≠ s ∧ Opn c n ∧ (∃ j, j < c.length ∧ Nb W n j ∧ Thr c s j ∧ at0 T j = k) ∧ ∀ j, j < c.length → Nb W n j → Thr c s j → at0 T j ≠ -1 → (k : Int) ≤ at0 T j := by
  have hf := h.fit n hn
  constructor
  · intro h0
    have h1 : at0 c n ≠ s := fun e => by have := hf.own e; omega
    have h2 : Opn c n := Decidable.byContradiction fun e => by have := hf.oth h1 e; omega
    rcases hf.opn h1 h2 with h3 | ⟨j, a1, a2, a3, a4, a5, a6⟩
    · have := h3.1; omega
    · have e : at0 T j = k := by omega
      exact ⟨h1, h2, ⟨j, a1, a2, a3, e⟩, fun i b1 b2 b3 b4 => by have := a6 i b1 b2 b3 b4; omega⟩
  · rintro ⟨h1, h2, ⟨j, a1, a2, a3, a4⟩, h4⟩
    rcases hf.opn h1 h2 with h3 | ⟨i, b1, b2, b3, b4, b5, b6⟩
    · have := h3.2 j a1 a2 a3; omega
    · have e1 := b6 j a1 a2 a3 (by omega)
      have e2 := h4 i b1 b2 b3 b4
      omega
theorem Hld.zero {c : List Int} {W : Nat} {s : Int} {T : List Int} (h : Hld c W s T) {n : Nat} (hn : n < c.length) : at0 T n = 0 ↔ at0 c n = s := by
  have hf := h.fit n hn
  constructor
  · intro h0
    refine Decidable.byContradiction fun h1 => ?_
    by_cases h2 : Opn c n
    · rcases hf.opn h1 h2 with h3 | ⟨j, a1, a2, a3, a4, a5, a6⟩
      · have := h3.1; omega
      · have := h.low j; omega
    · have := hf.oth h1 h2; omega
  · exact hf.own
theorem Hld.same {c : List Int} {W : Nat} {s : Int} {T U : List Int} (h : Hld c W s T) (g : Hld c W s U) : ∀ (k : Nat) (n : Nat), n < c.length → (at0 T n = k ↔ at0 U n = k) := by
  intro k
  induction k using Nat.strongRecOn with
  | _ k ih =>
    intro n hn
    cases k with
    | zero => exact (h.zero hn).trans (g.zero hn).symm
    | succ k =>
      have half : ∀ {T U : List Int}, Hld c W s T → Hld c W s U → (∀ m, m < k + 1 → ∀ n, n < c.length → (at0 T n = (m : Int) ↔ at0 U n = (m : Int))) → at0 T n = (k : Int) + 1 → at0 U n = (k : Int) + 1 := by
        intro T U h g ih h0
        obtain ⟨h1, h2, ⟨j, a1, a2, a3, a4⟩, h4⟩ := (h.step hn k).1 h0
        refine (g.step hn k).2 ⟨h1, h2, ⟨j, a1, a2, a3, (ih k (by omega) j a1).1 a4⟩, fun i b1 b2 b3 b4 => ?_⟩
        rcases Int.lt_or_le (at0 U i) k with h5 | h5
        · exfalso
          have h6 := g.low i
          have h7 := (ih (at0 U i).toNat (by omega) i b1).2 (by omega)
          have := h4 i b1 b2 b3 (by omega)
          omega
        · exact h5
      rw [show ((k + 1 : Nat) : Int) = (k : Int) + 1 by omega]
      exact ⟨half h g ih, half g h fun m hm n hn => (ih m hm n hn).symm⟩
theorem ext0 {T U : List Int} (hl : T.length = U.length) (h : ∀ n, n < T.length → at0 T n = at0 U n) : T = U := by
  apply List.ext_getElem hl
  intro n h1 h2
  have := h n h1
  unfold at0 at this
  rw [List.getD_eq_getElem?_getD, List.getD_eq_getElem?_getD, List.getElem?_eq_getElem h1, List.getElem?_eq_getElem h2] at this
  exact this
end Riv

namespace Riv
def t0 (c : List Int) (s : Int) : List Int := c.map fun x => if x = s then 0 else -1
def putB (c : List Int) (st : Int) (T : List Int) (k : Nat) : List Int := if at0 T k = -1 ∧ Opn c k then T.set k (st + 1) else T
def cellB (c : List Int) (W : Nat) (s st : Int) (T : List Int) (n : Nat) : List Int := if at0 T n = st ∧ Thr c s n then (nbs W c.length n).foldl (putB c st) T else T
def stepB (c : List Int) (W : Nat) (s : Int) (T : List Int) (st : Nat) : List Int := (List.range c.length).foldl (cellB c W s st) T
def bfs (c : List Int) (W : Nat) (s : Int) : List Int := (List.range c.length).foldl (stepB c W s) (t0 c s)
def cnt (T : List Int) : Nat := T.countP fun x => decide (x ≠ -1)
theorem at0_set {T : List Int} {k : Nat} {v : Int} (hk : k < T.length) (j : Nat) : at0 (T.set k v) j = if j = k then v else at0 T j := by
  unfold at0
  rw [List.getD_eq_getElem?_getD, List.getD_eq_getElem?_getD]
  split
  · rename_i h; subst h
    rw [List.getElem?_set_self hk]; rfl
  · rename_i h
    rw [List.getElem?_set_ne (fun e => h e.symm)]
end Riv

namespace Riv
abbrev TB := List Int × Bool
structure RI (c : List Int) (W : Nat) (s : Int) (T : List Int) : Prop where
  len : T.length = c.length
  own : ∀ n, n < c.length → at0 c n = s → at0 T n = 0
  low : ∀ n, -1 ≤ at0 T n
  got : ∀ n, n < c.length → at0 c n ≠ s → at0 T n ≠ -1 → Opn c n ∧ ∃ k, k < c.length ∧ Nb W n k ∧ Thr c s k ∧ at0 T k ≠ -1 ∧ at0 T k + 1 ≤ at0 T n
  cn : ∀ n, at0 T n ≠ -1 → at0 T n + 1 ≤ cnt T
def wgt : List Int → Nat
  | [] => 0
  | x :: T => (if x = -1 then 200 else x.toNat) + wgt T
theorem wgt_set : ∀ {T : List Int} {k : Nat} {v : Int}, k < T.length → 0 ≤ v → v < 200 → (at0 T k = -1 ∨ v < at0 T k) → wgt (T.set k v) < wgt T
  | x :: T, 0, v, _, h0, h1, h => by
    have h : x = -1 ∨ v < x := h
    rw [List.set_cons_zero, wgt, wgt, if_neg (by omega)]
    rcases h with h | h
    · rw [if_pos h]; omega
    · rw [if_neg (by omega)]; omega
  | x :: T, k + 1, v, hk, h0, h1, h => by
    have := wgt_set (T := T) (k := k) (by simpa using hk) h0 h1 (by simpa [at0] using h)
    rw [List.set_cons_succ, wgt, wgt]; omega
theorem wgt_le : ∀ {T : List Int}, (∀ n, at0 T n ≤ 200) → wgt T ≤ 200 * T.length
  | [], _ => by simp [wgt]
  | x :: T, h => by
    have h1 := wgt_le (T := T) fun n => by have := h (n + 1); simpa [at0] using this
    have h2 : x ≤ 200 := h 0
    rw [wgt, List.length_cons]
    split <;> omega
structure RJ (c : List Int) (W : Nat) (s : Int) (R T : List Int) (ch : Bool) (P : Nat → Nat → Prop) : Prop where
  ri : RI c W s T
  no : ch = false → T = R ∧ ∀ a b, a < c.length → b < c.length → P a b → at0 R a ≠ -1 → at0 c a ≠ 3 → Nb W a b → Opn c b → at0 R b ≠ -1 ∧ at0 R b ≤ at0 R a + 1
  yes : ch = true → wgt T < wgt R
theorem RJ.mono {c : List Int} {W : Nat} {s : Int} {R T : List Int} {ch : Bool} {P Q : Nat → Nat → Prop} (h : RJ c W s R T ch P) (hq : ∀ a b, a < c.length → b < c.length → Q a b → (at0 R a ≠ -1 → at0 c a ≠ 3 → P a b)) : RJ c W s R T ch Q :=
  ⟨h.ri, fun e => ⟨(h.no e).1, fun a b h1 h2 h3 h4 h5 => (h.no e).2 a b h1 h2 (hq a b h1 h2 h3 h4 h5) h4 h5⟩, h.yes⟩
end Riv

namespace Riv
def ls1 (o n : Int) : Int := if n ≠ -1 ∧ (o = -1 ∨ n < o) then n else o
def leastL (l : List Int) : Int := l.foldl ls1 (-1)
end Riv

namespace Riv
def bat (m : List Bool) (n : Nat) : Bool := m.getD n false
inductive Con (mk : List Bool) (W : Nat) : Nat → Nat → Prop
  | refl {n : Nat} : bat mk n = true → Con mk W n n
  | step {a b c : Nat} : Con mk W a b → Nb W b c → bat mk c = true → Con mk W a c
theorem bat_lt {m : List Bool} {n : Nat} (h : bat m n = true) : n < m.length := by
  rcases Nat.lt_or_ge n m.length with h1 | h1
  · exact h1
  · unfold bat at h
    rw [List.getD_eq_getElem?_getD, List.getElem?_eq_none h1] at h
    simp at h
theorem Con.mk {m : List Bool} {W a b : Nat} (h : Con m W a b) : bat m a = true ∧ bat m b = true := by
  induction h with
  | refl h => exact ⟨h, h⟩
  | step _ _ h ih => exact ⟨ih.1, h⟩
theorem Con.trans {m : List Bool} {W a b c : Nat} (h : Con m W a b) (g : Con m W b c) : Con m W a c := by
  induction g with
  | refl _ => exact h
  | step _ h1 h2 ih => exact Con.step ih h1 h2
theorem Con.symm {m : List Bool} {W a b : Nat} (h : Con m W a b) : Con m W b a := by
  induction h with
  | refl h => exact Con.refl h
  | step h1 h2 h3 ih => exact ((Con.refl h3).step h2.symm (h1.mk).2).trans ih
theorem rise_eq : ∀ {a b : List Nat}, a.Pairwise (· < ·) → b.Pairwise (· < ·) → (∀ x, x ∈ a ↔ x ∈ b) → a = b
  | [], [], _, _, _ => rfl
  | [], y :: b, _, _, h => by have := (h y).2 List.mem_cons_self; cases this
  | x :: a, [], _, _, h => by have := (h x).1 List.mem_cons_self; cases this
  | x :: a, y :: b, ha, hb, h => by
    rw [List.pairwise_cons] at ha hb
    have e : x = y := by
      have h1 := (h x).1 List.mem_cons_self
      have h2 := (h y).2 List.mem_cons_self
      rcases List.mem_cons.1 h1 with h1 | h1
      · exact h1
      · rcases List.mem_cons.1 h2 with h2 | h2
        · exact h2.symm
        · have := hb.1 x h1; have := ha.1 y h2; omega
    subst e
    rw [rise_eq ha.2 hb.2 fun z => ?_]
    constructor
    · intro hz
      rcases List.mem_cons.1 ((h z).1 (List.mem_cons_of_mem _ hz)) with e | e
      · have := ha.1 z hz; omega
      · exact e
    · intro hz
      rcases List.mem_cons.1 ((h z).2 (List.mem_cons_of_mem _ hz)) with e | e
      · have := hb.1 z hz; omega
      · exact e
theorem nodup_len : ∀ (n : Nat) (l : List Nat), l.Nodup → (∀ x ∈ l, x < n) → l.length ≤ n
  | 0, l, _, h => by
    cases l with
    | nil => simp
    | cons x l => have := h x List.mem_cons_self; omega
  | n + 1, l, hd, h => by
    have h1 : (l.filter fun x => decide (x ≠ n)).length ≤ n := nodup_len n _ (hd.filter _) fun x hx => by
      rw [List.mem_filter] at hx
      have := h x hx.1
      have h3 : x ≠ n := by simpa using hx.2
      omega
    have h2 : l.length ≤ (l.filter fun x => decide (x ≠ n)).length + 1 := by
      clear h1 h
      induction l with
      | nil => simp
      | cons x l ih =>
        rw [List.nodup_cons] at hd
        by_cases hx : x = n
        · subst hx
          have : l.filter (fun y => decide (y ≠ x)) = l := List.filter_eq_self.2 fun y hy => by
            have : y ≠ x := fun e => hd.1 (e ▸ hy)
            simpa using this
          rw [List.filter_cons_of_neg (by simp), this]
          simp
        · rw [List.filter_cons_of_pos (by simpa using hx)]
          have := ih hd.2
          simp only [List.length_cons]; omega
    omega
def folL (mk : List Bool) (rec : Nat → List Nat → List Nat) : List Nat → List Nat → List Nat
  | [], M => M
  | k :: ks, M => if k ∉ M ∧ bat mk k = true then folL mk rec ks (rec k M) else folL mk rec ks M
def folW (mk : List Bool) (W : Nat) : Nat → Nat → List Nat → List Nat
  | 0, _, M => M
  | N + 1, n, M => folL mk (folW mk W N) (nbs W mk.length n) (M ++ [n])
structure FO (mk : List Bool) (W n : Nat) (M R : List Nat) : Prop where
  pre : M <+: R
  nd : R.Nodup
  own : n ∈ R
  mrk : ∀ x ∈ R, x ∉ M → bat mk x = true ∧ Con mk W n x
  clo : ∀ x ∈ R, x ∉ M → ∀ k, Nb W x k → bat mk k = true → k ∈ R
structure FL (mk : List Bool) (W n : Nat) (M0 M ks R : List Nat) : Prop where
  pre : M <+: R
  nd : R.Nodup
  mrk : ∀ x ∈ R, x ∉ M → bat mk x = true ∧ Con mk W n x
  clo : ∀ x ∈ R, x ∉ M → ∀ k, Nb W x k → bat mk k = true → k ∈ R
  kin : ∀ k ∈ ks, bat mk k = true → k ∈ R
theorem folL_ok {mk : List Bool} {W H n N : Nat} (hW : 2 ≤ W) (hL : mk.length = W * H) (hm : bat mk n = true) {rec : Nat → List Nat → List Nat}
    (hr : ∀ k M, bat mk k = true → k ∉ M → M.Nodup → (∀ x ∈ M, x < mk.length) → mk.length ≤ N + M.length → FO mk W k M (rec k M)) {M0 : List Nat} :
    ∀ (ks M : List Nat), (∀ k ∈ ks, k < mk.length ∧ Nb W n k) → M.Nodup → (∀ x ∈ M, x < mk.length) → mk.length ≤ N + M.length → FL mk W n M0 M ks (folL mk rec ks M)
  | [], M, _, hd, _, _ => ⟨List.prefix_refl _, hd, fun x h1 h2 => absurd h1 h2, fun x h1 h2 => absurd h1 h2, fun k hk => (by cases hk)⟩
  | k :: ks, M, hk, hd, hx, hN => by
    rw [folL]
    have hk1 := hk k List.mem_cons_self
    split
    · rename_i hc
      have h1 := hr k M hc.2 hc.1 hd hx hN
      have hcon : Con mk W n k := (Con.refl hm).step hk1.2 hc.2
      have hx1 : ∀ x ∈ rec k M, x < mk.length := fun x h2 => by
        by_cases h3 : x ∈ M
        · exact hx x h3
        · exact bat_lt (h1.mrk x h2 h3).1
      have hlen : M.length ≤ (rec k M).length := h1.pre.length_le
      have h2 := folL_ok (N := N) (M0 := M0) hW hL hm hr ks (rec k M) (fun j hj => hk j (List.mem_cons_of_mem _ hj)) h1.nd hx1 (by omega)
      refine ⟨h1.pre.trans h2.pre, h2.nd, fun x a1 a2 => ?_, fun x a1 a2 j a3 a4 => ?_, fun j hj a1 => ?_⟩
      · by_cases h3 : x ∈ rec k M
        · have h4 := h1.mrk x h3 a2
          exact ⟨h4.1, hcon.trans h4.2⟩
        · exact h2.mrk x a1 h3
      · by_cases h3 : x ∈ rec k M
        · exact h2.pre.subset (h1.clo x h3 a2 j a3 a4)
        · exact h2.clo x a1 h3 j a3 a4
      · rcases List.mem_cons.1 hj with rfl | hj
        · exact h2.pre.subset h1.own
        · exact h2.kin j hj a1
    · rename_i hc
      have h2 := folL_ok (N := N) (M0 := M0) hW hL hm hr ks M (fun j hj => hk j (List.mem_cons_of_mem _ hj)) hd hx hN
      refine ⟨h2.pre, h2.nd, h2.mrk, h2.clo, fun j hj a1 => ?_⟩
      rcases List.mem_cons.1 hj with rfl | hj
      · exact h2.pre.subset (Decidable.byContradiction fun h3 => hc ⟨h3, a1⟩)
      · exact h2.kin j hj a1
theorem folW_ok {mk : List Bool} {W H : Nat} (hW : 2 ≤ W) (hL : mk.length = W * H) : ∀ (N n : Nat) (M : List Nat), bat mk n = true → n ∉ M → M.Nodup → (∀ x ∈ M, x < mk.length) → mk.length ≤ N + M.length → FO mk W n M (folW mk W N n M)
  | 0, n, M, h1, h2, h3, h4, h5 => by
    exfalso
    have h6 : (M ++ [n]).Nodup := by
      rw [List.nodup_append]
      exact ⟨h3, by simp, fun a ha b hb => by simp at hb; subst hb; intro e; subst e; exact h2 ha⟩
    have h7 := nodup_len mk.length (M ++ [n]) h6 fun x hx => by
      rcases List.mem_append.1 hx with hx | hx
      · exact h4 x hx
      · simp at hx; subst hx; exact bat_lt h1
    rw [List.length_append] at h7
    simp at h7; omega
  | N + 1, n, M, h1, h2, h3, h4, h5 => by
    have h6 : (M ++ [n]).Nodup := by
      rw [List.nodup_append]
      exact ⟨h3, by simp, fun a ha b hb => by simp at hb; subst hb; intro e; subst e; exact h2 ha⟩
    have h7 : ∀ x ∈ M ++ [n], x < mk.length := fun x hx => by
      rcases List.mem_append.1 hx with hx | hx
      · exact h4 x hx
      · simp at hx; subst hx; exact bat_lt h1
    have hn := bat_lt h1
    rw [folW]
    have h := folL_ok (N := N) (M0 := M ++ [n]) hW hL h1 (folW_ok hW hL N) (nbs W mk.length n) (M ++ [n]) (fun k hk => (nbs_iff hW hL hn).1 hk) h6 h7 (by rw [List.length_append]; simp; omega)
    have hnin : n ∈ folL mk (folW mk W N) (nbs W mk.length n) (M ++ [n]) := h.pre.subset (by simp)
    refine ⟨(List.prefix_append _ _).trans h.pre, h.nd, hnin, fun x a1 a2 => ?_, fun x a1 a2 k a3 a4 => ?_⟩
    · by_cases hx : x = n
      · subst hx; exact ⟨h1, Con.refl h1⟩
      · exact h.mrk x a1 (by simp [a2, hx])
    · by_cases hx : x = n
      · subst hx
        exact h.kin k ((nbs_iff hW hL hn).2 ⟨bat_lt a4, a3⟩) a4
      · exact h.clo x a1 (by simp [a2, hx]) k a3 a4
def srtN (l : List Nat) : List Nat := l.mergeSort fun x y => decide (x ≤ y)
theorem srtN_mem {l : List Nat} {x : Nat} : x ∈ srtN l ↔ x ∈ l := List.mem_mergeSort
theorem srtN_rise {l : List Nat} (h : l.Nodup) : (srtN l).Pairwise (· < ·) := by
  have h1 := List.pairwise_mergeSort (le := fun x y : Nat => decide (x ≤ y)) (by intro a b c h1 h2; simp only [decide_eq_true_eq] at *; omega) (by intro a b; simp only [Bool.or_eq_true, decide_eq_true_eq]; omega) l
  have h2 : (srtN l).Nodup := (List.mergeSort_perm l _).nodup_iff.2 h
  unfold srtN at *
  exact (h1.and h2).imp fun h => by
    have := h.1; have := h.2
    simp only [decide_eq_true_eq] at *; omega
def pstep (mk : List Bool) (W : Nat) (x : List Nat × List (List Nat)) (n : Nat) : List Nat × List (List Nat) :=
  if n ∉ x.1 ∧ bat mk n = true then (folW mk W mk.length n x.1, x.2 ++ [srtN ((folW mk W mk.length n x.1).drop x.1.length)]) else x
def parts (mk : List Bool) (W : Nat) : List (List Nat) := ((List.range mk.length).foldl (pstep mk W) ([], [])).2
structure Nam (mk : List Bool) (W : Nat) (nm : Nat → Int) : Prop where
  non : ∀ k, bat mk k = false → nm k = -1
  con : ∀ k, bat mk k = true → ∃ y : Nat, nm k = y ∧ Con mk W y k ∧ ∀ z, Con mk W z k → y ≤ z
def canon (L : Nat) (nm : Nat → Int) (N : Nat) : List (List Nat) := ((List.range N).filter fun i : Nat => decide (nm i = (i : Int))).map fun i : Nat => (List.range L).filter fun k => decide (nm k = (i : Int))
structure PI (mk : List Bool) (W : Nat) (nm : Nat → Int) (N : Nat) (x : List Nat × List (List Nat)) : Prop where
  nd : x.1.Nodup
  met : ∀ k, k ∈ x.1 ↔ ∃ y, y < N ∧ Con mk W y k
  out : x.2 = canon mk.length nm N
theorem pstep_ok {mk : List Bool} {W H N : Nat} {nm : Nat → Int} {x : List Nat × List (List Nat)} (hW : 2 ≤ W) (hL : mk.length = W * H) (hm : Nam mk W nm) (h : PI mk W nm N x) (hN : N < mk.length) : PI mk W nm (N + 1) (pstep mk W x N) := by
  obtain ⟨M, out⟩ := x
  have hnd := h.nd
  have hmet := h.met
  have hout := h.out
  dsimp only at hnd hmet hout
  unfold pstep
  dsimp only
  have hMlt : ∀ k ∈ M, k < mk.length := fun k hk => by
    obtain ⟨y, _, h2⟩ := (hmet k).1 hk
    exact bat_lt h2.mk.2
  have hcan : canon mk.length nm (N + 1) = canon mk.length nm N ++ (if nm N = N then [(List.range mk.length).filter fun k => decide (nm k = N)] else []) := by
    unfold canon
    rw [List.range_succ, List.filter_append, List.map_append]
    congr 1
    by_cases e : nm N = (N : Int)
    · rw [if_pos e]; simp [e]
    · rw [if_neg e]; simp [e]
  split
  · rename_i hc
    have hf := folW_ok hW hL mk.length N M hc.2 hc.1 hnd hMlt (by omega)
    generalize folW mk W mk.length N M = R at hf
    obtain ⟨new, rfl⟩ := hf.pre
    have hfirst : ∀ z, Con mk W z N → N ≤ z := fun z hz => by
      rcases Nat.lt_or_ge z N with h1 | h1
      · exact absurd ((hmet N).2 ⟨z, h1, hz⟩) hc.1
      · exact h1
    have hnmN : nm N = N := by
      obtain ⟨y, h1, h2, h3⟩ := hm.con N hc.2
      have := h3 N (Con.refl hc.2)
      have := hfirst y h2
      omega
    have hnd2 := hf.nd
    rw [List.nodup_append] at hnd2
    have hnew : ∀ k, k ∈ new ↔ Con mk W N k := fun k => by
      constructor
      · intro hk
        have h1 : k ∉ M := fun h2 => hnd2.2.2 k h2 k hk rfl
        exact (hf.mrk k (List.mem_append_right _ hk) h1).2
      · intro hk
        have h1 : ∀ j, Con mk W N j → j ∉ M := fun j hj h2 => by
          obtain ⟨y, h3, h4⟩ := (hmet j).1 h2
          exact hc.1 ((hmet N).2 ⟨y, h3, h4.trans hj.symm⟩)
        have h2 : k ∈ M ++ new := by
          induction hk with
          | refl _ => exact hf.own
          | step g1 g2 g3 ih => exact hf.clo _ (ih) (h1 _ g1) _ g2 g3
        rcases List.mem_append.1 h2 with h3 | h3
        · exact absurd h3 (h1 k hk)
        · exact h3
    refine ⟨hf.nd, fun k => ?_, ?_⟩
    · rw [List.mem_append, hmet, hnew]
      constructor
      · rintro (⟨y, h1, h2⟩ | h1)
        · exact ⟨y, by omega, h2⟩
        · exact ⟨N, by omega, h1⟩
      · rintro ⟨y, h1, h2⟩
        rcases Nat.lt_or_ge y N with h3 | h3
        · exact .inl ⟨y, h3, h2⟩
        · have : y = N := by omega
          subst this; exact .inr h2
    · rw [hcan, if_pos hnmN, hout]
      dsimp only
      rw [List.drop_left]
      congr 1
      congr 1
      refine rise_eq (srtN_rise hnd2.2.1) (List.Pairwise.filter _ List.pairwise_lt_range) fun k => ?_
      rw [srtN_mem, hnew, List.mem_filter, List.mem_range, decide_eq_true_eq]
      constructor
      · intro hk
        refine ⟨bat_lt hk.mk.2, ?_⟩
        obtain ⟨y, h1, h2, h3⟩ := hm.con k hk.mk.2
        have := h3 N hk
        have := hfirst y (h2.trans hk.symm)
        omega
      · rintro ⟨h1, h2⟩
        have hb : bat mk k = true := by
          cases hb : bat mk k with
          | true => rfl
          | false => have := hm.non k hb; omega
        obtain ⟨y, h3, h4, _⟩ := hm.con k hb
        have : y = N := by omega
        subst this; exact h4
  · rename_i hc
    have hno : ∀ k, Con mk W N k → k ∈ M := fun k hk => by
      have h1 : N ∈ M := Decidable.byContradiction fun h2 => hc ⟨h2, hk.mk.1⟩
      obtain ⟨y, h3, h4⟩ := (hmet N).1 h1
      exact (hmet k).2 ⟨y, h3, h4.trans hk⟩
    have hnmN : nm N ≠ N := fun e => by
      have hb : bat mk N = true := by
        cases hb : bat mk N with
        | true => rfl
        | false => have := hm.non N hb; omega
      obtain ⟨y, h1, h2, h3⟩ := hm.con N hb
      obtain ⟨z, h4, h5⟩ := (hmet N).1 (hno N (Con.refl hb))
      have := h3 z h5
      omega
    refine ⟨hnd, fun k => ?_, ?_⟩
    · dsimp only
      rw [hmet]
      constructor
      · rintro ⟨y, h1, h2⟩; exact ⟨y, by omega, h2⟩
      · rintro ⟨y, h1, h2⟩
        rcases Nat.lt_or_ge y N with h3 | h3
        · exact ⟨y, h3, h2⟩
        · have : y = N := by omega
          subst this; exact (hmet k).1 (hno k h2)
    · dsimp only
      rw [hcan, if_neg hnmN, List.append_nil, hout]
theorem parts_eq {mk : List Bool} {W H : Nat} {nm : Nat → Int} (hW : 2 ≤ W) (hL : mk.length = W * H) (hm : Nam mk W nm) : parts mk W = canon mk.length nm mk.length := by
  have key : ∀ N, N ≤ mk.length → PI mk W nm N ((List.range N).foldl (pstep mk W) ([], [])) := by
    intro N
    induction N with
    | zero => intro _; exact ⟨List.nodup_nil, fun k => by simp, rfl⟩
    | succ N ih =>
      intro hN
      rw [List.range_succ, List.foldl_append]
      exact pstep_ok hW hL hm (ih (by omega)) (by omega)
  exact (key _ (Nat.le_refl _)).out
end Riv

namespace Riv
def nput (W a : Nat) (x : TB) (b : Nat) : TB := if at0 x.1 a ≠ -1 ∧ at0 x.1 b ≠ -1 ∧ Nb W a b ∧ at0 x.1 a < at0 x.1 b then (x.1.set b (at0 x.1 a), true) else x
def ncell (W L : Nat) (x : TB) (a : Nat) : TB := (List.range L).foldl (nput W a) x
def nround (W L : Nat) (T : List Int) : TB := (List.range L).foldl (ncell W L) (T, false)
def ngo (W L : Nat) : Nat → List Int → List Int
  | 0, T => T
  | N + 1, T => bif (nround W L T).2 then ngo W L N (nround W L T).1 else (nround W L T).1
def n0 (mk : List Bool) : List Int := mk.zipIdx.map fun x => bif x.1 then (x.2 : Int) else -1
def names (W : Nat) (mk : List Bool) : List Int := ngo W mk.length 40000 (n0 mk)
structure NI (mk : List Bool) (W : Nat) (T : List Int) : Prop where
  len : T.length = mk.length
  non : ∀ k, bat mk k = false → at0 T k = -1
  con : ∀ k, bat mk k = true → ∃ y : Nat, at0 T k = y ∧ Con mk W y k ∧ y ≤ k
structure NJ (mk : List Bool) (W : Nat) (R T : List Int) (ch : Bool) (P : Nat → Nat → Prop) : Prop where
  ri : NI mk W T
  no : ch = false → T = R ∧ ∀ a b, a < mk.length → b < mk.length → P a b → at0 R a ≠ -1 → at0 R b ≠ -1 → Nb W a b → at0 R b ≤ at0 R a
  yes : ch = true → wgt T < wgt R
theorem nput_ok {mk : List Bool} {W : Nat} {R : List Int} {x : TB} {P : Nat → Nat → Prop} {a b : Nat} (hW : 2 ≤ W) (hL : mk.length ≤ 160) (h : NJ mk W R x.1 x.2 P) (ha : a < mk.length) (hb : b < mk.length) :
    NJ mk W R (nput W a x b).1 (nput W a x b).2 (fun i j => P i j ∨ (i = a ∧ j = b)) := by
  obtain ⟨T, ch⟩ := x
  dsimp only at h
  unfold nput
  dsimp only
  have hI := h.ri
  split
  · rename_i hc
    dsimp only
    have hbl : b < T.length := by rw [hI.len]; exact hb
    have hset := fun j => at0_set (v := at0 T a) hbl j
    have mka : bat mk a = true := by
      cases e : bat mk a with
      | true => rfl
      | false => exact absurd (hI.non a e) hc.1
    have mkb : bat mk b = true := by
      cases e : bat mk b with
      | true => rfl
      | false => exact absurd (hI.non b e) hc.2.1
    obtain ⟨y, h1, h2, h3⟩ := hI.con a mka
    obtain ⟨z, g1, g2, g3⟩ := hI.con b mkb
    refine ⟨⟨by rw [List.length_set]; exact hI.len, fun k hk => ?_, fun k hk => ?_⟩, fun e => by simp at e, fun _ => ?_⟩
    · rw [hset, if_neg (fun e => by subst e; rw [mkb] at hk; cases hk)]; exact hI.non k hk
    · rw [hset]
      split
      · rename_i e; subst e
        exact ⟨y, h1, h2.step hc.2.2.1 mkb, by omega⟩
      · exact hI.con k hk
    · have h5 := wgt_set (v := at0 T a) hbl (by omega) (by omega) (.inr hc.2.2.2)
      cases ch with
      | false => rw [← (h.no rfl).1]; exact h5
      | true => exact Nat.lt_trans h5 (h.yes rfl)
  · rename_i hc
    dsimp only
    refine ⟨hI, fun e => ?_, h.yes⟩
    obtain ⟨e1, e2⟩ := h.no e
    refine ⟨e1, fun i j hi hj hp g1 g2 g3 => ?_⟩
    rcases hp with hp | ⟨rfl, rfl⟩
    · exact e2 i j hi hj hp g1 g2 g3
    · rw [e1] at hc
      rcases Int.lt_or_le (at0 R i) (at0 R j) with h5 | h5
      · exact absurd ⟨g1, g2, g3, h5⟩ hc
      · exact h5
theorem NJ.mono {mk : List Bool} {W : Nat} {R T : List Int} {ch : Bool} {P Q : Nat → Nat → Prop} (h : NJ mk W R T ch P) (hq : ∀ a b, a < mk.length → b < mk.length → Q a b → P a b) : NJ mk W R T ch Q :=
  ⟨h.ri, fun e => ⟨(h.no e).1, fun a b h1 h2 h3 => (h.no e).2 a b h1 h2 (hq a b h1 h2 h3)⟩, h.yes⟩
theorem ncell_ok {mk : List Bool} {W : Nat} {R : List Int} {P : Nat → Nat → Prop} {a : Nat} (hW : 2 ≤ W) (hL : mk.length ≤ 160) (ha : a < mk.length) {x : TB} (h : NJ mk W R x.1 x.2 P) : ∀ N, N ≤ mk.length →
    NJ mk W R ((List.range N).foldl (nput W a) x).1 ((List.range N).foldl (nput W a) x).2 (fun i j => P i j ∨ (i = a ∧ j < N))
  | 0, _ => h.mono fun a b _ _ h4 => by rcases h4 with h4 | h4; exact h4; omega
  | N + 1, hN => by
    have h1 := ncell_ok hW hL ha h N (by omega)
    rw [List.range_succ, List.foldl_append]
    exact (nput_ok hW hL h1 ha (show N < mk.length by omega)).mono fun i j _ _ h4 => by
      rcases h4 with h4 | h4
      · exact .inl (.inl h4)
      · rcases Nat.lt_or_ge j N with h5 | h5
        · exact .inl (.inr ⟨h4.1, h5⟩)
        · exact .inr ⟨h4.1, by omega⟩
theorem nround_ok {mk : List Bool} {W : Nat} {R : List Int} (hW : 2 ≤ W) (hL : mk.length ≤ 160) (h : NI mk W R) : ∀ N, N ≤ mk.length →
    NJ mk W R ((List.range N).foldl (ncell W mk.length) (R, false)).1 ((List.range N).foldl (ncell W mk.length) (R, false)).2 (fun i _ => i < N)
  | 0, _ => ⟨h, fun _ => ⟨rfl, fun a b _ _ h4 => by omega⟩, fun e => by simp at e⟩
  | N + 1, hN => by
    have h1 := nround_ok hW hL h N (by omega)
    rw [List.range_succ, List.foldl_append]
    exact (ncell_ok hW hL (show N < mk.length by omega) h1 mk.length (Nat.le_refl _)).mono fun i j _ hj h4 => by
      rcases Nat.lt_or_ge i N with h5 | h5
      · exact .inl h5
      · exact .inr ⟨by omega, hj⟩
theorem ngo_ok {mk : List Bool} {W : Nat} (hW : 2 ≤ W) (hL : mk.length ≤ 160) : ∀ (N : Nat) (R : List Int), NI mk W R → wgt R < N → Nam mk W (at0 (ngo W mk.length N R)) ∧ (ngo W mk.length N R).length = mk.length
  | 0, _, _, hN => absurd hN (Nat.not_lt_zero _)
  | N + 1, R, h, hN => by
    have h1 := nround_ok hW hL h mk.length (Nat.le_refl _)
    rw [ngo]
    unfold nround
    generalize hx : (List.range mk.length).foldl (ncell W mk.length) (R, false) = x at h1
    obtain ⟨T, ch⟩ := x
    dsimp only at h1 ⊢
    cases ch with
    | true =>
      have := h1.yes rfl
      exact ngo_ok hW hL N T h1.ri (by omega)
    | false =>
      obtain ⟨e, h2⟩ := h1.no rfl
      subst e
      show Nam mk W (at0 T) ∧ T.length = mk.length
      have hne : ∀ k, bat mk k = true → at0 T k ≠ -1 := fun k hk => by
        obtain ⟨y, h3, _⟩ := h.con k hk; omega
      have hsame : ∀ z k, Con mk W z k → at0 T z = at0 T k := by
        intro z k hz
        induction hz with
        | refl _ => rfl
        | step g1 g2 g3 ih =>
          rename_i b c
          have hb := g1.mk.2
          have a1 := h2 b c (bat_lt hb) (bat_lt g3) (bat_lt hb) (hne b hb) (hne c g3) g2
          have a2 := h2 c b (bat_lt g3) (bat_lt hb) (bat_lt g3) (hne c g3) (hne b hb) g2.symm
          omega
      refine ⟨⟨h.non, fun k hk => ?_⟩, h.len⟩
      obtain ⟨y, h3, h4, h5⟩ := h.con k hk
      refine ⟨y, h3, h4, fun z hz => ?_⟩
      have h6 := hsame z k hz
      obtain ⟨u, h7, _, h8⟩ := h.con z hz.mk.1
      omega
theorem at0_n0 {mk : List Bool} (k : Nat) : at0 (n0 mk) k = bif bat mk k then (k : Int) else -1 := by
  unfold at0 n0 bat
  rw [List.getD_eq_getElem?_getD, List.getD_eq_getElem?_getD, List.getElem?_map, List.getElem?_zipIdx]
  cases mk[k]? with
  | none => rfl
  | some b => simp
theorem ni0 {mk : List Bool} {W : Nat} : NI mk W (n0 mk) := by
  refine ⟨by unfold n0; simp, fun k hk => by rw [at0_n0, hk]; rfl, fun k hk => ⟨k, by rw [at0_n0, hk]; rfl, Con.refl hk, Nat.le_refl _⟩⟩
theorem names_ok {mk : List Bool} {W : Nat} (hW : 2 ≤ W) (hL : mk.length ≤ 160) : Nam mk W (at0 (names W mk)) ∧ (names W mk).length = mk.length := by
  refine ngo_ok hW hL _ _ ni0 ?_
  have := wgt_le (T := n0 mk) fun n => by
    rw [at0_n0]
    cases hb : bat mk n with
    | true => have := bat_lt hb; simp only [cond_true]; omega
    | false => simp
  have h2 := (ni0 (mk := mk) (W := W)).len
  rw [h2] at this
  omega
end Riv

namespace Riv
def ownr (a b : Int) : Int := if a = -1 ∧ b = -1 then 0 else if a = b then 3 else if b = -1 ∨ (a ≠ -1 ∧ a < b) then 1 else 2
theorem ownr_bd (a b : Int) : 0 ≤ ownr a b ∧ ownr a b ≤ 3 := by
  unfold ownr
  split
  · decide
  · split
    · decide
    · split <;> decide
theorem ownr_least (a b : Int) (h : a ≠ b) : ownr a b = if leastL [a, b] = a then 1 else 2 := by
  unfold ownr leastL
  simp only [List.foldl_cons, List.foldl_nil, ls1]
  by_cases ha : a = -1
  · subst ha
    have hb : ¬ b = -1 := fun e => h e.symm
    simp [hb, h]
  · by_cases hb : b = -1
    · subst hb; simp [ha]
    · rcases Int.lt_or_le b a with h1 | h1
      · have h2 : ¬ a < b := by omega
        have h3 : ¬ b = a := fun e => h e.symm
        simp [ha, hb, h1, h, h2, h3]
      · have h2 : ¬ b < a := by omega
        have h3 : a < b := by omega
        simp [ha, hb, h, h2, h3]
def lowT (T : List Int) (l : List Nat) : Int := l.foldl (fun o n => ls1 o (at0 T n)) (-1)
theorem ls1_least (o n : Int) : leastL [o, n] = ls1 o n := by
  unfold leastL
  simp only [List.foldl_cons, List.foldl_nil]
  have : ls1 (-1) o = o := by unfold ls1; split <;> simp_all
  rw [this]
structure Sh where
  f : Int
  o : Int
  nr : Bool
  deriving DecidableEq
def marks (c : List Int) : List Bool := c.map fun x => decide (x = 3)
def isl (c : List Int) (W : Nat) : List (List Nat) := parts (marks c) W
def own1 (c : List Int) (W : Nat) (l : List Nat) : Int := ownr (lowT (bfs c W 1) l) (lowT (bfs c W 2) l)
def gv1 (x : Int × Int) (o : Int) : Int × (Int × Int) := if o = 3 then (if x.2 < x.1 then (2, x.1, x.2 + 1) else (1, x.1 + 1, x.2)) else (o, x)
def gvL : Int × Int → List Int → List Int
  | _, [] => []
  | x, o :: l => (gv1 x o).1 :: gvL (gv1 x o).2 l
def many (k : Int) (l : List Int) : Int := (l.countP fun o => decide (o = k) : Nat)
def own0 (c : List Int) (W : Nat) : List Int := (isl c W).map (own1 c W)
def ownI (c : List Int) (W : Nat) : List Int := gvL (many 1 (own0 c W), many 2 (own0 c W)) (own0 c W)
def rg1 (l : List Int) (i : Nat) : List Int := if at0 l i = 3 then l.set i (if many 2 l < many 1 l then 2 else 1) else l
def rgL (l : List Int) : List Int := (List.range l.length).foldl rg1 l
theorem many_app (k : Int) (a b : List Int) : many k (a ++ b) = many k a + many k b := by unfold many; rw [List.countP_append]; omega
theorem many_cons (k x : Int) (b : List Int) : many k (x :: b) = (if x = k then 1 else 0) + many k b := by
  unfold many; rw [List.countP_cons]
  by_cases h : x = k <;> simp [h] <;> omega
theorem gv1_snd (a b o : Int) : (gv1 (a, b) o).2 = (a - (if o = 1 then 1 else 0) + (if (gv1 (a, b) o).1 = 1 then 1 else 0), b - (if o = 2 then 1 else 0) + (if (gv1 (a, b) o).1 = 2 then 1 else 0)) := by
  unfold gv1
  by_cases h3 : o = 3
  · subst h3
    rw [if_pos rfl]
    split <;> simp
  · rw [if_neg h3]
    refine Prod.ext ?_ ?_
    · dsimp only; split <;> omega
    · dsimp only; split <;> omega
theorem rg_go : ∀ (rest done : List Int), (List.range' done.length rest.length).foldl rg1 (done ++ rest) = done ++ gvL (many 1 (done ++ rest), many 2 (done ++ rest)) rest
  | [], done => by simp [gvL]
  | o :: rest, done => by
    rw [List.length_cons, List.range'_succ, List.foldl_cons, gvL]
    have hat : at0 (done ++ o :: rest) done.length = o := by
      unfold at0
      rw [List.getD_eq_getElem?_getD, List.getElem?_append_right (Nat.le_refl _), Nat.sub_self]; rfl
    have hset : ∀ v : Int, (done ++ o :: rest).set done.length v = (done ++ [v]) ++ rest := fun v => by
      rw [List.set_append_right _ _ (Nat.le_refl _), Nat.sub_self, List.set_cons_zero, List.append_assoc]; rfl
    have ih := fun v => rg_go rest (done ++ [v])
    simp only [List.length_append, List.length_singleton] at ih
    have hm : ∀ (k v : Int), many k ((done ++ [v]) ++ rest) = many k (done ++ o :: rest) - (if o = k then 1 else 0) + (if v = k then 1 else 0) := fun k v => by
      rw [many_app, many_app, many_app, many_cons, many_cons]
      have : many k [] = 0 := rfl
      rw [this]
      omega
    have hr : rg1 (done ++ o :: rest) done.length = (done ++ [(gv1 (many 1 (done ++ o :: rest), many 2 (done ++ o :: rest)) o).1]) ++ rest := by
      unfold rg1 gv1
      rw [hat]
      split
      · rename_i h3
        rw [hset]
        split <;> rfl
      · rw [List.append_assoc]; rfl
    rw [hr, ih, hm, hm, List.append_assoc, List.singleton_append, ← gv1_snd]
theorem rg_eq (l : List Int) : rgL l = gvL (many 1 l, many 2 l) l := by
  have := rg_go l []
  simp only [List.length_nil, List.nil_append] at this
  unfold rgL
  rw [List.range_eq_range']
  exact this
theorem gvL_len : ∀ (x : Int × Int) (l : List Int), (gvL x l).length = l.length
  | _, [] => rfl
  | x, o :: l => by rw [gvL, List.length_cons, List.length_cons, gvL_len]
def shr (c : List Int) (W : Nat) : List Sh := ((isl c W).zip ((own0 c W).zip (ownI c W))).map fun x => ⟨((x.1.headD 0 : Nat) : Int), x.2.2, decide (x.2.1 = 1 ∨ x.2.1 = 2)⟩
def setAll (out : List Int) (l : List Nat) (o : Int) : List Int := l.foldl (fun out n => out.set n o) out
def ownW (c : List Int) (W : Nat) : List Int := c.zipIdx.map fun x => if x.1 = 0 then ownr (at0 (bfs c W 1) x.2) (at0 (bfs c W 2) x.2) else x.1
def owns (c : List Int) (W : Nat) : List Int := ((isl c W).zip (ownI c W)).foldl (fun out x => setAll out x.1 x.2) (ownW c W)
theorem setAll_len : ∀ (l : List Nat) (out : List Int) (o : Int), (setAll out l o).length = out.length
  | [], _, _ => rfl
  | n :: l, out, o => by have := setAll_len l (out.set n o) o; unfold setAll at *; rw [List.foldl_cons, this, List.length_set]
theorem setAll_at : ∀ (l : List Nat) (out : List Int) (o : Int) (k : Nat), (∀ n ∈ l, n < out.length) → at0 (setAll out l o) k = if k ∈ l then o else at0 out k
  | [], _, _, _, _ => by simp [setAll]
  | n :: l, out, o, k, h => by
    have h1 := setAll_at l (out.set n o) o k (fun j hj => by rw [List.length_set]; exact h j (List.mem_cons_of_mem _ hj))
    unfold setAll at h1 ⊢
    rw [List.foldl_cons, h1, at0_set (h n List.mem_cons_self)]
    by_cases hk : k ∈ l
    · simp [hk]
    · by_cases hkn : k = n <;> simp [hk, hkn]
end Riv

namespace Riv
def rnm (c : List Int) (W : Nat) : List Int := names W (marks c)
def firsts (c : List Int) (W : Nat) : List Nat := (List.range c.length).filter fun i : Nat => decide (at0 (rnm c W) i = (i : Int))
theorem marks_len (c : List Int) : (marks c).length = c.length := by simp [marks]
theorem bat_marks (c : List Int) (k : Nat) : bat (marks c) k = decide (at0 c k = 3) := by
  unfold bat marks at0
  simp only [List.getD_eq_getElem?_getD, List.getElem?_map]
  cases c[k]? with
  | none => rfl
  | some x => rfl
theorem rnm_ok {c : List Int} {W : Nat} (hW : 2 ≤ W) (hL : c.length ≤ 160) : Nam (marks c) W (at0 (rnm c W)) ∧ (rnm c W).length = c.length := by
  have := names_ok (mk := marks c) hW (by rw [marks_len]; exact hL)
  rw [marks_len] at this
  exact this
theorem isl_eq {c : List Int} {W H : Nat} (hW : 2 ≤ W) (hL : c.length = W * H) (h1 : c.length ≤ 160) : isl c W = (firsts c W).map fun i : Nat => (List.range c.length).filter fun k => decide (at0 (rnm c W) k = (i : Int)) := by
  unfold isl
  rw [parts_eq hW (by rw [marks_len]; exact hL) (rnm_ok hW h1).1, marks_len]
  rfl
theorem fold_set : ∀ (l : List (List Nat × Int)) (out : List Int) (k : Nat), (∀ x ∈ l, ∀ n ∈ x.1, n < out.length) → at0 (l.foldl (fun out x => setAll out x.1 x.2) out) k = l.foldl (fun o x => if k ∈ x.1 then x.2 else o) (at0 out k)
  | [], _, _, _ => rfl
  | x :: l, out, k, h => by
    rw [List.foldl_cons, List.foldl_cons, fold_set l _ k (fun y hy n hn => by rw [setAll_len]; exact h y (List.mem_cons_of_mem _ hy) n hn), setAll_at _ _ _ _ (h x List.mem_cons_self)]
theorem fold_set_len : ∀ (l : List (List Nat × Int)) (out : List Int), (l.foldl (fun out x => setAll out x.1 x.2) out).length = out.length
  | [], _ => rfl
  | x :: l, out => by rw [List.foldl_cons, fold_set_len, setAll_len]
theorem ownW_len (c : List Int) (W : Nat) : (ownW c W).length = c.length := by simp [ownW]
theorem ownI_len {c : List Int} {W H : Nat} (hW : 2 ≤ W) (hL : c.length = W * H) (h1 : c.length ≤ 160) : (ownI c W).length = (firsts c W).length ∧ (own0 c W).length = (firsts c W).length := by
  have : (own0 c W).length = (firsts c W).length := by unfold own0; rw [List.length_map, isl_eq hW hL h1, List.length_map]
  exact ⟨by unfold ownI; rw [gvL_len, this], this⟩
theorem owns_len (c : List Int) (W : Nat) : (owns c W).length = c.length := by unfold owns; rw [fold_set_len, ownW_len]
theorem at0_ownW {c : List Int} {W k : Nat} (h : k < c.length) : at0 (ownW c W) k = if at0 c k = 0 then ownr (at0 (bfs c W 1) k) (at0 (bfs c W 2) k) else at0 c k := by
  have e : at0 c k = c[k] := by unfold at0; rw [List.getD_eq_getElem?_getD, List.getElem?_eq_getElem h]; rfl
  rw [e]
  unfold ownW
  show (List.map _ c.zipIdx).getD k (-1) = _
  rw [List.getD_eq_getElem?_getD, List.getElem?_map, List.getElem?_zipIdx, List.getElem?_eq_getElem h]
  simp
end Riv

namespace Riv
def diffs (a b : List Int) : List Bool := (List.range a.length).map fun n => decide (at0 a n ≠ at0 b n)
def chg (a b : List Int) (W : Nat) : List (List Nat) := parts (diffs a b) W
def rchg (a b : List Int) (W : Nat) : List (List Nat) := canon a.length (at0 (names W (diffs a b))) a.length
theorem diffs_len (a b : List Int) : (diffs a b).length = a.length := by simp [diffs]
theorem bat_diffs {a b : List Int} {n : Nat} : bat (diffs a b) n = true ↔ n < a.length ∧ at0 a n ≠ at0 b n := by
  unfold bat diffs
  rw [List.getD_eq_getElem?_getD, List.getElem?_map]
  by_cases h : n < a.length
  · rw [List.getElem?_range h]; simp [h]
  · rw [List.getElem?_eq_none (by simp; omega)]; simp [h]
theorem chg_eq {a b : List Int} {W H : Nat} (hW : 2 ≤ W) (hL : a.length = W * H) (h1 : a.length ≤ 160) : chg a b W = rchg a b W := by
  unfold chg rchg
  rw [parts_eq hW (by rw [diffs_len]; exact hL) (names_ok (mk := diffs a b) hW (by rw [diffs_len]; exact h1)).1, diffs_len]
theorem chg_mem {a b : List Int} {W H : Nat} (hW : 2 ≤ W) (hL : a.length = W * H) (h1 : a.length ≤ 160) {cs : List Nat} (h : cs ∈ chg a b W) : cs ≠ [] ∧ cs.Pairwise (· < ·) ∧ cs.length ≤ a.length ∧ ∀ n ∈ cs, n < a.length ∧ at0 a n ≠ at0 b n := by
  rw [chg_eq hW hL h1] at h
  unfold rchg canon at h
  obtain ⟨i, hi, rfl⟩ := List.mem_map.1 h
  obtain ⟨g1, g2⟩ := List.mem_filter.1 hi
  have hn := (names_ok (mk := diffs a b) hW (by rw [diffs_len]; exact h1)).1
  refine ⟨fun e => ?_, List.Pairwise.filter _ List.pairwise_lt_range, ?_, fun n hn2 => ?_⟩
  · have : i ∈ ([] : List Nat) := by rw [← e]; exact List.mem_filter.2 ⟨g1, g2⟩
    cases this
  · have := List.length_filter_le (fun k => decide (at0 (names W (diffs a b)) k = (i : Int))) (List.range a.length)
    rw [List.length_range] at this
    exact this
  · obtain ⟨k1, k2⟩ := List.mem_filter.1 hn2
    have k3 := of_decide_eq_true k2
    have hb : bat (diffs a b) n = true := by
      cases hb : bat (diffs a b) n with
      | true => rfl
      | false => have := hn.non n hb; omega
    exact bat_diffs.1 hb
def lset (b out : List Int) (cs : List Nat) : List Int := cs.foldl (fun out n => out.set n (at0 b n)) out
def lstep (slow : Int) (b out : List Int) (cs : List Nat) : List Int := if (cs.length : Int) ≤ slow then lset b out cs else out
def lyear (W : Nat) (slow : Int) (a b now : List Int) : List Int := (chg a b W).foldl (lstep slow b) now
def lawAt (W : Nat) (l : List (List Int)) (slow : Int) : Nat → List Int
  | 0 => l.getD 0 []
  | y + 1 => lyear W slow (l.getD y []) (l.getD (y + 1) []) (lawAt W l slow y)
def lawL (W : Nat) (l : List (List Int)) (slow : Int) : List (List Int) := (List.range l.length).map (lawAt W l slow)
theorem lset_len : ∀ (b out : List Int) (cs : List Nat), (lset b out cs).length = out.length
  | _, _, [] => rfl
  | b, out, n :: cs => by have := lset_len b (out.set n (at0 b n)) cs; unfold lset at *; rw [List.foldl_cons, this, List.length_set]
theorem lset_at : ∀ (b out : List Int) (cs : List Nat) (k : Nat), (∀ n ∈ cs, n < out.length) → at0 (lset b out cs) k = if k ∈ cs then at0 b k else at0 out k
  | _, _, [], _, _ => by simp [lset]
  | b, out, n :: cs, k, h => by
    have h1 := lset_at b (out.set n (at0 b n)) cs k (fun j hj => by rw [List.length_set]; exact h j (List.mem_cons_of_mem _ hj))
    unfold lset at h1 ⊢
    rw [List.foldl_cons, h1, at0_set (h n List.mem_cons_self)]
    by_cases hk : k ∈ cs
    · simp [hk]
    · by_cases hkn : k = n
      · subst hkn; simp
      · simp [hk, hkn]
theorem lstep_len (slow : Int) (b out : List Int) (cs : List Nat) : (lstep slow b out cs).length = out.length := by
  unfold lstep; split
  · exact lset_len _ _ _
  · rfl
theorem lyear_go_len (slow : Int) (b : List Int) : ∀ (L : List (List Nat)) (now : List Int), (L.foldl (lstep slow b) now).length = now.length
  | [], _ => rfl
  | c :: L, now => by rw [List.foldl_cons, lyear_go_len slow b L, lstep_len]
theorem lyear_len (W : Nat) (slow : Int) (a b now : List Int) : (lyear W slow a b now).length = now.length := lyear_go_len _ _ _ _
theorem lyear_go (slow : Int) (b : List Int) (k : Nat) : ∀ (L : List (List Nat)) (now : List Int), (∀ c ∈ L, ∀ n ∈ c, n < now.length) → at0 (L.foldl (lstep slow b) now) k = if ∃ c ∈ L, k ∈ c ∧ (c.length : Int) ≤ slow then at0 b k else at0 now k
  | [], _, _ => by simp
  | c :: L, now, h => by
    rw [List.foldl_cons, lyear_go slow b k L _ (fun d hd n hn => by rw [lstep_len]; exact h d (List.mem_cons_of_mem _ hd) n hn)]
    by_cases h1 : ∃ d ∈ L, k ∈ d ∧ (d.length : Int) ≤ slow
    · rw [if_pos h1, if_pos]
      obtain ⟨d, h2, h3⟩ := h1
      exact ⟨d, List.mem_cons_of_mem _ h2, h3⟩
    · rw [if_neg h1]
      unfold lstep
      by_cases h2 : (c.length : Int) ≤ slow
      · rw [if_pos h2, lset_at _ _ _ _ (h c List.mem_cons_self)]
        by_cases h3 : k ∈ c
        · rw [if_pos h3, if_pos ⟨c, List.mem_cons_self, h3, h2⟩]
        · rw [if_neg h3, if_neg]
          rintro ⟨d, h4, h5, h6⟩
          rcases List.mem_cons.1 h4 with rfl | h4
          · exact h3 h5
          · exact h1 ⟨d, h4, h5, h6⟩
      · rw [if_neg h2, if_neg]
        rintro ⟨d, h4, h5, h6⟩
        rcases List.mem_cons.1 h4 with rfl | h4
        · exact h2 h6
        · exact h1 ⟨d, h4, h5, h6⟩
theorem lyear_at {W H : Nat} {slow : Int} {a b now : List Int} {k : Nat} (hW : 2 ≤ W) (hL : a.length = W * H) (h1 : a.length ≤ 160) (hn : now.length = a.length) : at0 (lyear W slow a b now) k = if ∃ c ∈ chg a b W, k ∈ c ∧ (c.length : Int) ≤ slow then at0 b k else at0 now k :=
  lyear_go _ _ _ _ _ fun c hc n h => by rw [hn]; exact ((chg_mem hW hL h1 hc).2.2.2 n h).1
structure Yrs (W H : Nat) (l : List (List Int)) : Prop where
  two : 2 ≤ W
  few : W * H ≤ 160
  len : ∀ y, y < l.length → (l.getD y []).length = W * H
theorem lawAt_len {W H : Nat} {l : List (List Int)} (h : Yrs W H l) (slow : Int) : ∀ y, y < l.length → (lawAt W l slow y).length = W * H
  | 0, hy => h.len 0 hy
  | y + 1, hy => by rw [lawAt, lyear_len]; exact lawAt_len h slow y (by omega)
theorem lawAt_at {W H : Nat} {l : List (List Int)} (h : Yrs W H l) (slow : Int) {y k : Nat} (hy : y + 1 < l.length) : at0 (lawAt W l slow (y + 1)) k = if ∃ c ∈ chg (l.getD y []) (l.getD (y + 1) []) W, k ∈ c ∧ (c.length : Int) ≤ slow then at0 (l.getD (y + 1) []) k else at0 (lawAt W l slow y) k := by
  have h2 := h.len y (by omega)
  rw [lawAt, lyear_at h.two h2 (by rw [h2]; exact h.few) (by rw [h2]; exact lawAt_len h slow y (by omega))]
theorem lawAt_src {W H : Nat} {l : List (List Int)} (h : Yrs W H l) (slow : Int) (k : Nat) : ∀ y, y < l.length → ∃ z, z < l.length ∧ at0 (lawAt W l slow y) k = at0 (l.getD z []) k
  | 0, hy => ⟨0, hy, rfl⟩
  | y + 1, hy => by
    rw [lawAt_at h slow hy]
    split
    · exact ⟨y + 1, hy, rfl⟩
    · exact lawAt_src h slow k y (by omega)
theorem gv1_bd (x : Int × Int) {o : Int} (h : 0 ≤ o ∧ o ≤ 3) : 0 ≤ (gv1 x o).1 ∧ (gv1 x o).1 ≤ 3 := by
  unfold gv1
  split
  · split <;> simp
  · exact h
theorem gvL_bd : ∀ (x : Int × Int) (l : List Int), (∀ o ∈ l, 0 ≤ o ∧ o ≤ 3) → ∀ o ∈ gvL x l, 0 ≤ o ∧ o ≤ 3
  | _, [], _, _, h => by cases h
  | x, o :: l, h, p, hp => by
    rw [gvL] at hp
    rcases List.mem_cons.1 hp with rfl | hp
    · exact gv1_bd x (h o List.mem_cons_self)
    · exact gvL_bd _ l (fun q hq => h q (List.mem_cons_of_mem _ hq)) p hp
theorem owns_bd {c : List Int} {W : Nat} (h : ∀ n, n < c.length → 0 ≤ at0 c n ∧ at0 c n ≤ 3) (hin : ∀ cs ∈ isl c W, ∀ n ∈ cs, n < c.length) {k : Nat} (hk : k < c.length) : 0 ≤ at0 (owns c W) k ∧ at0 (owns c W) k ≤ 3 := by
  unfold owns
  rw [fold_set _ _ _ (fun x hx n hn => by rw [ownW_len]; exact hin _ (List.of_mem_zip hx).1 n hn)]
  have hb : ∀ x ∈ (isl c W).zip (ownI c W), 0 ≤ x.2 ∧ x.2 ≤ 3 := fun x hx => by
    refine gvL_bd _ _ (fun o ho => ?_) x.2 (List.of_mem_zip hx).2
    obtain ⟨_, _, rfl⟩ := List.mem_map.1 ho
    exact ownr_bd _ _
  have h0 : 0 ≤ at0 (ownW c W) k ∧ at0 (ownW c W) k ≤ 3 := by
    rw [at0_ownW hk]
    split
    · exact ownr_bd _ _
    · exact h k hk
  generalize at0 (ownW c W) k = s at h0
  generalize (isl c W).zip (ownI c W) = l at hb
  induction l generalizing s with
  | nil => exact h0
  | cons x l ih =>
    rw [List.foldl_cons]
    refine ih _ ?_ (fun y hy => hb y (List.mem_cons_of_mem _ hy))
    split
    · exact hb x List.mem_cons_self
    · exact h0
theorem isl_in {c : List Int} {W H : Nat} (hW : 2 ≤ W) (hL : c.length = W * H) (h1 : c.length ≤ 160) : ∀ cs ∈ isl c W, ∀ n ∈ cs, n < c.length := by
  intro cs hcs n hn
  rw [isl_eq hW hL h1] at hcs
  obtain ⟨i, _, rfl⟩ := List.mem_map.1 hcs
  exact List.mem_range.1 (List.mem_filter.1 hn).1
end Riv

namespace Riv
def setHi (out : List Go.Vm.Spn) (h : Int) : List Go.Vm.Spn := match out.getLast? with
  | none => out
  | some x => out.dropLast ++ [⟨x.lo, h⟩]
def r1 (p : Int → Bool) (x : List Go.Vm.Spn × Bool) (s : Int) : List Go.Vm.Spn × Bool := (bif p s then (bif x.2 then setHi x.1 s else x.1 ++ [⟨s, s⟩]) else x.1, p s)
end Riv

namespace Riv
structure Ren (ren : Int → Int) (s s' : Int) : Prop where
  wat : ∀ x, ren x = 0 ↔ x = 0
  isl : ∀ x, ren x = 3 ↔ x = 3
  sho : ∀ x, ren x = s' ↔ x = s
end Riv

namespace Riv
abbrev Dk := Nat × Int
structure Dealt (nx : Dk → Int → Int × Dk) : Prop where
  lo : ∀ d k, 0 ≤ (nx d k).1
  hi : ∀ d k, 0 < k → (nx d k).1 < k
  n : ∀ d k, (nx d k).2.1 ≤ d.1 + 1
structure MOk (W H : Nat) (c : List Int) : Prop where
  w : 3 ≤ W ∧ W ≤ 12
  h : 1 ≤ H ∧ H ≤ 12
  len : c.length = W * H
  kind : ∀ n, n < c.length → 0 ≤ at0 c n ∧ at0 c n ≤ 3
  side : ∀ y, y < H → at0 c (y * W) = 1 ∧ at0 c (y * W + W - 1) = 2
theorem MOk.few {W H : Nat} {c : List Int} (h : MOk W H c) : c.length ≤ 144 ∧ 2 ≤ W ∧ W * H ≤ 144 := by
  have := Nat.mul_le_mul h.w.2 h.h.2
  have := h.len
  have := h.w.1
  omega
section
variable (nx : Dk → Int → Int × Dk)
variable {nx}
end
end Riv

namespace Riv
section
variable (nx : Dk → Int → Int × Dk)
variable {nx}
end
theorem yrs_of {W H : Nat} {l : List (List Int)} (h0 : 0 < l.length) (h : ∀ c ∈ l, MOk W H c) : Yrs W H l := by
  have hm : ∀ y, y < l.length → MOk W H (l.getD y []) := fun y hy => by
    have e : l.getD y [] = l[y] := by rw [List.getD_eq_getElem?_getD, List.getElem?_eq_getElem hy]; rfl
    rw [e]; exact h _ (List.getElem_mem hy)
  have hf := (hm 0 h0).few
  exact ⟨hf.2.1, by omega, fun y hy => (hm y hy).len⟩
theorem lawAt_mok {W H : Nat} {l : List (List Int)} (h : ∀ c ∈ l, MOk W H c) (slow : Int) {y : Nat} (hy : y < l.length) : MOk W H (lawAt W l slow y) := by
  have hY := yrs_of (by omega) h
  have hm : ∀ y, y < l.length → MOk W H (l.getD y []) := fun y hy => by
    have e : l.getD y [] = l[y] := by rw [List.getD_eq_getElem?_getD, List.getElem?_eq_getElem hy]; rfl
    rw [e]; exact h _ (List.getElem_mem hy)
  have h1 := hm y hy
  have hl := lawAt_len hY slow y hy
  refine ⟨h1.w, h1.h, hl, fun n hn => ?_, fun q hq => ?_⟩
  · obtain ⟨z, hz, e⟩ := lawAt_src hY slow n y hy
    rw [e]
    exact (hm z hz).kind n (by rw [(hm z hz).len]; omega)
  · obtain ⟨z, hz, e⟩ := lawAt_src hY slow (q * W) y hy
    obtain ⟨u, hu, f⟩ := lawAt_src hY slow (q * W + W - 1) y hy
    rw [e, f]
    exact ⟨((hm z hz).side q hq).1, ((hm u hu).side q hq).2⟩
end Riv

namespace Riv
def sideB (c : List Int) (W : Nat) (y : Nat) : Bool := decide (at0 c (y * W) = 1 ∧ at0 c (y * W + W - 1) = 2)
def kindB (c : List Int) : Bool := c.all fun x => decide (0 ≤ x ∧ x ≤ 3)
def chkM (m : Mp) : Int :=
  if ((3 ≤ m.w ∧ m.w ≤ 12) ∧ 1 ≤ m.h ∧ m.h ≤ 12) ∧ (m.c.length : Int) = m.w * m.h then
    (bif kindB m.c then (bif (List.range m.h.toNat).all (sideB m.c m.w.toNat) then 0 else 9) else 4)
  else 3
def chkL : List Mp → Int
  | [] => 0
  | m :: l => if chkM m = 0 then chkL l else chkM m
def sameB (m : Mp) (l : List Mp) : Bool := l.all fun x => decide (x.w = m.w ∧ x.h = m.h)
def chkY (l : List Mp) : Int := if 1 ≤ l.length ∧ l.length ≤ 10 then (if chkL l = 0 then (bif sameB (l.headD ⟨0, 0, []⟩) l then 0 else 2) else chkL l) else 3
theorem chkM_ok {m : Mp} (h : chkM m = 0) : ∃ W H : Nat, m.w = W ∧ m.h = H ∧ MOk W H m.c := by
  unfold chkM at h
  split at h
  · rename_i h1
    obtain ⟨W, eW⟩ : ∃ W : Nat, m.w = W := ⟨m.w.toNat, by omega⟩
    obtain ⟨H, eH⟩ : ∃ H : Nat, m.h = H := ⟨m.h.toNat, by omega⟩
    cases hk : kindB m.c with
    | false => rw [hk] at h; simp at h
    | true =>
      rw [hk, cond_true] at h
      cases hs : (List.range m.h.toNat).all (sideB m.c m.w.toNat) with
      | false => rw [hs] at h; simp at h
      | true =>
        rw [eW, eH, Int.toNat_natCast, Int.toNat_natCast] at hs
        rw [eW, eH] at h1
        refine ⟨W, H, eW, eH, ⟨by omega, by omega⟩, ⟨by omega, by omega⟩, ?_, fun n hn => ?_, fun y hy => ?_⟩
        · have := h1.2
          have e : ((W * H : Nat) : Int) = (W : Int) * H := by rw [Int.natCast_mul]
          omega
        · unfold kindB at hk
          rw [List.all_eq_true] at hk
          have e : at0 m.c n = m.c[n] := by unfold at0; rw [List.getD_eq_getElem?_getD, List.getElem?_eq_getElem hn]; rfl
          rw [e]
          exact of_decide_eq_true (hk _ (List.getElem_mem hn))
        · rw [List.all_eq_true] at hs
          exact of_decide_eq_true (hs y (List.mem_range.2 hy))
  · simp at h
theorem chkM_of {W H : Nat} {c : List Int} (h : MOk W H c) : chkM ⟨W, H, c⟩ = 0 := by
  unfold chkM
  have h1 := h.w; have h2 := h.h; have h3 := h.len
  have e : ((W * H : Nat) : Int) = (W : Int) * H := by rw [Int.natCast_mul]
  rw [if_pos (by dsimp only; refine ⟨by omega, ?_⟩; omega)]
  have hk : kindB c = true := by
    unfold kindB
    rw [List.all_eq_true]
    intro x hx
    obtain ⟨n, hn, rfl⟩ := List.getElem_of_mem hx
    have e : at0 c n = c[n] := by unfold at0; rw [List.getD_eq_getElem?_getD, List.getElem?_eq_getElem hn]; rfl
    rw [← e]
    exact decide_eq_true (h.kind n hn)
  have hs : (List.range H).all (sideB c W) = true := by
    rw [List.all_eq_true]
    intro y hy
    exact decide_eq_true (h.side y (List.mem_range.1 hy))
  dsimp only
  rw [hk, Int.toNat_natCast, Int.toNat_natCast, hs]
  rfl
theorem chkL_zero : ∀ {l : List Mp}, chkL l = 0 → ∀ m ∈ l, chkM m = 0
  | [], _, m, h => by cases h
  | x :: l, h, m, hm => by
    rw [chkL] at h
    by_cases hx : chkM x = 0
    · rw [if_pos hx] at h
      rcases List.mem_cons.1 hm with rfl | hm
      · exact hx
      · exact chkL_zero h m hm
    · rw [if_neg hx] at h; exact absurd h hx
theorem chkL_of : ∀ {l : List Mp}, (∀ m ∈ l, chkM m = 0) → chkL l = 0
  | [], _ => rfl
  | x :: l, h => by rw [chkL, if_pos (h x List.mem_cons_self)]; exact chkL_of fun m hm => h m (List.mem_cons_of_mem _ hm)
theorem chkY_ok {l : List Mp} (h : chkY l = 0) : ∃ W H : Nat, (1 ≤ l.length ∧ l.length ≤ 10) ∧ ∀ m ∈ l, m.w = W ∧ m.h = H ∧ MOk W H m.c := by
  unfold chkY at h
  split at h
  · rename_i h1
    split at h
    · rename_i h2
      cases hs : sameB (l.headD ⟨0, 0, []⟩) l with
      | false => rw [hs] at h; simp at h
      | true =>
        cases l with
        | nil => simp at h1
        | cons m l =>
          obtain ⟨W, H, eW, eH, _⟩ := chkM_ok (chkL_zero h2 m List.mem_cons_self)
          refine ⟨W, H, h1, fun x hx => ?_⟩
          unfold sameB at hs
          rw [List.all_eq_true] at hs
          have g := of_decide_eq_true (hs x hx)
          have g1 : x.w = m.w := g.1
          have g2 : x.h = m.h := g.2
          obtain ⟨W', H', e1, e2, hm⟩ := chkM_ok (chkL_zero h2 x hx)
          have a1 : W' = W := by omega
          have a2 : H' = H := by omega
          subst a1; subst a2
          exact ⟨e1, e2, hm⟩
    · rename_i h2; exact absurd h h2
  · simp at h
theorem chkY_of {W H : Nat} {l : List Mp} (h1 : 1 ≤ l.length ∧ l.length ≤ 10) (h : ∀ m ∈ l, m.w = W ∧ m.h = H ∧ MOk W H m.c) : chkY l = 0 := by
  unfold chkY
  have hz : ∀ m ∈ l, chkM m = 0 := fun m hm => by
    obtain ⟨e1, e2, g⟩ := h m hm
    have := chkM_of g
    rw [← e1, ← e2] at this
    exact this
  rw [if_pos h1, if_pos (chkL_of hz)]
  have hs : sameB (l.headD ⟨0, 0, []⟩) l = true := by
    cases l with
    | nil => simp at h1
    | cons m l =>
      unfold sameB
      rw [List.all_eq_true]
      intro x hx
      have g := h x hx
      have f := h m List.mem_cons_self
      exact decide_eq_true ⟨g.1.trans f.1.symm, g.2.1.trans f.2.1.symm⟩
  rw [hs]; rfl
def cellsY (l : List Mp) : List (List Int) := l.map fun m => m.c
theorem cellsY_ok {W H : Nat} {l : List Mp} (h : ∀ m ∈ l, m.w = W ∧ m.h = H ∧ MOk W H m.c) : ∀ c ∈ cellsY l, MOk W H c := by
  intro c hc
  obtain ⟨m, hm, rfl⟩ := List.mem_map.1 hc
  exact (h m hm).2.2
end Riv

open Go.Vm
open Riv
namespace Go.Proofs.YtlgdkljiilbooaaGreat
set_option maxRecDepth 20000
set_option maxHeartbeats 2000000

def vM (m : Mp) : V := .agg [I m.w, I m.h, ints m.c]
def encM (m : Mp) : List D := [DI m.w, DI m.h, .sl 1 m.c.length (m.c.flatMap encI)]
theorem encM_len (m : Mp) : (encM m).length = 3 := rfl
def vSd (m : Mp) (s : Int) : V := .agg [I m.w, I m.h, ints m.c, I s]
end Go.Proofs.YtlgdkljiilbooaaGreat

open Go.Vm
open Riv
namespace Go.Proofs.YtlgdkljiilbooaaGreat
set_option maxRecDepth 20000
set_option maxHeartbeats 4000000

theorem vc_from (n a b : Int) (h : Hp) : VC Tryz.prog 48 [I n, I a, I b] h (B (decide (a ≤ n ∧ n ≤ b))) h := by
  refine VC.body Tryz.func48 rfl Tryz.ntmps48 Tryz.call48 (h.grows_refl) rfl ?_; conv => whnf
  repeat' (first | ((first | refine zs1 ?_ | refine zs2 ?_ | refine zs3 ?_ | refine zs4 ?_ | refine zs5 ?_ | refine zs6 [] ?_); conv => whnf) | ((first | apply zi1 | apply zi2 | apply zi3 | apply zi4 | apply zi5) <;> intro _ <;> conv => whnf))
  all_goals (refine VOut.same ?_; simp [V.ren]; try omega)
theorem vc_least (l : List Int) (h : Hp) (hl : l.length ≤ 4000000) : VC Tryz.prog 63 [ints l] h (I (leastL l)) h := by
  obtain ⟨E, hE⟩ : ∃ E, E = leastL l := ⟨_, rfl⟩
  rw [← hE]
  unfold leastL at hE
  refine VC.body Tryz.func63 rfl Tryz.ntmps63 Tryz.call63 (h.grows_refl) rfl ?_; conv => whnf
  repeat' (first | ((first | refine zs1 ?_ | refine zs2 ?_ | refine zs3 ?_ | refine zs4 ?_ | refine zs5 ?_ | refine zs6 [] ?_); conv => whnf) | ((first | apply zi1 | apply zi2 | apply zi3 | apply zi4 | apply zi5) <;> intro _ <;> conv => whnf))
  refine VCode.lp (fun y : Nat × Int => [(3, I y.2), (6, ints l), (7, I l.length), (8, I y.1)]) (fun _ => []) (fun y => y.1 ≤ l.length ∧ E = (l.drop y.1).foldl ls1 y.2) (fun y => l.length - y.1) (0, -1) ⟨Nat.zero_le _, hE⟩ ?_ ?_
  · conv => whnf
    refine Retell.turn ⟨[], 0, [], []⟩ (TurnOk.mk' _ _ [] [] (OutOk.lift _) rfl (by decide) zb trivial trivial rfl) zw zm
  · rintro ⟨k, o⟩ ⟨h4, h5⟩
    dsimp only at h4 h5
    conv => whnf
    refine VIte.dec (fun h6 => ?_) (fun h6 => ?_)
    · have hk : l[k]? = some l[k] := List.getElem?_eq_getElem (by omega)
      rw [List.drop_eq_getElem_cons (by omega), List.foldl_cons] at h5
      generalize l[k] = x at hk h5
      have hs : ls1 o x = if x ≠ -1 ∧ (o = -1 ∨ x < o) then x else o := rfl
      conv => whnf
      refine VAny.ix encI_len k rfl rfl hk ?_
      conv => whnf
      repeat' (first | ((first | refine zs1 ?_ | refine zs2 ?_ | refine zs3 ?_ | refine zs4 ?_ | refine zs5 ?_ | refine zs6 [] ?_); conv => whnf) | ((first | apply zi1 | apply zi2 | apply zi3 | apply zi4 | apply zi5) <;> intro _ <;> conv => whnf))
      all_goals first
        | (rw [if_pos (by omega)] at hs; rw [hs] at h5
           refine LEnd.intro (k + 1, x) ⟨by dsimp only; omega, h5⟩ (by dsimp only; omega) ?_
           conv => whnf
           refine Retell.turn ⟨[], 0, [], []⟩ (TurnOk.mk' _ _ [] [] (OutOk.lift _) rfl (by decide) zb trivial trivial rfl) zw zm)
        | (rw [if_neg (by omega)] at hs; rw [hs] at h5
           refine LEnd.intro (k + 1, o) ⟨by dsimp only; omega, h5⟩ (by dsimp only; omega) ?_
           conv => whnf
           refine Retell.turn ⟨[], 0, [], []⟩ (TurnOk.mk' _ _ [] [] (OutOk.lift _) rfl (by decide) zb trivial trivial rfl) zw zm)
    · rw [List.drop_of_length_le (by omega)] at h5
      rw [h5]
      conv => whnf
      repeat' (first | ((first | refine zs1 ?_ | refine zs2 ?_ | refine zs3 ?_ | refine zs4 ?_ | refine zs5 ?_ | refine zs6 [] ?_); conv => whnf) | ((first | apply zi1 | apply zi2 | apply zi3 | apply zi4 | apply zi5) <;> intro _ <;> conv => whnf))
      exact VOut.same rfl
end Go.Proofs.YtlgdkljiilbooaaGreat

open Go.Vm
open Riv
namespace Go.Proofs.YtlgdkljiilbooaaGreat
set_option maxRecDepth 20000
set_option maxHeartbeats 4000000

theorem vc_nearer (a b : Int) (h : Hp) : VC Tryz.prog 51 [I a, I b] h (I (ownr a b)) h := by
  obtain ⟨E, hE⟩ : ∃ E, E = ownr a b := ⟨_, rfl⟩
  rw [← hE]
  have hl := ownr_least a b
  obtain ⟨m, hm⟩ : ∃ m, m = leastL [a, b] := ⟨_, rfl⟩
  rw [← hm] at hl
  rw [← hE] at hl
  have cL := fun h => vc_least [a, b] h (by simp)
  rw [← hm] at cL
  unfold ownr at hE
  refine VC.body Tryz.func51 rfl Tryz.ntmps51 Tryz.call51 (h.grows_refl) rfl ?_; conv => whnf
  repeat' (first | ((first | refine zs1 ?_ | refine zs2 ?_ | refine zs3 ?_ | refine zs4 ?_ | refine zs5 ?_ | refine zs6 [] ?_); conv => whnf) | ((first | apply zi1 | apply zi2 | apply zi3 | apply zi4 | apply zi5) <;> intro _ <;> conv => whnf))
  all_goals try (
    refine VCall.intro (VC.give (args' := [ints [a, b]]) (loc' := [.dead]) [(0, [a, b].flatMap Vm.encI)] [] (OutOk.lift _) zb zf (by exact FmAll.nil) rfl zw (cL _)) ?_
    conv => whnf
    repeat' (first | ((first | refine zs1 ?_ | refine zs2 ?_ | refine zs3 ?_ | refine zs4 ?_ | refine zs5 ?_ | refine zs6 [] ?_); conv => whnf) | ((first | apply zi1 | apply zi2 | apply zi3 | apply zi4 | apply zi5) <;> intro _ <;> conv => whnf)))
  all_goals first
    | (rw [if_pos (by omega)] at hE; rw [hE]; exact VOut.same rfl)
    | (rw [if_neg (by omega), if_pos (by omega)] at hE; rw [hE]; exact VOut.same rfl)
    | (rw [hl (by omega), if_pos (by omega)]; exact VOut.same rfl)
    | (rw [hl (by omega), if_neg (by omega)]; exact VOut.same rfl)
end Go.Proofs.YtlgdkljiilbooaaGreat

open Go.Vm
open Riv
namespace Go.Proofs.YtlgdkljiilbooaaGreat
set_option maxRecDepth 20000
set_option maxHeartbeats 4000000

theorem vc_through (m : Mp) (s x : Int) (k : Nat) (h : Hp) (hk : m.c[k]? = some x) : VC Tryz.prog 60 [vSd m s, I k] h (B (decide (x = 0 ∨ x = s))) h := by
  refine VC.body Tryz.func60 rfl Tryz.ntmps60 Tryz.call60 (h.grows_refl) rfl ?_; conv => whnf
  repeat' (first | ((first | refine zs1 ?_ | refine zs2 ?_ | refine zs3 ?_ | refine zs4 ?_ | refine zs5 ?_ | refine zs6 [] ?_); conv => whnf) | ((first | apply zi1 | apply zi2 | apply zi3 | apply zi4 | apply zi5) <;> intro _ <;> conv => whnf) | (refine VAny.ix encI_len k rfl rfl hk ?_; conv => whnf))
  all_goals (refine VOut.same ?_; simp [V.ren]; try omega)
  all_goals (rename_i hx; rw [Bool.eq_iff_iff]; simp [hx])
end Go.Proofs.YtlgdkljiilbooaaGreat

open Go.Vm
open Riv
namespace Go.Proofs.YtlgdkljiilbooaaGreat
set_option maxRecDepth 20000
set_option maxHeartbeats 4000000

def fidx {α : Type} (q : α → Bool) : List α → Int → Int
  | [], _ => -1
  | a :: l, i => bif q a then i else fidx q l (i + 1)
theorem fidx_at {α : Type} {q : α → Bool} {l : List α} {k : Nat} {a : α} {i : Int} (h : l[k]? = some a) : fidx q (l.drop k) i = bif q a then i else fidx q (l.drop (k + 1)) (i + 1) := by
  obtain ⟨hlt, rfl⟩ := List.getElem?_eq_some_iff.1 h
  rw [List.drop_eq_getElem_cons hlt, fidx]
theorem fidx_nn {α : Type} {q : α → Bool} : ∀ (l : List α) (i : Int), 0 ≤ i → (0 ≤ fidx q l i ↔ l.any q = true)
  | [], i, _ => by simp [fidx]
  | a :: l, i, hi => by
    rw [fidx, List.any_cons]
    cases q a
    · rw [cond_false, Bool.false_or]; exact fidx_nn l (i + 1) (by omega)
    · rw [cond_true, Bool.true_or]; simp [hi]
theorem vc_IndexFI (l : List Int) (q : Int → Bool) (g : FuncId) (hl : l.length ≤ 4000000) (hso : ∀ (e : Int) (h : Hp), VC Tryz.prog g [I e] h (B (q e)) h) (h : Hp) :
    VC Tryz.prog 83 [ints l, .func (.func g) [] []] h (I (fidx q l 0)) h := by
  obtain ⟨E, hE⟩ : ∃ E, E = fidx q l 0 := ⟨_, rfl⟩
  rw [← hE]
  refine VC.body Tryz.func83 rfl Tryz.ntmps83 Tryz.call83 (h.grows_refl) rfl ?_; conv => whnf
  repeat (first | ((first | refine zs1 ?_ | refine zs2 ?_ | refine zs3 ?_ | refine zs4 ?_ | refine zs5 ?_ | refine zs6 [] ?_); conv => whnf))
  refine VCode.lp (fun k : Nat => [(0, ints l), (1, .func (.func g) [] []), (7, I l.length), (8, I k)]) (fun _ => []) (fun k => k ≤ l.length ∧ E = fidx q (l.drop k) k) (fun k => l.length - k) 0 ⟨Nat.zero_le _, hE⟩ ?_ ?_
  · conv => whnf
    refine Retell.turn ⟨[], 0, [], []⟩ (TurnOk.mk' _ _ [] [] (OutOk.lift _) rfl (by decide) zb trivial trivial rfl) zw zm
  · rintro k ⟨h1, h2⟩
    conv => whnf
    refine VIte.dec (fun h3 => ?_) (fun h3 => ?_)
    · have ha : l[k]? = some l[k] := List.getElem?_eq_getElem (by omega)
      have hm := hso l[k]
      generalize l[k] = a at ha hm
      rw [fidx_at ha] at h2
      conv => whnf
      repeat' (first | ((first | refine zs1 ?_ | refine zs2 ?_ | refine zs3 ?_ | refine zs4 ?_ | refine zs5 ?_ | refine zs6 [] ?_); conv => whnf) | ((first | apply zi1 | apply zi2 | apply zi3 | apply zi4 | apply zi5) <;> intro _ <;> conv => whnf) | (refine VAny.ix encI_len k (by omega) rfl ha ?_; conv => whnf))
      refine VCall.intro (hm _) ?_
      conv => whnf
      cases hq : q a
      · rw [hq] at h2
        conv => whnf
        repeat (first | ((first | refine zs1 ?_ | refine zs2 ?_ | refine zs3 ?_ | refine zs4 ?_ | refine zs5 ?_ | refine zs6 [] ?_); conv => whnf))
        refine LEnd.intro (k + 1) ⟨by omega, h2⟩ (by omega) ?_
        conv => whnf
        refine Retell.turn ⟨[], 0, [], []⟩ (TurnOk.mk' _ _ [] [] (OutOk.lift _) rfl (by decide) zb trivial trivial rfl) zw zm
      · rw [hq] at h2
        rw [h2]
        conv => whnf
        repeat (first | ((first | refine zs1 ?_ | refine zs2 ?_ | refine zs3 ?_ | refine zs4 ?_ | refine zs5 ?_ | refine zs6 [] ?_); conv => whnf))
        exact VOut.same rfl
    · rw [List.drop_of_length_le (by omega), fidx] at h2
      rw [h2]
      conv => whnf
      repeat (first | ((first | refine zs1 ?_ | refine zs2 ?_ | refine zs3 ?_ | refine zs4 ?_ | refine zs5 ?_ | refine zs6 [] ?_); conv => whnf))
      exact VOut.same rfl
theorem vc_ContFI (l : List Int) (q : Int → Bool) (g : FuncId) (hl : l.length ≤ 4000000) (hso : ∀ (e : Int) (h : Hp), VC Tryz.prog g [I e] h (B (q e)) h) (h : Hp) :
    VC Tryz.prog 73 [ints l, .func (.func g) [] []] h (B (l.any q)) h := by
  have e := fidx_nn (q := q) l 0 (Int.le_refl _)
  have c := fun h => vc_IndexFI l q g hl hso h
  generalize fidx q l 0 = E at e c
  refine VC.body Tryz.func73 rfl Tryz.ntmps73 Tryz.call73 (h.grows_refl) rfl ?_; conv => whnf
  repeat' (first | ((first | refine zs1 ?_ | refine zs2 ?_ | refine zs3 ?_ | refine zs4 ?_ | refine zs5 ?_ | refine zs6 [] ?_); conv => whnf) | ((first | apply zi1 | apply zi2 | apply zi3 | apply zi4 | apply zi5) <;> intro _ <;> conv => whnf) | (refine VCall.intro (c _) ?_; conv => whnf))
  refine VOut.same ?_
  show B (decide (0 ≤ E)) = _
  congr 1
  rw [Bool.eq_iff_iff, decide_eq_true_eq]
  exact e
theorem vc_Check1 (x : Int) (h : Hp) : VC Tryz.prog 74 [I x] h (B (!decide (0 ≤ x ∧ x ≤ 3))) h := by
  refine VC.body Tryz.func74 rfl Tryz.ntmps74 Tryz.call74 (h.grows_refl) rfl ?_; conv => whnf
  repeat' (first | ((first | refine zs1 ?_ | refine zs2 ?_ | refine zs3 ?_ | refine zs4 ?_ | refine zs5 ?_ | refine zs6 [] ?_); conv => whnf) | ((first | apply zi1 | apply zi2 | apply zi3 | apply zi4 | apply zi5) <;> intro _ <;> conv => whnf) | (refine VCall.intro (vc_from _ _ _ _) ?_; conv => whnf))
  exact VOut.same rfl
theorem any_kind (c : List Int) : (c.any fun x => !decide (0 ≤ x ∧ x ≤ 3)) = !kindB c := by
  unfold kindB
  rw [List.all_eq_not_any_not, Bool.not_not]
/-! ### The rows of a map -/
def vChunk (c : List Int) (W : Nat) : V := .func (.func 84) [] [.fp [dints c], .fp [DI W]]
theorem vc_Chunk (c : List Int) (W : Nat) (h : Hp) (hW : 1 ≤ W) : VC Tryz.prog 75 [ints c, I W] h (vChunk c W) h := by
  refine VC.body Tryz.func75 rfl Tryz.ntmps75 Tryz.call75 (h.grows_refl) rfl ?_; conv => whnf
  repeat' (first | ((first | refine zs1 ?_ | refine zs2 ?_ | refine zs3 ?_ | refine zs4 ?_ | refine zs5 ?_ | refine zs6 [] ?_); conv => whnf) | ((first | apply zi1 | apply zi2 | apply zi3 | apply zi4 | apply zi5) <;> intro _ <;> conv => whnf))
  · exfalso; omega
  · refine VOut.data 2 [(0, [dints c]), (1, [DI W])] [] rfl zf (by exact FmAll.nil) zw
def rowL (c : List Int) (W y : Nat) : List Int := (c.drop (y * W)).take W
theorem rowL_at {c : List Int} {W y k : Nat} (hk : k < W) (hc : y * W + k < c.length) : (rowL c W y)[k]? = some (at0 c (y * W + k)) := by
  unfold rowL at0
  rw [List.getElem?_take, if_pos hk, List.getElem?_drop, List.getD_eq_getElem?_getD, List.getElem?_eq_getElem hc]; rfl
theorem rowL_len {c : List Int} {W H y : Nat} (hL : c.length = W * H) (hy : y < H) : (rowL c W y).length = W := by
  have h1 : (y + 1) * W ≤ H * W := Nat.mul_le_mul_right _ hy
  rw [Nat.add_mul, Nat.one_mul, Nat.mul_comm H] at h1
  unfold rowL
  rw [List.length_take, List.length_drop]; omega
theorem iter_Chunk (c : List Int) (W H : Nat) (hW : 1 ≤ W ∧ W ≤ 100000) (hL : c.length = W * H) (hc : c.length ≤ 4000000) : IterN Tryz.prog 84 [] [.fp [dints c], .fp [DI W]] H (fun y => some [ints (rowL c W y)]) := by
  intro h i J E hs h0
  obtain ⟨S, g, g0, hS, g1, g2⟩ := iterN_seq (ys := fun y => some [ints (rowL c W y)]) H hs h0
  have hgr : ∀ j, j ≤ S → h.grows (g j) := by
    intro j
    induction j with
    | zero => intro _; rw [g0]; exact h.grows_refl
    | succ j ih =>
      intro hj
      rcases g1 j (by omega) with ⟨e, _⟩ | ⟨vs, _, hv⟩
      · cases e
      · exact fun k hk => hv.1 k (ih (by omega) k hk)
  have hrow : ∀ y, y < H → (rowL c W y).length = W := fun y hy => rowL_len hL hy
  have hle : ∀ y, y ≤ H → y * W ≤ c.length := fun y hy => by
    have h1 : y * W ≤ H * W := Nat.mul_le_mul_right _ hy
    rw [Nat.mul_comm H] at h1; omega
  have hlt : ∀ y, y < H → y * W + W ≤ c.length := fun y hy => by
    have h1 : (y + 1) * W ≤ H * W := Nat.mul_le_mul_right _ hy
    rw [Nat.add_mul, Nat.one_mul, Nat.mul_comm H] at h1; omega
  have hsub : ∀ y, rowL c W y = (c.drop (y * W)).take W := fun _ => rfl
  have hX : ∀ A : Nat, A ≤ c.length → (((c.drop (A : Int).toNat).take ((c.length : Int) - (A : Int)).toNat).length) = c.length - A := fun A hA => by rw [List.length_take, List.length_drop]; omega
  have hR : ∀ (A : Nat) (X : Nat), A + W ≤ c.length → X = c.length - A → (c.drop (A : Int).toNat).take ((A : Int) + min (W : Int) (X : Int) - (A : Int)).toNat = (c.drop A).take W := fun A X hA hx => by
    rw [Int.toNat_natCast, show ((A : Int) + min (W : Int) (X : Int) - (A : Int)).toNat = W by omega]
  rcases g2 with ⟨hSm, hI⟩ | ⟨hSm, vs, gE, e1, e2, e3⟩
  · refine ⟨g H, ?_, .inl hI⟩
    refine VC.body Tryz.func84 rfl Tryz.ntmps84 Tryz.call84 (hgr _ (by omega)) rfl ?_
    conv => whnf
    repeat' (first | ((first | refine zs1 ?_ | refine zs2 ?_ | refine zs3 ?_ | refine zs4 ?_ | refine zs5 ?_ | refine zs6 [] ?_); conv => whnf) | ((first | apply zi1 | apply zi2 | apply zi3 | apply zi4 | apply zi5) <;> intro _ <;> conv => whnf))
    refine VCode.lpo (fun y : Nat => [(0, .yld (.out i)), (1, .fp [dints c]), (2, .fp [DI W]), (4, I (y * W : Nat))]) (fun y => (g y).lift) (fun _ => []) (fun y => y ≤ H) (fun y => H - y) 0 (Nat.zero_le _) (by rw [g0]) ?_ ?_
    · rw [Nat.zero_mul]
      conv => whnf
      refine Retell.turn ⟨[], 0, [], []⟩ (TurnOk.mk' _ _ [] [] (OutOk.lift _) rfl (by decide) zb trivial trivial rfl) zw zm
    · rintro y hy
      have hs1 : y < H → ((y + 1) * W : Nat) = y * W + W := fun _ => by rw [Nat.add_mul, Nat.one_mul]
      have hy1 := hle y hy
      have hy2 := hlt y
      have hy3 := hsub y
      have hst := g1 y
      obtain ⟨A, hA⟩ : ∃ A, A = y * W := ⟨_, rfl⟩
      rw [← hA] at hs1 hy1 hy2 hy3 ⊢
      have hend : ¬ y < H → A = c.length := fun hh => by
        obtain rfl : y = H := by omega
        rw [hA, hL, Nat.mul_comm]
      conv => whnf
      repeat (first | ((first | refine zs1 ?_ | refine zs2 ?_ | refine zs3 ?_ | refine zs4 ?_ | refine zs5 ?_ | refine zs6 [] ?_); conv => whnf))
      refine VIte.dec (fun h3 => ?_) (fun h3 => ?_)
      · have hyH : y < H := Decidable.byContradiction fun hh => by have := hend hh; omega
        rcases hst (by omega) with ⟨e, _⟩ | ⟨vs, e, hv⟩
        · cases e
        · cases e
          have hs2 := hs1 hyH
          have hy5 := hy2 hyH
          have e7 := hX A hy1
          have e8 := hR A _ hy5 e7
          rw [← hy3] at e8
          generalize rowL c W y = R at hv hy3 e8
          conv => whnf
          repeat' (first | ((first | refine zs1 ?_ | refine zs2 ?_ | refine zs3 ?_ | refine zs4 ?_ | refine zs5 ?_ | refine zs6 [] ?_); conv => whnf) | ((first | apply zi1 | apply zi2 | apply zi3 | apply zi4 | apply zi5) <;> intro _ <;> conv => whnf) | (refine VAny.sub encI_len rfl (by omega) ?_; conv => whnf) | (refine VAny.subM encI_len rfl rfl (by omega) ?_; conv => whnf))
          rw [e8]
          refine VYield.intro (VY.lift _ hv) ?_
          conv => whnf
          repeat' (first | ((first | refine zs1 ?_ | refine zs2 ?_ | refine zs3 ?_ | refine zs4 ?_ | refine zs5 ?_ | refine zs6 [] ?_); conv => whnf) | ((first | apply zi1 | apply zi2 | apply zi3 | apply zi4 | apply zi5) <;> intro _ <;> conv => whnf) | (refine VAny.sub encI_len rfl (by omega) ?_; conv => whnf) | (refine VAny.subM encI_len rfl rfl (by omega) ?_; conv => whnf))
          refine LEndO.intro (y + 1) (by omega) (by omega) rfl ?_
          rw [hs2]
          conv => whnf
          refine Retell.turn ⟨[], 0, [], []⟩ (TurnOk.mk' _ _ [] [] (OutOk.lift _) rfl (by decide) zb trivial trivial rfl) zw zm
      · have hyH : y = H := by
          refine Decidable.byContradiction fun hh => ?_
          have := hy2 (by omega)
          omega
        subst hyH
        conv => whnf
        exact VOut.lifted (r := .tuple []) (hgr _ (by omega))
  · refine ⟨gE, ?_, .inr e3⟩
    have hgE : h.grows gE := fun k hk => e2.1 k (hgr S (Nat.le_refl _) k hk)
    refine VC.body Tryz.func84 rfl Tryz.ntmps84 Tryz.call84 hgE rfl ?_
    conv => whnf
    repeat' (first | ((first | refine zs1 ?_ | refine zs2 ?_ | refine zs3 ?_ | refine zs4 ?_ | refine zs5 ?_ | refine zs6 [] ?_); conv => whnf) | ((first | apply zi1 | apply zi2 | apply zi3 | apply zi4 | apply zi5) <;> intro _ <;> conv => whnf))
    refine VCode.lpo (fun y : Nat => [(0, .yld (.out i)), (1, .fp [dints c]), (2, .fp [DI W]), (4, I (y * W : Nat))]) (fun y => (g y).lift) (fun _ => []) (fun y => y ≤ S) (fun y => S - y) 0 (Nat.zero_le _) (by rw [g0]) ?_ ?_
    · rw [Nat.zero_mul]
      conv => whnf
      refine Retell.turn ⟨[], 0, [], []⟩ (TurnOk.mk' _ _ [] [] (OutOk.lift _) rfl (by decide) zb trivial trivial rfl) zw zm
    · rintro y hy
      have hs2 : ((y + 1) * W : Nat) = y * W + W := by rw [Nat.add_mul, Nat.one_mul]
      have hy1 := hle y (by omega)
      have hy5 := hlt y (by omega)
      have hy3 := hsub y
      have hst := g1 y
      obtain ⟨A, hA⟩ : ∃ A, A = y * W := ⟨_, rfl⟩
      rw [← hA] at hs2 hy1 hy5 hy3 ⊢
      have e7 := hX A hy1
      have e8 := hR A _ hy5 e7
      rw [← hy3] at e8
      rcases Nat.eq_or_lt_of_le hy with hkS | hkS
      · subst hkS
        cases e1
        generalize rowL c W y = R at e2 hy3 e8
        conv => whnf
        repeat' (first | ((first | refine zs1 ?_ | refine zs2 ?_ | refine zs3 ?_ | refine zs4 ?_ | refine zs5 ?_ | refine zs6 [] ?_); conv => whnf) | ((first | apply zi1 | apply zi2 | apply zi3 | apply zi4 | apply zi5) <;> intro _ <;> conv => whnf) | (refine VAny.sub encI_len rfl (by omega) ?_; conv => whnf) | (refine VAny.subM encI_len rfl rfl (by omega) ?_; conv => whnf))
        · rw [e8]
          refine VYield.intro (VY.lift _ e2) ?_
          conv => whnf
          repeat' (first | ((first | refine zs1 ?_ | refine zs2 ?_ | refine zs3 ?_ | refine zs4 ?_ | refine zs5 ?_ | refine zs6 [] ?_); conv => whnf) | ((first | apply zi1 | apply zi2 | apply zi3 | apply zi4 | apply zi5) <;> intro _ <;> conv => whnf) | (refine VAny.sub encI_len rfl (by omega) ?_; conv => whnf) | (refine VAny.subM encI_len rfl rfl (by omega) ?_; conv => whnf))
          exact VOut.lifted (r := .tuple []) hgE
        · exfalso; omega
      · rcases hst hkS with ⟨e, _⟩ | ⟨vs, e, hv⟩
        · cases e
        · cases e
          generalize rowL c W y = R at hv hy3 e8
          conv => whnf
          repeat' (first | ((first | refine zs1 ?_ | refine zs2 ?_ | refine zs3 ?_ | refine zs4 ?_ | refine zs5 ?_ | refine zs6 [] ?_); conv => whnf) | ((first | apply zi1 | apply zi2 | apply zi3 | apply zi4 | apply zi5) <;> intro _ <;> conv => whnf) | (refine VAny.sub encI_len rfl (by omega) ?_; conv => whnf) | (refine VAny.subM encI_len rfl rfl (by omega) ?_; conv => whnf))
          · rw [e8]
            refine VYield.intro (VY.lift _ hv) ?_
            conv => whnf
            repeat' (first | ((first | refine zs1 ?_ | refine zs2 ?_ | refine zs3 ?_ | refine zs4 ?_ | refine zs5 ?_ | refine zs6 [] ?_); conv => whnf) | ((first | apply zi1 | apply zi2 | apply zi3 | apply zi4 | apply zi5) <;> intro _ <;> conv => whnf) | (refine VAny.sub encI_len rfl (by omega) ?_; conv => whnf) | (refine VAny.subM encI_len rfl rfl (by omega) ?_; conv => whnf))
            refine LEndO.intro (y + 1) (by omega) (by omega) rfl ?_
            rw [hs2]
            conv => whnf
            refine Retell.turn ⟨[], 0, [], []⟩ (TurnOk.mk' _ _ [] [] (OutOk.lift _) rfl (by decide) zb trivial trivial rfl) zw zm
          · exfalso; omega
end Go.Proofs.YtlgdkljiilbooaaGreat

open Go.Vm
open Riv
namespace Go.Proofs.YtlgdkljiilbooaaGreat
set_option maxRecDepth 20000
set_option maxHeartbeats 4000000

/-! ### The neighbours of a cell, handed on one by one -/
def vBes (m : Mp) (n : Nat) : V := .func (.func 79) [] [.fp [DI n], .fp (encM m)]
theorem vc_beside (m : Mp) (n : Nat) (h : Hp) : VC Tryz.prog 62 [vM m, I n] h (vBes m n) h := by
  refine VC.body Tryz.func62 rfl Tryz.ntmps62 Tryz.call62 (h.grows_refl) rfl ?_; conv => whnf
  repeat' (first | ((first | refine zs1 ?_ | refine zs2 ?_ | refine zs3 ?_ | refine zs4 ?_ | refine zs5 ?_ | refine zs6 [] ?_); conv => whnf) | ((first | apply zi1 | apply zi2 | apply zi3 | apply zi4 | apply zi5) <;> intro _ <;> conv => whnf))
  refine VOut.data 2 [(0, encM m), (1, [DI n])] [] rfl zf (by exact FmAll.nil) zw
def nbO (W L n : Nat) : Nat → Option Nat
  | 0 => if n < W then none else some (n - W)
  | 1 => if n % W = 0 then none else some (n - 1)
  | 2 => if n % W = W - 1 then none else some (n + 1)
  | 3 => if L ≤ n + W then none else some (n + W)
  | _ => none
def nbY (W L n k : Nat) : Option (List V) := (nbO W L n k).map fun q : Nat => [I q]
theorem fm4 (a b c d : Prop) [Decidable a] [Decidable b] [Decidable c] [Decidable d] (x y z t : Nat) : [(if a then none else some x), (if b then none else some y), (if c then none else some z), (if d then none else some t)].filterMap id = (if a then [] else [x]) ++ (if b then [] else [y]) ++ (if c then [] else [z]) ++ (if d then [] else [t]) := by
  by_cases h1 : a <;> by_cases h2 : b <;> by_cases h3 : c <;> by_cases h4 : d <;> simp [h1, h2, h3, h4]
theorem nbO_list (W L n : Nat) : (List.range 4).filterMap (nbO W L n) = nbs W L n := by
  have h := fm4 (n < W) (n % W = 0) (n % W = W - 1) (L ≤ n + W) (n - W) (n - 1) (n + 1) (n + W)
  unfold nbs
  rw [← h, show List.range 4 = [0, 1, 2, 3] from rfl]
  rfl
theorem nbO_mem {W L n k q : Nat} (hk : k < 4) (h : nbO W L n k = some q) : q ∈ nbs W L n := by
  rw [← nbO_list]
  exact List.mem_filterMap.2 ⟨k, List.mem_range.2 hk, h⟩
theorem nbY_some {W L n k : Nat} {vs : List V} (h : nbY W L n k = some vs) : ∃ q, nbO W L n k = some q ∧ vs = [I q] := by
  unfold nbY at h
  cases hq : nbO W L n k with
  | none => rw [hq] at h; cases h
  | some q => rw [hq] at h; cases h; exact ⟨q, rfl, rfl⟩
theorem nbY_none {W L n k : Nat} (h : nbY W L n k = none) : nbO W L n k = none := by
  unfold nbY at h
  cases hq : nbO W L n k with
  | none => rfl
  | some q => rw [hq] at h; cases h
def nbF {α : Type} (f : α → Nat → α) (W L n : Nat) (x : α) (k : Nat) : α := (((List.range k).filterMap (nbO W L n))).foldl f x
theorem nbF_zero {α : Type} (f : α → Nat → α) (W L n : Nat) (x : α) : nbF f W L n x 0 = x := rfl
theorem nbF_all {α : Type} (f : α → Nat → α) (W L n : Nat) (x : α) : nbF f W L n x 4 = (nbs W L n).foldl f x := by unfold nbF; rw [nbO_list]
theorem nbF_none {α : Type} {f : α → Nat → α} {W L n : Nat} {x : α} {k : Nat} (h : nbO W L n k = none) : nbF f W L n x (k + 1) = nbF f W L n x k := by
  unfold nbF
  rw [List.range_succ, List.filterMap_append]
  simp [h]
theorem nbF_some {α : Type} {f : α → Nat → α} {W L n q : Nat} {x : α} {k : Nat} (h : nbO W L n k = some q) : nbF f W L n x (k + 1) = f (nbF f W L n x k) q := by
  unfold nbF
  rw [List.range_succ, List.filterMap_append, List.foldl_append]
  simp [h]
theorem iter_beside (m : Mp) (W n : Nat) (hW : 2 ≤ W ∧ W ≤ 100000) (hm : m.w = W) (hn : n < m.c.length) (hc : m.c.length ≤ 4000000) : IterS Tryz.prog 79 [] [.fp [DI n], .fp (encM m)] 4 (nbY W m.c.length n) := by
  intro h i J hs h0
  obtain ⟨g, g0, g1, hI⟩ := iterS_seq (ys := nbY W m.c.length n) hs h0
  have hgr : ∀ j, j ≤ 4 → h.grows (g j) := by
    intro j
    induction j with
    | zero => intro _; rw [g0]; exact h.grows_refl
    | succ j ih =>
      intro hj
      rcases g1 j (by omega) with ⟨_, e⟩ | ⟨vs, _, hv⟩
      · rw [e]; exact ih (by omega)
      · exact fun k hk => hv.1 k (ih (by omega) k hk)
  have gA := g1 0 (by omega)
  have gB := g1 1 (by omega)
  have gC := g1 2 (by omega)
  have gD := g1 3 (by omega)
  have hend := hgr 4 (by omega)
  refine ⟨g 4, ?_, hI⟩
  clear hI hgr g1 hs h0
  generalize g 4 = h4 at *
  generalize g 3 = h3 at *
  generalize g 2 = h2 at *
  generalize g 1 = h1 at *
  obtain rfl : h = g 0 := g0.symm
  generalize g 0 = h0 at *
  clear g0
  have e1 : (n : Int).tmod (W : Int) = ((n % W : Nat) : Int) := Int.ofNat_tmod n W
  have hr := Nat.mod_lt n (show 0 < W by omega)
  simp only [nbY, nbO] at gA gB gC gD
  obtain ⟨mw, mh, mc⟩ := m
  dsimp only at hm hn hc gA gB gC gD
  subst hm
  rw [show encM ⟨(W : Int), mh, mc⟩ = [DI W, DI mh, .sl 1 mc.length (mc.flatMap encI)] from rfl]
  have key : ∀ {c : Prop} [Decidable c] {q : Nat} {a b : Hp}, (((if c then none else some q : Option Nat).map fun q : Nat => [I q]) = none ∧ b = a ∨ ∃ vs, ((if c then none else some q : Option Nat).map fun q : Nat => [I q]) = some vs ∧ VY Tryz.prog i vs a (.s (.bool true)) b) → (c ∧ b = a) ∨ (¬ c ∧ VY Tryz.prog i [I q] a (.s (.bool true)) b) := by
    intro c _ q a b h
    by_cases hc : c
    · rw [if_pos hc] at h
      rcases h with ⟨_, h⟩ | ⟨vs, h, _⟩
      · exact .inl ⟨hc, h⟩
      · cases h
    · rw [if_neg hc] at h
      rcases h with ⟨h, _⟩ | ⟨vs, h, hv⟩
      · cases h
      · cases h; exact .inr ⟨hc, hv⟩
  have gA := key gA
  have gB := key gB
  have gC := key gC
  have gD := key gD
  clear key
  have qA : ¬ n < W → ((n - W : Nat) : Int) = (n : Int) - W := fun h => by omega
  have qB : ¬ n % W = 0 → ((n - 1 : Nat) : Int) = (n : Int) - 1 := fun h => by
    have : n ≠ 0 := fun e => h (by rw [e]; exact Nat.zero_mod W)
    omega
  have qC : ((n + 1 : Nat) : Int) = (n : Int) + 1 := by omega
  have qD : ((n + W : Nat) : Int) = (n : Int) + W := by omega
  rw [qC] at gC
  rw [qD] at gD
  generalize n % W = r at *
  rcases gA with ⟨a1, rfl⟩ | ⟨a1, yA⟩ <;> rcases gB with ⟨b1, rfl⟩ | ⟨b1, yB⟩ <;> rcases gC with ⟨c1, rfl⟩ | ⟨c1, yC⟩ <;> rcases gD with ⟨d1, rfl⟩ | ⟨d1, yD⟩
  all_goals (
    (try rw [qA a1] at yA)
    (try rw [qB b1] at yB)
    refine VC.body Tryz.func79 rfl Tryz.ntmps79 Tryz.call79 hend rfl ?_
    conv => whnf)
  all_goals (
    refine zs6 [] ?_
    conv => whnf
    repeat' (first | ((first | refine zs1 ?_ | refine zs2 ?_ | refine zs3 ?_ | refine zs4 ?_ | refine zs5 ?_); conv => whnf) | ((first | apply zi1 | apply zi2 | apply zi3 | apply zi4 | apply zi5) <;> intro _ <;> first | (exfalso; omega) | contradiction | (conv => whnf)) | (refine VYield.intro (VY.lift _ yA) ?_; conv => whnf) | (refine VYield.intro (VY.lift _ yB) ?_; conv => whnf) | (refine VYield.intro (VY.lift _ yC) ?_; conv => whnf) | (refine VYield.intro (VY.lift _ yD) ?_; conv => whnf)))
  all_goals first
    | exact VOut.lifted (r := .tuple []) hend
    | (exfalso; omega)
end Go.Proofs.YtlgdkljiilbooaaGreat

open Go.Vm
open Riv
namespace Go.Proofs.YtlgdkljiilbooaaGreat
set_option maxRecDepth 20000
set_option maxHeartbeats 4000000

theorem sz_mul {W H : Int} (hW : 0 ≤ W ∧ W ≤ 12) (hH : 0 ≤ H ∧ H ≤ 12) : 0 ≤ W * H ∧ W * H ≤ 144 :=
  ⟨Int.mul_nonneg hW.1 hH.1, by have := Int.mul_le_mul hW.2 hH.2 hH.1 (show (0 : Int) ≤ 12 by decide); omega⟩
theorem outW_one {o : Vm.Id → Option Blk} {iy i0 : Vm.Id} {a c d : Blk} (n0 : i0 ≠ iy) : outW (outW (outW o iy c) i0 a) iy d = outW (outW o i0 a) iy d := by
  funext k
  unfold outW
  by_cases e : k = iy
  · subst e; simp only [if_true]
  · simp only [if_neg e]
structure CJ (o : Vm.Id → Option Blk) (e : Int) (g : Hp) : Prop where
  o : g.outer = o
  b0 : g.get (.loc 0) = some (.flat true [DI e])
  b1 : g.get (.loc 1) = some .mark
theorem vc_check (m : Mp) (h : Hp) (hl : m.c.length ≤ 4000000) : VC Tryz.prog 58 [vM m] h (I (chkM m)) h := by
  obtain ⟨E, hE⟩ : ∃ E, E = chkM m := ⟨_, rfl⟩
  rw [← hE]
  unfold chkM at hE
  have cC := fun h => vc_ContFI m.c (fun x => !decide (0 ≤ x ∧ x ≤ 3)) 74 hl vc_Check1 h
  rw [any_kind] at cC
  obtain ⟨mw, mh, mc⟩ := m
  dsimp only at hE hl cC
  show VC Tryz.prog 58 [.agg [I mw, I mh, ints mc]] h (I E) h
  by_cases h0 : ((3 ≤ mw ∧ mw ≤ 12) ∧ 1 ≤ mh ∧ mh ≤ 12) ∧ (mc.length : Int) = mw * mh
  · have hm := sz_mul (W := mw) (H := mh) (by omega) (by omega)
    rw [if_pos h0] at hE
    obtain ⟨⟨h1, h2⟩, h3⟩ := h0
    obtain ⟨W, rfl⟩ : ∃ W : Nat, mw = W := ⟨mw.toNat, by omega⟩
    obtain ⟨H, rfl⟩ : ∃ H : Nat, mh = H := ⟨mh.toNat, by omega⟩
    rw [Int.toNat_natCast, Int.toNat_natCast] at hE
    have hL : mc.length = W * H := by
      have e : ((W * H : Nat) : Int) = (W : Int) * H := by rw [Int.natCast_mul]
      omega
    have hit := iter_Chunk mc W H (by omega) hL hl
    have hrl := fun y hy => rowL_len (W := W) (y := y) hL hy
    have hlt : ∀ y, y < H → y * W + W ≤ mc.length := fun y hy => by
      have h1 : (y + 1) * W ≤ H * W := Nat.mul_le_mul_right _ hy
      rw [Nat.add_mul, Nat.one_mul, Nat.mul_comm H] at h1; omega
    have hr0 : ∀ y, y < H → (rowL mc W y)[0]? = some (at0 mc (y * W)) := fun y hy => by
      have := hlt y hy
      have := rowL_at (c := mc) (W := W) (y := y) (k := 0) (by omega) (by omega)
      rw [Nat.add_zero] at this; exact this
    have hr1 : ∀ y, y < H → (rowL mc W y)[W - 1]? = some (at0 mc (y * W + W - 1)) := fun y hy => by
      have := hlt y hy
      have := rowL_at (c := mc) (W := W) (y := y) (k := W - 1) (by omega) (by omega)
      rw [show y * W + W - 1 = y * W + (W - 1) by omega]; exact this
    have cK := fun h => vc_Chunk mc W h (by omega)
    clear hL
    cases hk : kindB mc
    · rw [hk] at hE cC
      rw [cond_false] at hE
      subst hE
      refine VC.body Tryz.func58 rfl Tryz.ntmps58 Tryz.call58 (h.grows_refl) rfl ?_; conv => whnf
      repeat' (first | ((first | refine zs1 ?_ | refine zs2 ?_ | refine zs3 ?_ | refine zs4 ?_ | refine zs5 ?_); conv => whnf) | ((first | apply zi1 | apply zi2 | apply zi3 | apply zi4 | apply zi5) <;> intro _ <;> first | (exfalso; omega) | contradiction | (conv => whnf)) | (refine VCall.intro (vc_from _ _ _ _) ?_; conv => whnf) | (refine VCall.intro (cC _) ?_; conv => whnf))
      all_goals first | exact VOut.same rfl | (exfalso; simp at *; omega)
    · rw [hk] at hE cC
      rw [cond_true] at hE
      refine VC.bodyC 3 Tryz.func58 rfl Tryz.ntmps58 Tryz.call58 (h.grows_refl) rfl ?_
      conv => whnf
      repeat' (first | ((first | refine zs1 ?_ | refine zs2 ?_ | refine zs3 ?_ | refine zs4 ?_ | refine zs5 ?_); conv => whnf) | ((first | apply zi1 | apply zi2 | apply zi3 | apply zi4 | apply zi5) <;> intro _ <;> first | (exfalso; omega) | contradiction | (conv => whnf)) | (refine VCall.intro (vc_from _ _ _ _) ?_; conv => whnf) | (refine VCall.intro (cC _) ?_; conv => whnf) | (refine VCall.intro (cK _) ?_; conv => whnf))
      refine VCode.tell [(1, .fp [DI W, DI H, dints mc]), (3, .ptr (.loc 0) 0), (33, vChunk mc W)] [.flat true [DI 0]] (marks' := []) ?_ ?_
      · conv => whnf
        refine Retell.turn ⟨[1], 2, [(0, [DI W, DI H, dints mc])], []⟩ (TurnOk.mk' _ _ [(0, [DI W, DI H, dints mc])] [] (OutOk.lift _) rfl (by decide) zb zf trivial rfl) zw zm
      · conv => whnf
        refine VCode.iterN H (fun y => some [ints (rowL mc W y)]) (fun y g => CJ h.lift 0 g ∧ ∀ z, z < y → sideB mc W z = true) (fun x g => x = .exit 0 ∧ CJ h.lift 9 g ∧ ∃ z, z < H ∧ sideB mc W z = false) _ (.loc 2) rfl hit rfl rfl ⟨⟨rfl, rfl, rfl⟩, fun z hz => by omega⟩ ?_ ?_ ?_ ?_
        · rintro y g hy hn _
          cases hn
        · rintro y g vs hy hvs ⟨⟨j0, j1, j2⟩, ha⟩ hlp
          cases hvs
          have hA := hr0 y hy
          have hB := hr1 y hy
          have hR := hrl y hy
          have hS : sideB mc W y = decide (at0 mc (y * W) = 1 ∧ at0 mc (y * W + W - 1) = 2) := rfl
          generalize at0 mc (y * W) = a at hA hS
          generalize at0 mc (y * W + W - 1) = b at hB hS
          generalize rowL mc W y = R at hA hB hR
          by_cases hs : a = 1 ∧ b = 2
          · left
            refine ⟨g, VRound.vy' hlp rfl rfl rfl g.grows_refl fun l0 => ?_, ⟨⟨j0, j1, j2⟩, fun z hz => ?_⟩, hlp⟩
            · refine VRound.tell [(1, .fp [DI W, DI H, dints mc]), (3, .ptr (.out (.loc 0)) 0), (34, ints R)] ?_ ?_
              · conv => whnf
                refine Retell.turn ⟨[], 0, [], []⟩ (TurnOk.mk' _ _ [] [] (OutOk.lift _) rfl (by decide) zb trivial trivial rfl) zw zm
              · conv => whnf
                repeat (first | ((first | refine zs1 ?_ | refine zs2 ?_ | refine zs3 ?_ | refine zs4 ?_ | refine zs5 ?_ | refine zs6 [] ?_); conv => whnf))
                refine VBegin.intro (get_out hlp _) rfl ?_
                conv => whnf
                repeat' (first | ((first | refine zs1 ?_ | refine zs2 ?_ | refine zs3 ?_ | refine zs4 ?_ | refine zs5 ?_); conv => whnf) | ((first | apply zi1 | apply zi2 | apply zi3 | apply zi4 | apply zi5) <;> intro _ <;> first | (exfalso; omega) | contradiction | (conv => whnf)) | (refine VAny.ix encI_len 0 (by omega) rfl hA ?_; conv => whnf) | (refine VAny.ix encI_len (W - 1) (by omega) rfl hB ?_; conv => whnf))
                exact RFin.on (outW_get _ _ _ _) (VOut.back (get_out hlp []) rfl)
            · rcases Nat.lt_or_ge z y with h5 | h5
              · exact ha z h5
              · obtain rfl : z = y := by omega
                rw [hS]; exact decide_eq_true hs
          · have n0 : g.get (.loc 0) ≠ none := by rw [j1]; simp
            have n2 : (g.set (.loc 0) (.flat true [DI 9])).get (.loc 2) ≠ none := by rw [Hp.get_set g _ _ _ n0, if_neg (by decide), hlp]; simp
            refine Rnd.stop (.exit 0) rfl hlp (g.set (.loc 0) (.flat true [DI 9])) n2 ?_ ⟨rfl, ⟨j0, ?_, ?_⟩, y, hy, by rw [hS]; exact decide_eq_false hs⟩
            · refine VRound.vy' hlp rfl rfl rfl grows_set2 fun l0 => ?_
              refine VRound.tell [(1, .fp [DI W, DI H, dints mc]), (3, .ptr (.out (.loc 0)) 0), (34, ints R)] ?_ ?_
              · conv => whnf
                refine Retell.turn ⟨[], 0, [], []⟩ (TurnOk.mk' _ _ [] [] (OutOk.lift _) rfl (by decide) zb trivial trivial rfl) zw zm
              · conv => whnf
                repeat (first | ((first | refine zs1 ?_ | refine zs2 ?_ | refine zs3 ?_ | refine zs4 ?_ | refine zs5 ?_ | refine zs6 [] ?_); conv => whnf))
                refine VBegin.intro (get_out hlp _) rfl ?_
                conv => whnf
                repeat' (first | ((first | refine zs1 ?_ | refine zs2 ?_ | refine zs3 ?_ | refine zs4 ?_ | refine zs5 ?_); conv => whnf) | ((first | apply zi1 | apply zi2 | apply zi3 | apply zi4 | apply zi5) <;> intro _ <;> first | (exfalso; omega) | contradiction | (conv => whnf)) | (refine VAny.ix encI_len 0 (by omega) rfl hA ?_; conv => whnf) | (refine VAny.ix encI_len (W - 1) (by omega) rfl hB ?_; conv => whnf) | (refine VMem.st1 rfl rfl rfl (get_outNe (by decide) (get_out j1 _)) rfl ?_; conv => whnf))
                all_goals (
                  refine RFin.off rfl (get_outNe (by decide) (outW_get _ _ _ _)) (VOut.liftS ?_ grows_set2)
                  rw [lift_set n2, lift_set n0]
                  exact outW_one (by decide))
            · rw [Hp.get_set _ _ _ _ n2, if_neg (by decide), Hp.get_set _ _ _ _ n0, if_pos rfl]
            · rw [Hp.get_set _ _ _ _ n2, if_neg (by decide), Hp.get_set _ _ _ _ n0, if_neg (by decide)]; exact j2
        · rintro ⟨go, gl⟩ ⟨⟨j0, j1, j2⟩, ha⟩ hlp
          dsimp only at j0
          subst j0
          have j1 : gl[0]? = some _ := j1
          have j2 : gl[1]? = some _ := j2
          have l0 := (List.getElem?_eq_some_iff.1 j1).1
          have key : ∀ (x : Nat) (A : Blk), x ≠ 2 → (gl.set 2 A)[x]? = gl[x]? := fun x A hx => List.getElem?_set_ne (Ne.symm hx)
          have hE0 : E = 0 := by
            rw [hE]
            have : (List.range H).all (sideB mc W) = true := by
              rw [List.all_eq_true]
              exact fun z hz => ha z (List.mem_range.1 hz)
            rw [this]; rfl
          subst hE0
          refine Told.mk [(3, .ptr (.loc 0) 0)] [.flat true [DI 0]] (marks' := []) ?_ ?_
          · conv => whnf
            refine Retell.turn ⟨[0], gl.length, [], []⟩ (TurnOk.mk' _ _ [] [] (OutOk.lift _) (Nat.ble_eq_true_of_le (by simp)) (by simp) (BTos.flat (blt_of l0) ((key 0 _ (by decide)).trans j1) rfl BTos.nil) trivial trivial rfl) zw (MkTo.drop (show 1 ∉ ([0] : List Nat) by decide) ((key 1 _ (by decide)).trans j2) MkTo.nil)
          · conv => whnf
            repeat' (first | ((first | refine zs1 ?_ | refine zs2 ?_ | refine zs3 ?_ | refine zs4 ?_ | refine zs5 ?_ | refine zs6 [] ?_); conv => whnf) | ((first | apply zi1 | apply zi2 | apply zi3 | apply zi4 | apply zi5) <;> intro _ <;> conv => whnf))
            exact VOut.same rfl
        · rintro x ⟨go, gl⟩ _ ⟨rfl, ⟨j0, j1, j2⟩, z, hz, hb⟩ hlp
          dsimp only at j0
          subst j0
          have j1 : gl[0]? = some _ := j1
          have j2 : gl[1]? = some _ := j2
          have l0 := (List.getElem?_eq_some_iff.1 j1).1
          have key : ∀ (x : Nat) (A : Blk), x ≠ 2 → (gl.set 2 A)[x]? = gl[x]? := fun x A hx => List.getElem?_set_ne (Ne.symm hx)
          have hE0 : E = 9 := by
            rw [hE]
            have : (List.range H).all (sideB mc W) = false := by
              cases hx : (List.range H).all (sideB mc W) with
              | false => rfl
              | true =>
                rw [List.all_eq_true] at hx
                rw [hx z (List.mem_range.2 hz)] at hb; cases hb
            rw [this]; rfl
          subst hE0
          refine Told.mk [(3, .ptr (.loc 0) 0)] [.flat true [DI 9]] (marks' := []) ?_ ?_
          · conv => whnf
            refine Retell.turn ⟨[0], gl.length, [], []⟩ (TurnOk.mk' _ _ [] [] (OutOk.lift _) (Nat.ble_eq_true_of_le (by simp)) (by simp) (BTos.flat (blt_of l0) ((key 0 _ (by decide)).trans j1) rfl BTos.nil) trivial trivial rfl) zw (MkTo.drop (show 1 ∉ ([0] : List Nat) by decide) ((key 1 _ (by decide)).trans j2) MkTo.nil)
          · conv => whnf
            repeat' (first | ((first | refine zs1 ?_ | refine zs2 ?_ | refine zs3 ?_ | refine zs4 ?_ | refine zs5 ?_ | refine zs6 [] ?_); conv => whnf) | ((first | apply zi1 | apply zi2 | apply zi3 | apply zi4 | apply zi5) <;> intro _ <;> conv => whnf))
            exact VOut.same rfl
  · rw [if_neg h0] at hE
    subst hE
    have hm : (0 ≤ mw ∧ mw ≤ 12) → (0 ≤ mh ∧ mh ≤ 12) → 0 ≤ mw * mh ∧ mw * mh ≤ 144 := sz_mul
    refine VC.body Tryz.func58 rfl Tryz.ntmps58 Tryz.call58 (h.grows_refl) rfl ?_; conv => whnf
    repeat' (first | ((first | refine zs1 ?_ | refine zs2 ?_ | refine zs3 ?_ | refine zs4 ?_ | refine zs5 ?_); conv => whnf) | ((first | apply zi1 | apply zi2 | apply zi3 | apply zi4 | apply zi5) <;> intro _ <;> first | (exfalso; omega) | contradiction | (conv => whnf)) | (refine VCall.intro (vc_from _ _ _ _) ?_; conv => whnf) | (refine VCall.intro (cC _) ?_; conv => whnf))
    all_goals first | exact VOut.same rfl | (exfalso; simp at *; omega)
end Go.Proofs.YtlgdkljiilbooaaGreat

open Go.Vm
open Riv
namespace Go.Vm
theorem wrap_u64 {n : Int} (h : 0 ≤ n ∧ n < 18446744073709551616) : IntKind.u64.wrap n = n := by
  unfold IntKind.wrap
  simp [IntKind.bits, IntKind.signed]
  omega
theorem VArith.u64 {n : Int} {K : Int → Prop} (h : 0 ≤ n ∧ n < 18446744073709551616) (hk : K n) : VArith .u64 n K := VArith.wr (by rw [wrap_u64 h]; exact hk)
theorem VArith.mask {n : Nat} {K : Int → Prop} (h : n < 4294967296) (hk : K n) : VArith .u64 (((BitVec.ofInt IntKind.u64.bits (n : Int) &&& BitVec.ofInt IntKind.u64.bits 4294967295).toNat : Nat) : Int) K := by
  have e : (BitVec.ofInt IntKind.u64.bits (n : Int) &&& BitVec.ofInt IntKind.u64.bits 4294967295).toNat = n := by
    rw [BitVec.toNat_and]
    have e1 : (BitVec.ofInt IntKind.u64.bits 4294967295).toNat = 2 ^ 32 - 1 := by decide
    have e2 : (BitVec.ofInt IntKind.u64.bits (n : Int)).toNat = n := by
      rw [BitVec.toNat_ofInt]
      simp only [IntKind.bits]
      omega
    rw [e1, e2, Nat.and_two_pow_sub_one_eq_mod]
    omega
  rw [e]
  exact VArith.u64 (by omega) hk
theorem shr32 {n : Nat} (h : n < 4294967296) : (n : Int).fdiv (2 ^ (min (32 : Int).toNat IntKind.u64.bits)) = 0 := by
  rw [show (2 : Int) ^ (min (32 : Int).toNat IntKind.u64.bits) = 4294967296 by decide]
  rw [Int.fdiv_eq_ediv_of_nonneg _ (by decide)]
  omega
end Go.Vm
namespace Go.Proofs.YtlgdkljiilbooaaGreat
set_option maxRecDepth 20000
set_option maxHeartbeats 4000000
abbrev U (n : Int) : V := .s (.int .u64 n)
theorem vc_Mul64 (n : Nat) (hn : n < 4294967296) (h : Hp) : VC Tryz.prog 87 [U 1, U n] h (.tuple [U 0, U n]) h := by
  have e := shr32 hn
  have e1 : Int.fdiv 1 (2 ^ (min (32 : Int).toNat IntKind.u64.bits)) = 0 := by decide
  have e0 : Int.fdiv 0 (2 ^ (min (32 : Int).toNat IntKind.u64.bits)) = 0 := by decide
  refine VC.body Tryz.func87 rfl Tryz.ntmps87 Tryz.call87 (h.grows_refl) rfl ?_; conv => whnf
  repeat' (first | ((first | refine zs1 ?_ | refine zs2 ?_ | refine zs3 ?_ | refine zs4 ?_ | refine zs5 ?_ | refine zs6 [] ?_); conv => whnf) | ((first | apply zi1 | apply zi2 | apply zi3 | apply zi4 | apply zi5) <;> intro _ <;> conv => whnf) | (refine VArith.mask hn ?_; conv => whnf) | (refine VArith.mask (n := 1) (by decide) ?_; simp only [Int.natCast_one]; conv => whnf) | (refine VArith.mask (n := 0) (by decide) ?_; simp only [Int.natCast_zero]; conv => whnf) | (simp only [e, e1, e0, Int.one_mul, Int.zero_mul, Int.zero_add, Int.add_zero]; conv => whnf) | (refine VArith.u64 (by omega) ?_; conv => whnf))
  exact VOut.same rfl
theorem vc_Mul (n : Nat) (hn : n < 4294967296) (h : Hp) : VC Tryz.prog 78 [U 1, U n] h (.tuple [U 0, U n]) h := by
  refine VC.body Tryz.func78 rfl Tryz.ntmps78 Tryz.call78 (h.grows_refl) rfl ?_; conv => whnf
  repeat' (first | ((first | refine zs1 ?_ | refine zs2 ?_ | refine zs3 ?_ | refine zs4 ?_ | refine zs5 ?_ | refine zs6 [] ?_); conv => whnf) | ((first | apply zi1 | apply zi2 | apply zi3 | apply zi4 | apply zi5) <;> intro _ <;> conv => whnf) | (refine VCall.intro (vc_Mul64 n hn _) ?_; conv => whnf))
  exact VOut.same rfl
end Go.Proofs.YtlgdkljiilbooaaGreat
namespace Go.Vm
theorem flatI (l : List Int) : l.flatMap encI = l.map DI := by
  induction l with
  | nil => rfl
  | cons a l ih => rw [List.flatMap_cons, ih]; rfl
theorem VOut.own1 {h : Hp} {loc : List Blk} {esz n : Nat} {ds : List D} (j L : Nat) (hL : Nat.ble loc.length L = true) (hj : loc[j]? = some (.flat true ds)) : VOut h ⟨h.lift, loc⟩ (.gl (.loc j) esz n) (.gl h.fresh esz n) (h.push (.flat true ds)) := by
  refine VOut.upd [] [.flat true ds] [j] L hL (by intro p hp; cases hp) (by simp) rfl ?_ ?_ rfl
  · intro k b hk
    cases k with
    | zero => rw [List.getElem?_cons_zero, Option.some.injEq] at hk; subst hk; exact ⟨j, rfl, hj⟩
    | succ k => simp at hk
  · intro σ x hx
    have : (V.gl h.fresh esz n).ren (backR h.loc.length [j] L) = .gl (.loc j) esz n := by simp [V.ren, backR, Hp.fresh]
    rw [this]; exact hx
def repL (a z : Int) (n k : Nat) : List Int := List.replicate k a ++ List.replicate (n - k) z
theorem repL_len (a z : Int) {n k : Nat} (h : k ≤ n) : (repL a z n k).length = n := by unfold repL; simp; omega
theorem VMem.copyRep {P : Program} {t ty : TypeId} {e bytes : Nat} {zero : List V} {s_ : Nat} {a_ : Bool} {z_ : V} {h : Hp} {i : Id} {a z : Int} {n k o1 n1 n2 : Nat} {K : V → Hp → Prop} (hTt : tiOf P t = some ⟨.slice e 1 bytes zero, s_, a_, z_⟩)
    (hb : h.get i = some (.flat true ((repL a z n k).flatMap encI))) (hk : k ≤ n) (h1 : o1 = k) (h2 : n1 = n - k) (h3 : n2 = k)
    (hK : K (.s (.int .i64 (min k (n - k) : Nat))) (h.set i (.flat true ((repL a z n (k + min k (n - k))).flatMap encI)))) : VMem P (opCopy #[t, t] ty) [.slice i o1 1 n1 none, .gl i 1 n2] h K := by
  subst h1 h2 h3
  refine VMem.intro (does_copy (n := n2) (m := min n2 (n - n2)) (news := ((List.replicate n2 a).map DI).map D.v) (l := ((repL a z n n2).flatMap encI).map D.v) (tiOf_ok P) hTt hb rfl ?_ ?_ rfl ?_) hK
  · simp only [SegOf]
    refine ⟨trivial, trivial, _, true, _, hb, rfl, by rw [List.length_map, flat_len encI_len, repL_len a z hk]; omega, ?_⟩
    rw [flatI, ← List.map_take, ← List.map_take, repL, List.take_append_of_le_length (by simp), List.take_of_length_le (by simp)]
  · rw [List.length_map, flat_len encI_len, repL_len a z hk]; omega
  · simp only [Blk.row, flatI, ← List.map_take, ← List.map_drop]
    rw [← List.map_append, ← List.map_append, ← List.map_append, ← List.map_append]
    congr 3
    rw [Nat.mul_one]
    generalize hm : min n2 (n - n2) = m
    unfold repL
    rw [List.take_append_of_le_length (by simp), List.take_of_length_le (by simp), List.take_replicate, List.drop_append, List.drop_of_length_le (by simp), List.nil_append, List.length_replicate, List.drop_replicate, Nat.min_eq_left (by omega), ← List.replicate_append_replicate]
    congr 2
    rw [show n - (n2 + m) = n - n2 - (n2 + m - n2) by omega]
theorem VMem.copyOne {P : Program} {t ty : TypeId} {e bytes : Nat} {zero : List V} {s_ : Nat} {a_ : Bool} {z_ : V} {h : Hp} {i : Id} {a z : Int} {n : Nat} {K : V → Hp → Prop} (hTt : tiOf P t = some ⟨.slice e 1 bytes zero, s_, a_, z_⟩)
    (hb : h.get i = some (.flat true ((List.replicate n z).flatMap encI)))
    (hK : K (.s (.int .i64 (min 1 n : Nat))) (h.set i (.flat true ((repL a z n (min 1 n)).flatMap encI)))) : VMem P (opCopy #[t, t] ty) [.gl i 1 n, .fs 1 1 [DI a]] h K := by
  refine VMem.intro (does_copy_gl (k := 1) (m := min 1 n) (news := ([a].map DI).map D.v) (l := ((List.replicate n z).flatMap encI).map D.v) (tiOf_ok P) hTt hb rfl ?_ ?_ rfl ?_) hK
  · simp only [SegOf]
    exact ⟨trivial, trivial, by simp, rfl⟩
  · rw [List.length_map, flat_len encI_len, List.length_replicate]; omega
  · simp only [Blk.row, flatI, ← List.map_take, ← List.map_drop]
    rw [← List.map_append, ← List.map_append]
    congr 3
    rw [Nat.mul_one]
    unfold repL
    cases n with
    | zero => rfl
    | succ n =>
      rw [show min 1 (n + 1) = 1 by omega, List.drop_replicate]
      rfl
end Go.Vm
namespace Go.Proofs.YtlgdkljiilbooaaGreat
set_option maxRecDepth 20000
set_option maxHeartbeats 4000000
theorem vc_Repeat (a : Int) (n : Nat) (h : Hp) (hn : n ≤ 1000000) : VC Tryz.prog 61 [ints [a], I n] h (.gl h.fresh 1 n) (h.push (.flat true ((List.replicate n a).flatMap encI))) := by
  show VC Tryz.prog 61 [.fs 1 1 [DI a], I n] h _ _
  refine VC.body Tryz.func61 rfl Tryz.ntmps61 Tryz.call61 (h.grows_push _) rfl ?_
  conv => whnf
  repeat' (first | ((first | refine zs1 ?_ | refine zs2 ?_ | refine zs3 ?_ | refine zs4 ?_ | refine zs5 ?_); conv => whnf) | ((first | apply zi1 | apply zi2 | apply zi3 | apply zi4 | apply zi5) <;> intro _ <;> first | (exfalso; omega) | contradiction | (conv => whnf)) | (refine VArith.u64 (by omega) ?_; conv => whnf) | (refine VCall.intro (vc_Mul n (by omega) _) ?_; conv => whnf) | (refine VMem.make (0 : Int) encI_len rfl rfl rfl rfl rfl rfl (by omega) ?_; conv => whnf) | (refine VMem.copyOne (a := a) (z := 0) (n := n) rfl rfl ?_; conv => whnf))
  refine VCode.lp (outer := h.lift) (marks := []) (fun k : Nat => [(7, .gl (.loc 0) 1 n), (8, I k)]) (fun k => [.flat true ((repL a 0 n k).flatMap encI)]) (fun k => k ≤ n ∧ (k = 0 → n = 0)) (fun k => n - k) (min 1 n) ⟨by omega, by omega⟩ ?_ ?_
  · generalize hm : min 1 n = m
    conv => whnf
    refine Retell.turn ⟨[0], 1, [], []⟩ (TurnOk.mk' _ _ [] [] (OutOk.lift _) rfl (by decide) zb trivial trivial rfl) zw zm
  · rintro k ⟨h1, h2⟩
    conv => whnf
    repeat (first | ((first | refine zs1 ?_ | refine zs2 ?_ | refine zs3 ?_ | refine zs4 ?_ | refine zs5 ?_ | refine zs6 [] ?_); conv => whnf))
    refine VIte.dec (fun h3 => ?_) (fun h3 => ?_)
    · conv => whnf
      refine zs6 [] ?_
      conv => whnf
      repeat (first | ((first | refine zs1 ?_ | refine zs2 ?_ | refine zs3 ?_ | refine zs4 ?_ | refine zs5 ?_ | refine zs6 [] ?_); conv => whnf))
      refine VAny.intro (v := .slice (.loc 0) (k * 1) 1 (n - k) none) ⟨by omega, n - k, by omega, .inr ⟨by omega, rfl⟩⟩ ?_
      conv => whnf
      repeat (first | ((first | refine zs1 ?_ | refine zs2 ?_ | refine zs3 ?_ | refine zs4 ?_ | refine zs5 ?_ | refine zs6 [] ?_); conv => whnf))
      refine VAny.intro (v := .gl (.loc 0) 1 k) ⟨by omega, k, by omega, .inl ⟨rfl, rfl⟩⟩ ?_
      conv => whnf
      repeat (first | ((first | refine zs1 ?_ | refine zs2 ?_ | refine zs3 ?_ | refine zs4 ?_ | refine zs5 ?_ | refine zs6 [] ?_); conv => whnf))
      refine VMem.copyRep (a := a) (z := 0) (n := n) (k := k) rfl rfl h1 (by omega) rfl rfl ?_
      generalize hm : min k (n - k) = m
      conv => whnf
      repeat (first | ((first | refine zs1 ?_ | refine zs2 ?_ | refine zs3 ?_ | refine zs4 ?_ | refine zs5 ?_ | refine zs6 [] ?_); conv => whnf))
      refine LEnd.intro (k + m) ⟨by omega, by omega⟩ (by omega) ?_
      conv => whnf
      refine Retell.turn ⟨[0], 1, [], []⟩ (TurnOk.mk' _ _ [] [] (OutOk.lift _) rfl (by decide) zb trivial trivial rfl) zw zm
    · obtain rfl : k = n := by omega
      rw [show repL a 0 k k = List.replicate k a by unfold repL; rw [Nat.sub_self]; simp]
      conv => whnf
      repeat' (first | ((first | refine zs1 ?_ | refine zs2 ?_ | refine zs3 ?_ | refine zs4 ?_ | refine zs5 ?_ | refine zs6 [] ?_); conv => whnf) | ((first | apply zi1 | apply zi2 | apply zi3 | apply zi4 | apply zi5) <;> intro _ <;> conv => whnf))
      exact VOut.own1 0 1 rfl rfl
end Go.Proofs.YtlgdkljiilbooaaGreat

