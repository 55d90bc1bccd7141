/- Part 6 of the proof that calendars and herds are as the given statements say. No condition. -/
import Derived.Test.YtoeendggmalcpaaBp5
set_option linter.unusedVariables false
set_option linter.unusedSimpArgs false
open Go.Vm
open Psg
namespace Go.Proofs.Ytoeendggmalcpaa
set_option maxRecDepth 20000
set_option maxHeartbeats 4000000

structure Rvd (l : List Int) (k : Nat) (m : List Int) : Prop where
  len : m.length = l.length
  le : 2 * k ≤ l.length + 1
  at' : ∀ j, j < l.length → m[j]? = if j < k ∨ l.length - k ≤ j then l[l.length - 1 - j]? else l[j]?
theorem Rvd.step {l m : List Int} {k : Nat} {a b : Int} (h : Rvd l k m) (hk : 2 * k + 1 < l.length) (ha : m[k]? = some a) (hb : m[l.length - 1 - k]? = some b) : Rvd l (k + 1) ((m.set k b).set (l.length - 1 - k) a) where
  len := by simp [h.len]
  le := by omega
  at' := fun j hj => by
    have hl := h.len
    have e1 := h.at' k (by omega)
    have e2 := h.at' (l.length - 1 - k) (by omega)
    rw [ha, if_neg (by omega)] at e1
    rw [hb, if_neg (by omega)] at e2
    rw [List.getElem?_set, List.length_set]
    by_cases h1 : l.length - 1 - k = j
    · rw [if_pos h1, if_pos (by omega), if_pos (by omega), e1]
      congr 1; omega
    · rw [if_neg h1, List.getElem?_set]
      by_cases h2 : k = j
      · rw [if_pos h2, if_pos (by omega), if_pos (by omega), e2]
        subst h2; rfl
      · rw [if_neg h2, h.at' j hj]
        have : (j < k ∨ l.length - k ≤ j) ↔ (j < k + 1 ∨ l.length - (k + 1) ≤ j) := by omega
        simp only [this]
theorem Rvd.done {l m : List Int} {k : Nat} (h : Rvd l k m) (hk : l.length ≤ 2 * k + 1) : m = l.reverse := by
  apply List.ext_getElem?
  intro j
  have hl := h.len
  rcases Nat.lt_or_ge j l.length with h1 | h1
  · rw [h.at' j h1, List.getElem?_reverse h1]
    split
    · rfl
    · congr 1; omega
  · rw [List.getElem?_eq_none (by omega), List.getElem?_eq_none (by simpa using h1)]
theorem vc_reverse (l : List Int) (i : Vm.Id) (h : Hp) (hb : h.get i = some (.flat true (l.flatMap encI))) (hn : l.length ≤ 4000000) :
    VC Try.prog 85 [.gl i 1 l.length] h (.tuple []) (h.set i (.flat true (l.reverse.flatMap encI))) := by
  have hd : ∀ p ∈ [(i, Blk.flat true (l.reverse.flatMap encI))], h.get p.1 ≠ none := by
    intro p hp
    simp only [List.mem_cons, List.not_mem_nil, or_false] at hp
    subst hp; simp only; rw [hb]; simp
  have hgr : h.grows (h.set i (.flat true (l.reverse.flatMap encI))) := h.grows_set _ _
  refine VC.body Try.func85 rfl Try.ntmps85 Try.call85 hgr rfl ?_; conv => whnf
  repeat (first | ((first | refine zs1 ?_ | refine zs2 ?_ | refine zs3 ?_ | refine zs4 ?_ | refine zs5 ?_ | refine zs6 [] ?_); conv => whnf))
  have hlift : h.lift i = some (.flat true (l.flatMap encI)) := get_out hb []
  refine VCode.lpo (fun x : Nat × List Int => [(0, .gl (.out i) 1 l.length), (2, I x.1), (3, I ((l.length : Int) - 1 - x.1))]) (fun x => outW h.lift i (.flat true (x.2.flatMap encI))) (fun _ => []) (fun x => Rvd l x.1 x.2) (fun x => l.length - x.1) (0, l) ⟨rfl, by omega, fun j hj => ?_⟩ (outW_id hlift) ?_ ?_
  · rw [if_neg (by omega)]
  · conv => whnf
    refine Retell.turn ⟨[], 0, [], []⟩ (TurnOk.mk' _ _ [] [] (OutOk.outW (OutOk.lift _) rfl) rfl (by decide) zb trivial trivial rfl) zw zm
  · rintro ⟨k, m⟩ hr
    simp only at hr ⊢
    have hl := hr.len
    conv => whnf
    refine VIte.dec (fun h3 => ?_) (fun h3 => ?_)
    · have ha : m[k]? = some m[k] := List.getElem?_eq_getElem (by omega)
      have hc : m[l.length - 1 - k]? = some m[l.length - 1 - k] := List.getElem?_eq_getElem (by omega)
      generalize m[k] = a at ha
      generalize m[l.length - 1 - k] = c at hc
      have hst := hr.step (by omega) ha hc
      have hc2 : (m.set k c)[l.length - 1 - k]? = some c := by rw [List.getElem?_set, if_neg (by omega)]; exact hc
      conv => whnf
      repeat' (first | ((first | refine zs1 ?_ | refine zs2 ?_ | refine zs3 ?_ | refine zs4 ?_ | refine zs5 ?_ | refine zs6 [] ?_); conv => whnf) | ((first | apply zi1 | apply zi2 | apply zi3 | apply zi4 | apply zi5) <;> intro _ <;> conv => whnf) | (refine VLd.recc encI_len (l.length - 1 - k) 0 rfl rfl (outW_get _ _ _ _) hc (by decide) rfl (by simp only [Nat.zero_add, Nat.mul_one]; omega) ?_; conv => whnf) | (refine VLd.recc encI_len k 0 rfl rfl (outW_get _ _ _ _) ha (by decide) rfl (by simp only [Nat.zero_add, Nat.mul_one]; omega) ?_; conv => whnf))
      refine VMem.setRec encI_len k 0 c rfl rfl (outW_get _ _ _ _) ha (by decide) rfl (by simp only [Nat.zero_add, Nat.mul_one]; omega) ?_
      conv => whnf
      repeat (first | ((first | refine zs1 ?_ | refine zs2 ?_ | refine zs3 ?_ | refine zs4 ?_ | refine zs5 ?_ | refine zs6 [] ?_); conv => whnf))
      refine VMem.setRec encI_len (l.length - 1 - k) 0 a rfl rfl (outW_get _ _ _ _) hc2 (by decide) rfl (by simp only [Nat.zero_add, Nat.mul_one]; omega) ?_
      conv => whnf
      repeat (first | ((first | refine zs1 ?_ | refine zs2 ?_ | refine zs3 ?_ | refine zs4 ?_ | refine zs5 ?_ | refine zs6 [] ?_); conv => whnf))
      refine LEndO.intro (k + 1, (m.set k c).set (l.length - 1 - k) a) hst (by simp only; omega) ((outW_same (outW _ _ _) _ _ _).trans (outW_same _ _ _ _)) ?_
      conv => whnf
      refine Retell.turn ⟨[], 0, [], []⟩ (TurnOk.mk' _ _ [] [] (OutOk.outW (OutOk.lift _) rfl) rfl (by decide) zb trivial trivial rfl) zw zm
    · conv => whnf
      have hm := hr.done (by omega)
      subst hm
      have := VOut.upd (loc := []) (r1 := .tuple []) (r := .tuple []) [(i, .flat true (l.reverse.flatMap encI))] [] [] 0 rfl hd (by simp) rfl (by intro k b hk; simp at hk) (fun σ x hx => hx) (outer := outW h.lift i (.flat true (l.reverse.flatMap encI))) rfl
      have he : (h.sets [(i, Blk.flat true (l.reverse.flatMap encI))]).pushes [] = h.set i (.flat true (l.reverse.flatMap encI)) := by simp [Hp.sets, Hp.pushes]
      rw [he] at this
      exact this
theorem Path.uniq {c : Cm} {s0 : Ky} : ∀ {k : Ky} {l l' : List Int}, Path c s0 k l → Path c s0 k l' → l = l' := by
  intro k l l' h
  induction h generalizing l' with
  | base =>
    intro h'
    cases h' with
    | base => rfl
    | step _ h2 _ => exact absurd rfl h2
  | step h1 h2 _ ih =>
    intro h'
    cases h' with
    | base => exact absurd rfl h2
    | step g1 g2 g3 =>
      rw [h1] at g1
      injection g1 with g1
      subst g1
      rw [ih g3]
theorem Path.keys {n : Nat} {ws : List Wy} {x : Hd} {st : Psg.St} (hx : HOk n x) (hI : TI n ws x st none []) : ∀ {k : Ky} {l : List Int}, Path st.c (x.p, x.s) k l → InR n k → ∃ ks : List Ky, ks.length = l.length + 1 ∧ ks.Nodup ∧ (∀ j ∈ ks, InR n j) ∧ ∀ j ∈ ks, ∃ l', Path st.c (x.p, x.s) j l' ∧ l'.length ≤ l.length := by
  intro k l h
  induction h with
  | base => intro hk; exact ⟨[(x.p, x.s)], rfl, by simp, fun j hj => by simp at hj; rw [hj]; exact hk, fun j hj => by simp at hj; rw [hj]; exact ⟨[], Path.base, Nat.le_refl _⟩⟩
  | step h1 h2 h3 ih =>
    rename_i s v l
    intro hk
    obtain ⟨_, _, h4, _⟩ := hI.stp _ _ h1
    obtain ⟨ks, g1, g2, g3, g4⟩ := ih h4
    refine ⟨s :: ks, by simp [g1], List.nodup_cons.2 ⟨fun hm => ?_, g2⟩, fun j hj => ?_, fun j hj => ?_⟩
    · obtain ⟨l', a1, a2⟩ := g4 s hm
      have := Path.uniq a1 (Path.step h1 h2 h3)
      rw [this, List.length_cons] at a2
      omega
    · rcases List.mem_cons.1 hj with rfl | hj
      · exact hk
      · exact g3 j hj
    · rcases List.mem_cons.1 hj with rfl | hj
      · exact ⟨_, Path.step h1 h2 h3, Nat.le_refl _⟩
      · obtain ⟨l', a1, a2⟩ := g4 j hj
        exact ⟨l', a1, by simp; omega⟩
theorem Path.short {n : Nat} {ws : List Wy} {x : Hd} {st : Psg.St} (hn : n ≤ 10) (hx : HOk n x) (hI : TI n ws x st none []) {k : Ky} {l : List Int} (h : Path st.c (x.p, x.s) k l) (hk : InR n k) : l.length < 160 := by
  obtain ⟨ks, g1, g2, g3, _⟩ := Path.keys hx hI h hk
  have h1 : (ks.map fun k => ix k.1 k.2).Nodup := by
    rw [List.nodup_iff_pairwise_ne, List.pairwise_map] at *
    refine g2.imp_of_mem fun {a b} ha hb hab e => hab (ix_inj (g3 a ha) (g3 b hb) e)
  have h2 := nodup_len 160 _ h1 fun y hy => by
    obtain ⟨k, hk, rfl⟩ := List.mem_map.1 hy
    exact ix_lt hn (g3 k hk)
  rw [List.length_map] at h2
  omega
theorem Path.ok {n : Nat} {ws : List Wy} {x : Hd} {st : Psg.St} (hI : TI n ws x st none []) : ∀ {k : Ky} {l : List Int}, Path st.c (x.p, x.s) k l → ∀ i ∈ l, 0 ≤ i ∧ i ≤ (ws.length : Int) - 1 := by
  intro k l h
  induction h with
  | base => intro i hi; cases hi
  | step h1 _ _ ih =>
    intro i hi
    obtain ⟨_, _, _, h5, w, h6, _⟩ := hI.stp _ _ h1
    rcases List.mem_cons.1 hi with rfl | hi
    · have := (List.getElem?_eq_some_iff.1 h6).1
      omega
    · exact ih i hi
theorem look_C {c : Cm} {k : Ky} {v : Sp3} (h : Psg.look c k = some v) : Look Try.prog (tiOf Try.prog) 145 false (vKy k) (cmE c) (vSt v) := by
  obtain ⟨i, hi, _⟩ := found_some h
  exact ⟨_, 139, 142, _, _, true, some (i, vSt v), rfl, rfl, top139, by rw [veq139]; simp, hi, rfl⟩
theorem vne139 (a b : Ky) : vaggeq Try.prog .neq 139 (vKy a) (vKy b) = some (B (decide (¬ a = b))) := by
  have : (!decide (a = b)) = decide (¬ a = b) := by simp
  rw [← this]
  unfold vaggeq
  rw [top139]
  dsimp only
  rw [veq139]
end Go.Proofs.Ytoeendggmalcpaa

open Go.Vm
open Psg
namespace Go.Proofs.Ytoeendggmalcpaa
set_option maxRecDepth 20000
set_option maxHeartbeats 4000000

structure RtR (N : Nt) (x : Hd) (to : Int) (L : List Int) : Prop where
  fol : ∃ s, Pp s ∧ folI N.ws x L = some ⟨to, dyP N x to.toNat, s⟩
  ok : L.all (okI N) = true
  len : L.length ≤ 160
  uni : ∀ l, Path (bgn N.ws x).c (x.p, x.s) (to, (lsG (fun s : Nat => atD (bgn N.ws x).D to s) 16 : Nat)) l → L = l.reverse
def rtE (N : Nt) (x : Hd) (to : Int) : Int := if hrd N x = 0 then (if 0 ≤ to ∧ to ≤ N.p - 1 then (if dyP N x to.toNat = -1 then 7 else 0) else 2) else hrd N x
theorem vc_Route (N : Nt) (x : Hd) (to : Int) (hn : N.ws.length ≤ 4000000) : ∃ L : List Int, (rtE N x to = 0 → RtR N x to L) ∧ (rtE N x to ≠ 0 → L = []) ∧ ∀ h : Hp, VC Try.prog 38 [vN N, vHd x, I to] h (.tuple [ints L, I (rtE N x to)]) h := by
  have cH := fun h => vc_herded N x h hn
  unfold rtE
  by_cases h0 : hrd N x = 0
  · obtain ⟨n, hN, hx⟩ := hrd_ok h0
    rw [h0] at cH
    rw [if_pos h0]
    have hp := hN.p
    have hn1 := hN.n1
    by_cases ht : 0 ≤ to ∧ to ≤ N.p - 1
    · rw [if_pos ht]
      have hbl := bgn_len hN hx
      have cB := fun h => vc_begun0 N x h hN hx
      have hT := bgn_ok hn1.2 hN.ws hx
      have hLst := bgn_lst hn1.2 hN.ws hx
      have hdy : dyP N x to.toNat = tell (dayOf (atD (bgn N.ws x).D) to) := by unfold dyP; rw [Int.toNat_of_nonneg ht.1]
      obtain ⟨t, rfl⟩ : ∃ t : Nat, to = t := ⟨to.toNat, by omega⟩
      have hcap := dayOf_cap hLst (p := (t : Int)) (by omega)
      have hmn : atD (bgn N.ws x).D t (lsG (fun s => atD (bgn N.ws x).D t s) 16 : Nat) = dayOf (atD (bgn N.ws x).D) t := lsG_mn (fun s : Nat => atD (bgn N.ws x).D t s) 15
      have hle : lsG (fun s : Nat => atD (bgn N.ws x).D t s) 16 ≤ 15 := lsG_le (fun s : Nat => atD (bgn N.ws x).D t s) 15
      by_cases hd : dyP N x t = -1
      · rw [show ((t : Int)).toNat = t from rfl, if_pos hd]
        refine ⟨[], fun h => absurd h (by decide), fun _ => rfl, fun h => ?_⟩
        have hd' : tell (dayOf (atD (bgn N.ws x).D) t) = -1 := hd
        generalize bgn N.ws x = b at *
        obtain ⟨D, c, q⟩ := b
        dsimp only at *
        have cD := fun h hb => vc_day N x D (.loc 2) (.loc 3) t h hb hbl (by omega)
        rw [hd'] at cD
        refine VC.body Try.func38 rfl Try.ntmps38 Try.call38 (h.grows_refl) rfl ?_; conv => whnf
        repeat' (first | ((first | refine zs1 ?_ | refine zs2 ?_ | refine zs3 ?_ | refine zs4 ?_ | refine zs5 ?_ | refine zs6 [] ?_); conv => whnf) | ((first | apply zi1 | apply zi2 | apply zi3 | apply zi4 | apply zi5) <;> intro _ <;> conv => whnf) | (refine VCall.intro (cH _) ?_; conv => whnf) | (refine VCall.intro (cB _) ?_; conv => whnf) | (refine VCall.intro (vc_posted N t _ (by omega)) ?_; conv => whnf) | (refine VCall.intro (cD _ rfl) ?_; conv => whnf))
        all_goals try (exfalso; omega)
        refine VOut.data 4 [] [] rfl zf (by exact FmAll.nil) zw
      · rw [show ((t : Int)).toNat = t from rfl, if_neg hd]
        have hd' : tell (dayOf (atD (bgn N.ws x).D) t) ≠ -1 := hd
        have hd2 : dayOf (atD (bgn N.ws x).D) t ≤ 1000 := Decidable.byContradiction fun h => hd' (by unfold tell; rw [if_neg h])
        have hty : dyP N x t = dayOf (atD (bgn N.ws x).D) t := by show tell _ = _; unfold tell; rw [if_pos hd2]
        have hkR : InR n ((t : Int), (lsG (fun s => atD (bgn N.ws x).D t s) 16 : Nat)) := ⟨by dsimp only; omega, by unfold Pp; dsimp only; omega⟩
        obtain ⟨l, hl⟩ := hT.1.pth _ hkR (by dsimp only; rw [hmn]; exact hd2)
        have hfol := path_fol hN.ws hT.1 hT.2 hl
        dsimp only at hfol
        rw [hmn, ← hty] at hfol
        have hlok := Path.ok hT.1 hl
        have hlen := Path.short hn1.2 hx hT.1 hl hkR
        refine ⟨l.reverse, fun _ => ⟨⟨_, hkR.2, by rw [folI_eq]; exact hfol⟩, ?_, by rw [List.length_reverse]; omega, fun l2 h2 => by rw [Path.uniq hl h2]⟩, fun h => absurd rfl h, fun h => ?_⟩
        · rw [List.all_eq_true]
          intro i hi
          unfold okI
          rw [decide_eq_true_eq]
          exact hlok i (List.mem_reverse.1 hi)
        clear hfol hty hlok hkR
        have hcv : ∀ k v, Psg.look (bgn N.ws x).c k = some v → True := fun _ _ _ => trivial
        generalize bgn N.ws x = b at *
        obtain ⟨D, c, q⟩ := b
        dsimp only at *
        have cD := fun h hb => vc_day N x D (.loc 2) (.loc 3) t h hb hbl (by omega)
        have cL := fun h hb => vc_least N x D (.loc 2) (.loc 3) t h hb hbl (by omega)
        generalize lsG (fun s => atD D t s) 16 = o at *
        generalize tell (dayOf (atD D) t) = dd at *
        refine VC.body Try.func38 rfl Try.ntmps38 Try.call38 (h.grows_refl) rfl ?_; conv => whnf
        repeat' (first | ((first | refine zs1 ?_ | refine zs2 ?_ | refine zs3 ?_ | refine zs4 ?_ | refine zs5 ?_ | refine zs6 [] ?_); conv => whnf) | ((first | apply zi1 | apply zi2 | apply zi3 | apply zi4 | apply zi5) <;> intro _ <;> conv => whnf) | (refine VCall.intro (cH _) ?_; conv => whnf) | (refine VCall.intro (cB _) ?_; conv => whnf) | (refine VCall.intro (vc_posted N t _ (by omega)) ?_; conv => whnf) | (refine VCall.intro (cD _ rfl) ?_; conv => whnf) | (refine VCall.intro (cL _ rfl) ?_; conv => whnf))
        all_goals try (exfalso; omega)
        refine VCode.lp (outer := h.lift) (marks := []) (fun y : Ky × List Int × List Int => [(4, .fp (encHd x)), (6, .nilslice), (7, I 0), (9, .ptr (.loc 0) 0), (10, .gl (.loc 2) 1 y.2.1.length), (11, .ptr (.loc 3) 0)]) (fun y => [trB N x D (.loc 1), .map (cmE c), .flat true (y.2.1.flatMap encI), .flat true (encKy y.1)]) (fun y => Path c (x.p, x.s) y.1 y.2.2 ∧ y.2.1 ++ y.2.2 = l) (fun y => y.2.2.length) (((t : Int), (o : Int)), [], l) ⟨hl, rfl⟩ ?_ ?_
        · conv => whnf
          refine Retell.turn ⟨[2, 3, 5, 4], 5, [(1, encHd x)], []⟩ (TurnOk.mk' _ _ [(1, encHd x)] [] (OutOk.lift _) rfl (by decide) (BTos.tr rfl rfl rfl (BTos.cm rfl rfl (BTos.new rfl (BTos.flat rfl rfl rfl BTos.nil)))) zf trivial rfl) zw zm
        · rintro ⟨k, w, r⟩ ⟨h1, h2⟩
          dsimp only at h1 h2
          have hwl : w.length ≤ 160 := by
            have := congrArg List.length h2
            rw [List.length_append] at this
            omega
          cases h1 with
          | base =>
            rw [List.append_nil] at h2
            subst h2
            conv => whnf
            repeat' (first | ((first | refine zs1 ?_ | refine zs2 ?_ | refine zs3 ?_ | refine zs4 ?_ | refine zs5 ?_ | refine zs6 [] ?_); conv => whnf) | ((first | apply zi1 | apply zi2 | apply zi3 | apply zi4 | apply zi5) <;> intro _ <;> conv => whnf) | (refine VAgg.intro (vne139 (x.p, x.s) (x.p, x.s)) ?_; conv => whnf))
            · rename_i hh; exact absurd rfl hh
            refine VCall.intro (vc_reverse w (.loc 2) _ rfl (by omega)) ?_
            conv => whnf
            repeat' (first | ((first | refine zs1 ?_ | refine zs2 ?_ | refine zs3 ?_ | refine zs4 ?_ | refine zs5 ?_ | refine zs6 [] ?_); conv => whnf) | ((first | apply zi1 | apply zi2 | apply zi3 | apply zi4 | apply zi5) <;> intro _ <;> conv => whnf))
            rw [← List.length_reverse]
            refine VOut.data 4 [(2, w.reverse.flatMap encI)] [] rfl zf (by exact FmAll.nil) zw
          | step g1 g2 g3 =>
            rename_i v r'
            have hlk := look_C g1
            have h2' : (w ++ [v.2.2]) ++ r' = l := by rw [List.append_assoc]; exact h2
            conv => whnf
            repeat' (first | ((first | refine zs1 ?_ | refine zs2 ?_ | refine zs3 ?_ | refine zs4 ?_ | refine zs5 ?_); conv => whnf) | ((first | apply zi1 | apply zi2 | apply zi3 | apply zi4 | apply zi5) <;> intro _ <;> conv => whnf) | (refine VAgg.intro (vne139 k (x.p, x.s)) ?_; conv => whnf))
            · refine zs6 [] ?_
              conv => whnf
              repeat' (first | ((first | refine zs1 ?_ | refine zs2 ?_ | refine zs3 ?_ | refine zs4 ?_ | refine zs5 ?_); conv => whnf) | ((first | apply zi1 | apply zi2 | apply zi3 | apply zi4 | apply zi5) <;> intro _ <;> conv => whnf) | (refine VLd.cell rfl rfl rfl (tr_map (N := N) (x := x) (D := D) (v := .map (.loc 1)) hbl) ?_; conv => whnf) | (refine VLook.intro rfl hlk ?_; conv => whnf))
              refine VMem.app1 (l := w) (v.2.2 : Int) encI_len rfl rfl rfl rfl rfl (by omega) ?_
              conv => whnf
              repeat' (first | ((first | refine zs1 ?_ | refine zs2 ?_ | refine zs3 ?_ | refine zs4 ?_ | refine zs5 ?_); conv => whnf) | ((first | apply zi1 | apply zi2 | apply zi3 | apply zi4 | apply zi5) <;> intro _ <;> conv => whnf))
              refine zs6 [] ?_
              conv => whnf
              repeat' (first | ((first | refine zs1 ?_ | refine zs2 ?_ | refine zs3 ?_ | refine zs4 ?_ | refine zs5 ?_); conv => whnf) | ((first | apply zi1 | apply zi2 | apply zi3 | apply zi4 | apply zi5) <;> intro _ <;> conv => whnf) | (refine VLd.cell rfl rfl rfl (tr_map (N := N) (x := x) (D := D) (v := .map (.loc 1)) hbl) ?_; conv => whnf) | (refine VLook.intro rfl hlk ?_; conv => whnf))
              refine LEnd.intro (Y := Ky × List Int × List Int) ((v.1, v.2.1), w ++ [v.2.2], r') ⟨g3, h2'⟩ (by dsimp only; simp) ?_
              rw [List.length_append]
              conv => whnf
              refine Retell.turn ⟨[0, 1, 5, 6], 7, [], []⟩ (TurnOk.mk' _ _ [] [] (OutOk.lift _) rfl (by decide) (BTos.tr rfl rfl rfl (BTos.cm rfl rfl (BTos.flat rfl rfl rfl (BTos.flat rfl rfl rfl BTos.nil)))) trivial trivial rfl) zw zm
            · rename_i hh; exact absurd g2 hh
    · rw [if_neg ht]
      refine ⟨[], fun h => absurd h (by decide), fun _ => rfl, fun h => ?_⟩
      refine VC.body Try.func38 rfl Try.ntmps38 Try.call38 (h.grows_refl) rfl ?_; conv => whnf
      repeat' (first | ((first | refine zs1 ?_ | refine zs2 ?_ | refine zs3 ?_ | refine zs4 ?_ | refine zs5 ?_ | refine zs6 [] ?_); conv => whnf) | ((first | apply zi1 | apply zi2 | apply zi3 | apply zi4 | apply zi5) <;> intro _ <;> conv => whnf) | (refine VCall.intro (cH _) ?_; conv => whnf) | (refine VCall.intro (vc_posted N to _ (by omega)) ?_; conv => whnf))
      · refine VOut.data 2 [] [] rfl zf (by exact FmAll.nil) zw
      all_goals (exfalso; omega)
  · rw [if_neg h0]
    refine ⟨[], fun h => absurd h h0, fun _ => rfl, fun h => ?_⟩
    generalize hrd N x = e at cH h0
    refine VC.body Try.func38 rfl Try.ntmps38 Try.call38 (h.grows_refl) rfl ?_; conv => whnf
    repeat' (first | ((first | refine zs1 ?_ | refine zs2 ?_ | refine zs3 ?_ | refine zs4 ?_ | refine zs5 ?_ | refine zs6 [] ?_); conv => whnf) | ((first | apply zi1 | apply zi2 | apply zi3 | apply zi4 | apply zi5) <;> intro _ <;> conv => whnf) | (refine VCall.intro (cH _) ?_; conv => whnf))
    · refine VOut.data 2 [] [] rfl zf (by exact FmAll.nil) zw
    all_goals (rename_i hh; exact absurd (by omega) h0)
end Go.Proofs.Ytoeendggmalcpaa

open Go.Vm
open Psg
namespace Go.Proofs.Ytoeendggmalcpaa
set_option maxRecDepth 20000
set_option maxHeartbeats 4000000
/-! ### The reference's table -/
def rowsV (n : Nat) : List V := (List.range n).map fun q => .gl (.loc (q + 1)) 1 16
def rB (X : Rw) (q : Nat) : Blk := .flat true ((X.getD q []).flatMap encI)
def tabB (b : Blk) (X : Rw) (r : List Blk) : List Blk := b :: rB X 0 :: rB X 1 :: rB X 2 :: rB X 3 :: rB X 4 :: rB X 5 :: rB X 6 :: rB X 7 :: rB X 8 :: rB X 9 :: r
theorem ten {p : Nat} (h : p < 10) : p = 0 ∨ p = 1 ∨ p = 2 ∨ p = 3 ∨ p = 4 ∨ p = 5 ∨ p = 6 ∨ p = 7 ∨ p = 8 ∨ p = 9 := by omega
theorem tab_get (b : Blk) (X : Rw) (r : List Blk) {p : Nat} (hp : p < 10) : (tabB b X r)[p + 1]? = some (.flat true ((X.getD p []).flatMap encI)) := by
  rcases ten hp with rfl | rfl | rfl | rfl | rfl | rfl | rfl | rfl | rfl | rfl <;> rfl
theorem rB_set {X : Rw} {p s : Nat} {v : Int} (hp : p < X.length) (q : Nat) : rB (setR X p s v) q = if q = p then .flat true (((X.getD p []).set s v).flatMap encI) else rB X q := by
  unfold rB setR
  split
  · rename_i e
    subst e
    rw [List.getD_eq_getElem?_getD, List.getElem?_set_self hp]; rfl
  · rename_i e
    rw [List.getD_eq_getElem?_getD, List.getElem?_set_ne (fun h => e h.symm), ← List.getD_eq_getElem?_getD]
theorem tab_set (b : Blk) {X : Rw} (r : List Blk) {p s : Nat} {v : Int} (hp : p < X.length) (hn : p < 10) : (tabB b X r).set (p + 1) (.flat true (((X.getD p []).set s v).flatMap encI)) = tabB b (setR X p s v) r := by
  have h := fun q => rB_set (s := s) (v := v) hp q
  unfold tabB
  rw [h 0, h 1, h 2, h 3, h 4, h 5, h 6, h 7, h 8, h 9]
  rcases ten hn with rfl | rfl | rfl | rfl | rfl | rfl | rfl | rfl | rfl | rfl <;> rfl
theorem VTos.rows {c : TCtx} (h : ∀ q, q < 10 → c.ρ (.loc (q + 1)) = .loc (q + 1)) (n : Nat) (hn : n ≤ 10) : VTos c (rowsV n) (rowsV n) := by
  have key : ∀ l : List Nat, (∀ q ∈ l, q < 10) → VTos c (l.map fun q => V.gl (.loc (q + 1)) 1 16) (l.map fun q => V.gl (.loc (q + 1)) 1 16) := by
    intro l
    induction l with
    | nil => intro _; exact VTos.nil
    | cons a l ih =>
      intro hl
      exact VTos.cons (VTo.gl (h a (hl a List.mem_cons_self)).symm) (ih fun q hq => hl q (List.mem_cons_of_mem _ hq))
  exact key (List.range n) fun q hq => by have := List.mem_range.1 hq; omega
theorem BTos.tab {c : TCtx} {loc : List Blk} {pm : List Nat} {bs : List Blk} {n : Nat} {X : Rw} (r0 : List Blk) (hn : n ≤ 10) (hpm : ∀ q, q < 10 → c.pm[q + 1]? = some (q + 1)) (hL : 11 ≤ c.L) (hl : loc = tabB (.cells true (rowsV n)) X r0) (r : BTos c loc pm bs) :
    BTos c loc (0 :: 1 :: 2 :: 3 :: 4 :: 5 :: 6 :: 7 :: 8 :: 9 :: 10 :: pm) (tabB (.cells true (rowsV n)) X bs) := by
  have hb : ∀ q, q ≤ 10 → Nat.blt q c.L = true := fun q hq => blt_of (by omega)
  refine BTos.cells (hb 0 (by omega)) (by rw [hl]; rfl) rfl (VTos.rows (fun q hq => by unfold TCtx.ρ; simp only [hpm q hq]) n hn) ?_
  refine BTos.flat (hb 1 (by omega)) (by rw [hl]; rfl) rfl (BTos.flat (hb 2 (by omega)) (by rw [hl]; rfl) rfl (BTos.flat (hb 3 (by omega)) (by rw [hl]; rfl) rfl (BTos.flat (hb 4 (by omega)) (by rw [hl]; rfl) rfl (BTos.flat (hb 5 (by omega)) (by rw [hl]; rfl) rfl (BTos.flat (hb 6 (by omega)) (by rw [hl]; rfl) rfl (BTos.flat (hb 7 (by omega)) (by rw [hl]; rfl) rfl (BTos.flat (hb 8 (by omega)) (by rw [hl]; rfl) rfl (BTos.flat (hb 9 (by omega)) (by rw [hl]; rfl) rfl (BTos.flat (hb 10 (by omega)) (by rw [hl]; rfl) rfl r)))))))))
theorem VLd.tab {b : Blk} {X : Rw} {r : List Blk} {h : Hp} {p off : Nat} {y : Int} {K : V → Prop} (s : Nat) (hl : h.loc = tabB b X r) (h10 : p < 10) (hg : (X.getD p [])[s]? = some y) (ho : off = s) (hK : K (I y)) : VLd (tiOf Try.prog) 3 (.ptr (.loc (p + 1)) off) h K := by
  have hb : h.get (.loc (p + 1)) = some (.flat true ((X.getD p []).flatMap encI)) := by
    show h.loc[p + 1]? = _
    rw [hl]; exact tab_get b X r h10
  exact VLd.recc encI_len s 0 rfl rfl hb hg (by decide) rfl (by omega) hK
def dRow (r : List Int) : D := .sl 1 r.length (r.flatMap encI)
def rws (X : Rw) : V := .fs 1 X.length (X.map dRow)
theorem FzAll.of {c : TCtx} {loc : List Blk} : ∀ {l : List (Nat × List D)}, (∀ e ∈ l, ∃ b r, loc[e.1]? = some b ∧ b.row = some (true, r) ∧ RowTo c r (e.2.map D.v)) → FzAll c loc l
  | [], _ => by simp only [FzAll]
  | (p, ds) :: l, h => by
    simp only [FzAll]
    obtain ⟨b, r, h1, h2, h3⟩ := h (p, ds) List.mem_cons_self
    exact ⟨⟨b, r, h1, h2, h3⟩, FzAll.of fun e he => h e (List.mem_cons_of_mem _ he)⟩
end Go.Proofs.Ytoeendggmalcpaa

open Go.Vm
open Psg
namespace Go.Proofs.Ytoeendggmalcpaa
set_option maxRecDepth 20000
set_option maxHeartbeats 4000000
def pmO (o p : Nat) : List Nat := [o, if 1 = p + 1 then 11 else 1, if 2 = p + 1 then 11 else 2, if 3 = p + 1 then 11 else 3, if 4 = p + 1 then 11 else 4, if 5 = p + 1 then 11 else 5, if 6 = p + 1 then 11 else 6, if 7 = p + 1 then 11 else 7, if 8 = p + 1 then 11 else 8, if 9 = p + 1 then 11 else 9, if 10 = p + 1 then 11 else 10]
end Go.Proofs.Ytoeendggmalcpaa

open Go.Vm
open Psg
namespace Go.Proofs.Ytoeendggmalcpaa
set_option maxRecDepth 20000
set_option maxHeartbeats 4000000

theorem rws_intss (X : Rw) : rws X = intss X := by
  unfold rws intss
  congr 1
  rw [List.map_eq_flatMap]
  rfl
end Go.Proofs.Ytoeendggmalcpaa

namespace Psg
def valR (R : Rw) : Bool := R.all fun r => r.all fun d => inB d 0 1001
def szR (p : Int) (R : Rw) : Bool := decide ((R.length : Int) = p) && R.all fun r => decide (r.length = 16)
def prE (N : Nt) (x : Hd) (R : Rw) (to : Int) : Int :=
  if hrd N x = 0 then (if szR N.p R = true then (if valR R = true then (if holds N.p.toNat N.ws x R = true then (if 0 ≤ to ∧ to ≤ N.p - 1 then 0 else 2) else 9) else 4) else 3) else hrd N x
def prV (N : Nt) (x : Hd) (R : Rw) (to : Int) : Int := if prE N x R to = 0 then dayOf (atR R) to else 0
theorem szR_iff {p : Int} {R : Rw} : szR p R = true ↔ (R.length : Int) = p ∧ ∀ r ∈ R, r.length = 16 := by
  unfold szR
  rw [Bool.and_eq_true, decide_eq_true_eq, List.all_eq_true]
  simp only [decide_eq_true_eq]
theorem valR_iff {R : Rw} : valR R = true ↔ ∀ r ∈ R, ∀ d ∈ r, 0 ≤ d ∧ d ≤ 1001 := by
  unfold valR
  rw [List.all_eq_true]
  constructor
  · intro h r hr d hd
    have := h r hr
    rw [List.all_eq_true] at this
    exact inB_iff.1 (this d hd)
  · intro h r hr
    rw [List.all_eq_true]
    intro d hd
    exact inB_iff.2 (h r hr d hd)
theorem Sz.of {n : Nat} {p : Int} {R : Rw} (hp : p = n) (h : szR p R = true) : Sz n R := by
  have := szR_iff.1 h
  exact ⟨by omega, this.2⟩
theorem atR_mem {n : Nat} {R : Rw} (h : Sz n R) {p s : Nat} (hp : p < n) (hs : s < 16) : ∃ r, R[p]? = some r ∧ r.length = 16 ∧ r[s]? = some (atR R p s) := by
  have hl : p < R.length := by rw [h.len]; exact hp
  have hr := h.row R[p] (List.getElem_mem hl)
  refine ⟨R[p], List.getElem?_eq_getElem hl, hr, ?_⟩
  unfold atR
  rw [Int.toNat_natCast, Int.toNat_natCast, List.getD_eq_getElem?_getD (l := R), List.getElem?_eq_getElem hl]
  show _ = some (R[p].getD s 1001)
  rw [List.getD_eq_getElem?_getD, List.getElem?_eq_getElem (by omega)]; rfl
theorem atR_row {R : Rw} {p s : Nat} {r : List Int} (h : R[p]? = some r) : r.getD s 1001 = atR R p s := by
  unfold atR
  rw [Int.toNat_natCast, Int.toNat_natCast, List.getD_eq_getElem?_getD (l := R), h]
  rfl
theorem atR_bd {n : Nat} {R : Rw} (h : Sz n R) (hv : valR R = true) {p s : Nat} (hp : p < n) (hs : s < 16) : 0 ≤ atR R p s ∧ atR R p s ≤ 1001 := by
  obtain ⟨r, h1, _, h3⟩ := atR_mem h hp hs
  exact valR_iff.1 hv r (List.mem_of_getElem? h1) _ (List.mem_of_getElem? h3)
theorem holds_no {n : Nat} {ws : List Wy} {x : Hd} {R : Rw} {p s : Nat} {w : Wy} (hp : p < n) (hs : s < 16) (hw : w ∈ ws) (h : okW R p s w = false) : holds n ws x R = false := by
  rw [Bool.eq_false_iff]
  intro hh
  unfold holds at hh
  rw [Bool.and_eq_true, List.all_eq_true] at hh
  have h1 := hh.2 p (List.mem_range.2 hp)
  rw [List.all_eq_true] at h1
  have h2 := h1 s (List.mem_range.2 hs)
  rw [List.all_eq_true] at h2
  have h3 := h2 w hw
  rw [h] at h3; cases h3
theorem holds_own {n : Nat} {ws : List Wy} {x : Hd} {R : Rw} (h : ¬ atR R x.p x.s ≤ x.d) : holds n ws x R = false := by
  unfold holds
  rw [decide_eq_false h]; rfl
def OkTo (ws : List Wy) (R : Rw) (k : Nat) : Prop := ∀ p s : Nat, p * 16 + s < k → s < 16 → ∀ w ∈ ws, okW R p s w = true
theorem holds_yes {n : Nat} {ws : List Wy} {x : Hd} {R : Rw} (h : atR R x.p x.s ≤ x.d) (ho : OkTo ws R (16 * n)) : holds n ws x R = true := by
  unfold holds
  rw [decide_eq_true h, Bool.true_and, List.all_eq_true]
  intro p hp
  rw [List.all_eq_true]
  intro s hs
  rw [List.all_eq_true]
  intro w hw
  have hp := List.mem_range.1 hp
  have hs := List.mem_range.1 hs
  exact ho p s (by omega) hs w hw
theorem OkTo.zero (ws : List Wy) (R : Rw) : OkTo ws R 0 := fun _ _ h => absurd h (by omega)
theorem OkTo.step {ws : List Wy} {R : Rw} {p s : Nat} (h : OkTo ws R (16 * p + s)) (hs : s < 16) (hw : ∀ w ∈ ws, okW R p s w = true) : OkTo ws R (16 * p + (s + 1)) := by
  intro p' s' h1 h2 w hm
  by_cases e : p' * 16 + s' < 16 * p + s
  · exact h p' s' e h2 w hm
  · have : p' = p := by omega
    have : s' = s := by omega
    subst_vars
    exact hw w hm
theorem Hol.congr {n : Nat} {ws : List Wy} {h : Hd} {D E : Tb} (hw : ∀ w ∈ ws, WOk n w) (hh : HOk n h) (hD : Hol n ws h D) (he : ∀ p s : Int, (0 ≤ p ∧ p < n) → Pp s → E p s = D p s) : Hol n ws h E := by
  refine ⟨by rw [he _ _ hh.p hh.s]; exact hD.own, fun p s hp hs w hm y hy => ?_⟩
  rw [he p s hp hs] at hy
  have := gone_ok (hw w hm) hs hy
  rw [he _ _ this.2.2.1 this.2.2.2.2.2.2]
  exact hD.clo p s hp hs w hm y hy
theorem dayOf_row {R : Rw} {p : Nat} {r : List Int} (h : R[p]? = some r) : dayOf (atR R) p = mn (fun s => r.getD s 1001) 15 := by
  unfold dayOf
  congr 1
  funext s
  exact (atR_row h).symm
theorem chkW_of {n : Nat} {w : Wy} (h : WOk n w) (h2 : w.f ≠ w.t) : chkW n w = 0 := by
  have h3 := h.f; have h4 := h.t; have h5 := h.d; have h6 := h.h; have h7 := h.n; have h8 := h.g; have h9 := h.lo; have h10 := h.hi
  unfold Pp at h7 h8
  have e1 : endW (n : Int) w = true := by
    unfold endW
    simp only [Bool.and_eq_true, inB_iff, Bool.not_eq_true', decide_eq_false_iff_not]
    exact ⟨⟨by omega, by omega⟩, h2⟩
  have e2 : rgtW w = true := by
    unfold rgtW
    simp only [Bool.and_eq_true, inB_iff]
    omega
  unfold chkW
  rw [e1, e2]; rfl
theorem chkL_of {n : Nat} : ∀ {ws : List Wy}, (∀ w ∈ ws, WOk n w ∧ w.f ≠ w.t) → chkL n ws = 0
  | [], _ => rfl
  | w :: ws, h => by
    have h1 := h w List.mem_cons_self
    rw [chkL, chkW_of h1.1 h1.2]
    exact chkL_of fun v hv => h v (List.mem_cons_of_mem _ hv)
theorem NOk.chk {n : Nat} {N : Nt} (h : NOk n N) : chk N = 0 := by
  have hp := h.p
  have h1 := h.n1
  have e : (inB N.p 1 10 && decide (N.ws.length ≤ 24)) = true := by
    rw [Bool.and_eq_true, inB_iff, decide_eq_true_eq]
    exact ⟨by omega, h.len⟩
  unfold Psg.chk
  rw [e, cond_true, hp]
  exact chkL_of fun w hw => ⟨h.ws w hw, h.ne w hw⟩
theorem NOk.hrd {n : Nat} {N : Nt} (h : NOk n N) {x : Hd} (hx : HOk n x) : hrd N x = 0 := by
  have hp := h.p
  have h1 := hx.p; have h2 := hx.d; have h3 := hx.s
  unfold Pp at h3
  unfold Psg.hrd
  rw [decide_eq_true h.chk, cond_true, inB_iff.2 (by omega), cond_true, inB_iff.2 h2, inB_iff.2 (by omega)]; rfl
end Psg

open Go.Vm
open Psg
namespace Go.Proofs.Ytoeendggmalcpaa
set_option maxRecDepth 20000
set_option maxHeartbeats 4000000

def idxI (x : Int) : List Int → Int → Int
  | [], _ => -1
  | a :: r, k => if x = a then k else idxI x r (k + 1)
theorem idxI_at {x a : Int} {l : List Int} {k : Nat} (h : l[k]? = some a) : idxI x (l.drop k) k = if x = a then (k : Int) else idxI x (l.drop (k + 1)) ((k + 1 : Nat) : Int) := by
  obtain ⟨hlt, rfl⟩ := List.getElem?_eq_some_iff.1 h
  rw [List.drop_eq_getElem_cons hlt, idxI]; rfl
theorem idxI_nn (x : Int) : ∀ (l : List Int) (k : Int), 0 ≤ k → (0 ≤ idxI x l k ↔ x ∈ l)
  | [], k, h => by simp [idxI]
  | a :: r, k, h => by
    rw [idxI, List.mem_cons]
    split
    · rename_i e; simp [e, h]
    · rename_i e; rw [idxI_nn x r (k + 1) (by omega)]; simp [e]
theorem vc_IndexI (l : List Int) (x : Int) (h : Hp) (hl : l.length ≤ 4000000) : VC Try.prog 72 [ints l, I x] h (I (idxI x l 0)) h := by
  obtain ⟨E, hE⟩ : ∃ E, E = idxI x l 0 := ⟨_, rfl⟩
  rw [← hE]
  refine VC.body Try.func72 rfl Try.ntmps72 Try.call72 (h.grows_refl) rfl ?_; conv => whnf
  repeat' (first | ((first | refine zs1 ?_ | refine zs2 ?_ | refine zs3 ?_ | refine zs4 ?_ | refine zs5 ?_ | refine zs6 [] ?_); conv => whnf) | ((first | apply zi1 | apply zi2 | apply zi3 | apply zi4 | apply zi5) <;> intro _ <;> conv => whnf))
  refine VCode.lp (fun k : Nat => [(0, ints l), (1, I x), (7, I l.length), (8, I k)]) (fun _ => []) (fun k => k ≤ l.length ∧ E = idxI x (l.drop k) k) (fun k => l.length - k) 0 ⟨Nat.zero_le _, hE⟩ ?_ ?_
  · conv => whnf
    refine Retell.turn ⟨[], 0, [], []⟩ (TurnOk.mk' _ _ [] [] (OutOk.lift _) rfl (by decide) zb trivial trivial rfl) zw zm
  · rintro k ⟨h1, h2⟩
    conv => whnf
    refine VIte.dec (fun h3 => ?_) (fun h3 => ?_)
    · have hk : l[k]? = some l[k] := List.getElem?_eq_getElem (by omega)
      rw [idxI_at hk] at h2
      generalize l[k] = a at hk h2
      conv => whnf
      repeat' (first | ((first | refine zs1 ?_ | refine zs2 ?_ | refine zs3 ?_ | refine zs4 ?_ | refine zs5 ?_ | refine zs6 [] ?_); conv => whnf) | ((first | apply zi1 | apply zi2 | apply zi3 | apply zi4 | apply zi5) <;> intro _ <;> conv => whnf) | (refine VAny.ix encI_len k rfl rfl hk ?_; conv => whnf))
      · rename_i hx
        rw [if_pos hx] at h2
        rw [h2]
        exact VOut.same rfl
      · rename_i hx
        rw [if_neg hx] at h2
        refine LEnd.intro (k + 1) ⟨by omega, h2⟩ (by omega) ?_
        conv => whnf
        refine Retell.turn ⟨[], 0, [], []⟩ (TurnOk.mk' _ _ [] [] (OutOk.lift _) rfl (by decide) zb trivial trivial rfl) zw zm
    · rw [List.drop_of_length_le (by omega), idxI] at h2
      conv => whnf
      repeat' (first | ((first | refine zs1 ?_ | refine zs2 ?_ | refine zs3 ?_ | refine zs4 ?_ | refine zs5 ?_ | refine zs6 [] ?_); conv => whnf) | ((first | apply zi1 | apply zi2 | apply zi3 | apply zi4 | apply zi5) <;> intro _ <;> conv => whnf))
      rw [h2]
      exact VOut.same rfl
theorem vc_ContI (l : List Int) (x : Int) (h : Hp) (hl : l.length ≤ 4000000) : VC Try.prog 27 [ints l, I x] h (B (decide (x ∈ l))) h := by
  have e : decide (x ∈ l) = decide (0 ≤ idxI x l 0) := decide_eq_decide.2 (idxI_nn x l 0 (by omega)).symm
  rw [e]
  have c := fun h => vc_IndexI l x h hl
  generalize idxI x l 0 = E at c
  refine VC.body Try.func27 rfl Try.ntmps27 Try.call27 (h.grows_refl) rfl ?_; conv => whnf
  repeat' (first | ((first | refine zs1 ?_ | refine zs2 ?_ | refine zs3 ?_ | refine zs4 ?_ | refine zs5 ?_ | refine zs6 [] ?_); conv => whnf) | ((first | apply zi1 | apply zi2 | apply zi3 | apply zi4 | apply zi5) <;> intro _ <;> conv => whnf) | (refine VCall.intro (c _) ?_; conv => whnf))
  exact VOut.same rfl
/-! ### Lists that rise -/
def risB : List Int → Bool
  | a :: b :: r => decide (a < b) && risB (b :: r)
  | _ => true
theorem risB_at {a b : Int} {l : List Int} {k : Nat} (ha : l[k]? = some a) (hb : l[k + 1]? = some b) : risB (l.drop k) = (decide (a < b) && risB (l.drop (k + 1))) := by
  obtain ⟨h1, rfl⟩ := List.getElem?_eq_some_iff.1 ha
  obtain ⟨h2, rfl⟩ := List.getElem?_eq_some_iff.1 hb
  rw [List.drop_eq_getElem_cons h1, List.drop_eq_getElem_cons h2, risB]
theorem risB_end {l : List Int} {k : Nat} (h : l.length ≤ k + 1) : risB (l.drop k) = true := by
  have : (l.drop k).length ≤ 1 := by rw [List.length_drop]; omega
  match hd : l.drop k, this with
  | [], _ => rfl
  | [_], _ => rfl
  | _ :: _ :: _, h => simp at h
theorem risB_pw : ∀ {l : List Int}, risB l = true ↔ l.Pairwise (· < ·)
  | [] => by simp [risB]
  | [a] => by simp [risB]
  | a :: b :: r => by
    rw [risB, Bool.and_eq_true, decide_eq_true_eq, risB_pw (l := b :: r), List.pairwise_cons (a := a) (l := b :: r)]
    constructor
    · rintro ⟨h1, h2⟩
      refine ⟨fun x hx => ?_, h2⟩
      rcases List.mem_cons.1 hx with rfl | hx
      · exact h1
      · have := (List.pairwise_cons.1 h2).1 x hx; omega
    · rintro ⟨h1, h2⟩
      exact ⟨h1 b List.mem_cons_self, h2⟩
theorem vc_rises (l : List Int) (h : Hp) (hl : l.length ≤ 4000000) : VC Try.prog 91 [ints l] h (B (risB l)) h := by
  obtain ⟨E, hE⟩ : ∃ E, E = risB l := ⟨_, rfl⟩
  rw [← hE]
  refine VC.body Try.func91 rfl Try.ntmps91 Try.call91 (h.grows_refl) rfl ?_; conv => whnf
  repeat' (first | ((first | refine zs1 ?_ | refine zs2 ?_ | refine zs3 ?_ | refine zs4 ?_ | refine zs5 ?_ | refine zs6 [] ?_); conv => whnf) | ((first | apply zi1 | apply zi2 | apply zi3 | apply zi4 | apply zi5) <;> intro _ <;> conv => whnf))
  refine VCode.lp (fun k : Nat => [(0, ints l), (2, B false), (3, I ((k + 1 : Nat) : Int))]) (fun _ => []) (fun k => E = risB (l.drop k)) (fun k => l.length - k) 0 hE ?_ ?_
  · conv => whnf
    refine Retell.turn ⟨[], 0, [], []⟩ (TurnOk.mk' _ _ [] [] (OutOk.lift _) rfl (by decide) zb trivial trivial rfl) zw zm
  · intro k h1
    rcases Nat.lt_or_ge (k + 1) l.length with h3 | h3
    · have ha : l[k]? = some l[k] := List.getElem?_eq_getElem (by omega)
      have hb : l[k + 1]? = some l[k + 1] := List.getElem?_eq_getElem h3
      rw [risB_at ha hb] at h1
      generalize l[k] = a at ha h1
      generalize l[k + 1] = b at hb h1
      conv => whnf
      repeat' (first | ((first | refine zs1 ?_ | refine zs2 ?_ | refine zs3 ?_ | refine zs4 ?_ | refine zs5 ?_ | refine zs6 [] ?_); conv => whnf) | ((first | apply zi1 | apply zi2 | apply zi3 | apply zi4 | apply zi5) <;> intro _ <;> conv => whnf) | (refine VAny.ix encI_len (k + 1) rfl rfl hb ?_; conv => whnf) | (refine VAny.ix encI_len k (by omega) rfl ha ?_; conv => whnf))
      all_goals try (exfalso; omega)
      · rename_i hh
        rw [decide_eq_false (by omega)] at h1
        rw [h1]
        exact VOut.same rfl
      · rename_i hh
        rw [decide_eq_true (by omega), Bool.true_and] at h1
        refine LEnd.intro (k + 1) h1 (by omega) ?_
        conv => whnf
        refine Retell.turn ⟨[], 0, [], []⟩ (TurnOk.mk' _ _ [] [] (OutOk.lift _) rfl (by decide) zb trivial trivial rfl) zw zm
    · rw [risB_end (by omega)] at h1
      rw [h1]
      conv => whnf
      repeat' (first | ((first | refine zs1 ?_ | refine zs2 ?_ | refine zs3 ?_ | refine zs4 ?_ | refine zs5 ?_ | refine zs6 [] ?_); conv => whnf) | ((first | apply zi1 | apply zi2 | apply zi3 | apply zi4 | apply zi5) <;> intro _ <;> conv => whnf))
      all_goals try (exfalso; omega)
      exact VOut.same rfl
/-! ### Pastures -/
def pstB (N : Nt) (p : Int) : Bool := decide (0 ≤ p ∧ p ≤ N.p - 1)
def pas (N : Nt) (a b : List Int) : Int := if chk N = 0 then (if a.all (pstB N) = true ∧ b.all (pstB N) = true then (if a.length = 0 ∨ b.length = 0 then 3 else if risB a = true ∧ risB b = true then (if (a.all fun p => decide (¬ p ∈ b)) = true then 0 else 6) else 5) else 2) else chk N
theorem vc_past1 (b : List Int) (p : Int) (h : Hp) (hb : b.length ≤ 4000000) : VC Try.prog 121 (D.vs [] ++ [I p] ++ D.vs [.pt [dints b]]) h (B (decide (¬ p ∈ b))) h := by
  have c := fun h => vc_ContI b p h hb
  by_cases hp : p ∈ b
  · rw [decide_eq_true hp] at c
    rw [decide_eq_false (fun h => h hp)]
    refine VC.body Try.func121 rfl Try.ntmps121 Try.call121 (h.grows_refl) rfl ?_; conv => whnf
    repeat' (first | ((first | refine zs1 ?_ | refine zs2 ?_ | refine zs3 ?_ | refine zs4 ?_ | refine zs5 ?_ | refine zs6 [] ?_); conv => whnf) | ((first | apply zi1 | apply zi2 | apply zi3 | apply zi4 | apply zi5) <;> intro _ <;> conv => whnf) | (refine VCall.intro (c _) ?_; conv => whnf))
    exact VOut.same rfl
  · rw [decide_eq_false hp] at c
    rw [decide_eq_true hp]
    refine VC.body Try.func121 rfl Try.ntmps121 Try.call121 (h.grows_refl) rfl ?_; conv => whnf
    repeat' (first | ((first | refine zs1 ?_ | refine zs2 ?_ | refine zs3 ?_ | refine zs4 ?_ | refine zs5 ?_ | refine zs6 [] ?_); conv => whnf) | ((first | apply zi1 | apply zi2 | apply zi3 | apply zi4 | apply zi5) <;> intro _ <;> conv => whnf) | (refine VCall.intro (c _) ?_; conv => whnf))
    exact VOut.same rfl
theorem vc_pastured (N : Nt) (a b : List Int) (h : Hp) (hn : N.ws.length ≤ 4000000) (ha : a.length ≤ 4000000) (hb : b.length ≤ 4000000) : VC Try.prog 66 [vN N, ints a, ints b] h (I (pas N a b)) h := by
  obtain ⟨E, hE⟩ : ∃ E, E = pas N a b := ⟨_, rfl⟩
  rw [← hE]
  unfold pas at hE
  have cC := fun h => vc_check N h hn
  by_cases h0 : chk N = 0
  · obtain ⟨n, hN⟩ := chk_ok h0
    have hp := hN.p
    have hn1 := hN.n1
    rw [h0] at cC
    rw [if_pos h0] at hE
    have cA := fun h => vc_allA a (pstB N) 74 N ha (fun e _ h => vc_posted N e h (by omega)) h
    have cB := fun h => vc_allA b (pstB N) 74 N hb (fun e _ h => vc_posted N e h (by omega)) h
    have cR := fun h => vc_rises a h ha
    have cS := fun h => vc_rises b h hb
    have cP := fun h => vc_allP a (fun p => decide (¬ p ∈ b)) 121 [dints b] ha (fun e _ h => vc_past1 b e h hb) h
    generalize a.all (pstB N) = A at cA hE
    generalize b.all (pstB N) = BB at cB hE
    generalize risB a = R at cR hE
    generalize risB b = S at cS hE
    generalize (a.all fun p => decide (¬ p ∈ b)) = P at cP hE
    refine VC.bodyC 1 Try.func66 rfl Try.ntmps66 Try.call66 (h.grows_refl) rfl ?_; conv => whnf
    refine VCut.at' (outer := h.lift) (marks := []) 99 [(1, ints a), (3, .fp (encN N)), (5, .fp [dints b]), (6, I 0)] [] ?_ ?_
    · conv => whnf
      refine Retell.turn ⟨[], 2, [(0, encN N), (1, [dints b])], []⟩ (TurnOk.mk' _ _ [(0, encN N), (1, [dints b])] [] (OutOk.lift _) rfl (by decide) zb zf trivial rfl) zw zm
    · cases A
      · rw [if_neg (by simp)] at hE
        rw [hE]
        conv => whnf
        repeat' (first | ((first | refine zs1 ?_ | refine zs2 ?_ | refine zs3 ?_ | refine zs4 ?_ | refine zs5 ?_ | refine zs6 [] ?_); conv => whnf) | ((first | apply zi1 | apply zi2 | apply zi3 | apply zi4 | apply zi5) <;> intro _ <;> conv => whnf) | (refine VCall.intro (cC _) ?_; conv => whnf) | (refine VCall.intro (cA _) ?_; conv => whnf))
        exact VOut.same rfl
      · cases BB
        · rw [if_neg (by simp)] at hE
          rw [hE]
          conv => whnf
          repeat' (first | ((first | refine zs1 ?_ | refine zs2 ?_ | refine zs3 ?_ | refine zs4 ?_ | refine zs5 ?_ | refine zs6 [] ?_); conv => whnf) | ((first | apply zi1 | apply zi2 | apply zi3 | apply zi4 | apply zi5) <;> intro _ <;> conv => whnf) | (refine VCall.intro (cC _) ?_; conv => whnf) | (refine VCall.intro (cA _) ?_; conv => whnf) | (refine VCall.intro (cB _) ?_; conv => whnf))
          exact VOut.same rfl
        · rw [if_pos ⟨rfl, rfl⟩] at hE
          by_cases h1 : a.length = 0 ∨ b.length = 0
          · rw [if_pos h1] at hE
            rw [hE]
            conv => whnf
            repeat' (first | ((first | refine zs1 ?_ | refine zs2 ?_ | refine zs3 ?_ | refine zs4 ?_ | refine zs5 ?_ | refine zs6 [] ?_); conv => whnf) | ((first | apply zi1 | apply zi2 | apply zi3 | apply zi4 | apply zi5) <;> intro _ <;> conv => whnf) | (refine VCall.intro (cC _) ?_; conv => whnf) | (refine VCall.intro (cA _) ?_; conv => whnf) | (refine VCall.intro (cB _) ?_; conv => whnf))
            all_goals first | exact VOut.same rfl | (exfalso; omega)
          · rw [if_neg h1] at hE
            cases R
            · rw [if_neg (by simp)] at hE
              rw [hE]
              conv => whnf
              repeat' (first | ((first | refine zs1 ?_ | refine zs2 ?_ | refine zs3 ?_ | refine zs4 ?_ | refine zs5 ?_ | refine zs6 [] ?_); conv => whnf) | ((first | apply zi1 | apply zi2 | apply zi3 | apply zi4 | apply zi5) <;> intro _ <;> conv => whnf) | (refine VCall.intro (cC _) ?_; conv => whnf) | (refine VCall.intro (cA _) ?_; conv => whnf) | (refine VCall.intro (cB _) ?_; conv => whnf) | (refine VCall.intro (cR _) ?_; conv => whnf))
              all_goals first | exact VOut.same rfl | (exfalso; omega)
            · cases S
              · rw [if_neg (by simp)] at hE
                rw [hE]
                conv => whnf
                repeat' (first | ((first | refine zs1 ?_ | refine zs2 ?_ | refine zs3 ?_ | refine zs4 ?_ | refine zs5 ?_ | refine zs6 [] ?_); conv => whnf) | ((first | apply zi1 | apply zi2 | apply zi3 | apply zi4 | apply zi5) <;> intro _ <;> conv => whnf) | (refine VCall.intro (cC _) ?_; conv => whnf) | (refine VCall.intro (cA _) ?_; conv => whnf) | (refine VCall.intro (cB _) ?_; conv => whnf) | (refine VCall.intro (cR _) ?_; conv => whnf) | (refine VCall.intro (cS _) ?_; conv => whnf))
                all_goals first | exact VOut.same rfl | (exfalso; omega)
              · rw [if_pos ⟨rfl, rfl⟩] at hE
                cases P
                · rw [if_neg (by decide)] at hE
                  rw [hE]
                  conv => whnf
                  repeat' (first | ((first | refine zs1 ?_ | refine zs2 ?_ | refine zs3 ?_ | refine zs4 ?_ | refine zs5 ?_ | refine zs6 [] ?_); conv => whnf) | ((first | apply zi1 | apply zi2 | apply zi3 | apply zi4 | apply zi5) <;> intro _ <;> conv => whnf) | (refine VCall.intro (cC _) ?_; conv => whnf) | (refine VCall.intro (cA _) ?_; conv => whnf) | (refine VCall.intro (cB _) ?_; conv => whnf) | (refine VCall.intro (cR _) ?_; conv => whnf) | (refine VCall.intro (cS _) ?_; conv => whnf) | (refine VCall.intro (cP _) ?_; conv => whnf))
                  all_goals first | exact VOut.same rfl | (exfalso; omega)
                · rw [if_pos rfl] at hE
                  rw [hE]
                  conv => whnf
                  repeat' (first | ((first | refine zs1 ?_ | refine zs2 ?_ | refine zs3 ?_ | refine zs4 ?_ | refine zs5 ?_ | refine zs6 [] ?_); conv => whnf) | ((first | apply zi1 | apply zi2 | apply zi3 | apply zi4 | apply zi5) <;> intro _ <;> conv => whnf) | (refine VCall.intro (cC _) ?_; conv => whnf) | (refine VCall.intro (cA _) ?_; conv => whnf) | (refine VCall.intro (cB _) ?_; conv => whnf) | (refine VCall.intro (cR _) ?_; conv => whnf) | (refine VCall.intro (cS _) ?_; conv => whnf) | (refine VCall.intro (cP _) ?_; conv => whnf))
                  all_goals first | exact VOut.same rfl | (exfalso; omega)
  · rw [if_neg h0] at hE
    rw [← hE] at cC h0
    refine VC.body Try.func66 rfl Try.ntmps66 Try.call66 (h.grows_refl) rfl ?_; conv => whnf
    repeat' (first | ((first | refine zs1 ?_ | refine zs2 ?_ | refine zs3 ?_ | refine zs4 ?_ | refine zs5 ?_ | refine zs6 [] ?_); conv => whnf) | ((first | apply zi1 | apply zi2 | apply zi3 | apply zi4 | apply zi5) <;> intro _ <;> conv => whnf) | (refine VCall.intro (cC _) ?_; conv => whnf))
    · exact VOut.same rfl
    all_goals (rename_i hh; exact absurd (by omega) h0)
end Go.Proofs.Ytoeendggmalcpaa

open Go.Vm
open Psg
namespace Go.Proofs.Ytoeendggmalcpaa
set_option maxRecDepth 20000
set_option maxHeartbeats 4000000

/-! ### A way along, and back -/
def fE (fw : Bool) : FuncId := bif fw then 159 else 161
def fR (fw : Bool) : FuncId := bif fw then 160 else 162
def sgD (fw : Bool) : Int := bif fw then 1 else -1
def dirD (fw : Bool) : List D := [.func (.func (fE fw)) [] [], .func (.func (fR fw)) [] [], DI (sgD fw)]
def dirsV : V := .agg [.func (.func 159) [] [], .func (.func 160) [] [], I 1, .func (.func 161) [] [], .func (.func 162) [] [], I (-1)]
theorem vc_dirs (h : Hp) : VC Try.prog 145 [] h dirsV h := by
  refine VC.body Try.func145 rfl Try.ntmps145 Try.call145 (h.grows_refl) rfl ?_; conv => whnf
  repeat' (first | ((first | refine zs1 ?_ | refine zs2 ?_ | refine zs3 ?_ | refine zs4 ?_ | refine zs5 ?_ | refine zs6 [] ?_); conv => whnf) | ((first | apply zi1 | apply zi2 | apply zi3 | apply zi4 | apply zi5) <;> intro _ <;> conv => whnf))
  exact VOut.same rfl
theorem vc_ends (fw : Bool) (w : Wy) (i : Nat) (h : Hp) : VC Try.prog (fE fw) [vWy w] h (.tuple [I (Eg.mk w i fw).a, I (Eg.mk w i fw).b]) h := by
  cases fw
  · show VC Try.prog 161 _ _ (.tuple [I w.t, I w.f]) _
    refine VC.body Try.func161 rfl Try.ntmps161 Try.call161 (h.grows_refl) rfl ?_; conv => whnf
    repeat' (first | ((first | refine zs1 ?_ | refine zs2 ?_ | refine zs3 ?_ | refine zs4 ?_ | refine zs5 ?_ | refine zs6 [] ?_); conv => whnf) | ((first | apply zi1 | apply zi2 | apply zi3 | apply zi4 | apply zi5) <;> intro _ <;> conv => whnf))
    exact VOut.same rfl
  · show VC Try.prog 159 _ _ (.tuple [I w.f, I w.t]) _
    refine VC.body Try.func159 rfl Try.ntmps159 Try.call159 (h.grows_refl) rfl ?_; conv => whnf
    repeat' (first | ((first | refine zs1 ?_ | refine zs2 ?_ | refine zs3 ?_ | refine zs4 ?_ | refine zs5 ?_ | refine zs6 [] ?_); conv => whnf) | ((first | apply zi1 | apply zi2 | apply zi3 | apply zi4 | apply zi5) <;> intro _ <;> conv => whnf))
    exact VOut.same rfl
theorem vc_room (fw : Bool) (w : Wy) (i : Nat) (x : Int) (h : Hp) (hw : 0 ≤ w.h ∧ w.h ≤ 1000) (hx : 0 ≤ x ∧ x ≤ 1000) : VC Try.prog (fR fw) [vWy w, I x] h (I ((Eg.mk w i fw).room x)) h := by
  cases fw
  · show VC Try.prog 162 _ _ (I x) _
    refine VC.body Try.func162 rfl Try.ntmps162 Try.call162 (h.grows_refl) rfl ?_; conv => whnf
    repeat' (first | ((first | refine zs1 ?_ | refine zs2 ?_ | refine zs3 ?_ | refine zs4 ?_ | refine zs5 ?_ | refine zs6 [] ?_); conv => whnf) | ((first | apply zi1 | apply zi2 | apply zi3 | apply zi4 | apply zi5) <;> intro _ <;> conv => whnf))
    exact VOut.same rfl
  · show VC Try.prog 160 _ _ (I (w.h - x)) _
    refine VC.body Try.func160 rfl Try.ntmps160 Try.call160 (h.grows_refl) rfl ?_; conv => whnf
    repeat' (first | ((first | refine zs1 ?_ | refine zs2 ?_ | refine zs3 ?_ | refine zs4 ?_ | refine zs5 ?_ | refine zs6 [] ?_); conv => whnf) | ((first | apply zi1 | apply zi2 | apply zi3 | apply zi4 | apply zi5) <;> intro _ <;> conv => whnf))
    exact VOut.same rfl
/-! ### Whether a number is in a list that can be written -/
theorem vc_IndexG (l : List Int) (x : Int) (i : Vm.Id) (h : Hp) (hb : h.get i = some (.flat true (l.flatMap encI))) (hl : l.length ≤ 4000000) : VC Try.prog 72 [.gl i 1 l.length, I x] h (I (idxI x l 0)) h := by
  obtain ⟨E, hE⟩ : ∃ E, E = idxI x l 0 := ⟨_, rfl⟩
  rw [← hE]
  have hg : ∀ loc, (⟨h.lift, loc⟩ : Hp).get (.out i) = some (.flat true (l.flatMap encI)) := fun loc => get_out hb loc
  refine VC.body Try.func72 rfl Try.ntmps72 Try.call72 (h.grows_refl) rfl ?_; conv => whnf
  repeat' (first | ((first | refine zs1 ?_ | refine zs2 ?_ | refine zs3 ?_ | refine zs4 ?_ | refine zs5 ?_ | refine zs6 [] ?_); conv => whnf) | ((first | apply zi1 | apply zi2 | apply zi3 | apply zi4 | apply zi5) <;> intro _ <;> conv => whnf))
  refine VCode.lp (outer := h.lift) (marks := []) (fun k : Nat => [(0, .gl (.out i) 1 l.length), (1, I x), (7, I l.length), (8, I k)]) (fun _ => []) (fun k => k ≤ l.length ∧ E = idxI x (l.drop k) k) (fun k => l.length - k) 0 ⟨Nat.zero_le _, hE⟩ ?_ ?_
  · conv => whnf
    refine Retell.turn ⟨[], 0, [], []⟩ (TurnOk.mk' _ _ [] [] (OutOk.lift _) rfl (by decide) zb trivial trivial rfl) zw zm
  · rintro k ⟨h1, h2⟩
    conv => whnf
    refine VIte.dec (fun h3 => ?_) (fun h3 => ?_)
    · have hk : l[k]? = some l[k] := List.getElem?_eq_getElem (by omega)
      rw [idxI_at hk] at h2
      generalize l[k] = a at hk h2
      conv => whnf
      repeat' (first | ((first | refine zs1 ?_ | refine zs2 ?_ | refine zs3 ?_ | refine zs4 ?_ | refine zs5 ?_ | refine zs6 [] ?_); conv => whnf) | ((first | apply zi1 | apply zi2 | apply zi3 | apply zi4 | apply zi5) <;> intro _ <;> conv => whnf) | (refine VLd.recc encI_len k 0 rfl rfl (hg _) hk (by decide) rfl (by show (k : Int).toNat * 1 = k * 1 + 0; omega) ?_; conv => whnf))
      · rename_i hx
        rw [if_pos hx] at h2
        rw [h2]
        exact VOut.same rfl
      · rename_i hx
        rw [if_neg hx] at h2
        refine LEnd.intro (k + 1) ⟨by omega, h2⟩ (by omega) ?_
        conv => whnf
        refine Retell.turn ⟨[], 0, [], []⟩ (TurnOk.mk' _ _ [] [] (OutOk.lift _) rfl (by decide) zb trivial trivial rfl) zw zm
    · rw [List.drop_of_length_le (by omega), idxI] at h2
      conv => whnf
      repeat' (first | ((first | refine zs1 ?_ | refine zs2 ?_ | refine zs3 ?_ | refine zs4 ?_ | refine zs5 ?_ | refine zs6 [] ?_); conv => whnf) | ((first | apply zi1 | apply zi2 | apply zi3 | apply zi4 | apply zi5) <;> intro _ <;> conv => whnf))
      rw [h2]
      exact VOut.same rfl
theorem vc_ContG (l : List Int) (x : Int) (i : Vm.Id) (h : Hp) (hb : h.get i = some (.flat true (l.flatMap encI))) (hl : l.length ≤ 4000000) : VC Try.prog 27 [.gl i 1 l.length, I x] h (B (decide (x ∈ l))) h := by
  have e : decide (x ∈ l) = decide (0 ≤ idxI x l 0) := decide_eq_decide.2 (idxI_nn x l 0 (by omega)).symm
  rw [e]
  have c := fun loc => vc_IndexG l x (.out i) ⟨h.lift, loc⟩ (get_out hb loc) hl
  generalize idxI x l 0 = E at c
  refine VC.body Try.func27 rfl Try.ntmps27 Try.call27 (h.grows_refl) rfl ?_; conv => whnf
  repeat' (first | ((first | refine zs1 ?_ | refine zs2 ?_ | refine zs3 ?_ | refine zs4 ?_ | refine zs5 ?_ | refine zs6 [] ?_); conv => whnf) | ((first | apply zi1 | apply zi2 | apply zi3 | apply zi4 | apply zi5) <;> intro _ <;> conv => whnf) | (refine VCall.intro (c _) ?_; conv => whnf))
  exact VOut.same rfl
/-! ### What is pushed on -/
def vPush (gls : List Int) (c m p : Vm.Id) : V := .func (.func 144) [] [.fp [dints gls], .ptr c 0, .ptr m 0, .ptr p 0]
structure PM (N : Nt) (gls hs met : List Int) (c s hI mC mL pC : Vm.Id) (g : Hp) : Prop where
  c0 : g.get c = some (.cells true [.ptr s 0])
  s0 : g.get s = some (.cells true [I N.p, wys N.ws, .gl hI 1 hs.length])
  h0 : g.get hI = some (.flat true (hs.flatMap encI))
  m0 : g.get mC = some (.cells true [.gl mL 1 met.length])
  l0 : g.get mL = some (.flat true (met.flatMap encI))
  p0 : g.get pC = some (.cells true [vPush gls c mC pC])
structure Dj (c s hI mC mL pC : Vm.Id) : Prop where
  hm : hI ≠ mC
  hl : hI ≠ mL
  ml : mC ≠ mL
  ch : c ≠ hI
  cm : c ≠ mC
  cl : c ≠ mL
  sh : s ≠ hI
  sm : s ≠ mC
  sl : s ≠ mL
  ph : pC ≠ hI
  pm : pC ≠ mC
  pl : pC ≠ mL
def upP (h : Hp) (hI mC mL : Vm.Id) (r : R3) : List (Vm.Id × Blk) := [(mL, .dead), (mC, .cells true [.gl h.fresh 1 r.2.2.length]), (hI, .flat true (r.2.1.flatMap encI))]
def effP (h : Hp) (hI mC mL : Vm.Id) (met : List Int) (r : R3) : Hp := if r.2.2 = met then h else (h.sets (upP h hI mC mL r)).pushes [.flat true (r.2.2.flatMap encI)]
theorem pushL_same {n : Nat} {gls : List Int} {ws : List Wy} {rec : Int → Int → List Int → List Int → R3} {k : Nat} (hn : InN n ws) (hr : Psg.Good n gls ws rec k) {p most : Int} {hs met : List Int} (hp : p ∈ met) (hm : 1 ≤ most) (hb : Bnd ws hs) (hk : n + 1 ≤ met.length + (k + 1)) (hmt : Mt n met) :
    ∀ (es : List Eg), (∀ e ∈ es, e ∈ egs ws 0) → (pushL rec p most es hs met).2.2 = met → (pushL rec p most es hs met).1 = 0 ∧ (pushL rec p most es hs met).2.1 = hs
  | [], _, _ => ⟨rfl, rfl⟩
  | e :: es, hes, heq => by
    have he := hes e List.mem_cons_self
    rw [pushL] at heq ⊢
    split
    · rename_i hc
      exfalso
      rw [if_pos hc] at heq
      have hend := eg_ends hn he
      have hmt2 := hmt.snoc hc.2.1 hend.2
      have hR := hr e.b (min most (e.room (hs.getD e.i 0))) hs (met ++ [e.b]) (by simp) hmt2 (by omega) hb (by rw [List.length_append]; simp; omega)
      generalize rec e.b (min most (e.room (hs.getD e.i 0))) hs (met ++ [e.b]) = r at hR heq
      have hlen : met.length + 1 ≤ r.2.2.length := by
        have := hR.src.length_le
        rw [List.length_append] at this
        simpa using this
      split at heq
      · dsimp only at heq
        rw [heq] at hlen; omega
      · rename_i hz
        have hz0 : r.1 = 0 := by have := hR.low; omega
        have hz1 := hR.zero hz0
        rw [hz1.1] at heq
        have key : ∀ (es : List Eg) (M : List Int), (∀ e ∈ es, e ∈ egs ws 0) → Mt n M → n + 1 ≤ M.length + (k + 1) → M <+: (pushL rec p most es hs M).2.2 := by
          intro es
          induction es with
          | nil => intro M _ _ _; exact List.prefix_refl _
          | cons f es ih =>
            intro M hes hM hMk
            rw [pushL]
            split
            · rename_i hc
              have hend := eg_ends hn (hes f List.mem_cons_self)
              have hM2 := hM.snoc hc.2.1 hend.2
              have hR := hr f.b (min most (f.room (hs.getD f.i 0))) hs (M ++ [f.b]) (by simp) hM2 (by omega) hb (by rw [List.length_append]; simp; omega)
              generalize rec f.b (min most (f.room (hs.getD f.i 0))) hs (M ++ [f.b]) = q at hR
              have hpre : M <+: q.2.2 := (List.prefix_append _ _).trans hR.src
              split
              · exact hpre
              · rename_i hz
                have hz1 := hR.zero (by have := hR.low; omega)
                rw [hz1.1]
                exact hpre.trans (ih q.2.2 (fun e he => hes e (List.mem_cons_of_mem _ he)) hR.mt (by have := hpre.length_le; omega))
            · exact ih M (fun e he => hes e (List.mem_cons_of_mem _ he)) hM hMk
        have := (key es r.2.2 (fun e he => hes e (List.mem_cons_of_mem _ he)) hR.mt (by omega)).length_le
        rw [heq] at this
        omega
    · rename_i hc
      rw [if_neg hc] at heq
      exact pushL_same hn hr hp hm hb hk hmt es (fun e he => hes e (List.mem_cons_of_mem _ he)) heq
theorem push_same {n : Nat} {gls : List Int} {ws : List Wy} (hn : InN n ws) {p most : Int} {hs met : List Int} (hp : p ∈ met) (hm : 1 ≤ most) (hb : Bnd ws hs) (hmt : Mt n met) : ∀ k, n + 1 ≤ met.length + k → (push gls ws k p most hs met).2.2 = met → (push gls ws k p most hs met).2.1 = hs
  | 0, _, _ => rfl
  | k + 1, hk, h => by
    rw [push] at h ⊢
    split
    · rfl
    · rename_i hc
      rw [if_neg hc] at h
      exact (pushL_same hn (push_ok hn k) hp hm hb (by omega) hmt (egs ws 0) (fun _ h => h) h).2
theorem outNe {a b : Vm.Id} (h : a ≠ b) : Vm.Id.out a ≠ Vm.Id.out b := fun e => h (by injection e)
theorem outLoc {a : Vm.Id} {k : Nat} : Vm.Id.out a ≠ Vm.Id.loc k := fun e => by cases e
theorem Dj.inner {c s hI mC mL pC : Vm.Id} (h : Dj c s hI mC mL pC) : Dj (.out c) (.out s) (.out hI) (.out mC) (.loc 0) (.out pC) :=
  ⟨outNe h.hm, outLoc, outLoc, outNe h.ch, outNe h.cm, outLoc, outNe h.sh, outNe h.sm, outLoc, outNe h.ph, outNe h.pm, outLoc⟩
theorem turnB {h : Hp} {mL mC : Vm.Id} {j n : Nat} {c : TCtx} (hρ : Vm.Id.loc j = c.ρ (.loc 0)) : ∀ (i : Vm.Id) (b' : Blk), (outW (outW h.lift mL .dead) mC (.cells true [.gl (.loc 0) 1 n])) i = some b' →
    ((∃ b0 : Blk, b' = b0.ren .out) ∧ (outW (outW h.lift mL .dead) mC (.cells true [.gl (.loc j) 1 n])) i = some b') ∨ ∃ b, (outW (outW h.lift mL .dead) mC (.cells true [.gl (.loc j) 1 n])) i = some b ∧ BTo c (some b) b' := by
  intro i b' hb
  unfold outW at hb ⊢
  by_cases h1 : i = mC
  · rw [if_pos h1] at hb
    injection hb with hb; subst hb
    refine .inr ⟨.cells true [.gl (.loc j) 1 n], by rw [if_pos h1], ?_⟩
    exact ⟨_, _, rfl, rfl, RowTo.vtos (VTos.cons (VTo.gl hρ) VTos.nil)⟩
  · rw [if_neg h1] at hb
    refine .inl ⟨?_, by rw [if_neg h1]; exact hb⟩
    by_cases h2 : i = mL
    · rw [if_pos h2] at hb
      injection hb with hb; subst hb
      exact ⟨.dead, rfl⟩
    · rw [if_neg h2] at hb
      unfold Hp.lift at hb
      rw [Option.map_eq_some_iff] at hb
      obtain ⟨b0, _, h3⟩ := hb
      exact ⟨b0, h3.symm⟩
theorem turnBn {h : Hp} {mL mC : Vm.Id} {j n : Nat} : ∀ i, (outW (outW h.lift mL .dead) mC (.cells true [.gl (.loc 0) 1 n])) i = none → (outW (outW h.lift mL .dead) mC (.cells true [.gl (.loc j) 1 n])) i = none := by
  intro i hb
  unfold outW at hb ⊢
  by_cases h1 : i = mC
  · rw [if_pos h1] at hb; cases hb
  · rw [if_neg h1] at hb ⊢; exact hb
theorem turnBH {h : Hp} {mL mC hI : Vm.Id} {j n m : Nat} {c : TCtx} {l : List Int} (h1 : hI ≠ mC) (h2 : hI ≠ mL) (h3 : h.get hI = some (.flat true (l.flatMap encI))) (hρ : Vm.Id.loc j = c.ρ (.loc 0)) : ∀ (i : Vm.Id) (b' : Blk), (outW (outW h.lift mL .dead) mC (.cells true [.gl (.loc 0) 1 n])) i = some b' →
    ((∃ b0 : Blk, b' = b0.ren .out) ∧ (outW (outW (outW (outW h.lift mL .dead) mC (.cells true [.gl (.loc 0) 1 m])) mC (.cells true [.gl (.loc j) 1 n])) hI (.flat true (l.flatMap encI))) i = some b') ∨ ∃ b, (outW (outW (outW (outW h.lift mL .dead) mC (.cells true [.gl (.loc 0) 1 m])) mC (.cells true [.gl (.loc j) 1 n])) hI (.flat true (l.flatMap encI))) i = some b ∧ BTo c (some b) b' := by
  have e : outW (outW (outW (outW h.lift mL .dead) mC (.cells true [.gl (.loc 0) 1 m])) mC (.cells true [.gl (.loc j) 1 n])) hI (.flat true (l.flatMap encI)) = outW (outW h.lift mL .dead) mC (.cells true [.gl (.loc j) 1 n]) := by
    rw [outW_same]
    refine (outW_id ?_).symm
    have h4 : h.lift hI = some (.flat true (l.flatMap encI)) := get_out h3 []
    unfold outW
    rw [if_neg h1, if_neg h2, h4]
  rw [e]
  exact turnB hρ
theorem turnBHn {h : Hp} {mL mC hI : Vm.Id} {j n m : Nat} {l : List Int} (h3 : h.get hI = some (.flat true (l.flatMap encI))) : ∀ i, (outW (outW h.lift mL .dead) mC (.cells true [.gl (.loc 0) 1 n])) i = none → (outW (outW (outW (outW h.lift mL .dead) mC (.cells true [.gl (.loc 0) 1 m])) mC (.cells true [.gl (.loc j) 1 n])) hI (.flat true (l.flatMap encI))) i = none := by
  intro i hb
  unfold outW at hb ⊢
  by_cases g1 : i = mC
  · rw [if_pos g1] at hb; cases hb
  · rw [if_neg g1] at hb
    by_cases g2 : i = hI
    · exfalso
      subst g2
      have h4 : h.lift i = some (.flat true (l.flatMap encI)) := get_out h3 []
      split at hb
      · cases hb
      · rw [h4] at hb; cases hb
    · rw [if_neg g2, if_neg g1, if_neg g1]; exact hb
theorem turnBO {h : Hp} {mL mC : Vm.Id} {j n m : Nat} {c : TCtx} {O : Vm.Id → Option Blk} (hO : outW (outW h.lift mL .dead) mC (.cells true [.gl (.loc 0) 1 m]) = O) (hρ : Vm.Id.loc j = c.ρ (.loc 0)) : ∀ (i : Vm.Id) (b' : Blk), (outW (outW h.lift mL .dead) mC (.cells true [.gl (.loc 0) 1 n])) i = some b' →
    ((∃ b0 : Blk, b' = b0.ren .out) ∧ (outW O mC (.cells true [.gl (.loc j) 1 n])) i = some b') ∨ ∃ b, (outW O mC (.cells true [.gl (.loc j) 1 n])) i = some b ∧ BTo c (some b) b' := by
  subst hO
  rw [outW_same]
  exact turnB hρ
theorem turnBOn {h : Hp} {mL mC : Vm.Id} {j n m : Nat} {O : Vm.Id → Option Blk} (hO : outW (outW h.lift mL .dead) mC (.cells true [.gl (.loc 0) 1 m]) = O) : ∀ i, (outW (outW h.lift mL .dead) mC (.cells true [.gl (.loc 0) 1 n])) i = none → (outW O mC (.cells true [.gl (.loc j) 1 n])) i = none := by
  subst hO
  rw [outW_same]
  exact turnBn
def oB (h : Hp) (mL mC : Vm.Id) (n : Nat) : Vm.Id → Option Blk := outW (outW h.lift mL .dead) mC (.cells true [.gl (.loc 0) 1 n])
end Go.Proofs.Ytoeendggmalcpaa

open Go.Vm
open Psg
namespace Go.Proofs.Ytoeendggmalcpaa
set_option maxRecDepth 20000
set_option maxHeartbeats 4000000

structure Hold2 (R : Prop) : Prop where
  out : R
theorem suffices2_ {R G : Prop} (main : Hold2 R → G) (rest : R) : G := main ⟨rest⟩
def remE (w : Wy) (i : Nat) (es : List Eg) : Nat → List Eg
  | 0 => ⟨w, i, true⟩ :: ⟨w, i, false⟩ :: es
  | 1 => ⟨w, i, false⟩ :: es
  | _ => es
theorem egs_drop {ws : List Wy} {i : Nat} {w : Wy} (h : ws[i]? = some w) : egs (ws.drop i) i = remE w i (egs (ws.drop (i + 1)) (i + 1)) 0 := by
  obtain ⟨hlt, rfl⟩ := List.getElem?_eq_some_iff.1 h
  rw [List.drop_eq_getElem_cons hlt, egs]; rfl
structure PO (N : Nt) (gls hs : List Int) (c s hI mC pC mid : Vm.Id) (m : Nat) (O : Vm.Id → Option Blk) : Prop where
  c1 : ∀ loc, (⟨O, loc⟩ : Hp).get (.out c) = some (.cells true [.ptr (.out s) 0])
  s1 : ∀ loc, (⟨O, loc⟩ : Hp).get (.out s) = some (.cells true [I N.p, wys N.ws, .gl (.out hI) 1 hs.length])
  h1 : ∀ loc, (⟨O, loc⟩ : Hp).get (.out hI) = some (.flat true (hs.flatMap encI))
  m1 : ∀ loc, (⟨O, loc⟩ : Hp).get (.out mC) = some (.cells true [.gl mid 1 m])
  p1 : ∀ loc, (⟨O, loc⟩ : Hp).get (.out pC) = some (.cells true [vPush gls (.out c) (.out mC) (.out pC)])
theorem poA {N : Nt} {gls hs met : List Int} {c s hI mC mL pC : Vm.Id} {h : Hp} (h7 : PM N gls hs met c s hI mC mL pC h) : PO N gls hs c s hI mC pC (.out mL) met.length h.lift :=
  ⟨fun loc => get_out h7.c0 loc, fun loc => get_out h7.s0 loc, fun loc => get_out h7.h0 loc, fun loc => get_out h7.m0 loc, fun loc => get_out h7.p0 loc⟩
theorem poB {N : Nt} {gls hs met : List Int} {c s hI mC mL pC : Vm.Id} {h : Hp} (h7 : PM N gls hs met c s hI mC mL pC h) (h8 : Dj c s hI mC mL pC) (m : Nat) : PO N gls hs c s hI mC pC (.loc 0) m (oB h mL mC m) :=
  ⟨fun loc => get_outNe h8.cm (get_outNe h8.cl (get_out h7.c0 loc)), fun loc => get_outNe h8.sm (get_outNe h8.sl (get_out h7.s0 loc)), fun loc => get_outNe h8.hm (get_outNe h8.hl (get_out h7.h0 loc)),
    fun loc => outW_get _ _ _ _, fun loc => get_outNe h8.pm (get_outNe h8.pl (get_out h7.p0 loc))⟩
def oM (h : Hp) (mL mC : Vm.Id) (met met' : List Int) : Vm.Id → Option Blk := if met' = met then h.lift else oB h mL mC met'.length
def lM (met met' : List Int) : List Blk := if met' = met then [] else [.flat true (met'.flatMap encI)]
theorem vout_push {h : Hp} {hI mC mL : Vm.Id} {met : List Int} {R : R3} (j L : Nat) {loc : List Blk} {outer : Vm.Id → Option Blk} (hne : ¬ R.2.2 = met) (h1 : h.get mL ≠ none) (h2 : h.get mC ≠ none) (h3 : h.get hI ≠ none) (hloc : loc[j]? = some (.flat true (R.2.2.flatMap encI))) (hL : Nat.ble loc.length L = true)
    (ho : outer = setsO h.lift [(mL, .dead), (mC, .cells true [.gl (.loc j) 1 R.2.2.length]), (hI, .flat true (R.2.1.flatMap encI))]) : VOut h ⟨outer, loc⟩ (I R.1) (I R.1) (effP h hI mC mL met R) := by
  rw [effP, if_neg hne]
  refine VOut.upd (h := h) (r1 := I R.1) (r := I R.1) (upP h hI mC mL R) [.flat true (R.2.2.flatMap encI)] [j] L hL ?_ (by simp) rfl ?_ (fun σ x hx => hx) ?_
  · intro p hp
    simp only [upP, List.mem_cons, List.not_mem_nil, or_false] at hp
    rcases hp with rfl | rfl | rfl
    · exact h1
    · exact h2
    · exact h3
  · intro k b hk
    cases k with
    | zero => rw [List.getElem?_cons_zero, Option.some.injEq] at hk; subst hk; exact ⟨j, rfl, hloc⟩
    | succ k => simp at hk
  · have e1 : (Blk.cells true [V.gl h.fresh 1 R.2.2.length]).ren (backR h.loc.length [j] L) = .cells true [.gl (.loc j) 1 R.2.2.length] := by simp [Blk.ren, V.ren, backR, Hp.fresh]
    rw [ho]
    simp only [upP, List.map_cons, List.map_nil, e1]
    rfl
theorem vc_push {n : Nat} {gls : List Int} {N : Nt} (hN : NOk n N) (hg : gls.length ≤ 4000000) : ∀ (k : Nat) (p most : Int) (hs met : List Int) (c s hI mC mL pC : Vm.Id) (h : Hp), p ∈ met → Mt n met → 1 ≤ most → most ≤ 24000 → Bnd N.ws hs → n + 1 ≤ met.length + k →
    PM N gls hs met c s hI mC mL pC h → Dj c s hI mC mL pC → VC Try.prog 144 [I p, I most, .fp [dints gls], .ptr c 0, .ptr mC 0, .ptr pC 0] h (I (push gls N.ws k p most hs met).1) (effP h hI mC mL met (push gls N.ws k p most hs met))
  | 0, p, most, hs, met, c, s, hI, mC, mL, pC, h, h1, h2, h3, h4, h5, h6, h7, h8 => absurd h2.len (by omega)
  | k + 1, p, most, hs, met, c, s, hI, mC, mL, pC, h, h1, h2, h3, h4, h5, h6, h7, h8 => by
    have hInN := hN.inN
    have hn1 := hN.n1
    have hwl := hN.len
    have IH := fun p most hs met c s hI mC mL pC h => vc_push hN hg k p most hs met c s hI mC mL pC h
    have hG := push_ok (gls := gls) hInN k
    have hml := h2.len
    have hhl := h5.len
    obtain ⟨R, hR⟩ : ∃ R, R = push gls N.ws (k + 1) p most hs met := ⟨_, rfl⟩
    rw [← hR]
    have hgrow : h.grows (effP h hI mC mL met R) := by
      unfold effP
      split
      · exact h.grows_refl
      · refine Hp.grows_sets fun e he => ?_
        simp only [upP, List.mem_cons, List.not_mem_nil, or_false] at he
        rcases he with rfl | rfl | rfl <;> simp only
        · rw [h7.l0]; simp
        · rw [h7.m0]; simp
        · rw [h7.h0]; simp
    have cP := fun h => vc_ContI gls p h hg
    rw [push] at hR
    by_cases hpg : p ∈ gls
    · rw [if_pos hpg] at hR
      subst hR
      rw [decide_eq_true hpg] at cP
      have e : effP h hI mC mL met (most, hs, met) = h := by unfold effP; rw [if_pos rfl]
      rw [e] at hgrow ⊢
      refine VC.body Try.func144 rfl Try.ntmps144 Try.call144 hgrow rfl ?_
      conv => whnf
      repeat' (first | ((first | refine zs1 ?_ | refine zs2 ?_ | refine zs3 ?_ | refine zs4 ?_ | refine zs5 ?_); conv => whnf) | ((first | apply zi1 | apply zi2 | apply zi3 | apply zi4 | apply zi5) <;> intro _ <;> conv => whnf) | (refine VCall.intro (cP _) ?_; conv => whnf))
      exact VOut.same rfl
    · rw [if_neg hpg] at hR
      rw [decide_eq_false hpg] at cP
      have hsame := pushL_same hInN hG h1 h3 h5 (by omega) h2 (egs N.ws 0) (fun e he => he)
      have hPR := pushL_ok hInN hG h1 hpg h3 h5 (by omega) (egs N.ws 0) met (fun e he => he) (List.prefix_refl _) h2 (fun e he hne => absurd he hne) (fun q hq hq0 => absurd hq hq0)
      rw [← hR] at hsame hPR
      refine VC.body Try.func144 rfl Try.ntmps144 Try.call144 hgrow rfl ?_
      conv => whnf
      repeat' (first | ((first | refine zs1 ?_ | refine zs2 ?_ | refine zs3 ?_ | refine zs4 ?_ | refine zs5 ?_); conv => whnf) | ((first | apply zi1 | apply zi2 | apply zi3 | apply zi4 | apply zi5) <;> intro _ <;> conv => whnf) | (refine VCall.intro (cP _) ?_; conv => whnf) | (refine VLd.cell rfl rfl (get_out h7.c0 _) rfl ?_; conv => whnf) | (refine VLd.cell rfl rfl (get_out h7.s0 _) rfl ?_; conv => whnf))
      refine VCode.lpoC (marks := []) 99 (fun y : Nat × List Int => [(0, I p), (1, I most), (2, .fp [dints gls]), (3, .ptr (.out c) 0), (4, .ptr (.out mC) 0), (5, .ptr (.out pC) 0), (9, I 0), (24, wys N.ws), (25, I N.ws.length), (26, I y.1)]) (fun y => oM h mL mC met y.2) (fun y => lM met y.2) (fun y => y.1 ≤ N.ws.length ∧ met <+: y.2 ∧ Mt n y.2 ∧ R = pushL (push gls N.ws k) p most (egs (N.ws.drop y.1) y.1) hs y.2) (fun y => N.ws.length - y.1) (0, met) ⟨Nat.zero_le _, List.prefix_refl _, h2, hR⟩ ?_ ?_
      · rw [show oM h mL mC met met = h.lift from if_pos rfl, show lM met met = [] from if_pos rfl]
        conv => whnf
        refine Retell.turn ⟨[], 0, [], []⟩ (TurnOk.mk' _ _ [] [] (OutOk.lift _) rfl (by decide) zb trivial trivial rfl) zw zm
      · rintro ⟨i, met'⟩ ⟨a1, a2, a3, a4⟩
        dsimp only at a1 a2 a3 a4 ⊢
        rcases Nat.lt_or_ge i N.ws.length with hi | hi
        · have hw : N.ws[i]? = some N.ws[i] := List.getElem?_eq_getElem hi
          have hwo := hN.ws N.ws[i] (List.getElem_mem hi)
          rw [egs_drop hw] at a4
          generalize N.ws[i] = w at hw hwo a4
          apply suffices2_
          · intro hrest
            by_cases hm : met' = met
            · rw [show oM h mL mC met met' = h.lift from if_pos hm, show lM met met' = [] from if_pos hm]
              conv => whnf
              repeat' (first | ((first | refine zs1 ?_ | refine zs2 ?_ | refine zs3 ?_ | refine zs4 ?_ | refine zs5 ?_); conv => whnf) | ((first | apply zi1 | apply zi2 | apply zi3 | apply zi4 | apply zi5) <;> intro _ <;> conv => whnf) | (refine VAny.ix encWy_len i rfl rfl hw ?_; conv => whnf) | (refine VCall.intro (vc_dirs _) ?_; conv => whnf))
              all_goals try (exfalso; omega)
              refine VCode.lpoC (marks := []) 2 (fun y : Nat × List Int => [(0, I p), (1, I most), (2, .fp [dints gls]), (3, .ptr (.out c) 0), (4, .ptr (.out mC) 0), (5, .ptr (.out pC) 0), (9, I 0), (24, wys N.ws), (25, I N.ws.length), (10, I i), (11, .fp (encWy w)), (26, I i), (31, dirsV), (32, I y.1)]) (fun y => oM h mL mC met y.2) (fun y => lM met y.2) (fun y => y.1 ≤ 2 ∧ met <+: y.2 ∧ Mt n y.2 ∧ R = pushL (push gls N.ws k) p most (remE w i (egs (N.ws.drop (i + 1)) (i + 1)) y.1) hs y.2) (fun y => 2 - y.1) (0, met') ⟨Nat.zero_le _, a2, a3, a4⟩ ?_ hrest.out
              dsimp only
              rw [show oM h mL mC met met' = h.lift from if_pos hm, show lM met met' = [] from if_pos hm]
              conv => whnf
              refine Retell.turn ⟨[], 1, [(0, encWy w)], []⟩ (TurnOk.mk' _ _ [(0, encWy w)] [] (OutOk.lift _) rfl (by decide) zb zf trivial rfl) zw zm
            · rw [show oM h mL mC met met' = oB h mL mC met'.length from if_neg hm, show lM met met' = [.flat true (met'.flatMap encI)] from if_neg hm]
              conv => whnf
              repeat' (first | ((first | refine zs1 ?_ | refine zs2 ?_ | refine zs3 ?_ | refine zs4 ?_ | refine zs5 ?_); conv => whnf) | ((first | apply zi1 | apply zi2 | apply zi3 | apply zi4 | apply zi5) <;> intro _ <;> conv => whnf) | (refine VAny.ix encWy_len i rfl rfl hw ?_; conv => whnf) | (refine VCall.intro (vc_dirs _) ?_; conv => whnf))
              all_goals try (exfalso; omega)
              refine VCode.lpoC (marks := []) 2 (fun y : Nat × List Int => [(0, I p), (1, I most), (2, .fp [dints gls]), (3, .ptr (.out c) 0), (4, .ptr (.out mC) 0), (5, .ptr (.out pC) 0), (9, I 0), (24, wys N.ws), (25, I N.ws.length), (10, I i), (11, .fp (encWy w)), (26, I i), (31, dirsV), (32, I y.1)]) (fun y => oM h mL mC met y.2) (fun y => lM met y.2) (fun y => y.1 ≤ 2 ∧ met <+: y.2 ∧ Mt n y.2 ∧ R = pushL (push gls N.ws k) p most (remE w i (egs (N.ws.drop (i + 1)) (i + 1)) y.1) hs y.2) (fun y => 2 - y.1) (0, met') ⟨Nat.zero_le _, a2, a3, a4⟩ ?_ hrest.out
              dsimp only
              rw [show oM h mL mC met met' = oB h mL mC met'.length from if_neg hm, show lM met met' = [.flat true (met'.flatMap encI)] from if_neg hm]
              conv => whnf
              refine Retell.turnO ⟨[0], 2, [(1, encWy w)], []⟩ (TurnO.mk' _ _ [(1, encWy w)] (turnB (j := 0) rfl) turnBn rfl (by decide) (BTos.flat rfl rfl rfl BTos.nil) zf rfl) zw zm
          · clear a4 a3 a2
            rintro ⟨d, met2⟩ ⟨b1, b2, b3, b4⟩
            dsimp only at b1 b2 b3 b4 ⊢
            generalize hes0 : egs (N.ws.drop (i + 1)) (i + 1) = es at b4 ⊢
            have hxl : i < hs.length := by omega
            have hx : hs[i]? = some (hs.getD i 0) := by rw [List.getD_eq_getElem?_getD, List.getElem?_eq_getElem hxl]; rfl
            have hxb := h5.at hw hx
            have hwh := hwo.h
            generalize hs.getD i 0 = x0 at hx hxb
            rcases Nat.lt_or_ge d 2 with hd | hd
            · obtain ⟨fw, hfw, hrem⟩ : ∃ fw : Bool, ((d = 0 ∧ fw = true) ∨ (d = 1 ∧ fw = false)) ∧ remE w i es d = ⟨w, i, fw⟩ :: remE w i es (d + 1) := by
                rcases (show d = 0 ∨ d = 1 by omega) with rfl | rfl
                · exact ⟨true, .inl ⟨rfl, rfl⟩, rfl⟩
                · exact ⟨false, .inr ⟨rfl, rfl⟩, rfl⟩
              rw [hrem, pushL] at b4
              have cE := fun h => vc_ends fw w i h
              have cR := fun h => vc_room fw w i x0 h hwh (by omega)
              have hei : (Eg.mk w i fw).i = i := rfl
              have hesg : (Eg.mk w i fw).sg = sgD fw := rfl
              rw [hei, hesg] at b4
              have hxg : hs.getD i 0 = x0 := by rw [List.getD_eq_getElem?_getD, hx]; rfl
              rw [hxg] at b4
              have heb : 0 ≤ (Eg.mk w i fw).b ∧ (Eg.mk w i fw).b < n := by
                have h1 := hwo.f; have h2 := hwo.t
                cases fw
                · exact h1
                · exact h2
              have hrm : (Eg.mk w i fw).room x0 ≤ 1000 := by
                cases fw
                · show x0 ≤ 1000; omega
                · show w.h - x0 ≤ 1000; omega
              generalize (Eg.mk w i fw).a = ea at b4 cE
              generalize (Eg.mk w i fw).b = eb at b4 cE heb
              generalize (Eg.mk w i fw).room x0 = rm at b4 cR hrm
              by_cases htake : ea = p ∧ eb ∉ met2 ∧ 1 ≤ rm
              · rw [if_pos htake] at b4
                have hlen2 := b3.len
                obtain ⟨fv, hfv⟩ : ∃ fv, fv = fw := ⟨_, rfl⟩
                obtain ⟨dv, hdv⟩ : ∃ dv, dv = d := ⟨_, rfl⟩
                obtain ⟨d1, hd1⟩ : ∃ d1, d1 = d + 1 := ⟨_, rfl⟩
                rcases hfw with ⟨rfl, rfl⟩ | ⟨rfl, rfl⟩
                all_goals (
                  apply suffices2_
                  · intro hrest
                    by_cases hm : met2 = met
                    · have po := poA h7
                      have hmL : ∀ loc, (⟨h.lift, loc⟩ : Hp).get (.out mL) = some (.flat true (met2.flatMap encI)) := fun loc => by rw [hm]; exact get_out h7.l0 loc
                      have cC := fun loc => vc_ContG met2 eb (.out mL) ⟨h.lift, loc⟩ (hmL loc) (by omega)
                      rw [← hm] at po
                      rw [show oM h mL mC met met2 = h.lift from if_pos hm, show lM met met2 = [] from if_pos hm]
                      · conv => whnf
                        repeat' (first | ((first | refine zs1 ?_ | refine zs2 ?_ | refine zs3 ?_ | refine zs4 ?_ | refine zs5 ?_); conv => whnf) | ((first | apply zi1 | apply zi2 | apply zi3 | apply zi4 | apply zi5) <;> intro _ <;> conv => whnf))
                        all_goals try (exfalso; omega)
                        refine VCut.block 4 ?_
                        conv => whnf
                        repeat' (first | ((first | refine zs1 ?_ | refine zs2 ?_ | refine zs3 ?_ | refine zs4 ?_ | refine zs5 ?_); conv => whnf) | ((first | apply zi1 | apply zi2 | apply zi3 | apply zi4 | apply zi5) <;> intro _ <;> conv => whnf) | (refine VCall.intro (cE _) ?_; conv => whnf))
                        refine zs6 [] ?_
                        conv => whnf
                        repeat' (first | ((first | refine zs1 ?_ | refine zs2 ?_ | refine zs3 ?_ | refine zs4 ?_ | refine zs5 ?_); conv => whnf) | ((first | apply zi1 | apply zi2 | apply zi3 | apply zi4 | apply zi5) <;> intro _ <;> conv => whnf) | (refine VCall.intro (cC _) ?_; conv => whnf) | (refine VCall.intro (cR _) ?_; conv => whnf) | (refine VLd.cell rfl rfl (po.c1 _) rfl ?_; conv => whnf) | (refine VLd.cell rfl rfl (po.s1 _) rfl ?_; conv => whnf) | (refine VLd.cell rfl rfl (po.m1 _) rfl ?_; conv => whnf) | (refine VLd.cell rfl rfl (po.p1 _) rfl ?_; conv => whnf) | (refine VLd.recc encI_len i 0 rfl rfl (po.h1 _) hx (by decide) rfl (by show (i : Int).toNat * 1 = i * 1 + 0; omega) ?_; conv => whnf))
                        all_goals first
                          | (rename_i hh; exact absurd htake.1 hh)
                          | (rename_i hh; exact absurd hh htake.2.1)
                          | (exfalso; omega)
                          | skip
                        refine VMem.app1 (l := met2) (eb : Int) encI_len rfl (hmL _) rfl rfl rfl (by omega) ?_
                        conv => whnf
                        repeat' (first | ((first | refine zs1 ?_ | refine zs2 ?_ | refine zs3 ?_ | refine zs4 ?_ | refine zs5 ?_); conv => whnf) | ((first | apply zi1 | apply zi2 | apply zi3 | apply zi4 | apply zi5) <;> intro _ <;> conv => whnf))
                        refine VMem.st1 rfl rfl rfl (b := .cells true [.gl (.out mL) 1 met2.length]) (get_outNe h8.ml (po.m1 _)) rfl ?_
                        conv => whnf
                        refine VCut.atR (marks' := []) 99 [(0, I p), (1, I most), (2, .fp [dints gls]), (3, .ptr (.out c) 0), (4, .ptr (.out mC) 0), (5, .ptr (.out pC) 0), (9, I 0), (24, wys N.ws), (25, I N.ws.length), (10, I i), (11, .fp (encWy w)), (13, .fp (dirD fv)), (14, I ea), (15, I eb), (26, I i), (31, dirsV), (32, I dv)] (outer := oB h mL mC (met2 ++ [eb]).length) [.flat true ((met2 ++ [eb]).flatMap encI)] ?_ hrest.out
                        rw [hdv]
                        rw [List.length_append]
                        conv => whnf
                        refine Retell.turnO ⟨[2], 3, [(0, dirD fv)], []⟩ (TurnO.mk' _ _ [(0, dirD fv)] (turnB (j := 2) rfl) (turnBn) rfl (by decide) (BTos.flat rfl rfl rfl BTos.nil) (by rw [hfv]; exact FzAll.flat rfl FzAll.nil) rfl) zw zm
                    · have po := poB h7 h8 met2.length
                      rw [show oM h mL mC met met2 = oB h mL mC met2.length from if_neg hm, show lM met met2 = [.flat true (met2.flatMap encI)] from if_neg hm]
                      have cC := fun (h : Hp) (hb : h.get (.loc 0) = some (.flat true (met2.flatMap encI))) => vc_ContG met2 eb (.loc 0) h hb (by omega)
                      generalize hO : oB h mL mC met2.length = O at po
                      · conv => whnf
                        repeat' (first | ((first | refine zs1 ?_ | refine zs2 ?_ | refine zs3 ?_ | refine zs4 ?_ | refine zs5 ?_); conv => whnf) | ((first | apply zi1 | apply zi2 | apply zi3 | apply zi4 | apply zi5) <;> intro _ <;> conv => whnf))
                        all_goals try (exfalso; omega)
                        refine VCut.block 4 ?_
                        conv => whnf
                        repeat' (first | ((first | refine zs1 ?_ | refine zs2 ?_ | refine zs3 ?_ | refine zs4 ?_ | refine zs5 ?_); conv => whnf) | ((first | apply zi1 | apply zi2 | apply zi3 | apply zi4 | apply zi5) <;> intro _ <;> conv => whnf) | (refine VCall.intro (cE _) ?_; conv => whnf))
                        refine zs6 [] ?_
                        conv => whnf
                        repeat' (first | ((first | refine zs1 ?_ | refine zs2 ?_ | refine zs3 ?_ | refine zs4 ?_ | refine zs5 ?_); conv => whnf) | ((first | apply zi1 | apply zi2 | apply zi3 | apply zi4 | apply zi5) <;> intro _ <;> conv => whnf) | (refine VCall.intro (cC _ rfl) ?_; conv => whnf) | (refine VCall.intro (cR _) ?_; conv => whnf) | (refine VLd.cell rfl rfl (po.c1 _) rfl ?_; conv => whnf) | (refine VLd.cell rfl rfl (po.s1 _) rfl ?_; conv => whnf) | (refine VLd.cell rfl rfl (po.m1 _) rfl ?_; conv => whnf) | (refine VLd.cell rfl rfl (po.p1 _) rfl ?_; conv => whnf) | (refine VLd.recc encI_len i 0 rfl rfl (po.h1 _) hx (by decide) rfl (by show (i : Int).toNat * 1 = i * 1 + 0; omega) ?_; conv => whnf))
                        all_goals first
                          | (rename_i hh; exact absurd htake.1 hh)
                          | (rename_i hh; exact absurd hh htake.2.1)
                          | (exfalso; omega)
                          | skip
                        refine VMem.app1 (l := met2) (eb : Int) encI_len rfl rfl rfl rfl rfl (by omega) ?_
                        conv => whnf
                        repeat' (first | ((first | refine zs1 ?_ | refine zs2 ?_ | refine zs3 ?_ | refine zs4 ?_ | refine zs5 ?_); conv => whnf) | ((first | apply zi1 | apply zi2 | apply zi3 | apply zi4 | apply zi5) <;> intro _ <;> conv => whnf))
                        refine VMem.st1 rfl rfl rfl (b := .cells true [.gl (.loc 0) 1 met2.length]) (po.m1 _) rfl ?_
                        conv => whnf
                        refine VCut.atR (marks' := []) 99 [(0, I p), (1, I most), (2, .fp [dints gls]), (3, .ptr (.out c) 0), (4, .ptr (.out mC) 0), (5, .ptr (.out pC) 0), (9, I 0), (24, wys N.ws), (25, I N.ws.length), (10, I i), (11, .fp (encWy w)), (13, .fp (dirD fv)), (14, I ea), (15, I eb), (26, I i), (31, dirsV), (32, I dv)] (outer := oB h mL mC (met2 ++ [eb]).length) [.flat true ((met2 ++ [eb]).flatMap encI)] ?_ hrest.out
                        rw [hdv]
                        rw [List.length_append]
                        conv => whnf
                        refine Retell.turnO ⟨[3], 4, [(1, dirD fv)], []⟩ (TurnO.mk' _ _ [(1, dirD fv)] (turnBO (j := 3) hO rfl) (turnBOn hO) rfl (by decide) (BTos.flat rfl rfl rfl BTos.nil) (by rw [hfv]; exact FzAll.flat rfl FzAll.nil) rfl) zw zm
                  · subst hfv hdv
                    clear cE cP
                    have hM : Mt n (met2 ++ [eb]) := b3.snoc htake.2.1 heb
                    have hMl : (met2 ++ [eb]).length = met2.length + 1 := by simp
                    have hpl := b2.length_le
                    have hMm : ¬ met2 ++ [eb] = met := fun e => by rw [e] at hMl; omega
                    have hpre : met <+: met2 ++ [eb] := b2.trans (List.prefix_append _ _)
                    have po := poB h7 h8 (met2 ++ [eb]).length
                    have cI := IH eb (min most rm) hs (met2 ++ [eb]) (.out c) (.out s) (.out hI) (.out mC) (.loc 0) (.out pC) ⟨oB h mL mC (met2 ++ [eb]).length, [.flat true ((met2 ++ [eb]).flatMap encI)]⟩ (by simp) hM (by omega) (by omega) h5 (by omega) ⟨po.c1 _, po.s1 _, po.h1 _, po.m1 _, rfl, po.p1 _⟩ h8.inner
                    have hQ := hG eb (min most rm) hs (met2 ++ [eb]) (by simp) hM (by omega) h5 (by omega)
                    have hQs := push_same hInN (gls := gls) (p := eb) (most := min most rm) (hs := hs) (met := met2 ++ [eb]) (by simp) (by omega) h5 hM k (by omega)
                    generalize push gls N.ws k eb (min most rm) hs (met2 ++ [eb]) = r at b4 cI hQ hQs
                    generalize met2 ++ [eb] = M at *
                    have hsl := hQ.src.length_le
                    have hQl := hQ.low
                    have hQh := hQ.high
                    have hMl2 := hQ.mt.len
                    generalize hO : oB h mL mC M.length = O at po cI ⊢
                    conv => whnf
                    by_cases hrM : r.2.2 = M
                    · rw [show effP _ _ _ _ M r = _ from if_pos hrM] at cI
                      refine zs6 [(0, 13)] ?_
                      conv => whnf
                      repeat' (first | ((first | refine zs1 ?_ | refine zs2 ?_ | refine zs3 ?_ | refine zs4 ?_ | refine zs5 ?_); conv => whnf) | ((first | apply zi1 | apply zi2 | apply zi3 | apply zi4 | apply zi5) <;> intro _ <;> conv => whnf) | (refine VCall.intro (cR _) ?_; conv => whnf) | (refine VCall.intro (cI) ?_; conv => whnf) | (refine VLd.cell rfl rfl (po.c1 _) rfl ?_; conv => whnf) | (refine VLd.cell rfl rfl (po.s1 _) rfl ?_; conv => whnf) | (refine VLd.cell rfl rfl (po.p1 _) rfl ?_; conv => whnf) | (refine VLd.recc encI_len i 0 rfl rfl (po.h1 _) hx (by decide) rfl (by show (i : Int).toNat * 1 = i * 1 + 0; omega) ?_; conv => whnf))
                      · rename_i hgot
                        rw [if_pos hgot, hQs hrM, hrM, hxg] at b4
                        first
                          | (obtain ⟨g, hgs, hg1⟩ : ∃ g, sgD true * r.1 = g ∧ -1000 ≤ g ∧ g ≤ 1000 := ⟨_, rfl, by simp only [sgD, cond_true, cond_false]; omega⟩
                             rw [hgs] at b4)
                          | (obtain ⟨g, hgs, hg1⟩ : ∃ g, sgD false * r.1 = g ∧ -1000 ≤ g ∧ g ≤ 1000 := ⟨_, rfl, by simp only [sgD, cond_true, cond_false]; omega⟩
                             rw [hgs] at b4)
                        refine zs6 [] ?_
                        conv => whnf
                        repeat' (first | ((first | refine zs1 ?_ | refine zs2 ?_ | refine zs3 ?_ | refine zs4 ?_ | refine zs5 ?_); conv => whnf) | ((first | apply zi1 | apply zi2 | apply zi3 | apply zi4 | apply zi5) <;> intro _ <;> conv => whnf) | (refine VLd.cell rfl rfl (po.c1 _) rfl ?_; conv => whnf) | (refine VLd.cell rfl rfl (po.s1 _) rfl ?_; conv => whnf) | (refine VLd.recc encI_len i 0 rfl rfl (po.h1 _) hx (by decide) rfl (by show (i : Int).toNat * 1 = i * 1 + 0; omega) ?_; conv => whnf) | (rw [hgs]; conv => whnf) | (refine VMem.setRec encI_len i 0 (x0 + g) rfl rfl (po.h1 _) hx (by decide) rfl (by show (i : Int).toNat * 1 = i * 1 + 0; omega) ?_; conv => whnf))
                        rw [b4]
                        refine vout_push (R := (r.1, hs.set i (x0 + g), M)) 0 1 hMm (by rw [h7.l0]; simp) (by rw [h7.m0]; simp) (by rw [h7.h0]; simp) rfl rfl ?_
                        rw [← hO]; rfl
                      · have hz : r.1 = 0 := by omega
                        rw [if_neg (by omega), (hQ.zero hz).1, hrM, ← hd1] at b4
                        subst hO
                        rw [hz]
                        refine LEndO.introR (d1, M) ⟨by omega, hpre, hM, b4⟩ (by omega) ?_
                        dsimp only
                        rw [show oM h mL mC met M = oB h mL mC M.length from if_neg hMm, show lM met M = [.flat true (M.flatMap encI)] from if_neg hMm]
                        conv => whnf
                        refine Retell.turnO ⟨[0], 1, [], []⟩ (TurnO.mk' _ _ [] (turnB (j := 0) rfl) turnBn rfl (by decide) (BTos.flat rfl rfl rfl BTos.nil) zf rfl) zw zm
                    · have hrm2 : ¬ r.2.2 = met := fun e => by rw [e] at hsl; omega
                      rw [show effP ⟨O, [.flat true (M.flatMap encI)]⟩ (.out hI) (.out mC) (.loc 0) M r = ⟨outW (outW O mC (.cells true [.gl (.loc 1) 1 r.2.2.length])) hI (.flat true (r.2.1.flatMap encI)), [.dead, .flat true (r.2.2.flatMap encI)]⟩ from if_neg hrM] at cI
                      refine zs6 [(0, 13)] ?_
                      conv => whnf
                      repeat' (first | ((first | refine zs1 ?_ | refine zs2 ?_ | refine zs3 ?_ | refine zs4 ?_ | refine zs5 ?_); conv => whnf) | ((first | apply zi1 | apply zi2 | apply zi3 | apply zi4 | apply zi5) <;> intro _ <;> conv => whnf) | (refine VCall.intro (cR _) ?_; conv => whnf) | (refine VCall.intro (cI) ?_; conv => whnf) | (refine VLd.cell rfl rfl (po.c1 _) rfl ?_; conv => whnf) | (refine VLd.cell rfl rfl (po.s1 _) rfl ?_; conv => whnf) | (refine VLd.cell rfl rfl (po.p1 _) rfl ?_; conv => whnf) | (refine VLd.recc encI_len i 0 rfl rfl (po.h1 _) hx (by decide) rfl (by show (i : Int).toNat * 1 = i * 1 + 0; omega) ?_; conv => whnf))
                      · rename_i hgot
                        have hB2 := (hQ.pos hgot).1
                        have hx2l : i < r.2.1.length := by have := hB2.len; omega
                        have hx2 : r.2.1[i]? = some (r.2.1.getD i 0) := by rw [List.getD_eq_getElem?_getD, List.getElem?_eq_getElem hx2l]; rfl
                        have hxb2 := hB2.at hw hx2
                        rw [if_pos hgot] at b4
                        generalize r.2.1.getD i 0 = x2 at b4 hx2 hxb2
                        first
                          | (obtain ⟨g, hgs, hg1⟩ : ∃ g, sgD true * r.1 = g ∧ -1000 ≤ g ∧ g ≤ 1000 := ⟨_, rfl, by simp only [sgD, cond_true, cond_false]; omega⟩
                             rw [hgs] at b4)
                          | (obtain ⟨g, hgs, hg1⟩ : ∃ g, sgD false * r.1 = g ∧ -1000 ≤ g ∧ g ≤ 1000 := ⟨_, rfl, by simp only [sgD, cond_true, cond_false]; omega⟩
                             rw [hgs] at b4)
                        refine zs6 [] ?_
                        conv => whnf
                        repeat' (first | ((first | refine zs1 ?_ | refine zs2 ?_ | refine zs3 ?_ | refine zs4 ?_ | refine zs5 ?_); conv => whnf) | ((first | apply zi1 | apply zi2 | apply zi3 | apply zi4 | apply zi5) <;> intro _ <;> conv => whnf) | (refine VLd.cell rfl rfl (get_outNe h8.ch (get_outNe h8.cm (po.c1 _))) rfl ?_; conv => whnf) | (refine VLd.cell rfl rfl (get_outNe h8.sh (get_outNe h8.sm (po.s1 _))) rfl ?_; conv => whnf) | (refine VLd.recc encI_len i 0 rfl rfl (outW_get _ _ _ _) hx2 (by decide) rfl (by show (i : Int).toNat * 1 = i * 1 + 0; omega) ?_; conv => whnf) | (rw [hgs]; conv => whnf) | (refine VMem.setRec encI_len i 0 (x2 + g) rfl rfl (outW_get _ _ _ _) hx2 (by decide) rfl (by show (i : Int).toNat * 1 = i * 1 + 0; omega) ?_; conv => whnf))
                        rw [b4]
                        refine vout_push (R := (r.1, r.2.1.set i (x2 + g), r.2.2)) 1 2 hrm2 (by rw [h7.l0]; simp) (by rw [h7.m0]; simp) (by rw [h7.h0]; simp) rfl rfl ?_
                        rw [← hO]
                        funext x
                        unfold oB outW
                        simp only [setsO]
                        repeat' split <;> simp_all
                      · have hz : r.1 = 0 := by omega
                        rw [if_neg (by omega), (hQ.zero hz).1, ← hd1] at b4
                        subst hO
                        rw [hz, (hQ.zero hz).1]
                        refine LEndO.introR (d1, r.2.2) ⟨by omega, hpre.trans hQ.src, hQ.mt, b4⟩ (by omega) ?_
                        dsimp only
                        rw [show oM h mL mC met r.2.2 = oB h mL mC r.2.2.length from if_neg hrm2, show lM met r.2.2 = [.flat true (r.2.2.flatMap encI)] from if_neg hrm2]
                        conv => whnf
                        refine Retell.turnO ⟨[1], 2, [], []⟩ (TurnO.mk' _ _ [] (turnBH (j := 1) h8.hm h8.hl h7.h0 rfl) (turnBHn h7.h0) rfl (by decide) (BTos.flat rfl rfl rfl BTos.nil) zf rfl) zw zm)
              · rw [if_neg htake] at b4
                obtain ⟨d1, hd1⟩ : ∃ d1, d1 = d + 1 := ⟨_, rfl⟩
                rw [← hd1] at b4
                have hlen2 := b3.len
                rcases hfw with ⟨rfl, rfl⟩ | ⟨rfl, rfl⟩
                all_goals (
                    by_cases hm : met2 = met
                    · have po := poA h7
                      have hmL : ∀ loc, (⟨h.lift, loc⟩ : Hp).get (.out mL) = some (.flat true (met2.flatMap encI)) := fun loc => by rw [hm]; exact get_out h7.l0 loc
                      have cC := fun loc => vc_ContG met2 eb (.out mL) ⟨h.lift, loc⟩ (hmL loc) (by omega)
                      rw [← hm] at po
                      rw [show oM h mL mC met met2 = h.lift from if_pos hm, show lM met met2 = [] from if_pos hm]
                      conv => whnf
                      repeat' (first | ((first | refine zs1 ?_ | refine zs2 ?_ | refine zs3 ?_ | refine zs4 ?_ | refine zs5 ?_); conv => whnf) | ((first | apply zi1 | apply zi2 | apply zi3 | apply zi4 | apply zi5) <;> intro _ <;> conv => whnf))
                      all_goals try (exfalso; omega)
                      refine VCut.block 4 ?_
                      conv => whnf
                      repeat' (first | ((first | refine zs1 ?_ | refine zs2 ?_ | refine zs3 ?_ | refine zs4 ?_ | refine zs5 ?_); conv => whnf) | ((first | apply zi1 | apply zi2 | apply zi3 | apply zi4 | apply zi5) <;> intro _ <;> conv => whnf) | (refine VCall.intro (cE _) ?_; conv => whnf))
                      refine zs6 [] ?_
                      conv => whnf
                      repeat' (first | ((first | refine zs1 ?_ | refine zs2 ?_ | refine zs3 ?_ | refine zs4 ?_ | refine zs5 ?_); conv => whnf) | ((first | apply zi1 | apply zi2 | apply zi3 | apply zi4 | apply zi5) <;> intro _ <;> conv => whnf) | (refine VCall.intro (cC _) ?_; conv => whnf) | (refine VCall.intro (cR _) ?_; conv => whnf) | (refine VLd.cell rfl rfl (po.c1 _) rfl ?_; conv => whnf) | (refine VLd.cell rfl rfl (po.s1 _) rfl ?_; conv => whnf) | (refine VLd.cell rfl rfl (po.m1 _) rfl ?_; conv => whnf) | (refine VLd.cell rfl rfl (po.p1 _) rfl ?_; conv => whnf) | (refine VLd.recc encI_len i 0 rfl rfl (po.h1 _) hx (by decide) rfl (by show (i : Int).toNat * 1 = i * 1 + 0; omega) ?_; conv => whnf))
                      all_goals first
                        | (exfalso; refine htake ⟨?_, ?_, ?_⟩ <;> first | assumption | omega | (simp_all; done))
                        | (refine LEndO.introR (d1, met2) ⟨by omega, b2, b3, b4⟩ (by omega) ?_
                           dsimp only
                           rw [show oM h mL mC met met2 = h.lift from if_pos hm, show lM met met2 = [] from if_pos hm]
                           conv => whnf
                           refine Retell.turn ⟨[], 1, [], []⟩ (TurnOk.mk' _ _ [] [] (OutOk.lift _) rfl (by decide) zb trivial trivial rfl) zw zm)
                    · have po := poB h7 h8 met2.length
                      rw [show oM h mL mC met met2 = oB h mL mC met2.length from if_neg hm, show lM met met2 = [.flat true (met2.flatMap encI)] from if_neg hm]
                      have cC := fun (h : Hp) (hb : h.get (.loc 0) = some (.flat true (met2.flatMap encI))) => vc_ContG met2 eb (.loc 0) h hb (by omega)
                      generalize hO : oB h mL mC met2.length = O at po ⊢
                      conv => whnf
                      repeat' (first | ((first | refine zs1 ?_ | refine zs2 ?_ | refine zs3 ?_ | refine zs4 ?_ | refine zs5 ?_); conv => whnf) | ((first | apply zi1 | apply zi2 | apply zi3 | apply zi4 | apply zi5) <;> intro _ <;> conv => whnf))
                      all_goals try (exfalso; omega)
                      refine VCut.block 4 ?_
                      conv => whnf
                      repeat' (first | ((first | refine zs1 ?_ | refine zs2 ?_ | refine zs3 ?_ | refine zs4 ?_ | refine zs5 ?_); conv => whnf) | ((first | apply zi1 | apply zi2 | apply zi3 | apply zi4 | apply zi5) <;> intro _ <;> conv => whnf) | (refine VCall.intro (cE _) ?_; conv => whnf))
                      refine zs6 [] ?_
                      conv => whnf
                      repeat' (first | ((first | refine zs1 ?_ | refine zs2 ?_ | refine zs3 ?_ | refine zs4 ?_ | refine zs5 ?_); conv => whnf) | ((first | apply zi1 | apply zi2 | apply zi3 | apply zi4 | apply zi5) <;> intro _ <;> conv => whnf) | (refine VCall.intro (cC _ rfl) ?_; conv => whnf) | (refine VCall.intro (cR _) ?_; conv => whnf) | (refine VLd.cell rfl rfl (po.c1 _) rfl ?_; conv => whnf) | (refine VLd.cell rfl rfl (po.s1 _) rfl ?_; conv => whnf) | (refine VLd.cell rfl rfl (po.m1 _) rfl ?_; conv => whnf) | (refine VLd.cell rfl rfl (po.p1 _) rfl ?_; conv => whnf) | (refine VLd.recc encI_len i 0 rfl rfl (po.h1 _) hx (by decide) rfl (by show (i : Int).toNat * 1 = i * 1 + 0; omega) ?_; conv => whnf))
                      all_goals first
                        | (exfalso; refine htake ⟨?_, ?_, ?_⟩ <;> first | assumption | omega | (simp_all; done))
                        | (refine LEndO.introR (d1, met2) ⟨by omega, b2, b3, b4⟩ (by omega) ?_
                           subst hO
                           dsimp only
                           rw [show oM h mL mC met met2 = oB h mL mC met2.length from if_neg hm, show lM met met2 = [.flat true (met2.flatMap encI)] from if_neg hm]
                           conv => whnf
                           refine Retell.turnO ⟨[0], 2, [], []⟩ (TurnO.mk' _ _ [] (turnB (j := 0) rfl) turnBn rfl (by decide) (BTos.flat rfl rfl rfl BTos.nil) zf rfl) zw zm)
                )
            · have hd2 : d = 2 := by omega
              subst hd2
              rw [show remE w i es 2 = es from rfl] at b4
              by_cases hm : met2 = met
              · rw [show oM h mL mC met met2 = h.lift from if_pos hm, show lM met met2 = [] from if_pos hm]
                conv => whnf
                repeat' (first | ((first | refine zs1 ?_ | refine zs2 ?_ | refine zs3 ?_ | refine zs4 ?_ | refine zs5 ?_); conv => whnf) | ((first | apply zi1 | apply zi2 | apply zi3 | apply zi4 | apply zi5) <;> intro _ <;> conv => whnf))
                all_goals try (exfalso; omega)
                refine LEndO.introR (i + 1, met2) ⟨by omega, b2, b3, by rw [hes0]; exact b4⟩ (by omega) ?_
                dsimp only
                rw [show oM h mL mC met met2 = h.lift from if_pos hm, show lM met met2 = [] from if_pos hm]
                conv => whnf
                refine Retell.turn ⟨[], 0, [], []⟩ (TurnOk.mk' _ _ [] [] (OutOk.lift _) rfl (by decide) zb trivial trivial rfl) zw zm
              · rw [show oM h mL mC met met2 = oB h mL mC met2.length from if_neg hm, show lM met met2 = [.flat true (met2.flatMap encI)] from if_neg hm]
                conv => whnf
                repeat' (first | ((first | refine zs1 ?_ | refine zs2 ?_ | refine zs3 ?_ | refine zs4 ?_ | refine zs5 ?_); conv => whnf) | ((first | apply zi1 | apply zi2 | apply zi3 | apply zi4 | apply zi5) <;> intro _ <;> conv => whnf))
                all_goals try (exfalso; omega)
                refine LEndO.introR (i + 1, met2) ⟨by omega, b2, b3, by rw [hes0]; exact b4⟩ (by omega) ?_
                dsimp only
                rw [show oM h mL mC met met2 = oB h mL mC met2.length from if_neg hm, show lM met met2 = [.flat true (met2.flatMap encI)] from if_neg hm]
                conv => whnf
                refine Retell.turnO ⟨[0], 1, [], []⟩ (TurnO.mk' _ _ [] (turnB (j := 0) rfl) turnBn rfl (by decide) (BTos.flat rfl rfl rfl BTos.nil) zf rfl) zw zm
        · have hil : i = N.ws.length := by omega
          rw [List.drop_of_length_le (by omega), egs, pushL] at a4
          by_cases hm : met' = met
          · rw [show oM h mL mC met met' = h.lift from if_pos hm, show lM met met' = [] from if_pos hm]
            conv => whnf
            repeat' (first | ((first | refine zs1 ?_ | refine zs2 ?_ | refine zs3 ?_ | refine zs4 ?_ | refine zs5 ?_); conv => whnf) | ((first | apply zi1 | apply zi2 | apply zi3 | apply zi4 | apply zi5) <;> intro _ <;> conv => whnf))
            all_goals try (exfalso; omega)
            rw [show effP h hI mC mL met R = h from if_pos (by rw [a4]; exact hm), a4]
            exact VOut.same rfl
          · rw [show oM h mL mC met met' = oB h mL mC met'.length from if_neg hm, show lM met met' = [.flat true (met'.flatMap encI)] from if_neg hm]
            conv => whnf
            repeat' (first | ((first | refine zs1 ?_ | refine zs2 ?_ | refine zs3 ?_ | refine zs4 ?_ | refine zs5 ?_); conv => whnf) | ((first | apply zi1 | apply zi2 | apply zi3 | apply zi4 | apply zi5) <;> intro _ <;> conv => whnf))
            all_goals try (exfalso; omega)
            rw [a4]
            refine vout_push (R := (0, hs, met')) 0 1 hm (by rw [h7.l0]; simp) (by rw [h7.m0]; simp) (by rw [h7.h0]; simp) rfl rfl ?_
            have h9 : h.lift hI = some (.flat true (hs.flatMap encI)) := get_out h7.h0 []
            have := h8.hm; have := h8.hl; have := Ne.symm h8.hm; have := Ne.symm h8.hl
            funext x
            unfold oB outW
            simp only [setsO]
            repeat' split <;> simp_all
end Go.Proofs.Ytoeendggmalcpaa

open Go.Vm
open Psg
namespace Go.Vm
theorem VOut.own1 {h : Hp} {loc : List Blk} {esz n : Nat} {ds : List D} (j L : Nat) (hL : Nat.ble loc.length L = true) (hj : loc[j]? = some (.flat true ds)) : VOut h ⟨h.lift, loc⟩ (.gl (.loc j) esz n) (.gl h.fresh esz n) (h.push (.flat true ds)) := by
  refine VOut.upd [] [.flat true ds] [j] L hL (by intro p hp; cases hp) (by simp) rfl ?_ ?_ rfl
  · intro k b hk
    cases k with
    | zero => rw [List.getElem?_cons_zero, Option.some.injEq] at hk; subst hk; exact ⟨j, rfl, hj⟩
    | succ k => simp at hk
  · intro σ x hx
    have : (V.gl h.fresh esz n).ren (backR h.loc.length [j] L) = .gl (.loc j) esz n := by simp [V.ren, backR, Hp.fresh]
    rw [this]; exact hx
end Go.Vm
namespace Go.Proofs.Ytoeendggmalcpaa
set_option maxRecDepth 20000
set_option maxHeartbeats 4000000
theorem vc_cloneI (l : List Int) (h : Hp) (h0 : 0 < l.length) (hl : l.length ≤ 4000000) : VC Try.prog 102 [ints l] h (.gl h.fresh 1 l.length) (h.push (.flat true (l.flatMap encI))) := by
  refine VC.body Try.func102 rfl Try.ntmps102 Try.call102 (h.grows_push _) rfl ?_; conv => whnf
  repeat' (first | ((first | refine zs1 ?_ | refine zs2 ?_ | refine zs3 ?_ | refine zs4 ?_ | refine zs5 ?_); conv => whnf) | ((first | apply zi1 | apply zi2 | apply zi3 | apply zi4 | apply zi5) <;> intro _ <;> conv => whnf))
  refine VMem.appN (l := ([] : List Int)) encI_len rfl rfl rfl rfl rfl (by show 0 + l.length ≤ _; omega) ?_
  conv => whnf
  repeat' (first | ((first | refine zs1 ?_ | refine zs2 ?_ | refine zs3 ?_ | refine zs4 ?_ | refine zs5 ?_); conv => whnf) | ((first | apply zi1 | apply zi2 | apply zi3 | apply zi4 | apply zi5) <;> intro _ <;> conv => whnf))
  show VOut h _ (.gl (.loc 1) 1 (0 + l.length)) _ _
  rw [Nat.zero_add]
  exact VOut.own1 (h := h) (loc := [.dead, .flat true (l.flatMap encI)]) (ds := l.flatMap encI) 1 2 rfl rfl
def effD (h : Hp) (hI : Vm.Id) (r : R3) : Hp := (h.sets [(hI, .flat true (r.2.1.flatMap encI))]).pushes [.flat true (r.2.2.flatMap encI)]
theorem vout_pushed {h : Hp} {hI : Vm.Id} {R : R3} (j L : Nat) {loc : List Blk} {outer : Vm.Id → Option Blk} (h3 : h.get hI ≠ none) (hloc : loc[j]? = some (.flat true (R.2.2.flatMap encI))) (hL : Nat.ble loc.length L = true)
    (ho : outer = outW h.lift hI (.flat true (R.2.1.flatMap encI))) : VOut h ⟨outer, loc⟩ (.tuple [I R.1, .gl (.loc j) 1 R.2.2.length]) (.tuple [I R.1, .gl h.fresh 1 R.2.2.length]) (effD h hI R) := by
  have e : (V.tuple [I R.1, .gl h.fresh 1 R.2.2.length]).ren (backR h.loc.length [j] L) = .tuple [I R.1, .gl (.loc j) 1 R.2.2.length] := by simp [V.ren, V.rens, backR, Hp.fresh]
  refine VOut.upd (h := h) (r1 := .tuple [I R.1, .gl (.loc j) 1 R.2.2.length]) (r := .tuple [I R.1, .gl h.fresh 1 R.2.2.length]) [(hI, .flat true (R.2.1.flatMap encI))] [.flat true (R.2.2.flatMap encI)] [j] L hL ?_ (by simp) rfl ?_ (fun σ x hx => by rw [e]; exact hx) ?_
  · intro p hp
    simp only [List.mem_cons, List.not_mem_nil, or_false] at hp
    subst hp
    exact h3
  · intro k b hk
    cases k with
    | zero => rw [List.getElem?_cons_zero, Option.some.injEq] at hk; subst hk; exact ⟨j, rfl, hloc⟩
    | succ k => simp at hk
  · rw [ho]; rfl
def psL (s : Vm.Id) (gls met : List Int) : List Blk := [.cells true [.ptr (.out s) 0], .flat true (met.flatMap encI), .cells true [.gl (.loc 1) 1 met.length], .cells true [vPush gls (.loc 0) (.loc 2) (.loc 3)]]
theorem vc_pushed {n : Nat} {gls src hs : List Int} {N : Nt} (hN : NOk n N) (hg : gls.length ≤ 4000000) (h0 : 0 < src.length) (hM : Mt n src) (hb : Bnd N.ws hs) {s hI : Vm.Id} (h : Hp) (hs0 : h.get s = some (.cells true [I N.p, wys N.ws, .gl hI 1 hs.length])) (hh : h.get hI = some (.flat true (hs.flatMap encI))) (hne : s ≠ hI) :
    VC Try.prog 122 [.ptr s 0, ints src, ints gls] h (.tuple [I (pushed gls N.ws (n + 1) src hs src).1, .gl h.fresh 1 (pushed gls N.ws (n + 1) src hs src).2.2.length]) (effD h hI (pushed gls N.ws (n + 1) src hs src)) := by
  obtain ⟨R, hR⟩ : ∃ R, R = pushed gls N.ws (n + 1) src hs src := ⟨_, rfl⟩
  rw [← hR]
  have hn1 := hN.n1
  have hml := hM.len
  have hInN := hN.inN
  have cC := fun h => vc_cloneI src h h0 (by omega)
  have hgrow : h.grows (effD h hI R) := by
    refine Hp.grows_sets fun e he => ?_
    simp only [List.mem_cons, List.not_mem_nil, or_false] at he
    subst he
    simp only
    rw [hh]; simp
  refine VC.body Try.func122 rfl Try.ntmps122 Try.call122 hgrow rfl ?_
  conv => whnf
  repeat' (first | ((first | refine zs1 ?_ | refine zs2 ?_ | refine zs3 ?_ | refine zs4 ?_ | refine zs5 ?_); conv => whnf) | ((first | apply zi1 | apply zi2 | apply zi3 | apply zi4 | apply zi5) <;> intro _ <;> conv => whnf) | (refine VCall.intro (cC _) ?_; conv => whnf))
  refine VCode.lp (outer := h.lift) (marks := []) (fun y : Nat × List Int => [(8, .ptr (.loc 2) 0), (9, .ptr (.loc 3) 0), (16, ints src), (17, I src.length), (18, I y.1)]) (fun y => psL s gls y.2) (fun y => y.1 ≤ src.length ∧ (∀ q ∈ src, q ∈ y.2) ∧ Mt n y.2 ∧ R = pushed gls N.ws (n + 1) (src.drop y.1) hs y.2) (fun y => src.length - y.1) (0, src) ⟨Nat.zero_le _, fun _ h => h, hM, hR⟩ ?_ ?_
  · conv => whnf
    refine Retell.turn ⟨[0,2,3,4], 5, [(1, [dints gls])], []⟩ (TurnOk.mk' _ _ [(1, [dints gls])] [] (OutOk.lift _) rfl (by decide) zb zr trivial rfl) zw zm
  · rintro ⟨i, met⟩ ⟨a1, a2, a3, a4⟩
    dsimp only at a1 a2 a3 a4 ⊢
    rcases Nat.lt_or_ge i src.length with hi | hi
    · have hp : src[i]? = some src[i] := List.getElem?_eq_getElem hi
      have hpm := a2 src[i] (List.getElem_mem hi)
      rw [List.drop_eq_getElem_cons hi, pushed] at a4
      generalize src[i] = p at hp hpm a4
      have hml2 := a3.len
      have cI := vc_push hN hg (n + 1) p 24000 hs met (.loc 0) (.out s) (.out hI) (.loc 2) (.loc 1) (.loc 3) ⟨h.lift, psL s gls met⟩ hpm a3 (by omega) (by omega) hb (by omega) ⟨rfl, get_out hs0 _, get_out hh _, rfl, rfl, rfl⟩ ⟨outLoc, outLoc, by decide, outLoc.symm, by decide, by decide, outNe hne, outLoc, outLoc, outLoc.symm, by decide, by decide⟩
      have hQ := push_ok (gls := gls) hInN (n + 1) p 24000 hs met hpm a3 (by omega) hb (by omega)
      have hQs := push_same hInN (gls := gls) (p := p) (most := 24000) (hs := hs) (met := met) hpm (by omega) hb a3 (n + 1) (by omega)
      generalize push gls N.ws (n + 1) p 24000 hs met = r at a4 cI hQ hQs
      have hQl := hQ.low
      have hQh := hQ.high
      have hMl2 := hQ.mt.len
      unfold psL at cI ⊢
      have h4 : h.lift hI = some (.flat true (hs.flatMap encI)) := get_out hh []
      by_cases hrM : r.2.2 = met
      · rw [show effP _ _ _ _ met r = _ from if_pos hrM] at cI
        conv => whnf
        repeat' (first | ((first | refine zs1 ?_ | refine zs2 ?_ | refine zs3 ?_ | refine zs4 ?_ | refine zs5 ?_); conv => whnf) | ((first | apply zi1 | apply zi2 | apply zi3 | apply zi4 | apply zi5) <;> intro _ <;> conv => whnf) | (refine VCall.intro (cI) ?_; conv => whnf) | (refine VAny.ix encI_len i rfl rfl hp ?_; conv => whnf))
        all_goals try (exfalso; omega)
        · rename_i hgot
          rw [if_pos hgot] at a4
          refine zs6 [] ?_
          conv => whnf
          repeat' (first | ((first | refine zs1 ?_ | refine zs2 ?_ | refine zs3 ?_ | refine zs4 ?_ | refine zs5 ?_); conv => whnf) | ((first | apply zi1 | apply zi2 | apply zi3 | apply zi4 | apply zi5) <;> intro _ <;> conv => whnf))
          rw [a4, ← hrM]
          exact vout_pushed (R := r) 1 4 (by rw [hh]; simp) rfl rfl (by rw [hQs hrM]; exact outW_id h4)
        · have hz : r.1 = 0 := by omega
          rw [if_neg (by omega), (hQ.zero hz).1] at a4
          refine LEnd.intro (i + 1, r.2.2) ⟨by omega, fun q hq => hQ.pre q (a2 q hq), hQ.mt, a4⟩ (by omega) ?_
          rw [hrM]
          conv => whnf
          refine Retell.turn ⟨[0,1,2,3], 4, [], []⟩ (TurnOk.mk' _ _ [] [] (OutOk.lift _) rfl (by decide) zb trivial trivial rfl) zw zm
      · rw [show effP ⟨h.lift, [.cells true [.ptr (.out s) 0], .flat true (met.flatMap encI), .cells true [.gl (.loc 1) 1 met.length], .cells true [vPush gls (.loc 0) (.loc 2) (.loc 3)]]⟩ (.out hI) (.loc 2) (.loc 1) met r = ⟨outW h.lift hI (.flat true (r.2.1.flatMap encI)), [.cells true [.ptr (.out s) 0], .dead, .cells true [.gl (.loc 4) 1 r.2.2.length], .cells true [vPush gls (.loc 0) (.loc 2) (.loc 3)], .flat true (r.2.2.flatMap encI)]⟩ from if_neg hrM] at cI
        by_cases hz : r.1 = 0
        · rw [if_neg (by omega), (hQ.zero hz).1] at a4
          rw [(hQ.zero hz).1, ← outW_id h4] at cI
          conv => whnf
          repeat' (first | ((first | refine zs1 ?_ | refine zs2 ?_ | refine zs3 ?_ | refine zs4 ?_ | refine zs5 ?_); conv => whnf) | ((first | apply zi1 | apply zi2 | apply zi3 | apply zi4 | apply zi5) <;> intro _ <;> conv => whnf) | (refine VCall.intro (cI) ?_; conv => whnf) | (refine VAny.ix encI_len i rfl rfl hp ?_; conv => whnf))
          all_goals try (exfalso; omega)
          refine LEnd.intro (i + 1, r.2.2) ⟨by omega, fun q hq => hQ.pre q (a2 q hq), hQ.mt, a4⟩ (by omega) ?_
          conv => whnf
          refine Retell.turn ⟨[0,4,2,3], 5, [], []⟩ (TurnOk.mk' _ _ [] [] (OutOk.lift _) rfl (by decide) zb trivial trivial rfl) zw zm
        · rw [if_pos (by omega)] at a4
          conv => whnf
          repeat' (first | ((first | refine zs1 ?_ | refine zs2 ?_ | refine zs3 ?_ | refine zs4 ?_ | refine zs5 ?_); conv => whnf) | ((first | apply zi1 | apply zi2 | apply zi3 | apply zi4 | apply zi5) <;> intro _ <;> conv => whnf) | (refine VCall.intro (cI) ?_; conv => whnf) | (refine VAny.ix encI_len i rfl rfl hp ?_; conv => whnf))
          all_goals try (exfalso; omega)
          refine zs6 [] ?_
          conv => whnf
          repeat' (first | ((first | refine zs1 ?_ | refine zs2 ?_ | refine zs3 ?_ | refine zs4 ?_ | refine zs5 ?_); conv => whnf) | ((first | apply zi1 | apply zi2 | apply zi3 | apply zi4 | apply zi5) <;> intro _ <;> conv => whnf))
          rw [a4]
          exact vout_pushed (R := r) 4 5 (by rw [hh]; simp) rfl rfl rfl
    · rw [List.drop_of_length_le (by omega), pushed] at a4
      have h4 : h.lift hI = some (.flat true (hs.flatMap encI)) := get_out hh []
      unfold psL
      conv => whnf
      repeat' (first | ((first | refine zs1 ?_ | refine zs2 ?_ | refine zs3 ?_ | refine zs4 ?_ | refine zs5 ?_); conv => whnf) | ((first | apply zi1 | apply zi2 | apply zi3 | apply zi4 | apply zi5) <;> intro _ <;> conv => whnf))
      all_goals try (exfalso; omega)
      refine zs6 [] ?_
      conv => whnf
      repeat' (first | ((first | refine zs1 ?_ | refine zs2 ?_ | refine zs3 ?_ | refine zs4 ?_ | refine zs5 ?_); conv => whnf) | ((first | apply zi1 | apply zi2 | apply zi3 | apply zi4 | apply zi5) <;> intro _ <;> conv => whnf))
      rw [a4]
      exact vout_pushed (R := (0, hs, met)) 1 4 (by rw [hh]; simp) rfl rfl (outW_id h4)
end Go.Proofs.Ytoeendggmalcpaa

