/- Part 5 of the proof that How far a region reaches is reached by a corner, and proved.. No condition. -/
import Derived.Test.YtdlnjnfkbneibaaRe4
set_option linter.unusedVariables false
set_option linter.unusedSimpArgs false
open Go.Vm
open Clip (Pn Sg Nt Bd Sp Rt Pt Af NtOk BdSz SpSz Sound crs okD okD_iff Feas dirAf regS bnds bnds_sq bnds_sz bnds_len rcS RcOk farS' atP pAt pAt_ok pAt_get)
namespace Go.Proofs.Ytdlnjnfkbneibaa
set_option maxRecDepth 20000
set_option maxHeartbeats 4000000

/-! ### A list of numbers of one's own -/
theorem vc_cloneIO (l : List Int) (h : Hp) (hl : l.length ≤ 4000000) : VC Try.prog 50 [ints l] h (.gl h.fresh 1 l.length) (h.push (.flat true (l.flatMap encI))) := by
  refine VC.body Try.func50 rfl Try.ntmps50 Try.call50 (h.grows_push _) rfl ?_; conv => whnf
  repeat (first | ((first | refine zs1 ?_ | refine zs2 ?_ | refine zs3 ?_ | refine zs4 ?_ | refine zs5 ?_ | refine zs6 [] ?_); conv => whnf))
  refine VMem.appNil encI_len rfl rfl rfl (by omega) ?_
  conv => whnf
  repeat (first | ((first | refine zs1 ?_ | refine zs2 ?_ | refine zs3 ?_ | refine zs4 ?_ | refine zs5 ?_ | refine zs6 [] ?_); conv => whnf))
  exact VOut.own1 0 1 rfl rfl
theorem forceVs_of {l l' : List V} {K : List V → Prop} (e : l = l') (h : forceVs l' K) : forceVs l K := e ▸ h
theorem dk_ix {k : Nat} (hk : k < 4) : List.take 2 (List.drop ((k : Int).toNat * 2) [I 1, I 0, I (-1), I 0, I 0, I 1, I 0, I (-1)]) = [I (dk k).x, I (dk k).y] := by
  have : k = 0 ∨ k = 1 ∨ k = 2 ∨ k = 3 := by omega
  rcases this with rfl | rfl | rfl | rfl <;> rfl
/-! ### What one direction shows -/
structure DirOk (N : Nt) (p : Int) (to : Pn) (S : List Sp) (m : Nat) (r : Rt) (P : Pf) : Prop where
  cR : ∀ h, VC Try.prog 33 [vN N, I p, vPn to] h (.tuple [vRt r, I 0]) h
  cW : ∀ h, VC Try.prog 48 [vN N, I p, vPn to] h (.tuple [vPf P, I 0]) h
  cP : ∀ h, VC Try.prog 49 [vN N, I p, vPn to, vPf P] h (.tuple [vRt r, I 0]) h
  fz : FrSz r
  rk : RcOk to S r
  l : 1 ≤ P.bs.length ∧ P.bs.length ≤ 3
  eq : P.ws.length = P.bs.length
  ch : ∀ (i : Nat) (b w : Int), (0 ≤ b ∧ b < m) → (0 ≤ w ∧ w < 100) → ∃ (E : Int) (R : Rt), (∀ h, VC Try.prog 49 [vN N, I p, vPn to, vPf (chP P i b w)] h (.tuple [vRt R, I E]) h) ∧ ((E = 5 ∨ E = 9) ∨ (E = 0 ∧ ((-1000000000000 ≤ R.N ∧ R.N ≤ 1000000000000) ∧ 1 ≤ R.D ∧ R.D ≤ 1000000) ∧ r.N * R.D ≤ R.N * r.D))
theorem dir_ok {N : Nt} {p : Int} {to : Pn} (o : NtOk N) (hp : 0 ≤ p ∧ p < N.ps.length) (ht : okD to = true) (hS : regS (bnds N p) ≠ []) : DirOk N p to (regS (bnds N p)) (bnds N p).length (rcS to ⟨0, 0⟩ (regS (bnds N p))) (whS (bnds N p) to) := by
  have hn := o.n
  have hm := o.m
  have b0 := brE_zero o hp
  have e0 : asE N p to = 0 := asE_ok.2 ⟨b0, ht, hS⟩
  have eR : rcV N p to = rcS to ⟨0, 0⟩ (regS (bnds N p)) := by unfold rcV; rw [if_pos e0]
  obtain ⟨v1, v2⟩ := wh_best (bnds_sq N p) (bnds_sz o p) ht hS
  have rk := (Clip.reach_ok (to := to) (bnds_sq N p) (bnds_sz o p) hS).1
  have pz := (prE_val b0 ht).2 v1
  have hl := v1.ok.l
  have hm2 := v1.ok.m
  refine ⟨fun h => ?_, fun h => vc_Why N p to h e0, fun h => ?_, ?_, rk, hl, hm2, fun i b w hb hw => ?_⟩
  · have := vc_Reach N p to h (by omega) (by omega)
    rw [e0, eR] at this; exact this
  · have := vc_Proves N p to (whS (bnds N p) to) h (by omega) (by omega) (by omega) (by omega)
    rw [pz, prV_val pz, v2] at this; exact this
  · obtain ⟨s, hs, e⟩ := rk.at'
    have := far_sz (bnds_sq N p) (bnds_sz o p) ht hs
    rw [← e] at this; exact this
  · have h1 : (chP (whS (bnds N p) to) i b w).bs.length ≤ 4000000 := by show ((whS (bnds N p) to).bs.set i b).length ≤ _; rw [List.length_set]; omega
    have h2 : (chP (whS (bnds N p) to) i b w).ws.length ≤ 4000000 := by show ((whS (bnds N p) to).ws.set i w).length ≤ _; rw [List.length_set]; omega
    refine ⟨prE N p to (chP (whS (bnds N p) to) i b w), prV N p to (chP (whS (bnds N p) to) i b w), fun h => vc_Proves N p to _ h (by omega) (by omega) h1 h2, ?_⟩
    rcases ch_err (i := i) b0 ht v1.ok hb hw with e | e | e
    · exact .inr ⟨e, pr_ge o ht rfl rk b0 e⟩
    · exact .inl (.inl e)
    · exact .inl (.inr e)
theorem vc_SightReached (ns cs : List Int) (w : Int) (hw : 0 ≤ w ∧ w ≤ 255) (h : Hp) : VC Try.prog 8 [bytes ns, bytes cs, .s (.int .u8 w)] h (B true) h := by
  have cM := fun (i : Vm.Id) (h : Hp) hd => vc_Made ns (0, 9) 6 12 i h (by decide) (by decide) (by decide) hd
  have mo := (mdN_ok ns (0, 9) (p := 6) (s := 12) (by decide) (by decide)).1
  generalize (mdS ns (0, 9) 6 12).1 = D1 at *
  generalize mdN ns (0, 9) 6 12 = N at *
  obtain ⟨o, hn2, hm2, hon⟩ := mo
  have hn := o.n
  have hm := o.m
  have hneB : ((N.ps.length : Int) != 0) = true := by rw [bne_iff_ne]; omega
  have hp := tmod_pos (w := w) (n := N.ps.length) hw.1 (by omega)
  generalize hpw : w.tmod (N.ps.length : Int) = p at hp
  have hf := own_feas o hp fun s hs _ => hon s hs
  have b0 := brE_zero o hp
  have hS := Clip.regS_ne_of (bnds_sq N p) (bnds_sz o p) hf
  have hcr : crE N p = 0 := crE_ok.2 ⟨b0, hS⟩
  have hcs : crS N p = regS (bnds N p) := (crS_eq hcr).1
  have c7 := fun h => vc_Bounds_ok N p h b0
  have c8 := fun h => vc_Corners N p h (by omega) (by omega)
  have c6 := fun h => vc_Box N p h (by omega) (by omega)
  rw [hcs, hcr] at c8 c6
  have hdir := fun (to : Pn) (ht : okD to = true) => dir_ok o hp ht hS
  have hsn : ∀ s ∈ regS (bnds N p), Sound s := fun s hs => Clip.corner_sound (bnds_sq N p) (bnds_sz o p) hs
  have hsz := fun s (hs : s ∈ regS (bnds N p)) => Clip.regS_sz (bnds_sz o p) hs
  have hln := bnds_len o p
  have hrl := regS_len (p := p) o
  have hl := List.length_pos_iff.2 hS
  have hbx := fun k (r : Rt) (hk : k < 4) => bx_round (k := k) (r := r) hk hsn hsz
  have hb1 := bx_bd hsn hsz Sp.X (.inl rfl)
  have hb2 := bx_bd hsn hsz Sp.Y (.inr rfl)
  generalize bxV Sp.X (regS (bnds N p)) = X at *
  generalize bxV Sp.Y (regS (bnds N p)) = Y at *
  have hdir : ∀ to, okD to = true → ∃ r P, DirOk N p to (regS (bnds N p)) (bnds N p).length r P := fun to ht => ⟨_, _, hdir to ht⟩
  have hbl : 1 ≤ (bnds N p).length := List.length_pos_of_mem (bnds_sq N p ⟨1, 0, 1000⟩ (by simp [Clip.bsq]))
  generalize bnds N p = bs at *
  generalize regS bs = S at *
  refine VC.bodyC 7 Try.func8 rfl Try.ntmps8 Try.call8 (h.grows_refl) rfl ?_; conv => whnf
  repeat' (first | ((first | refine zs1 ?_ | refine zs2 ?_ | refine zs3 ?_ | refine zs4 ?_ | refine zs5 ?_); conv => whnf) | ((first | apply zi1 | apply zi2 | apply zi3 | apply zi4 | apply zi5) <;> intro _ <;> conv => whnf) | (refine VCall.intro (vc_Of _ _) ?_; conv => whnf) | (refine VCall.intro (cM _ _ rfl) ?_; conv => whnf) | (refine VNeed.intro hneB ?_; conv => whnf))
  rw [hpw]
  repeat' (first | ((first | refine zs1 ?_ | refine zs2 ?_ | refine zs3 ?_ | refine zs4 ?_ | refine zs5 ?_); conv => whnf) | ((first | apply zi1 | apply zi2 | apply zi3 | apply zi4 | apply zi5) <;> intro _ <;> conv => whnf) | (refine VCall.intro (c7 _) ?_; conv => whnf) | (refine VCall.intro (c8 _) ?_; conv => whnf) | (refine VCall.intro (c6 _) ?_; conv => whnf))
  refine VCut.at' (outer := h.lift) (marks := []) 99 [(6, B false), (7, .fp (encN N)), (8, .ptr (.loc 0) 0), (9, I p), (10, sps S), (11, I 0), (12, bds bs), (13, I 0), (14, .fp [DI X.1, DI X.2]), (15, .fp [DI Y.1, DI Y.2]), (16, I 0)] [deckB cs (0, 9)] ?_ ?_
  · conv => whnf
    refine Retell.turn ⟨[2], 5, [(1, encN N), (3, [DI X.1, DI X.2]), (4, [DI Y.1, DI Y.2])], []⟩ (TurnOk.mk' _ _ [(1, encN N), (3, [DI X.1, DI X.2]), (4, [DI Y.1, DI Y.2])] [] (OutOk.lift _) rfl (by decide) zb zf trivial rfl) zw zm
  conv => whnf
  repeat' (first | ((first | refine zs1 ?_ | refine zs2 ?_ | refine zs3 ?_ | refine zs4 ?_ | refine zs5 ?_ | refine zs6 [] ?_); conv => whnf) | ((first | apply zi1 | apply zi2 | apply zi3 | apply zi4 | apply zi5) <;> intro _ <;> conv => whnf))
  all_goals try (exfalso; omega)
  refine VCode.lpC 2 (fun y : Nat × DS => [(6, B false), (7, .fp (encN N)), (8, .ptr (.loc 0) 0), (9, I p), (10, sps S), (12, bds bs), (14, .fp [DI X.1, DI X.2]), (15, .fp [DI Y.1, DI Y.2]), (79, I y.1)]) (fun y => [deckB cs y.2]) (fun y => y.1 ≤ 6 ∧ y.2.1 ≤ 11 * y.1) (fun y => 6 - y.1) (0, ((0, 9) : DS)) ⟨Nat.zero_le _, by decide⟩ ?_ ?_
  · conv => whnf
    refine Retell.turn ⟨[0], 1, [], []⟩ (TurnOk.mk' _ _ [] [] (OutOk.lift _) rfl (by decide) zb trivial trivial rfl) zw zm
  · rintro ⟨k, e⟩ ⟨h1, h2⟩
    dsimp only at h1 h2
    have cT := fun (i : Vm.Id) (h : Hp) hd => vc_Turn cs e 50 i h (by omega) (by omega) hd
    obtain ⟨t1, t2, t3, t4⟩ := tn_ok cs e (m := 50) (by omega)
    generalize tnV cs e 50 = z at *
    have ht : okD z.1 = true := okD_iff.2 ⟨t3, t1, t2⟩
    conv => whnf
    refine VIte.dec (fun h3 => ?_) (fun h3 => ?_)
    · dsimp only at h3
      refine VCut.block 3 ?_
      conv => whnf
      obtain ⟨T, hT⟩ : ∃ T, T = if k < 4 then dk k else z.1 := ⟨_, rfl⟩
      have hTo : okD T = true := by
        rw [hT]
        split
        · rename_i hk
          have : k = 0 ∨ k = 1 ∨ k = 2 ∨ k = 3 := by omega
          rcases this with rfl | rfl | rfl | rfl <;> rfl
        · exact ht
      apply suffices_
      · intro hrest
        repeat' (first | ((first | refine zs1 ?_ | refine zs2 ?_ | refine zs3 ?_ | refine zs4 ?_ | refine zs5 ?_ | refine zs6 [] ?_); conv => whnf) | ((first | apply zi1 | apply zi2 | apply zi3 | apply zi4 | apply zi5) <;> intro _ <;> conv => whnf) | (refine VCall.intro (cT _ _ rfl) ?_; conv => whnf) | (refine VCall.intro (vc_point _ _ _) ?_; conv => whnf) | (refine forceVs_of (dk_ix (by omega)) ?_; conv => whnf))
        · rename_i hk
          have e1 : T = dk k := by rw [hT, if_pos (by omega)]
          refine VCut.at' (outer := h.lift) (marks := []) 99 [(6, B false), (7, .fp (encN N)), (8, .ptr (.loc 0) 0), (9, I p), (10, sps S), (12, bds bs), (14, .fp [DI X.1, DI X.2]), (15, .fp [DI Y.1, DI Y.2]), (17, I k), (18, .fp (encPn T)), (79, I k)] [deckB cs z.2] ?_ hrest.out
          rw [e1]
          conv => whnf
          refine Retell.turn ⟨[0], 2, [(1, encPn (dk k))], []⟩ (TurnOk.mk' _ _ [(1, encPn (dk k))] [] (OutOk.lift _) rfl (by decide) zb zf trivial rfl) zw zm
        · rename_i hk
          have e1 : T = z.1 := by rw [hT, if_neg (by omega)]
          refine VCut.at' (outer := h.lift) (marks := []) 99 [(6, B false), (7, .fp (encN N)), (8, .ptr (.loc 0) 0), (9, I p), (10, sps S), (12, bds bs), (14, .fp [DI X.1, DI X.2]), (15, .fp [DI Y.1, DI Y.2]), (17, I k), (18, .fp (encPn T)), (79, I k)] [deckB cs z.2] ?_ hrest.out
          rw [e1]
          conv => whnf
          refine Retell.turn ⟨[0], 2, [(1, encPn z.1)], []⟩ (TurnOk.mk' _ _ [(1, encPn z.1)] [] (OutOk.lift _) rfl (by decide) zb zf trivial rfl) zw zm
      obtain ⟨r, P, hd⟩ := hdir T hTo
      have fz := hd.fz
      have rd := fz.d
      have pl := hd.l
      have pe := hd.eq
      conv => whnf
      repeat' (first | ((first | refine zs1 ?_ | refine zs2 ?_ | refine zs3 ?_ | refine zs4 ?_ | refine zs5 ?_ | refine zs6 [] ?_); conv => whnf) | ((first | apply zi1 | apply zi2 | apply zi3 | apply zi4 | apply zi5) <;> intro _ <;> conv => whnf) | (refine VCall.intro (hd.cR _) ?_; conv => whnf) | (refine VCall.intro (hd.cW _) ?_; conv => whnf) | (refine VCall.intro (hd.cP _) ?_; conv => whnf) | (refine VAgg.intro (vne70 _ _ _ _) ?_; conv => whnf))
      all_goals try (exfalso; omega)
      obtain ⟨fl, fe⟩ := far_le hsz hd.rk
      have rn := fz.n
      have hany : ∀ j, j ≤ S.length → (S.take j).any (fun s => decide (farX T r s = 0)) = true ∨ j < S.length := fun j hj => by
        rcases Nat.eq_or_lt_of_le hj with e | e
        · left
          rw [e, List.take_length, List.any_eq_true]
          obtain ⟨s, hs, hs0⟩ := fe
          exact ⟨s, hs, by rw [decide_eq_true_eq]; exact hs0⟩
        · exact .inr e
      refine VCode.lp (fun y : Nat × Bool => [(6, B false), (7, .fp (encN N)), (8, .ptr (.loc 0) 0), (9, I p), (10, sps S), (12, bds bs), (14, .fp [DI X.1, DI X.2]), (15, .fp [DI Y.1, DI Y.2]), (17, I k), (18, .fp (encPn T)), (19, .fp [DI r.N, DI r.D]), (21, .fp (encPf P)), (25, B y.2), (79, I k), (155, sps S), (156, I S.length), (157, I y.1)]) (fun _ => [deckB cs z.2]) (fun y => y.1 ≤ S.length ∧ y.2 = (S.take y.1).any (fun s => decide (farX T r s = 0))) (fun y => S.length - y.1) (0, false) ⟨Nat.zero_le _, rfl⟩ ?_ ?_
      · conv => whnf
        refine Retell.turn ⟨[0], 4, [(1, [DI r.N, DI r.D]), (2, encPf P)], []⟩ (TurnOk.mk' _ _ [(1, [DI r.N, DI r.D]), (2, encPf P)] [] (OutOk.lift _) rfl (by decide) zb zf trivial rfl) zw zm
      · rintro ⟨j, b⟩ ⟨j1, j2⟩
        dsimp only at j1 j2
        conv => whnf
        refine VIte.dec (fun j3 => ?_) (fun j3 => ?_)
        · dsimp only at j3
          have hsk : S[j]? = some S[j] := List.getElem?_eq_getElem (by omega)
          have s1 := hsn S[j] (List.getElem_mem (by omega))
          have s3 := hsz S[j] (List.getElem_mem (by omega))
          have s4 := fl S[j] (List.getElem_mem (by omega))
          have s5 : (S.take (j + 1)).any (fun s => decide (farX T r s = 0)) = (b || decide (farX T r S[j] = 0)) := by
            rw [List.take_add_one, hsk, List.any_append, ← j2]; simp
          generalize S[j] = s at hsk s1 s3 s4 s5
          have k1 := fun h => vc_sound s h s1
          obtain ⟨f1, f2, f3, f4, f5, f6⟩ := far_bd hTo s3
          have xd := s3.xd
          have yd := s3.yd
          have m1 := Clip.mulb (x := T.x * s.X.N * s.Y.D + T.y * s.Y.N * s.X.D) (y := r.D) (A := 5000000000000) (B := 5000) (by omega) (by omega)
          have m2 := Clip.mulb (x := r.N) (y := s.X.D) (A := 1000000000) (B := 5000) (by omega) (by omega)
          have m3 := Clip.mulb (x := r.N * s.X.D) (y := s.Y.D) (A := 5000000000000) (B := 5000) (by omega) (by omega)
          unfold farX farS' at s4
          clear j2
          cases b with
          | true =>
            conv => whnf
            repeat' (first | ((first | refine zs1 ?_ | refine zs2 ?_ | refine zs3 ?_ | refine zs4 ?_ | refine zs5 ?_ | refine zs6 [] ?_); conv => whnf) | ((first | apply zi1 | apply zi2 | apply zi3 | apply zi4 | apply zi5) <;> intro _ <;> conv => whnf) | (refine VAny.ix encSp_len j rfl rfl hsk ?_; conv => whnf) | (refine VCall.intro (k1 _) ?_; conv => whnf))
            · exfalso; omega
            refine LEnd.intro (j + 1, true) ⟨by dsimp only; omega, by dsimp only; exact s5.symm⟩ (by dsimp only; omega) ?_
            conv => whnf
            refine Retell.turn ⟨[0], 3, [], []⟩ (TurnOk.mk' _ _ [] [] (OutOk.lift _) rfl (by decide) zb trivial trivial rfl) zw zm
          | false =>
            conv => whnf
            repeat' (first | ((first | refine zs1 ?_ | refine zs2 ?_ | refine zs3 ?_ | refine zs4 ?_ | refine zs5 ?_ | refine zs6 [] ?_); conv => whnf) | ((first | apply zi1 | apply zi2 | apply zi3 | apply zi4 | apply zi5) <;> intro _ <;> conv => whnf) | (refine VAny.ix encSp_len j rfl rfl hsk ?_; conv => whnf) | (refine VCall.intro (k1 _) ?_; conv => whnf))
            · exfalso; omega
            refine LEnd.intro (j + 1, ((T.x * s.X.N * s.Y.D + T.y * s.Y.N * s.X.D) * r.D - r.N * s.X.D * s.Y.D == 0)) ⟨by dsimp only; omega, by dsimp only; rw [s5, Bool.false_or]; rfl⟩ (by dsimp only; omega) ?_
            conv => whnf
            refine Retell.turn ⟨[0], 3, [], []⟩ (TurnOk.mk' _ _ [] [] (OutOk.lift _) rfl (by decide) zb trivial trivial rfl) zw zm
        · have hb : b = true := by
            rcases hany j j1 with e | e
            · rw [j2]; exact e
            · exfalso; dsimp only at j3; omega
          subst hb
          conv => whnf
          repeat' (first | ((first | refine zs1 ?_ | refine zs2 ?_ | refine zs3 ?_ | refine zs4 ?_ | refine zs5 ?_ | refine zs6 [] ?_); conv => whnf) | ((first | apply zi1 | apply zi2 | apply zi3 | apply zi4 | apply zi5) <;> intro _ <;> conv => whnf))
          have hbk : k < 4 → r.N ≤ bk X Y k * r.D ∧ (bk X Y k - 1) * r.D < r.N := fun hk => hbx k r hk (by
            have := hd.rk
            rw [hT, if_pos hk] at this
            exact this)
          have hk4 : (k % 4 = 0 ∨ k % 4 = 1) ∨ k % 4 = 2 ∨ k % 4 = 3 := by omega
          have etm : ∀ c : Nat, k % 4 = c → (k : Int).tmod 4 = (c : Int) := fun c hc => by rw [Int.tmod_eq_emod_of_nonneg (by omega)]; omega
          apply suffices_
          · intro hrest
            rcases hk4 with (ek | ek) | ek | ek
            · have n1 := Clip.mulb (x := X.2) (y := r.D) (A := 10000001) (B := 5000) (by omega) (by omega)
              have p1 := Clip.mulb (x := X.2 - 1) (y := r.D) (A := 10000002) (B := 5000) (by omega) (by omega)
              have hbk0 : k < 4 → r.N ≤ X.2 * r.D ∧ (X.2 - 1) * r.D < r.N := fun hk => by
                have e : k = 0 := by omega
                have := hbk hk
                rw [e] at this; exact this
              rw [etm _ ek]
              conv => whnf
              repeat' (first | ((first | refine zs1 ?_ | refine zs2 ?_ | refine zs3 ?_ | refine zs4 ?_ | refine zs5 ?_ | refine zs6 [] ?_); conv => whnf) | ((first | apply zi1 | apply zi2 | apply zi3 | apply zi4 | apply zi5) <;> intro _ <;> conv => whnf))
              all_goals try (exfalso; omega)
              all_goals (
                refine VCode.tell (outer := h.lift) (marks' := []) [(6, B false), (7, .fp (encN N)), (8, .ptr (.loc 0) 0), (9, I p), (10, sps S), (12, bds bs), (14, .fp [DI X.1, DI X.2]), (15, .fp [DI Y.1, DI Y.2]), (17, I k), (18, .fp (encPn T)), (19, .fp [DI r.N, DI r.D]), (21, .fp (encPf P)), (79, I k), (245, I 0)] [deckB cs z.2] ?_ hrest.out
                conv => whnf
                refine Retell.turn ⟨[0], 1, [], []⟩ (TurnOk.mk' _ _ [] [] (OutOk.lift _) rfl (by decide) zb trivial trivial rfl) zw zm)
            · have n1 := Clip.mulb (x := 0 - X.1) (y := r.D) (A := 10000001) (B := 5000) (by omega) (by omega)
              have p1 := Clip.mulb (x := 0 - X.1 - 1) (y := r.D) (A := 10000002) (B := 5000) (by omega) (by omega)
              have hbk0 : k < 4 → r.N ≤ (0 - X.1) * r.D ∧ ((0 - X.1) - 1) * r.D < r.N := fun hk => by
                have e : k = 1 := by omega
                have := hbk hk
                rw [e] at this; exact this
              rw [etm _ ek]
              conv => whnf
              repeat' (first | ((first | refine zs1 ?_ | refine zs2 ?_ | refine zs3 ?_ | refine zs4 ?_ | refine zs5 ?_ | refine zs6 [] ?_); conv => whnf) | ((first | apply zi1 | apply zi2 | apply zi3 | apply zi4 | apply zi5) <;> intro _ <;> conv => whnf))
              all_goals try (exfalso; omega)
              all_goals (
                refine VCode.tell (outer := h.lift) (marks' := []) [(6, B false), (7, .fp (encN N)), (8, .ptr (.loc 0) 0), (9, I p), (10, sps S), (12, bds bs), (14, .fp [DI X.1, DI X.2]), (15, .fp [DI Y.1, DI Y.2]), (17, I k), (18, .fp (encPn T)), (19, .fp [DI r.N, DI r.D]), (21, .fp (encPf P)), (79, I k), (245, I 0)] [deckB cs z.2] ?_ hrest.out
                conv => whnf
                refine Retell.turn ⟨[0], 1, [], []⟩ (TurnOk.mk' _ _ [] [] (OutOk.lift _) rfl (by decide) zb trivial trivial rfl) zw zm)
            · have n1 := Clip.mulb (x := Y.2) (y := r.D) (A := 10000001) (B := 5000) (by omega) (by omega)
              have p1 := Clip.mulb (x := Y.2 - 1) (y := r.D) (A := 10000002) (B := 5000) (by omega) (by omega)
              have hbk0 : k < 4 → r.N ≤ Y.2 * r.D ∧ (Y.2 - 1) * r.D < r.N := fun hk => by
                have e : k = 2 := by omega
                have := hbk hk
                rw [e] at this; exact this
              rw [etm _ ek]
              conv => whnf
              repeat' (first | ((first | refine zs1 ?_ | refine zs2 ?_ | refine zs3 ?_ | refine zs4 ?_ | refine zs5 ?_ | refine zs6 [] ?_); conv => whnf) | ((first | apply zi1 | apply zi2 | apply zi3 | apply zi4 | apply zi5) <;> intro _ <;> conv => whnf))
              all_goals try (exfalso; omega)
              all_goals (
                refine VCode.tell (outer := h.lift) (marks' := []) [(6, B false), (7, .fp (encN N)), (8, .ptr (.loc 0) 0), (9, I p), (10, sps S), (12, bds bs), (14, .fp [DI X.1, DI X.2]), (15, .fp [DI Y.1, DI Y.2]), (17, I k), (18, .fp (encPn T)), (19, .fp [DI r.N, DI r.D]), (21, .fp (encPf P)), (79, I k), (245, I 0)] [deckB cs z.2] ?_ hrest.out
                conv => whnf
                refine Retell.turn ⟨[0], 1, [], []⟩ (TurnOk.mk' _ _ [] [] (OutOk.lift _) rfl (by decide) zb trivial trivial rfl) zw zm)
            · have n1 := Clip.mulb (x := 0 - Y.1) (y := r.D) (A := 10000001) (B := 5000) (by omega) (by omega)
              have p1 := Clip.mulb (x := 0 - Y.1 - 1) (y := r.D) (A := 10000002) (B := 5000) (by omega) (by omega)
              have hbk0 : k < 4 → r.N ≤ (0 - Y.1) * r.D ∧ ((0 - Y.1) - 1) * r.D < r.N := fun hk => by
                have e : k = 3 := by omega
                have := hbk hk
                rw [e] at this; exact this
              rw [etm _ ek]
              conv => whnf
              repeat' (first | ((first | refine zs1 ?_ | refine zs2 ?_ | refine zs3 ?_ | refine zs4 ?_ | refine zs5 ?_ | refine zs6 [] ?_); conv => whnf) | ((first | apply zi1 | apply zi2 | apply zi3 | apply zi4 | apply zi5) <;> intro _ <;> conv => whnf))
              all_goals try (exfalso; omega)
              all_goals (
                refine VCode.tell (outer := h.lift) (marks' := []) [(6, B false), (7, .fp (encN N)), (8, .ptr (.loc 0) 0), (9, I p), (10, sps S), (12, bds bs), (14, .fp [DI X.1, DI X.2]), (15, .fp [DI Y.1, DI Y.2]), (17, I k), (18, .fp (encPn T)), (19, .fp [DI r.N, DI r.D]), (21, .fp (encPf P)), (79, I k), (245, I 0)] [deckB cs z.2] ?_ hrest.out
                conv => whnf
                refine Retell.turn ⟨[0], 1, [], []⟩ (TurnOk.mk' _ _ [] [] (OutOk.lift _) rfl (by decide) zb trivial trivial rfl) zw zm)
          clear hbk hk4 etm
          conv => whnf
          refine VCode.lpC 2 (fun y : Nat × DS => [(6, B false), (7, .fp (encN N)), (8, .ptr (.loc 0) 0), (9, I p), (10, sps S), (12, bds bs), (14, .fp [DI X.1, DI X.2]), (15, .fp [DI Y.1, DI Y.2]), (17, I k), (18, .fp (encPn T)), (19, .fp [DI r.N, DI r.D]), (21, .fp (encPf P)), (79, I k), (245, I y.1)]) (fun y => [deckB cs y.2]) (fun y => y.1 ≤ 3 ∧ y.2.1 ≤ z.2.1 + 3 * y.1) (fun y => 3 - y.1) (0, z.2) ⟨Nat.zero_le _, Nat.le_refl _⟩ ?_ ?_
          · conv => whnf
            refine Retell.turn ⟨[0], 1, [], []⟩ (TurnOk.mk' _ _ [] [] (OutOk.lift _) rfl (by decide) zb trivial trivial rfl) zw zm
          · rintro ⟨q, D⟩ ⟨q1, q2⟩
            dsimp only at q1 q2
            have g1 := fun (i : Vm.Id) (h2 : Hp) hh => vc_draw cs D P.bs.length i h2 (by omega) hh
            have y1 := dNx_bd cs D P.bs.length
            have hbsl : 1 ≤ bs.length := hbl
            generalize dNx cs D P.bs.length = Z1 at *
            have g2 := fun (i : Vm.Id) (h2 : Hp) hh => vc_draw cs Z1.2 bs.length i h2 (by omega) hh
            have y2 := dNx_bd cs Z1.2 bs.length
            generalize dNx cs Z1.2 bs.length = Z2 at *
            have g3 := fun (i : Vm.Id) (h2 : Hp) hh => vc_draw cs Z2.2 100 i h2 (by omega) hh
            have y3 := dNx_bd cs Z2.2 100
            generalize dNx cs Z2.2 100 = Z3 at *
            obtain ⟨u, hu⟩ : ∃ u : Nat, Z1.1 = u := ⟨Z1.1.toNat, by omega⟩
            rw [hu] at g1
            obtain ⟨E, R, cC, hE⟩ := hd.ch u Z2.1 Z3.1 (by omega) (by omega)
            have lu : P.bs[u]? = some (P.bs[u]'(by omega)) := List.getElem?_eq_getElem _
            have lw : P.ws[u]? = some (P.ws[u]'(by omega)) := List.getElem?_eq_getElem _
            generalize P.bs[u]'(by omega) = A1 at lu
            generalize P.ws[u]'(by omega) = A2 at lw
            have k1 := fun h => vc_cloneIO P.bs h (by omega)
            have k2 := fun h => vc_cloneIO P.ws h (by omega)
            conv => whnf
            refine VIte.dec (fun q3 => ?_) (fun q3 => ?_)
            · dsimp only at q3
              refine VCut.block 4 ?_
              conv => whnf
              repeat' (first | ((first | refine zs1 ?_ | refine zs2 ?_ | refine zs3 ?_ | refine zs4 ?_ | refine zs5 ?_); conv => whnf) | ((first | apply zi1 | apply zi2 | apply zi3 | apply zi4 | apply zi5) <;> intro _ <;> conv => whnf) | (refine VCall.intro (k1 _) ?_; conv => whnf) | (refine VCall.intro (k2 _) ?_; conv => whnf))
              refine zs6 [(2, 4), (2, 7), (5, 7)] ?_
              conv => whnf
              repeat' (first | ((first | refine zs1 ?_ | refine zs2 ?_ | refine zs3 ?_ | refine zs4 ?_ | refine zs5 ?_); conv => whnf) | ((first | apply zi1 | apply zi2 | apply zi3 | apply zi4 | apply zi5) <;> intro _ <;> conv => whnf) | (refine VCall.intro (k1 _) ?_; conv => whnf) | (refine VCall.intro (k2 _) ?_; conv => whnf) | (refine VCall.intro (g1 _ _ rfl) ?_; conv => whnf))
              refine zs6 [(1, 6)] ?_
              conv => whnf
              repeat' (first | ((first | refine zs1 ?_ | refine zs2 ?_ | refine zs3 ?_ | refine zs4 ?_ | refine zs5 ?_); conv => whnf) | ((first | apply zi1 | apply zi2 | apply zi3 | apply zi4 | apply zi5) <;> intro _ <;> conv => whnf) | (refine VCall.intro (g2 _ _ rfl) ?_; conv => whnf))
              refine VMem.setRec encI_len u 0 Z2.1 rfl rfl rfl lu (by decide) rfl (by simp only [Nat.zero_add, Nat.mul_one]; omega) ?_
              conv => whnf
              repeat' (first | ((first | refine zs1 ?_ | refine zs2 ?_ | refine zs3 ?_ | refine zs4 ?_ | refine zs5 ?_); conv => whnf) | ((first | apply zi1 | apply zi2 | apply zi3 | apply zi4 | apply zi5) <;> intro _ <;> conv => whnf))
              refine zs6 [(1, 4)] ?_
              conv => whnf
              repeat' (first | ((first | refine zs1 ?_ | refine zs2 ?_ | refine zs3 ?_ | refine zs4 ?_ | refine zs5 ?_); conv => whnf) | ((first | apply zi1 | apply zi2 | apply zi3 | apply zi4 | apply zi5) <;> intro _ <;> conv => whnf) | (refine VCall.intro (g3 _ _ rfl) ?_; conv => whnf))
              refine VMem.setRec encI_len u 0 Z3.1 rfl rfl rfl lw (by decide) rfl (by simp only [Nat.zero_add, Nat.mul_one]; omega) ?_
              conv => whnf
              repeat' (first | ((first | refine zs1 ?_ | refine zs2 ?_ | refine zs3 ?_ | refine zs4 ?_ | refine zs5 ?_); conv => whnf) | ((first | apply zi1 | apply zi2 | apply zi3 | apply zi4 | apply zi5) <;> intro _ <;> conv => whnf))
              refine VCut.at' (outer := h.lift) (marks := []) 99 [(6, B false), (7, .fp (encN N)), (8, .ptr (.loc 0) 0), (9, I p), (10, sps S), (12, bds bs), (14, .fp [DI X.1, DI X.2]), (15, .fp [DI Y.1, DI Y.2]), (17, I k), (18, .fp (encPn T)), (19, .fp [DI r.N, DI r.D]), (21, .fp (encPf P)), (79, I k), (30, .fp [.sl 1 P.bs.length ((P.bs.set u Z2.1).flatMap encI), .sl 1 P.ws.length ((P.ws.set u Z3.1).flatMap encI), DI P.t]), (245, I q)] [deckB cs Z3.2] ?_ ?_
              · conv => whnf
                refine Retell.turn ⟨[0], 4, [(1, ((P.bs.set u Z2.1).flatMap encI)), (2, ((P.ws.set u Z3.1).flatMap encI)), (3, [.sl 1 P.bs.length ((P.bs.set u Z2.1).flatMap encI), .sl 1 P.ws.length ((P.ws.set u Z3.1).flatMap encI), DI P.t])], []⟩ (TurnOk.mk' _ _ [(1, ((P.bs.set u Z2.1).flatMap encI)), (2, ((P.ws.set u Z3.1).flatMap encI)), (3, [.sl 1 P.bs.length ((P.bs.set u Z2.1).flatMap encI), .sl 1 P.ws.length ((P.ws.set u Z3.1).flatMap encI), DI P.t])] [] (OutOk.lift _) rfl (by decide) zb zr trivial rfl) zw zm
              have eP : vPf (chP P u Z2.1 Z3.1) = .agg [.fs 1 P.bs.length ((P.bs.set u Z2.1).flatMap encI), .fs 1 P.ws.length ((P.ws.set u Z3.1).flatMap encI), I P.t] := by
                unfold vPf chP ints
                simp only [List.length_set]
              rw [eP] at cC
              clear eP
              have hq1 : q + 1 ≤ 3 := by omega
              have hz3 : Z3.2.1 ≤ z.2.1 + 3 * (q + 1) := by omega
              clear y1 y2 y3 q1 q2 q3 hu g1 g2 g3 k1 k2 lu lw
              clear hn2 hm2 hn hm hp hln hrl hl hb1 hb2 h1 h2 h3 t1 t2 t3 t4 pl pe hbl hbsl cM c7 c8 c6 hbx hany fl fe hT
              rcases hE with (rfl | rfl) | ⟨rfl, ⟨w1, w2⟩, w3⟩
              · conv => whnf
                repeat' (first | ((first | refine zs1 ?_ | refine zs2 ?_ | refine zs3 ?_ | refine zs4 ?_ | refine zs5 ?_ | refine zs6 [] ?_); conv => whnf) | ((first | apply zi1 | apply zi2 | apply zi3 | apply zi4 | apply zi5) <;> intro _ <;> conv => whnf) | (refine VCall.intro (cC _) ?_; conv => whnf))
                all_goals try (exfalso; omega)
                all_goals refine LEnd.intro (q + 1, Z3.2) ⟨hq1, hz3⟩ (by dsimp only; omega) ?_
                all_goals conv => whnf
                all_goals refine Retell.turn ⟨[0], 2, [], []⟩ (TurnOk.mk' _ _ [] [] (OutOk.lift _) rfl (by decide) zb trivial trivial rfl) zw zm
              · conv => whnf
                repeat' (first | ((first | refine zs1 ?_ | refine zs2 ?_ | refine zs3 ?_ | refine zs4 ?_ | refine zs5 ?_ | refine zs6 [] ?_); conv => whnf) | ((first | apply zi1 | apply zi2 | apply zi3 | apply zi4 | apply zi5) <;> intro _ <;> conv => whnf) | (refine VCall.intro (cC _) ?_; conv => whnf))
                all_goals try (exfalso; omega)
                all_goals refine LEnd.intro (q + 1, Z3.2) ⟨hq1, hz3⟩ (by dsimp only; omega) ?_
                all_goals conv => whnf
                all_goals refine Retell.turn ⟨[0], 2, [], []⟩ (TurnOk.mk' _ _ [] [] (OutOk.lift _) rfl (by decide) zb trivial trivial rfl) zw zm
              · have m1 := Clip.mulb (x := R.N) (y := r.D) (A := 1000000000000) (B := 5000) (by omega) (by omega)
                have m2 := Clip.mulb (x := r.N) (y := R.D) (A := 1000000000) (B := 1000000) (by omega) (by omega)
                conv => whnf
                repeat' (first | ((first | refine zs1 ?_ | refine zs2 ?_ | refine zs3 ?_ | refine zs4 ?_ | refine zs5 ?_ | refine zs6 [] ?_); conv => whnf) | ((first | apply zi1 | apply zi2 | apply zi3 | apply zi4 | apply zi5) <;> intro _ <;> conv => whnf) | (refine VCall.intro (cC _) ?_; conv => whnf))
                all_goals try (exfalso; omega)
                all_goals refine LEnd.intro (q + 1, Z3.2) ⟨hq1, hz3⟩ (by dsimp only; omega) ?_
                all_goals conv => whnf
                all_goals refine Retell.turn ⟨[0], 2, [], []⟩ (TurnOk.mk' _ _ [] [] (OutOk.lift _) rfl (by decide) zb trivial trivial rfl) zw zm
            · conv => whnf
              repeat' (first | ((first | refine zs1 ?_ | refine zs2 ?_ | refine zs3 ?_ | refine zs4 ?_ | refine zs5 ?_ | refine zs6 [] ?_); conv => whnf) | ((first | apply zi1 | apply zi2 | apply zi3 | apply zi4 | apply zi5) <;> intro _ <;> conv => whnf))
              refine LEnd.intro (k + 1, D) ⟨by dsimp only; omega, by dsimp only; dsimp only at q3; omega⟩ (by dsimp only; omega) ?_
              conv => whnf
              refine Retell.turn ⟨[0], 1, [], []⟩ (TurnOk.mk' _ _ [] [] (OutOk.lift _) rfl (by decide) zb trivial trivial rfl) zw zm
    · conv => whnf
      repeat' (first | ((first | refine zs1 ?_ | refine zs2 ?_ | refine zs3 ?_ | refine zs4 ?_ | refine zs5 ?_ | refine zs6 [] ?_); conv => whnf) | ((first | apply zi1 | apply zi2 | apply zi3 | apply zi4 | apply zi5) <;> intro _ <;> conv => whnf) | (refine VCall.intro (vc_awake _) ?_; conv => whnf))
      exact VOut.same rfl
end Go.Proofs.Ytdlnjnfkbneibaa

open Go.Vm
namespace Go.Proofs.Ytdlnjnfkbneibaa
open Go.ChangeShapes Go.WideShapes Go.ChangeAt Go.RowKit

def dU (l : List Int) : D := .sl 1 l.length (l.flatMap encU)
theorem openU : OpenV Try.prog 55 dU := OpenV.slice Try.underlying55 (Opens.slice Try.underlying55 encU_len (by kernel_rfl) (by decide) (Opens.int Try.underlying5))
def d8b (n : {n : Int // 0 ≤ n ∧ n ≤ 255}) : D := .s (.int .u8 n.1)
theorem openV_u8 {P : Program} {t : TypeId} (ht : P.underlying t = some (.int .u8)) : OpenV P t d8b := by
  intro W base H en v dd ps hok ⟨fuel, ht2⟩
  obtain ⟨n, h2, _, hw⟩ := DataW.trod_int ht ht2
  have hb : 0 ≤ n ∧ n ≤ 255 := by
    have hw2 : (decide ((0 : Int) ≤ n) && decide (n ≤ (255 : Int))) = true := hw
    simpa using hw2
  unfold Value.okWide at hok
  rw [ht] at hok
  simp only [Cell.okWide, ht] at hok
  refine ⟨⟨n, hb⟩, ?_⟩
  cases v <;> simp [Cell.ok, ht] at hok
  simp [Value.cells] at h2
  simp only [d8b, DR, S.val]
  rw [h2.1, h2.2]
theorem open8b : OpenV Try.prog 5 d8b := openV_u8 Try.underlying5
end Go.Proofs.Ytdlnjnfkbneibaa

open Go.Vm
namespace Go.Proofs.Ytdlnjnfkbneibaa
open Go.ChangeShapes Go.WideShapes Go.ChangeAt Go.RowKit

theorem open8p : OpenAll Try.prog Try.f8.params.toList (fun x : List Int × List Int × {n : Int // 0 ≤ n ∧ n ≤ 255} × Unit => [dU x.1, dU x.2.1, d8b x.2.2.1]) := by
  rw [Try.params8]
  exact OpenAll.cons openU (OpenAll.cons openU (OpenAll.cons open8b (OpenAll.nil)))
set_option maxRecDepth 100000 in
theorem contract8 (H : Type) (enc : TypeId × Value → H) (W : World) (base : Nat) (args : Array Value) (ds gs : List (DataW H)) (before : List MemPlace)
    (hval : ∀ (j : Nat) t v, Try.f8.params[j]? = some t → args[j]? = some v → Value.okWide Try.prog W .any base t v)
    (hW : DataW.Whole enc Try.prog Try.f8.params.toList Rows.sightReachedSpec.vars false W args.toList ds gs before) :
    Calls Try.prog 8 args W fun e W' => ∃ v, e = .returned v ∧ Rows.sightReachedSpec.post enc Try.prog Try.f8 false true false false W args v W' := by
  refine contract_of_vc open8p (fun g => vc_SightReached g.1 g.2.1 g.2.2.1.1 g.2.2.1.2 Hp.bare) laidOut ?_ (tb := 4) (by kernel_rfl) Try.underlying4 rfl ?_ hval hW
  · rw [Try.params8]
    intro t ht
    simp only [List.mem_cons, List.not_mem_nil, or_false] at ht
    rcases ht with rfl | rfl | rfl
    all_goals exact ⟨by kernel_rfl, of_decide_eq_true (by kernel_rfl)⟩
  · intro H dd hl
    rw [Try.params8] at hl
    match dd, hl with
    | [d0, d1, d2], _ => rfl
set_option maxRecDepth 100000 in
theorem lifted8 (os : Os) (started : os.Started) (H : Type) (enc : TypeId × Value → H) :
    ReturnsInHanded {} Try.checked os 8 .any (Rows.sightReachedSpec.pre6 enc Try.prog Try.f8 Rows.sightReachedRow.domain false) (Rows.sightReachedSpec.post enc Try.prog Try.f8 false true false false) := by
  refine returnsInHanded_of_change (C := Try.checked) ownKn started (by kernel_rfl) Try.func8
    (ChangeSpec.witness6 (enc := enc) (C := Try.checked) false ⟨#[], #[.slice none 0 0, .slice none 0 0, .int .u8 0], []⟩ 8 (by kernel_rfl) (by kernel_rfl) (by kernel_rfl) (by kernel_rfl)) ?_
  intro W base args ds gs before hval hW _ _
  exact contract8 H enc W base args ds gs before hval hW
theorem sightReached_said : Rows.SightReachedSaid :=
  OpenClaim.holds_of_wide 8 Try.f8 rfl rfl rfl rfl rfl rfl rfl ⟨rfl, rfl, rfl, rfl, rfl⟩ rfl rfl rfl rfl rfl (by kernel_rfl) Try.func8 (by kernel_rfl)
    (of_decide_eq_true (by kernel_rfl)) (by unfold Func.isWrapper; first | (rw [if_pos (by decide +kernel)]; kernel_rfl) | (rw [if_neg (by decide +kernel)]; exact ⟨rfl, rfl⟩))
    (fun os started H enc _ => lifted8 os started H enc)
end Go.Proofs.Ytdlnjnfkbneibaa

