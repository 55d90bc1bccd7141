/- Part 4 of the proof that the law SilenceSmall is true: files with each number at its limits and one beyond, small files with all truths, and as many papers as there may be, and one more. No condition.. No condition. -/
import Derived.Test.YtolnajnlcdacmaaSm3
set_option linter.unusedVariables false
set_option linter.unusedSimpArgs false
open Go.Vm
namespace Go.Proofs.Ytolnajnlcdacmaa
set_option maxRecDepth 20000
set_option maxHeartbeats 4000000

def vGone (f : Fil) : V := .tuple [.fm (keysE (gone f).1) (valsE (gone f).1), ends (gone f).2]
structure GJ (o : Vm.Id → Option Blk) (s : AL × List End) (g : Hp) : Prop where
  o : g.outer = o
  c : g.get (.loc 0) = some (.cells true [.map (.loc 1)])
  mp : g.get (.loc 1) = some (.map (esE s.1))
  li : ∃ m, (m = 3 ∨ 6 ≤ m) ∧ g.get (.loc 2) = some (.cells true [.gl (.loc m) 5 s.2.length]) ∧ g.get (.loc m) = some (.flat true (s.2.flatMap encE))
  mar : g.get (.loc 4) = some .mark
theorem isE_go {f : Fil} {i : Nat} {p : Pap} {was : End} {y : Int} (h : 0 < i ∧ sdAt f i = sdAt f (i - 1) ∧ y - was.year ≤ f.G) :
    isE f i p was y = bif decide (¬ was.first = -1 ∧ f.Y ≤ y - was.first) then ⟨i, y, -1, p.side, y⟩ else ⟨i, y, was.first, was.side, was.since⟩ := by
  unfold isE goesB
  rw [decide_eq_true h]; rfl
theorem isE_no {f : Fil} {i : Nat} {p : Pap} {was : End} {y : Int} (h : ¬ (0 < i ∧ sdAt f i = sdAt f (i - 1) ∧ y - was.year ≤ f.G)) :
    isE f i p was y = bif decide (¬ y = -1 ∧ f.Y ≤ y - y) then ⟨i, y, -1, p.side, y⟩ else ⟨i, y, y, was.side, was.since⟩ := by
  unfold isE goesB
  rw [decide_eq_false h]; rfl
theorem upd_ok {g : Hp} {m : Nat} {a2 b2 : AL} {n2 : List End} {b : Blk} (jb : g.get (.loc 2) = some (.cells true [.gl (.loc m) 5 n2.length])) (jm : g.get (.loc 1) = some (.map (esE a2))) (jl : g.get (.loc m) = some (.flat true (n2.flatMap encE))) :
    ∀ p ∈ [(Vm.Id.loc 1, Blk.map (esE b2)), (.loc m, .dead), (.loc 2, b)], g.get p.1 ≠ none := by
  intro p hp
  simp only [List.mem_cons, List.not_mem_nil, or_false] at hp
  rcases hp with rfl | rfl | rfl <;> simp only
  · rw [jm]; simp
  · rw [jl]; simp
  · rw [jb]; simp
theorem GJ.step {o : Vm.Id → Option Blk} {a2 : AL} {n2 : List End} {E was : End} {g : Hp} {m : Nat} (jo : g.outer = o) (jc : g.get (.loc 0) = some (.cells true [.map (.loc 1)])) (jm : g.get (.loc 1) = some (.map (esE a2)))
    (jb : g.get (.loc 2) = some (.cells true [.gl (.loc m) 5 n2.length])) (jl : g.get (.loc m) = some (.flat true (n2.flatMap encE))) (jk : g.get (.loc 4) = some .mark) (hm : m = 3 ∨ 6 ≤ m) {b5 : Blk} (j5 : g.get (.loc 5) = some b5) :
    g.grows ((g.sets [(.loc 1, .map (esE (a2 ++ [(E, was)]))), (.loc m, .dead), (.loc 2, .cells true [.gl g.fresh 5 (n2.length + 1)])]).pushes [.flat true ((n2 ++ [E]).flatMap encE)]) ∧
    GJ o (a2 ++ [(E, was)], n2 ++ [E]) ((g.sets [(.loc 1, .map (esE (a2 ++ [(E, was)]))), (.loc m, .dead), (.loc 2, .cells true [.gl g.fresh 5 (n2.length + 1)])]).pushes [.flat true ((n2 ++ [E]).flatMap encE)]) ∧
    ∀ b, g.get (.loc 5) = some b → ((g.sets [(.loc 1, .map (esE (a2 ++ [(E, was)]))), (.loc m, .dead), (.loc 2, .cells true [.gl g.fresh 5 (n2.length + 1)])]).pushes [.flat true ((n2 ++ [E]).flatMap encE)]).get (.loc 5) = some b := by
  obtain ⟨go, gl⟩ := g
  simp only [Hp.get] at jc jm jb jl jk j5
  have l5 := (List.getElem?_eq_some_iff.1 j5).1
  have l0 := (List.getElem?_eq_some_iff.1 jc).1
  have l1 := (List.getElem?_eq_some_iff.1 jm).1
  have l2 := (List.getElem?_eq_some_iff.1 jb).1
  have l4 := (List.getElem?_eq_some_iff.1 jk).1
  have key : ∀ x, x < gl.length → x ≠ 1 → x ≠ m → x ≠ 2 → ∀ (A B C N : Blk), ((((gl.set 1 A).set m B).set 2 C) ++ [N])[x]? = gl[x]? := by
    intro x hx h1 h2 h3 A B C N
    rw [List.getElem?_append_left (by simpa using hx), List.getElem?_set_ne (Ne.symm h3), List.getElem?_set_ne (Ne.symm h2), List.getElem?_set_ne (Ne.symm h1)]
  refine ⟨Hp.grows_sets (upd_ok (g := ⟨go, gl⟩) jb jm jl), ⟨jo, ?_, ?_, ⟨gl.length, .inr (by omega), ?_, ?_⟩, ?_⟩, fun b hb => ?_⟩
  · show (_ ++ _)[_]? = _
    exact (key 0 l0 (by omega) (by omega) (by omega) _ _ _ _).trans jc
  · show ((((gl.set 1 _).set m _).set 2 _) ++ [_])[1]? = _
    rw [List.getElem?_append_left (by simpa using l1), List.getElem?_set_ne (show (2 : Nat) ≠ 1 by omega), List.getElem?_set_ne (show m ≠ 1 by omega), List.getElem?_set_self l1]
  · show ((((gl.set 1 _).set m _).set 2 _) ++ [_])[2]? = _
    rw [List.getElem?_append_left (by simpa using l2), List.getElem?_set_self (by simpa using l2)]
    simp [Hp.fresh]
  · show ((((gl.set 1 _).set m _).set 2 _) ++ [_])[gl.length]? = _
    rw [List.getElem?_append_right (by simp)]
    simp
  · show (_ ++ _)[_]? = _
    exact (key 4 l4 (by omega) (by omega) (by omega) _ _ _ _).trans jk
  · have hb : gl[5]? = some b := hb
    show (_ ++ _)[_]? = _
    exact (key 5 (List.getElem?_eq_some_iff.1 hb).1 (by omega) (by omega) (by omega) _ _ _ _).trans hb
theorem blt_of {a b : Nat} (h : a < b) : Nat.blt a b = true := Nat.ble_eq_true_of_le h
theorem outer_fix {o : Vm.Id → Option Blk} {iy i1 i2 i3 : Vm.Id} {b0 b b1 b2 b3 : Blk} (h : o iy = some b) (n1 : iy ≠ i1) (n2 : iy ≠ i2) (n3 : iy ≠ i3) : outW (outW (outW (outW (outW o iy b0) i1 b1) i2 b2) i3 b3) iy b = outW (outW (outW o i1 b1) i2 b2) i3 b3 := by
  funext j
  unfold outW
  by_cases e : j = iy
  · subst e; rw [if_pos rfl, if_neg n3, if_neg n2, if_neg n1, h]
  · rw [if_neg e, if_neg e]
theorem VOut.back {h : Hp} {loc : List Blk} {iy : Vm.Id} {b0 b : Blk} {r1 r : V} (hb : h.lift iy = some b) (hr : r1 = r.ren .out) : VOut h ⟨outW (outW h.lift iy b0) iy b, loc⟩ r1 r h := by
  rw [outW_same, ← outW_id hb]
  exact VOut.same hr
theorem vc_gone (f : Fil) (h : Hp) (hc : chk f = 0) : VC Try.prog 54 [vF f] h (vGone f) h := by
  have hpok := chk_pok hc
  obtain ⟨hY1, hY2, hn16, _⟩ := chk_zero hc
  obtain ⟨R, hR⟩ : ∃ R, R = gone f := ⟨_, rfl⟩
  unfold vGone
  rw [← hR]
  refine VC.body Try.func54 rfl Try.ntmps54 Try.call54 (h.grows_refl) rfl ?_; conv => whnf
  repeat (first | ((first | refine zs1 ?_ | refine zs2 ?_ | refine zs3 ?_ | refine zs4 ?_ | refine zs5 ?_ | refine zs6 [] ?_); conv => whnf))
  refine VCode.lp (fun x : Nat × AL × List End => [(1, .fp (encF f)), (5, .ptr (.loc 0) 0), (6, ends x.2.2), (21, paps f.ps), (22, I f.ps.length), (23, I x.1)]) (fun x => [.cells true [.map (.loc 1)], .map (esE x.2.1)])
    (fun x => x.1 ≤ f.ps.length ∧ R = gP f (f.ps.drop x.1) x.1 x.2 ∧ (∀ e ∈ x.2.2, EOk e) ∧ x.2.2.length ≤ 108108024) (fun x => f.ps.length - x.1) (0, [], [beg]) ⟨Nat.zero_le _, hR, by simp [EOk.beg], by simp⟩ ?_ ?_
  · conv => whnf
    refine Retell.turn ⟨[3,2], 5, [(0, encF f), (4, [beg].flatMap encE)], []⟩ (TurnOk.mk' _ _ [(0, encF f), (4, [beg].flatMap encE)] [] (OutOk.lift _) rfl (by decide) zb zf trivial rfl) zv zm
  · rintro ⟨i, a, now⟩ ⟨hi, hRi, hok, hnl⟩
    dsimp only at hi hRi hok hnl
    conv => whnf
    refine VIte.dec (fun h3 => ?_) (fun h3 => ?_)
    · have hp : f.ps[i]? = some f.ps[i] := List.getElem?_eq_getElem (by omega)
      have hpk := hpok f.ps[i] (List.getElem_mem (by omega))
      rw [gP_at hp] at hRi
      generalize f.ps[i] = p at hp hpk hRi
      obtain ⟨W, hW⟩ : ∃ W, W = now.foldl (gW f i p) (a, []) := ⟨_, rfl⟩
      rw [← hW] at hRi
      conv => whnf
      repeat' (first | ((first | refine zs1 ?_ | refine zs2 ?_ | refine zs3 ?_ | refine zs4 ?_ | refine zs5 ?_ | refine zs6 [] ?_); conv => whnf) | ((first | apply zi1 | apply zi2 | apply zi3 | apply zi4 | apply zi5) <;> intro _ <;> conv => whnf) | (refine VAny.ix encP_len i rfl rfl hp ?_; conv => whnf))
      refine VCode.lp (fun x : Nat × AL × List End => [(1, .fp (encF f)), (5, .ptr (.loc 0) 0), (7, .fp [DI i]), (8, .fp (encP p)), (9, .ptr (.loc 2) 0), (21, paps f.ps), (22, I f.ps.length), (23, I i), (28, ends now), (29, I now.length), (30, I x.1)])
        (fun x => [.cells true [.map (.loc 1)], .map (esE x.2.1), .cells true [.gl (.loc 3) 5 x.2.2.length], .flat true (x.2.2.flatMap encE)])
        (fun x => x.1 ≤ now.length ∧ W = (now.drop x.1).foldl (gW f i p) x.2 ∧ GI i p x.2) (fun x => now.length - x.1) (0, a, []) ⟨Nat.zero_le _, hW, by constructor <;> simp⟩ ?_ ?_
      · conv => whnf
        refine Retell.turn ⟨[0,1,4,5], 5, [(2, [DI i]), (3, encP p)], []⟩ (TurnOk.mk' _ _ [(2, [DI i]), (3, encP p)] [] (OutOk.lift _) rfl (by decide) zb zf trivial rfl) zv zm
      · rintro ⟨j, a1, nx⟩ ⟨hj, hWj, hgi⟩
        dsimp only at hj hWj
        conv => whnf
        refine VIte.dec (fun h5 => ?_) (fun h5 => ?_)
        · have hw : now[j]? = some now[j] := List.getElem?_eq_getElem (by omega)
          have hwk := hok now[j] (List.getElem_mem (by omega))
          rw [gW_at hw] at hWj
          generalize now[j] = was at hw hwk hWj
          conv => whnf
          repeat' (first | ((first | refine zs1 ?_ | refine zs2 ?_ | refine zs3 ?_ | refine zs4 ?_ | refine zs5 ?_ | refine zs6 [] ?_); conv => whnf) | ((first | apply zi1 | apply zi2 | apply zi3 | apply zi4 | apply zi5) <;> intro _ <;> conv => whnf) | (refine VAny.ix encE_len j rfl rfl hw ?_; conv => whnf) | (refine VCall.intro (vc_years p _) ?_; conv => whnf))
          refine VCode.tell [(1, .fp (encF f)), (5, .ptr (.loc 0) 0), (7, .fp [DI i]), (8, .fp (encP p)), (9, .ptr (.loc 2) 0), (11, .fp (encE was)), (21, paps f.ps), (22, I f.ps.length), (23, I i), (28, ends now), (29, I now.length), (30, I j), (35, .func (.func 91) [] [.fp (encP p)])]
            [.cells true [.map (.loc 1)], .map (esE a1), .cells true [.gl (.loc 3) 5 nx.length], .flat true (nx.flatMap encE)] (marks' := []) ?_ ?_
          · conv => whnf
            refine Retell.turn ⟨[0,1,2,3], 5, [(4, encE was)], []⟩ (TurnOk.mk' _ _ [(4, encE was)] [] (OutOk.lift _) rfl (by decide) zb zf trivial rfl) zv zm
          · conv => whnf
            obtain ⟨p1, p2, p3, p4, p5⟩ := hpk
            obtain ⟨w1, w2, w3, w4⟩ := hwk
            refine VCode.iter (p.hi - p.lo + 1).toNat (fun k => I (p.lo + k)) (fun k g => GJ h.lift (gYs f i p was (a1, nx) k) g) _ (.loc 5) rfl (vc_years1 p (by omega) (by omega)) rfl rfl rfl (by decide) ?_ ?_ ?_
            · exact ⟨rfl, rfl, rfl, ⟨3, .inl rfl, rfl, rfl⟩, rfl⟩
            · intro k g hk hJ hl
              have hgk := GI.gYs (was := was) (f := f) hgi p1 ⟨w1, w2, w3, w4⟩ p2 p3 p5 k (by omega)
              obtain ⟨E, hE⟩ : ∃ E, E = isE f i p was (p.lo + k) := ⟨_, rfl⟩
              have hnext : gYs f i p was (a1, nx) (k + 1) = bif hasK (gYs f i p was (a1, nx) k).1 E then gYs f i p was (a1, nx) k else ((gYs f i p was (a1, nx) k).1 ++ [(E, was)], (gYs f i p was (a1, nx) k).2 ++ [E]) := by rw [gYs, gY, hE]
              rw [hnext]
              generalize gYs f i p was (a1, nx) k = s at hJ hgk
              obtain ⟨a2, n2⟩ := s
              obtain ⟨y, hy⟩ : ∃ y, y = p.lo + k := ⟨_, rfl⟩
              dsimp only
              rw [← hy] at hE ⊢
              have hyb : 0 ≤ y ∧ y ≤ 3000 := by omega
              obtain ⟨jo, jc, jm, ⟨m, hm, jb, jl⟩, jk⟩ := hJ
              dsimp only at jb jl jm
              have hlen := hgk.len
              dsimp only at hlen
              have hm1 : Vm.Id.loc m ≠ .loc 1 := by intro h0; injection h0; omega
              have hm2 : Vm.Id.loc 2 ≠ .loc m := by intro h0; injection h0; omega
              have hm5 : Vm.Id.loc m ≠ .loc 5 := by intro h0; injection h0; omega
              have hm5' : Vm.Id.loc 5 ≠ .loc m := fun h0 => hm5 h0.symm
              cases hk2 : hasK a2 E
              · obtain ⟨s1, s2, s3⟩ := GJ.step (E := E) (was := was) jo jc jm jb jl jk hm hl
                refine ⟨_, s1, s2, s3 _ hl, fun l => ?_⟩
                refine VRound.tell [(1, .fp (encF f)), (5, .ptr (.out (.loc 0)) 0), (7, .fp [DI i]), (8, .fp (encP p)), (9, .ptr (.out (.loc 2)) 0), (11, .fp (encE was)), (36, I y)] ?_ ?_
                · conv => whnf
                  refine Retell.turn ⟨[], 0, [], []⟩ (TurnOk.mk' _ _ [] [] (OutOk.lift _) rfl (by decide) zb trivial trivial rfl) zv zm
                · conv => whnf
                  refine VBegin.intro (get_out hl _) rfl ?_
                  conv => whnf
                  repeat' (first | ((first | refine zs1 ?_ | refine zs2 ?_ | refine zs3 ?_ | refine zs4 ?_ | refine zs5 ?_ | refine zs6 [] ?_); conv => whnf) | ((first | apply zi1 | apply zi2 | apply zi3 | apply zi4 | apply zi5) <;> intro _ <;> conv => whnf) | (refine VCall.intro (vc_goes f i y was.year _ (by omega) (by omega) (by omega) (by omega)) ?_; conv => whnf))
                  · rename_i x1 x2 x3
                    rw [isE_go x1, decide_eq_true ⟨x2, x3⟩] at hE
                    dsimp only [cond_true, cond_false] at hE
                    subst hE
                    have hag : alGet a2 ⟨(i : Int), y, -1, p.side, y⟩ = none := by
                      have := hk2; rw [hasK_get] at this
                      cases hz : alGet a2 ⟨(i : Int), y, -1, p.side, y⟩ with
                      | none => rfl
                      | some v => rw [hz] at this; cases this
                    refine VLd.cell rfl rfl (get_setO (by decide) jc _) rfl ?_
                    conv => whnf
                    repeat (first | ((first | refine zs1 ?_ | refine zs2 ?_ | refine zs3 ?_ | refine zs4 ?_ | refine zs5 ?_ | refine zs6 [] ?_); conv => whnf))
                    refine VLook.intro (es := esE a2) ((get_setO (by decide) jm _).trans (by rw [esE_ren])) (look_esE a2 ⟨(i : Int), y, -1, p.side, y⟩) ?_
                    rw [hag]
                    conv => whnf
                    repeat (first | ((first | refine zs1 ?_ | refine zs2 ?_ | refine zs3 ?_ | refine zs4 ?_ | refine zs5 ?_ | refine zs6 [] ?_); conv => whnf))
                    refine VLd.cell rfl rfl (get_setO (by decide) jc _) rfl ?_
                    conv => whnf
                    repeat (first | ((first | refine zs1 ?_ | refine zs2 ?_ | refine zs3 ?_ | refine zs4 ?_ | refine zs5 ?_ | refine zs6 [] ?_); conv => whnf))
                    refine VMem.newE (a := a2) (e := ⟨(i : Int), y, -1, p.side, y⟩) (v := was) ((get_setO (by decide) jm _).trans (by rw [esE_ren])) hk2 ?_
                    conv => whnf
                    refine VLd.cell rfl rfl (get_outNe (by decide) (get_setO (by decide) jb _)) rfl ?_
                    conv => whnf
                    repeat (first | ((first | refine zs1 ?_ | refine zs2 ?_ | refine zs3 ?_ | refine zs4 ?_ | refine zs5 ?_ | refine zs6 [] ?_); conv => whnf))
                    refine VMem.app1B (α := End) (l := n2) ⟨(i : Int), y, -1, p.side, y⟩ encE_len rfl (get_outNe hm1 (get_setO hm5 jl _)) rfl rfl rfl (by omega) ?_
                    conv => whnf
                    repeat (first | ((first | refine zs1 ?_ | refine zs2 ?_ | refine zs3 ?_ | refine zs4 ?_ | refine zs5 ?_ | refine zs6 [] ?_); conv => whnf))
                    refine VMem.st1 rfl rfl rfl (b := .cells true [.gl (.out (.loc m)) 5 n2.length]) (get_outNe hm2 (get_outNe (by decide) (get_setO (by decide) jb _))) rfl ?_
                    conv => whnf
                    refine RFin.on (get_outNe (by decide) (get_outNe hm5' (get_outNe (by decide) (outW_get _ _ _ _)))) ?_
                    refine VOut.upd [(.loc 1, .map (esE (a2 ++ [(⟨(i : Int), y, -1, p.side, y⟩, was)]))), (.loc m, .dead), (.loc 2, .cells true [.gl g.fresh 5 (n2.length + 1)])] [.flat true ((n2 ++ ([⟨(i : Int), y, -1, p.side, y⟩] : List End)).flatMap encE)] [3] 4 ?_ (upd_ok jb jm jl) ?_ ?_ ?_ ?_ ?_
                    · rfl
                    · decide
                    · rfl
                    · intro k b hk
                      cases k with
                      | zero => rw [List.getElem?_cons_zero, Option.some.injEq] at hk; subst hk; exact ⟨3, rfl, rfl⟩
                      | succ k => simp at hk
                    · intro σ x hx; exact hx
                    · have e1 : (Blk.cells true [V.gl g.fresh 5 (n2.length + 1)]).ren (backR g.loc.length [3] 4) = .cells true [.gl (.loc 3) 5 (n2.length + 1)] := by simp [Blk.ren, V.ren, backR, Hp.fresh]
                      simp only [List.map_cons, List.map_nil, e1, esE_ren]
                      exact outer_fix (get_out hl []) (by decide) hm5' (by decide)
                  · rename_i x1 x2 x3
                    rw [isE_go x1, decide_eq_false (fun hh => x3 hh.2)] at hE
                    dsimp only [cond_true, cond_false] at hE
                    subst hE
                    have hag : alGet a2 ⟨(i : Int), y, was.first, was.side, was.since⟩ = none := by
                      have := hk2; rw [hasK_get] at this
                      cases hz : alGet a2 ⟨(i : Int), y, was.first, was.side, was.since⟩ with
                      | none => rfl
                      | some v => rw [hz] at this; cases this
                    refine VLd.cell rfl rfl (get_setO (by decide) jc _) rfl ?_
                    conv => whnf
                    repeat (first | ((first | refine zs1 ?_ | refine zs2 ?_ | refine zs3 ?_ | refine zs4 ?_ | refine zs5 ?_ | refine zs6 [] ?_); conv => whnf))
                    refine VLook.intro (es := esE a2) ((get_setO (by decide) jm _).trans (by rw [esE_ren])) (look_esE a2 ⟨(i : Int), y, was.first, was.side, was.since⟩) ?_
                    rw [hag]
                    conv => whnf
                    repeat (first | ((first | refine zs1 ?_ | refine zs2 ?_ | refine zs3 ?_ | refine zs4 ?_ | refine zs5 ?_ | refine zs6 [] ?_); conv => whnf))
                    refine VLd.cell rfl rfl (get_setO (by decide) jc _) rfl ?_
                    conv => whnf
                    repeat (first | ((first | refine zs1 ?_ | refine zs2 ?_ | refine zs3 ?_ | refine zs4 ?_ | refine zs5 ?_ | refine zs6 [] ?_); conv => whnf))
                    refine VMem.newE (a := a2) (e := ⟨(i : Int), y, was.first, was.side, was.since⟩) (v := was) ((get_setO (by decide) jm _).trans (by rw [esE_ren])) hk2 ?_
                    conv => whnf
                    refine VLd.cell rfl rfl (get_outNe (by decide) (get_setO (by decide) jb _)) rfl ?_
                    conv => whnf
                    repeat (first | ((first | refine zs1 ?_ | refine zs2 ?_ | refine zs3 ?_ | refine zs4 ?_ | refine zs5 ?_ | refine zs6 [] ?_); conv => whnf))
                    refine VMem.app1B (α := End) (l := n2) ⟨(i : Int), y, was.first, was.side, was.since⟩ encE_len rfl (get_outNe hm1 (get_setO hm5 jl _)) rfl rfl rfl (by omega) ?_
                    conv => whnf
                    repeat (first | ((first | refine zs1 ?_ | refine zs2 ?_ | refine zs3 ?_ | refine zs4 ?_ | refine zs5 ?_ | refine zs6 [] ?_); conv => whnf))
                    refine VMem.st1 rfl rfl rfl (b := .cells true [.gl (.out (.loc m)) 5 n2.length]) (get_outNe hm2 (get_outNe (by decide) (get_setO (by decide) jb _))) rfl ?_
                    conv => whnf
                    refine RFin.on (get_outNe (by decide) (get_outNe hm5' (get_outNe (by decide) (outW_get _ _ _ _)))) ?_
                    refine VOut.upd [(.loc 1, .map (esE (a2 ++ [(⟨(i : Int), y, was.first, was.side, was.since⟩, was)]))), (.loc m, .dead), (.loc 2, .cells true [.gl g.fresh 5 (n2.length + 1)])] [.flat true ((n2 ++ ([⟨(i : Int), y, was.first, was.side, was.since⟩] : List End)).flatMap encE)] [3] 4 ?_ (upd_ok jb jm jl) ?_ ?_ ?_ ?_ ?_
                    · rfl
                    · decide
                    · rfl
                    · intro k b hk
                      cases k with
                      | zero => rw [List.getElem?_cons_zero, Option.some.injEq] at hk; subst hk; exact ⟨3, rfl, rfl⟩
                      | succ k => simp at hk
                    · intro σ x hx; exact hx
                    · have e1 : (Blk.cells true [V.gl g.fresh 5 (n2.length + 1)]).ren (backR g.loc.length [3] 4) = .cells true [.gl (.loc 3) 5 (n2.length + 1)] := by simp [Blk.ren, V.ren, backR, Hp.fresh]
                      simp only [List.map_cons, List.map_nil, e1, esE_ren]
                      exact outer_fix (get_out hl []) (by decide) hm5' (by decide)
                  · rename_i x1 x2
                    rw [isE_go x1, decide_eq_false (fun hh => hh.1 x2)] at hE
                    dsimp only [cond_true, cond_false] at hE
                    subst hE
                    have hag : alGet a2 ⟨(i : Int), y, was.first, was.side, was.since⟩ = none := by
                      have := hk2; rw [hasK_get] at this
                      cases hz : alGet a2 ⟨(i : Int), y, was.first, was.side, was.since⟩ with
                      | none => rfl
                      | some v => rw [hz] at this; cases this
                    refine VLd.cell rfl rfl (get_setO (by decide) jc _) rfl ?_
                    conv => whnf
                    repeat (first | ((first | refine zs1 ?_ | refine zs2 ?_ | refine zs3 ?_ | refine zs4 ?_ | refine zs5 ?_ | refine zs6 [] ?_); conv => whnf))
                    refine VLook.intro (es := esE a2) ((get_setO (by decide) jm _).trans (by rw [esE_ren])) (look_esE a2 ⟨(i : Int), y, was.first, was.side, was.since⟩) ?_
                    rw [hag]
                    conv => whnf
                    repeat (first | ((first | refine zs1 ?_ | refine zs2 ?_ | refine zs3 ?_ | refine zs4 ?_ | refine zs5 ?_ | refine zs6 [] ?_); conv => whnf))
                    refine VLd.cell rfl rfl (get_setO (by decide) jc _) rfl ?_
                    conv => whnf
                    repeat (first | ((first | refine zs1 ?_ | refine zs2 ?_ | refine zs3 ?_ | refine zs4 ?_ | refine zs5 ?_ | refine zs6 [] ?_); conv => whnf))
                    refine VMem.newE (a := a2) (e := ⟨(i : Int), y, was.first, was.side, was.since⟩) (v := was) ((get_setO (by decide) jm _).trans (by rw [esE_ren])) hk2 ?_
                    conv => whnf
                    refine VLd.cell rfl rfl (get_outNe (by decide) (get_setO (by decide) jb _)) rfl ?_
                    conv => whnf
                    repeat (first | ((first | refine zs1 ?_ | refine zs2 ?_ | refine zs3 ?_ | refine zs4 ?_ | refine zs5 ?_ | refine zs6 [] ?_); conv => whnf))
                    refine VMem.app1B (α := End) (l := n2) ⟨(i : Int), y, was.first, was.side, was.since⟩ encE_len rfl (get_outNe hm1 (get_setO hm5 jl _)) rfl rfl rfl (by omega) ?_
                    conv => whnf
                    repeat (first | ((first | refine zs1 ?_ | refine zs2 ?_ | refine zs3 ?_ | refine zs4 ?_ | refine zs5 ?_ | refine zs6 [] ?_); conv => whnf))
                    refine VMem.st1 rfl rfl rfl (b := .cells true [.gl (.out (.loc m)) 5 n2.length]) (get_outNe hm2 (get_outNe (by decide) (get_setO (by decide) jb _))) rfl ?_
                    conv => whnf
                    refine RFin.on (get_outNe (by decide) (get_outNe hm5' (get_outNe (by decide) (outW_get _ _ _ _)))) ?_
                    refine VOut.upd [(.loc 1, .map (esE (a2 ++ [(⟨(i : Int), y, was.first, was.side, was.since⟩, was)]))), (.loc m, .dead), (.loc 2, .cells true [.gl g.fresh 5 (n2.length + 1)])] [.flat true ((n2 ++ ([⟨(i : Int), y, was.first, was.side, was.since⟩] : List End)).flatMap encE)] [3] 4 ?_ (upd_ok jb jm jl) ?_ ?_ ?_ ?_ ?_
                    · rfl
                    · decide
                    · rfl
                    · intro k b hk
                      cases k with
                      | zero => rw [List.getElem?_cons_zero, Option.some.injEq] at hk; subst hk; exact ⟨3, rfl, rfl⟩
                      | succ k => simp at hk
                    · intro σ x hx; exact hx
                    · have e1 : (Blk.cells true [V.gl g.fresh 5 (n2.length + 1)]).ren (backR g.loc.length [3] 4) = .cells true [.gl (.loc 3) 5 (n2.length + 1)] := by simp [Blk.ren, V.ren, backR, Hp.fresh]
                      simp only [List.map_cons, List.map_nil, e1, esE_ren]
                      exact outer_fix (get_out hl []) (by decide) hm5' (by decide)
                  · rename_i x1 x2 x3
                    rw [isE_no x1, decide_eq_true ⟨x2, x3⟩] at hE
                    dsimp only [cond_true, cond_false] at hE
                    subst hE
                    have hag : alGet a2 ⟨(i : Int), y, -1, p.side, y⟩ = none := by
                      have := hk2; rw [hasK_get] at this
                      cases hz : alGet a2 ⟨(i : Int), y, -1, p.side, y⟩ with
                      | none => rfl
                      | some v => rw [hz] at this; cases this
                    refine VLd.cell rfl rfl (get_setO (by decide) jc _) rfl ?_
                    conv => whnf
                    repeat (first | ((first | refine zs1 ?_ | refine zs2 ?_ | refine zs3 ?_ | refine zs4 ?_ | refine zs5 ?_ | refine zs6 [] ?_); conv => whnf))
                    refine VLook.intro (es := esE a2) ((get_setO (by decide) jm _).trans (by rw [esE_ren])) (look_esE a2 ⟨(i : Int), y, -1, p.side, y⟩) ?_
                    rw [hag]
                    conv => whnf
                    repeat (first | ((first | refine zs1 ?_ | refine zs2 ?_ | refine zs3 ?_ | refine zs4 ?_ | refine zs5 ?_ | refine zs6 [] ?_); conv => whnf))
                    refine VLd.cell rfl rfl (get_setO (by decide) jc _) rfl ?_
                    conv => whnf
                    repeat (first | ((first | refine zs1 ?_ | refine zs2 ?_ | refine zs3 ?_ | refine zs4 ?_ | refine zs5 ?_ | refine zs6 [] ?_); conv => whnf))
                    refine VMem.newE (a := a2) (e := ⟨(i : Int), y, -1, p.side, y⟩) (v := was) ((get_setO (by decide) jm _).trans (by rw [esE_ren])) hk2 ?_
                    conv => whnf
                    refine VLd.cell rfl rfl (get_outNe (by decide) (get_setO (by decide) jb _)) rfl ?_
                    conv => whnf
                    repeat (first | ((first | refine zs1 ?_ | refine zs2 ?_ | refine zs3 ?_ | refine zs4 ?_ | refine zs5 ?_ | refine zs6 [] ?_); conv => whnf))
                    refine VMem.app1B (α := End) (l := n2) ⟨(i : Int), y, -1, p.side, y⟩ encE_len rfl (get_outNe hm1 (get_setO hm5 jl _)) rfl rfl rfl (by omega) ?_
                    conv => whnf
                    repeat (first | ((first | refine zs1 ?_ | refine zs2 ?_ | refine zs3 ?_ | refine zs4 ?_ | refine zs5 ?_ | refine zs6 [] ?_); conv => whnf))
                    refine VMem.st1 rfl rfl rfl (b := .cells true [.gl (.out (.loc m)) 5 n2.length]) (get_outNe hm2 (get_outNe (by decide) (get_setO (by decide) jb _))) rfl ?_
                    conv => whnf
                    refine RFin.on (get_outNe (by decide) (get_outNe hm5' (get_outNe (by decide) (outW_get _ _ _ _)))) ?_
                    refine VOut.upd [(.loc 1, .map (esE (a2 ++ [(⟨(i : Int), y, -1, p.side, y⟩, was)]))), (.loc m, .dead), (.loc 2, .cells true [.gl g.fresh 5 (n2.length + 1)])] [.flat true ((n2 ++ ([⟨(i : Int), y, -1, p.side, y⟩] : List End)).flatMap encE)] [3] 4 ?_ (upd_ok jb jm jl) ?_ ?_ ?_ ?_ ?_
                    · rfl
                    · decide
                    · rfl
                    · intro k b hk
                      cases k with
                      | zero => rw [List.getElem?_cons_zero, Option.some.injEq] at hk; subst hk; exact ⟨3, rfl, rfl⟩
                      | succ k => simp at hk
                    · intro σ x hx; exact hx
                    · have e1 : (Blk.cells true [V.gl g.fresh 5 (n2.length + 1)]).ren (backR g.loc.length [3] 4) = .cells true [.gl (.loc 3) 5 (n2.length + 1)] := by simp [Blk.ren, V.ren, backR, Hp.fresh]
                      simp only [List.map_cons, List.map_nil, e1, esE_ren]
                      exact outer_fix (get_out hl []) (by decide) hm5' (by decide)
                  · rename_i x1 x2 x3
                    rw [isE_no x1, decide_eq_false (fun hh => x3 hh.2)] at hE
                    dsimp only [cond_true, cond_false] at hE
                    subst hE
                    have hag : alGet a2 ⟨(i : Int), y, y, was.side, was.since⟩ = none := by
                      have := hk2; rw [hasK_get] at this
                      cases hz : alGet a2 ⟨(i : Int), y, y, was.side, was.since⟩ with
                      | none => rfl
                      | some v => rw [hz] at this; cases this
                    refine VLd.cell rfl rfl (get_setO (by decide) jc _) rfl ?_
                    conv => whnf
                    repeat (first | ((first | refine zs1 ?_ | refine zs2 ?_ | refine zs3 ?_ | refine zs4 ?_ | refine zs5 ?_ | refine zs6 [] ?_); conv => whnf))
                    refine VLook.intro (es := esE a2) ((get_setO (by decide) jm _).trans (by rw [esE_ren])) (look_esE a2 ⟨(i : Int), y, y, was.side, was.since⟩) ?_
                    rw [hag]
                    conv => whnf
                    repeat (first | ((first | refine zs1 ?_ | refine zs2 ?_ | refine zs3 ?_ | refine zs4 ?_ | refine zs5 ?_ | refine zs6 [] ?_); conv => whnf))
                    refine VLd.cell rfl rfl (get_setO (by decide) jc _) rfl ?_
                    conv => whnf
                    repeat (first | ((first | refine zs1 ?_ | refine zs2 ?_ | refine zs3 ?_ | refine zs4 ?_ | refine zs5 ?_ | refine zs6 [] ?_); conv => whnf))
                    refine VMem.newE (a := a2) (e := ⟨(i : Int), y, y, was.side, was.since⟩) (v := was) ((get_setO (by decide) jm _).trans (by rw [esE_ren])) hk2 ?_
                    conv => whnf
                    refine VLd.cell rfl rfl (get_outNe (by decide) (get_setO (by decide) jb _)) rfl ?_
                    conv => whnf
                    repeat (first | ((first | refine zs1 ?_ | refine zs2 ?_ | refine zs3 ?_ | refine zs4 ?_ | refine zs5 ?_ | refine zs6 [] ?_); conv => whnf))
                    refine VMem.app1B (α := End) (l := n2) ⟨(i : Int), y, y, was.side, was.since⟩ encE_len rfl (get_outNe hm1 (get_setO hm5 jl _)) rfl rfl rfl (by omega) ?_
                    conv => whnf
                    repeat (first | ((first | refine zs1 ?_ | refine zs2 ?_ | refine zs3 ?_ | refine zs4 ?_ | refine zs5 ?_ | refine zs6 [] ?_); conv => whnf))
                    refine VMem.st1 rfl rfl rfl (b := .cells true [.gl (.out (.loc m)) 5 n2.length]) (get_outNe hm2 (get_outNe (by decide) (get_setO (by decide) jb _))) rfl ?_
                    conv => whnf
                    refine RFin.on (get_outNe (by decide) (get_outNe hm5' (get_outNe (by decide) (outW_get _ _ _ _)))) ?_
                    refine VOut.upd [(.loc 1, .map (esE (a2 ++ [(⟨(i : Int), y, y, was.side, was.since⟩, was)]))), (.loc m, .dead), (.loc 2, .cells true [.gl g.fresh 5 (n2.length + 1)])] [.flat true ((n2 ++ ([⟨(i : Int), y, y, was.side, was.since⟩] : List End)).flatMap encE)] [3] 4 ?_ (upd_ok jb jm jl) ?_ ?_ ?_ ?_ ?_
                    · rfl
                    · decide
                    · rfl
                    · intro k b hk
                      cases k with
                      | zero => rw [List.getElem?_cons_zero, Option.some.injEq] at hk; subst hk; exact ⟨3, rfl, rfl⟩
                      | succ k => simp at hk
                    · intro σ x hx; exact hx
                    · have e1 : (Blk.cells true [V.gl g.fresh 5 (n2.length + 1)]).ren (backR g.loc.length [3] 4) = .cells true [.gl (.loc 3) 5 (n2.length + 1)] := by simp [Blk.ren, V.ren, backR, Hp.fresh]
                      simp only [List.map_cons, List.map_nil, e1, esE_ren]
                      exact outer_fix (get_out hl []) (by decide) hm5' (by decide)
                  · rename_i x1 x2
                    rw [isE_no x1, decide_eq_false (fun hh => hh.1 x2)] at hE
                    dsimp only [cond_true, cond_false] at hE
                    subst hE
                    have hag : alGet a2 ⟨(i : Int), y, y, was.side, was.since⟩ = none := by
                      have := hk2; rw [hasK_get] at this
                      cases hz : alGet a2 ⟨(i : Int), y, y, was.side, was.since⟩ with
                      | none => rfl
                      | some v => rw [hz] at this; cases this
                    refine VLd.cell rfl rfl (get_setO (by decide) jc _) rfl ?_
                    conv => whnf
                    repeat (first | ((first | refine zs1 ?_ | refine zs2 ?_ | refine zs3 ?_ | refine zs4 ?_ | refine zs5 ?_ | refine zs6 [] ?_); conv => whnf))
                    refine VLook.intro (es := esE a2) ((get_setO (by decide) jm _).trans (by rw [esE_ren])) (look_esE a2 ⟨(i : Int), y, y, was.side, was.since⟩) ?_
                    rw [hag]
                    conv => whnf
                    repeat (first | ((first | refine zs1 ?_ | refine zs2 ?_ | refine zs3 ?_ | refine zs4 ?_ | refine zs5 ?_ | refine zs6 [] ?_); conv => whnf))
                    refine VLd.cell rfl rfl (get_setO (by decide) jc _) rfl ?_
                    conv => whnf
                    repeat (first | ((first | refine zs1 ?_ | refine zs2 ?_ | refine zs3 ?_ | refine zs4 ?_ | refine zs5 ?_ | refine zs6 [] ?_); conv => whnf))
                    refine VMem.newE (a := a2) (e := ⟨(i : Int), y, y, was.side, was.since⟩) (v := was) ((get_setO (by decide) jm _).trans (by rw [esE_ren])) hk2 ?_
                    conv => whnf
                    refine VLd.cell rfl rfl (get_outNe (by decide) (get_setO (by decide) jb _)) rfl ?_
                    conv => whnf
                    repeat (first | ((first | refine zs1 ?_ | refine zs2 ?_ | refine zs3 ?_ | refine zs4 ?_ | refine zs5 ?_ | refine zs6 [] ?_); conv => whnf))
                    refine VMem.app1B (α := End) (l := n2) ⟨(i : Int), y, y, was.side, was.since⟩ encE_len rfl (get_outNe hm1 (get_setO hm5 jl _)) rfl rfl rfl (by omega) ?_
                    conv => whnf
                    repeat (first | ((first | refine zs1 ?_ | refine zs2 ?_ | refine zs3 ?_ | refine zs4 ?_ | refine zs5 ?_ | refine zs6 [] ?_); conv => whnf))
                    refine VMem.st1 rfl rfl rfl (b := .cells true [.gl (.out (.loc m)) 5 n2.length]) (get_outNe hm2 (get_outNe (by decide) (get_setO (by decide) jb _))) rfl ?_
                    conv => whnf
                    refine RFin.on (get_outNe (by decide) (get_outNe hm5' (get_outNe (by decide) (outW_get _ _ _ _)))) ?_
                    refine VOut.upd [(.loc 1, .map (esE (a2 ++ [(⟨(i : Int), y, y, was.side, was.since⟩, was)]))), (.loc m, .dead), (.loc 2, .cells true [.gl g.fresh 5 (n2.length + 1)])] [.flat true ((n2 ++ ([⟨(i : Int), y, y, was.side, was.since⟩] : List End)).flatMap encE)] [3] 4 ?_ (upd_ok jb jm jl) ?_ ?_ ?_ ?_ ?_
                    · rfl
                    · decide
                    · rfl
                    · intro k b hk
                      cases k with
                      | zero => rw [List.getElem?_cons_zero, Option.some.injEq] at hk; subst hk; exact ⟨3, rfl, rfl⟩
                      | succ k => simp at hk
                    · intro σ x hx; exact hx
                    · have e1 : (Blk.cells true [V.gl g.fresh 5 (n2.length + 1)]).ren (backR g.loc.length [3] 4) = .cells true [.gl (.loc 3) 5 (n2.length + 1)] := by simp [Blk.ren, V.ren, backR, Hp.fresh]
                      simp only [List.map_cons, List.map_nil, e1, esE_ren]
                      exact outer_fix (get_out hl []) (by decide) hm5' (by decide)
              · refine ⟨g, g.grows_refl, ⟨jo, jc, jm, ⟨m, hm, jb, jl⟩, jk⟩, hl, fun l => ?_⟩
                refine VRound.tell [(1, .fp (encF f)), (5, .ptr (.out (.loc 0)) 0), (7, .fp [DI i]), (8, .fp (encP p)), (9, .ptr (.out (.loc 2)) 0), (11, .fp (encE was)), (36, I y)] ?_ ?_
                · conv => whnf
                  refine Retell.turn ⟨[], 0, [], []⟩ (TurnOk.mk' _ _ [] [] (OutOk.lift _) rfl (by decide) zb trivial trivial rfl) zv zm
                · conv => whnf
                  refine VBegin.intro (get_out hl _) rfl ?_
                  conv => whnf
                  repeat' (first | ((first | refine zs1 ?_ | refine zs2 ?_ | refine zs3 ?_ | refine zs4 ?_ | refine zs5 ?_ | refine zs6 [] ?_); conv => whnf) | ((first | apply zi1 | apply zi2 | apply zi3 | apply zi4 | apply zi5) <;> intro _ <;> conv => whnf) | (refine VCall.intro (vc_goes f i y was.year _ (by omega) (by omega) (by omega) (by omega)) ?_; conv => whnf))
                  · rename_i x1 x2 x3
                    rw [isE_go x1, decide_eq_true ⟨x2, x3⟩] at hE
                    dsimp only [cond_true, cond_false] at hE
                    subst hE
                    have hag : ∃ v, alGet a2 ⟨(i : Int), y, -1, p.side, y⟩ = some v := by
                      have := hk2; rw [hasK_get] at this
                      cases hz : alGet a2 ⟨(i : Int), y, -1, p.side, y⟩ with
                      | none => rw [hz] at this; cases this
                      | some v => exact ⟨v, rfl⟩
                    obtain ⟨v, hag⟩ := hag
                    refine VLd.cell rfl rfl (get_setO (by decide) jc _) rfl ?_
                    conv => whnf
                    repeat (first | ((first | refine zs1 ?_ | refine zs2 ?_ | refine zs3 ?_ | refine zs4 ?_ | refine zs5 ?_ | refine zs6 [] ?_); conv => whnf))
                    refine VLook.intro (es := esE a2) ((get_setO (by decide) jm _).trans (by rw [esE_ren])) (look_esE a2 ⟨(i : Int), y, -1, p.side, y⟩) ?_
                    rw [hag]
                    conv => whnf
                    repeat (first | ((first | refine zs1 ?_ | refine zs2 ?_ | refine zs3 ?_ | refine zs4 ?_ | refine zs5 ?_ | refine zs6 [] ?_); conv => whnf))
                    refine RFin.on (outW_get _ _ _ _) ?_
                    exact VOut.back (get_out hl []) rfl
                  · rename_i x1 x2 x3
                    rw [isE_go x1, decide_eq_false (fun hh => x3 hh.2)] at hE
                    dsimp only [cond_true, cond_false] at hE
                    subst hE
                    have hag : ∃ v, alGet a2 ⟨(i : Int), y, was.first, was.side, was.since⟩ = some v := by
                      have := hk2; rw [hasK_get] at this
                      cases hz : alGet a2 ⟨(i : Int), y, was.first, was.side, was.since⟩ with
                      | none => rw [hz] at this; cases this
                      | some v => exact ⟨v, rfl⟩
                    obtain ⟨v, hag⟩ := hag
                    refine VLd.cell rfl rfl (get_setO (by decide) jc _) rfl ?_
                    conv => whnf
                    repeat (first | ((first | refine zs1 ?_ | refine zs2 ?_ | refine zs3 ?_ | refine zs4 ?_ | refine zs5 ?_ | refine zs6 [] ?_); conv => whnf))
                    refine VLook.intro (es := esE a2) ((get_setO (by decide) jm _).trans (by rw [esE_ren])) (look_esE a2 ⟨(i : Int), y, was.first, was.side, was.since⟩) ?_
                    rw [hag]
                    conv => whnf
                    repeat (first | ((first | refine zs1 ?_ | refine zs2 ?_ | refine zs3 ?_ | refine zs4 ?_ | refine zs5 ?_ | refine zs6 [] ?_); conv => whnf))
                    refine RFin.on (outW_get _ _ _ _) ?_
                    exact VOut.back (get_out hl []) rfl
                  · rename_i x1 x2
                    rw [isE_go x1, decide_eq_false (fun hh => hh.1 x2)] at hE
                    dsimp only [cond_true, cond_false] at hE
                    subst hE
                    have hag : ∃ v, alGet a2 ⟨(i : Int), y, was.first, was.side, was.since⟩ = some v := by
                      have := hk2; rw [hasK_get] at this
                      cases hz : alGet a2 ⟨(i : Int), y, was.first, was.side, was.since⟩ with
                      | none => rw [hz] at this; cases this
                      | some v => exact ⟨v, rfl⟩
                    obtain ⟨v, hag⟩ := hag
                    refine VLd.cell rfl rfl (get_setO (by decide) jc _) rfl ?_
                    conv => whnf
                    repeat (first | ((first | refine zs1 ?_ | refine zs2 ?_ | refine zs3 ?_ | refine zs4 ?_ | refine zs5 ?_ | refine zs6 [] ?_); conv => whnf))
                    refine VLook.intro (es := esE a2) ((get_setO (by decide) jm _).trans (by rw [esE_ren])) (look_esE a2 ⟨(i : Int), y, was.first, was.side, was.since⟩) ?_
                    rw [hag]
                    conv => whnf
                    repeat (first | ((first | refine zs1 ?_ | refine zs2 ?_ | refine zs3 ?_ | refine zs4 ?_ | refine zs5 ?_ | refine zs6 [] ?_); conv => whnf))
                    refine RFin.on (outW_get _ _ _ _) ?_
                    exact VOut.back (get_out hl []) rfl
                  · rename_i x1 x2 x3
                    rw [isE_no x1, decide_eq_true ⟨x2, x3⟩] at hE
                    dsimp only [cond_true, cond_false] at hE
                    subst hE
                    have hag : ∃ v, alGet a2 ⟨(i : Int), y, -1, p.side, y⟩ = some v := by
                      have := hk2; rw [hasK_get] at this
                      cases hz : alGet a2 ⟨(i : Int), y, -1, p.side, y⟩ with
                      | none => rw [hz] at this; cases this
                      | some v => exact ⟨v, rfl⟩
                    obtain ⟨v, hag⟩ := hag
                    refine VLd.cell rfl rfl (get_setO (by decide) jc _) rfl ?_
                    conv => whnf
                    repeat (first | ((first | refine zs1 ?_ | refine zs2 ?_ | refine zs3 ?_ | refine zs4 ?_ | refine zs5 ?_ | refine zs6 [] ?_); conv => whnf))
                    refine VLook.intro (es := esE a2) ((get_setO (by decide) jm _).trans (by rw [esE_ren])) (look_esE a2 ⟨(i : Int), y, -1, p.side, y⟩) ?_
                    rw [hag]
                    conv => whnf
                    repeat (first | ((first | refine zs1 ?_ | refine zs2 ?_ | refine zs3 ?_ | refine zs4 ?_ | refine zs5 ?_ | refine zs6 [] ?_); conv => whnf))
                    refine RFin.on (outW_get _ _ _ _) ?_
                    exact VOut.back (get_out hl []) rfl
                  · rename_i x1 x2 x3
                    rw [isE_no x1, decide_eq_false (fun hh => x3 hh.2)] at hE
                    dsimp only [cond_true, cond_false] at hE
                    subst hE
                    have hag : ∃ v, alGet a2 ⟨(i : Int), y, y, was.side, was.since⟩ = some v := by
                      have := hk2; rw [hasK_get] at this
                      cases hz : alGet a2 ⟨(i : Int), y, y, was.side, was.since⟩ with
                      | none => rw [hz] at this; cases this
                      | some v => exact ⟨v, rfl⟩
                    obtain ⟨v, hag⟩ := hag
                    refine VLd.cell rfl rfl (get_setO (by decide) jc _) rfl ?_
                    conv => whnf
                    repeat (first | ((first | refine zs1 ?_ | refine zs2 ?_ | refine zs3 ?_ | refine zs4 ?_ | refine zs5 ?_ | refine zs6 [] ?_); conv => whnf))
                    refine VLook.intro (es := esE a2) ((get_setO (by decide) jm _).trans (by rw [esE_ren])) (look_esE a2 ⟨(i : Int), y, y, was.side, was.since⟩) ?_
                    rw [hag]
                    conv => whnf
                    repeat (first | ((first | refine zs1 ?_ | refine zs2 ?_ | refine zs3 ?_ | refine zs4 ?_ | refine zs5 ?_ | refine zs6 [] ?_); conv => whnf))
                    refine RFin.on (outW_get _ _ _ _) ?_
                    exact VOut.back (get_out hl []) rfl
                  · rename_i x1 x2
                    rw [isE_no x1, decide_eq_false (fun hh => hh.1 x2)] at hE
                    dsimp only [cond_true, cond_false] at hE
                    subst hE
                    have hag : ∃ v, alGet a2 ⟨(i : Int), y, y, was.side, was.since⟩ = some v := by
                      have := hk2; rw [hasK_get] at this
                      cases hz : alGet a2 ⟨(i : Int), y, y, was.side, was.since⟩ with
                      | none => rw [hz] at this; cases this
                      | some v => exact ⟨v, rfl⟩
                    obtain ⟨v, hag⟩ := hag
                    refine VLd.cell rfl rfl (get_setO (by decide) jc _) rfl ?_
                    conv => whnf
                    repeat (first | ((first | refine zs1 ?_ | refine zs2 ?_ | refine zs3 ?_ | refine zs4 ?_ | refine zs5 ?_ | refine zs6 [] ?_); conv => whnf))
                    refine VLook.intro (es := esE a2) ((get_setO (by decide) jm _).trans (by rw [esE_ren])) (look_esE a2 ⟨(i : Int), y, y, was.side, was.since⟩) ?_
                    rw [hag]
                    conv => whnf
                    repeat (first | ((first | refine zs1 ?_ | refine zs2 ?_ | refine zs3 ?_ | refine zs4 ?_ | refine zs5 ?_ | refine zs6 [] ?_); conv => whnf))
                    refine RFin.on (outW_get _ _ _ _) ?_
                    exact VOut.back (get_out hl []) rfl
            · intro g hJ hl
              have hgk := GI.gYs (was := was) (f := f) hgi p1 ⟨w1, w2, w3, w4⟩ p2 p3 p5 (p.hi - p.lo + 1).toNat (Nat.le_refl _)
              have e : gYs f i p was (a1, nx) (p.hi - p.lo + 1).toNat = gW f i p (a1, nx) was := rfl
              rw [e] at hJ hgk
              generalize gW f i p (a1, nx) was = s at hJ hgk hWj
              obtain ⟨a2, n2⟩ := s
              obtain ⟨go, gl⟩ := g
              obtain ⟨jo, jc, jm, ⟨m, hm, jb, jl⟩, jk⟩ := hJ
              dsimp only at jo jb jl jm
              subst jo
              simp only [Hp.get] at jc jm jb jl jk
              have l0 := (List.getElem?_eq_some_iff.1 jc).1
              have l1 := (List.getElem?_eq_some_iff.1 jm).1
              have l2 := (List.getElem?_eq_some_iff.1 jb).1
              have lm := (List.getElem?_eq_some_iff.1 jl).1
              have key : ∀ (x : Nat) (A : Blk), x ≠ 5 → (gl.set 5 A)[x]? = gl[x]? := fun x A hx => List.getElem?_set_ne (Ne.symm hx)
              conv => whnf
              repeat (first | ((first | refine zs1 ?_ | refine zs2 ?_ | refine zs3 ?_ | refine zs4 ?_ | refine zs5 ?_ | refine zs6 [] ?_); conv => whnf))
              refine LEnd.intro (j + 1, a2, n2) ⟨by dsimp only; omega, hWj, hgk⟩ (by dsimp only; omega) ?_
              conv => whnf
              have hmn : ([0, 1, 2, m] : List Nat).Nodup := by simp; omega
              have hm4 : 4 ∉ ([0, 1, 2, m] : List Nat) := by simp; omega
              refine Retell.turn ⟨[0, 1, 2, m], gl.length, [], []⟩ (TurnOk.mk' _ _ [] [] (OutOk.lift _) (Nat.ble_eq_true_of_le (by simp)) hmn
                (BTos.cells (blt_of l0) ((key 0 _ (by omega)).trans jc) rfl zv (BTos.esE (blt_of l1) ((key 1 _ (by omega)).trans jm) (BTos.cells (blt_of l2) ((key 2 _ (by omega)).trans jb) rfl zv (BTos.flat (blt_of lm) ((key m _ (by omega)).trans jl) rfl BTos.nil)))) trivial trivial rfl) zv
                (MkTo.drop hm4 ((key 4 _ (by omega)).trans jk) MkTo.nil)
        · have hje : j = now.length := by omega
          subst hje
          rw [List.drop_of_length_le (Nat.le_refl _), List.foldl_nil] at hWj
          subst hWj
          conv => whnf
          repeat (first | ((first | refine zs1 ?_ | refine zs2 ?_ | refine zs3 ?_ | refine zs4 ?_ | refine zs5 ?_ | refine zs6 [] ?_); conv => whnf))
          refine LEnd.intro (i + 1, a1, nx) ⟨by dsimp only; omega, hRi, hgi.ok, hgi.len⟩ (by dsimp only; omega) ?_
          conv => whnf
          refine Retell.turn ⟨[0,1], 4, [(3, nx.flatMap encE)], []⟩ (TurnOk.mk' _ _ [(3, nx.flatMap encE)] [] (OutOk.lift _) rfl (by decide) zb zf trivial rfl) zv zm
    · have hie : i = f.ps.length := by dsimp only at h3; omega
      subst hie
      rw [List.drop_of_length_le (Nat.le_refl _), gP] at hRi
      subst hRi
      conv => whnf
      repeat (first | ((first | refine zs1 ?_ | refine zs2 ?_ | refine zs3 ?_ | refine zs4 ?_ | refine zs5 ?_ | refine zs6 [] ?_); conv => whnf))
      refine VOut.data 2 [] [(1, keysE a, valsE a)] rfl FzAll.nil ⟨⟨esE a, rfl, EsTo.esE a⟩, trivial⟩ zv
end Go.Proofs.Ytolnajnlcdacmaa

open Go.Vm
namespace Go.Proofs.Ytolnajnlcdacmaa
set_option maxRecDepth 20000
set_option maxHeartbeats 2000000

def isG (f : Fil) (x : Int) : Bool := (gone f).2.any fun e => decide (e.side = x)
def osG (f : Fil) : List Int := selS (fun k => isG f k) 3
theorem foldl_inv {α β : Type} {P : β → Prop} {g : β → α → β} : ∀ {l : List α} {s : β}, P s → (∀ s a, a ∈ l → P s → P (g s a)) → P (l.foldl g s)
  | [], _, h, _ => h
  | a :: l, s, h, hg => foldl_inv (l := l) (hg s a (by simp) h) fun s b hb hs => hg s b (by simp [hb]) hs
theorem gP_inv {f : Fil} : ∀ (ps : List Pap) (i : Nat) (s : AL × List End), (∀ p ∈ ps, POk p) → (∀ e ∈ s.2, EOk e) → s.2.length ≤ 108108024 → (∀ e ∈ (gP f ps i s).2, EOk e) ∧ (gP f ps i s).2.length ≤ 108108024
  | [], _, _, _, h, hl => ⟨h, hl⟩
  | p :: r, i, s, hp, h, _ => by
    rw [gP]
    have hpk := hp p (by simp)
    have key : GI i p (s.2.foldl (gW f i p) (s.1, [])) := by
      refine foldl_inv (P := GI i p) (by constructor <;> simp) fun s' was hw hs => ?_
      exact GI.gYs hs hpk.side (h was hw) hpk.lo hpk.hi hpk.near _ (Nat.le_refl _)
    exact gP_inv r (i + 1) _ (fun q hq => hp q (by simp [hq])) key.ok key.len
theorem gone_inv {f : Fil} (h : chk f = 0) : (∀ e ∈ (gone f).2, EOk e) ∧ (gone f).2.length ≤ 108108024 :=
  gP_inv f.ps 0 _ (chk_pok h) (by simp [EOk.beg]) (by simp)
theorem vc_Owners_no (f : Fil) (h : Hp) (hn : f.ps.length ≤ 4000000) (h0 : chk f ≠ 0) : VC Try.prog 16 [vF f] h (.tuple [.nilslice, I (chk f)]) h := by
  refine VC.body Try.func16 rfl Try.ntmps16 Try.call16 (h.grows_refl) rfl ?_; conv => whnf
  repeat' (first | ((first | refine zs1 ?_ | refine zs2 ?_ | refine zs3 ?_ | refine zs4 ?_ | refine zs5 ?_ | refine zs6 [] ?_); conv => whnf) | ((first | apply zi1 | apply zi2 | apply zi3 | apply zi4 | apply zi5) <;> intro _ <;> conv => whnf) | (refine VCall.intro (vc_check f _ hn) ?_; conv => whnf))
  · exact VOut.same rfl
  all_goals (rename_i h1; exact absurd (by simpa using h1) h0)
theorem vc_Owners_ok (f : Fil) (h : Hp) (h0 : chk f = 0) : VC Try.prog 16 [vF f] h (.tuple [ints (osG f), I 0]) h := by
  have hn := (chk_zero h0).2.2.1
  have hS : ∀ h, VC Try.prog 34 [vF f] h (I 0) h := fun h => h0 ▸ vc_check f h (by omega)
  have hG := fun h => vc_gone f h h0
  obtain ⟨hok, hlen⟩ := gone_inv h0
  have hio : ∀ x, isG f x = (gone f).2.any fun e => decide (e.side = x) := fun x => rfl
  unfold osG vGone at *
  obtain ⟨q, hq⟩ : ∃ q : Int → Bool, q = isG f := ⟨_, rfl⟩
  rw [← hq] at hio ⊢
  generalize gone f = G at hG hok hlen hio
  obtain ⟨ga, L⟩ := G
  dsimp only at hG hok hlen hio
  refine VC.body Try.func16 rfl Try.ntmps16 Try.call16 (h.grows_refl) rfl ?_; conv => whnf
  repeat' (first | ((first | refine zs1 ?_ | refine zs2 ?_ | refine zs3 ?_ | refine zs4 ?_ | refine zs5 ?_ | refine zs6 [] ?_); conv => whnf) | ((first | apply zi1 | apply zi2 | apply zi3 | apply zi4 | apply zi5) <;> intro _ <;> conv => whnf) | (refine VCall.intro (hS _) ?_; conv => whnf) | (refine VCall.intro (hG _) ?_; conv => whnf))
  refine VCode.lp (fun x : Nat × Bool × Bool × Bool => [(1, .ptr (.loc 0) 0), (5, .ptr (.loc 1) 0), (22, ends L), (23, I L.length), (24, I x.1)]) (fun x => [.flat true (encF f), .flat true [DB x.2.1, DB x.2.2.1, DB x.2.2.2]])
    (fun x => x.1 ≤ L.length ∧ q 0 = (x.2.1 || (L.drop x.1).any fun e => decide (e.side = 0)) ∧ q 1 = (x.2.2.1 || (L.drop x.1).any fun e => decide (e.side = 1)) ∧ q 2 = (x.2.2.2 || (L.drop x.1).any fun e => decide (e.side = 2))) (fun x => L.length - x.1) (0, false, false, false) ⟨Nat.zero_le _, hio 0, hio 1, hio 2⟩ ?_ ?_
  · conv => whnf
    refine Retell.turn ⟨[0,1], 2, [], []⟩ (TurnOk.mk' _ _ [] [] (OutOk.lift _) rfl (by decide) zb trivial trivial rfl) zv zm
  · rintro ⟨j, b0, b1, b2⟩ ⟨g1, g2, g3, g4⟩
    dsimp only at g1 g2 g3 g4
    conv => whnf
    refine VIte.dec (fun h3 => ?_) (fun h3 => ?_)
    · have hx : L[j]? = some L[j] := List.getElem?_eq_getElem (by omega)
      have hox := hok L[j] (List.getElem_mem (by omega))
      generalize L[j] = e at hx hox
      rw [any_drop hx] at g2 g3 g4
      obtain ⟨ei, ey, ef, es, en⟩ := e
      have hs := hox.side
      dsimp only at hs g2 g3 g4
      have : es = 0 ∨ es = 1 ∨ es = 2 := by omega
      rcases this with rfl | rfl | rfl
      · conv => whnf
        repeat' (first | ((first | refine zs1 ?_ | refine zs2 ?_ | refine zs3 ?_ | refine zs4 ?_ | refine zs5 ?_ | refine zs6 [] ?_); conv => whnf) | ((first | apply zi1 | apply zi2 | apply zi3 | apply zi4 | apply zi5) <;> intro _ <;> conv => whnf) | (refine VAny.ix encE_len j rfl rfl hx ?_; conv => whnf))
        refine LEnd.intro (j + 1, true, b1, b2) ⟨by dsimp only; omega, by rw [g2]; simp, by rw [g3]; simp, by rw [g4]; simp⟩ (by dsimp only; omega) ?_
        conv => whnf
        refine Retell.turn ⟨[0,1], 3, [], []⟩ (TurnOk.mk' _ _ [] [] (OutOk.lift _) rfl (by decide) zb trivial trivial rfl) zv zm
      · conv => whnf
        repeat' (first | ((first | refine zs1 ?_ | refine zs2 ?_ | refine zs3 ?_ | refine zs4 ?_ | refine zs5 ?_ | refine zs6 [] ?_); conv => whnf) | ((first | apply zi1 | apply zi2 | apply zi3 | apply zi4 | apply zi5) <;> intro _ <;> conv => whnf) | (refine VAny.ix encE_len j rfl rfl hx ?_; conv => whnf))
        refine LEnd.intro (j + 1, b0, true, b2) ⟨by dsimp only; omega, by rw [g2]; simp, by rw [g3]; simp, by rw [g4]; simp⟩ (by dsimp only; omega) ?_
        conv => whnf
        refine Retell.turn ⟨[0,1], 3, [], []⟩ (TurnOk.mk' _ _ [] [] (OutOk.lift _) rfl (by decide) zb trivial trivial rfl) zv zm
      · conv => whnf
        repeat' (first | ((first | refine zs1 ?_ | refine zs2 ?_ | refine zs3 ?_ | refine zs4 ?_ | refine zs5 ?_ | refine zs6 [] ?_); conv => whnf) | ((first | apply zi1 | apply zi2 | apply zi3 | apply zi4 | apply zi5) <;> intro _ <;> conv => whnf) | (refine VAny.ix encE_len j rfl rfl hx ?_; conv => whnf))
        refine LEnd.intro (j + 1, b0, b1, true) ⟨by dsimp only; omega, by rw [g2]; simp, by rw [g3]; simp, by rw [g4]; simp⟩ (by dsimp only; omega) ?_
        conv => whnf
        refine Retell.turn ⟨[0,1], 3, [], []⟩ (TurnOk.mk' _ _ [] [] (OutOk.lift _) rfl (by decide) zb trivial trivial rfl) zv zm
    · rw [List.drop_of_length_le (by dsimp only at h3; omega), List.any_nil, Bool.or_false] at g2 g3 g4
      rw [← g2, ← g3, ← g4]
      conv => whnf
      repeat (first | ((first | refine zs1 ?_ | refine zs2 ?_ | refine zs3 ?_ | refine zs4 ?_ | refine zs5 ?_ | refine zs6 [] ?_); conv => whnf))
      refine VCode.lp (fun k : Nat => [(5, .ptr (.loc 0) 0), (10, .gl (.loc 1) 1 (selS (fun k => q k) k).length), (32, I k)]) (fun k => [.flat true [DB (q 0), DB (q 1), DB (q 2)], .flat true ((selS (fun k => q k) k).flatMap encI)]) (fun k => k ≤ 3) (fun k => 3 - k) 0 (Nat.zero_le _) ?_ ?_
      · conv => whnf
        refine Retell.turn ⟨[1,2], 2, [], []⟩ (TurnOk.mk' _ _ [] [] (OutOk.lift _) rfl (by decide) zb trivial trivial rfl) zv zm
      · intro k hk
        have hsl := selS_len (fun k => q k) k
        conv => whnf
        refine VIte.dec (fun h3 => ?_) (fun h3 => ?_)
        · have : k = 0 ∨ k = 1 ∨ k = 2 := by omega
          have hs1 : selS (fun k => q k) (k + 1) = if q k then selS (fun k => q k) k ++ [(k : Int)] else selS (fun k => q k) k := rfl
          rcases this with rfl | rfl | rfl
          · have hs2 : q 0 = q ((0 : Nat) : Int) := rfl
            conv => whnf
            repeat' (first | ((first | refine zs1 ?_ | refine zs2 ?_ | refine zs3 ?_ | refine zs4 ?_ | refine zs5 ?_ | refine zs6 [] ?_); conv => whnf) | ((first | apply zi1 | apply zi2 | apply zi3 | apply zi4 | apply zi5) <;> intro _ <;> conv => whnf))
            · rename_i hq1
              refine VMem.app1 ((0 : Nat) : Int) encI_len rfl rfl rfl rfl rfl (by omega) ?_
              conv => whnf
              repeat (first | ((first | refine zs1 ?_ | refine zs2 ?_ | refine zs3 ?_ | refine zs4 ?_ | refine zs5 ?_ | refine zs6 [] ?_); conv => whnf))
              refine LEnd.intro (0 + 1) (by omega) (by omega) ?_
              conv => whnf
              rw [hs1, ← hs2, if_pos hq1, List.length_append]
              refine Retell.turn ⟨[0,3], 4, [], []⟩ (TurnOk.mk' _ _ [] [] (OutOk.lift _) rfl (by decide) zb trivial trivial rfl) zv zm
            · rename_i hq1
              refine LEnd.intro (0 + 1) (by omega) (by omega) ?_
              conv => whnf
              rw [hs1, ← hs2, if_neg (by simpa using hq1)]
              refine Retell.turn ⟨[0,1], 2, [], []⟩ (TurnOk.mk' _ _ [] [] (OutOk.lift _) rfl (by decide) zb trivial trivial rfl) zv zm
          · have hs2 : q 1 = q ((1 : Nat) : Int) := rfl
            conv => whnf
            repeat' (first | ((first | refine zs1 ?_ | refine zs2 ?_ | refine zs3 ?_ | refine zs4 ?_ | refine zs5 ?_ | refine zs6 [] ?_); conv => whnf) | ((first | apply zi1 | apply zi2 | apply zi3 | apply zi4 | apply zi5) <;> intro _ <;> conv => whnf))
            · rename_i hq1
              refine VMem.app1 ((1 : Nat) : Int) encI_len rfl rfl rfl rfl rfl (by omega) ?_
              conv => whnf
              repeat (first | ((first | refine zs1 ?_ | refine zs2 ?_ | refine zs3 ?_ | refine zs4 ?_ | refine zs5 ?_ | refine zs6 [] ?_); conv => whnf))
              refine LEnd.intro (1 + 1) (by omega) (by omega) ?_
              conv => whnf
              rw [hs1, ← hs2, if_pos hq1, List.length_append]
              refine Retell.turn ⟨[0,3], 4, [], []⟩ (TurnOk.mk' _ _ [] [] (OutOk.lift _) rfl (by decide) zb trivial trivial rfl) zv zm
            · rename_i hq1
              refine LEnd.intro (1 + 1) (by omega) (by omega) ?_
              conv => whnf
              rw [hs1, ← hs2, if_neg (by simpa using hq1)]
              refine Retell.turn ⟨[0,1], 2, [], []⟩ (TurnOk.mk' _ _ [] [] (OutOk.lift _) rfl (by decide) zb trivial trivial rfl) zv zm
          · have hs2 : q 2 = q ((2 : Nat) : Int) := rfl
            conv => whnf
            repeat' (first | ((first | refine zs1 ?_ | refine zs2 ?_ | refine zs3 ?_ | refine zs4 ?_ | refine zs5 ?_ | refine zs6 [] ?_); conv => whnf) | ((first | apply zi1 | apply zi2 | apply zi3 | apply zi4 | apply zi5) <;> intro _ <;> conv => whnf))
            · rename_i hq1
              refine VMem.app1 ((2 : Nat) : Int) encI_len rfl rfl rfl rfl rfl (by omega) ?_
              conv => whnf
              repeat (first | ((first | refine zs1 ?_ | refine zs2 ?_ | refine zs3 ?_ | refine zs4 ?_ | refine zs5 ?_ | refine zs6 [] ?_); conv => whnf))
              refine LEnd.intro (2 + 1) (by omega) (by omega) ?_
              conv => whnf
              rw [hs1, ← hs2, if_pos hq1, List.length_append]
              refine Retell.turn ⟨[0,3], 4, [], []⟩ (TurnOk.mk' _ _ [] [] (OutOk.lift _) rfl (by decide) zb trivial trivial rfl) zv zm
            · rename_i hq1
              refine LEnd.intro (2 + 1) (by omega) (by omega) ?_
              conv => whnf
              rw [hs1, ← hs2, if_neg (by simpa using hq1)]
              refine Retell.turn ⟨[0,1], 2, [], []⟩ (TurnOk.mk' _ _ [] [] (OutOk.lift _) rfl (by decide) zb trivial trivial rfl) zv zm
        · conv => whnf
          have hk' : k = 3 := by omega
          subst hk'
          repeat (first | ((first | refine zs1 ?_ | refine zs2 ?_ | refine zs3 ?_ | refine zs4 ?_ | refine zs5 ?_ | refine zs6 [] ?_); conv => whnf))
          refine VOut.data 2 [(1, (selS (fun k => q k) 3).flatMap encI)] [] rfl zf (by exact FmAll.nil) zv
end Go.Proofs.Ytolnajnlcdacmaa

open Go.Vm
namespace Go.Proofs.Ytolnajnlcdacmaa
set_option maxRecDepth 20000
set_option maxHeartbeats 1000000

/-! ### What gone finds are the ends of truths -/

theorem isE_goes {f : Fil} {i : Nat} {p : Pap} {was : End} {y : Int} (h : 0 < i ∧ sdAt f i = sdAt f (i - 1) ∧ y - was.year ≤ f.G) :
    isE f i p was y = bif decide (¬ was.first = -1 ∧ f.Y ≤ y - was.first) then ⟨i, y, -1, p.side, y⟩ else ⟨i, y, was.first, was.side, was.since⟩ := by
  unfold isE goesB
  rw [decide_eq_true h]; rfl
theorem isE_new {f : Fil} {i : Nat} {p : Pap} {was : End} {y : Int} (h : ¬ (0 < i ∧ sdAt f i = sdAt f (i - 1) ∧ y - was.year ≤ f.G)) :
    isE f i p was y = bif decide (¬ y = -1 ∧ f.Y ≤ y - y) then ⟨i, y, -1, p.side, y⟩ else ⟨i, y, y, was.side, was.since⟩ := by
  unfold isE goesB
  rw [decide_eq_false h]; rfl
def stOf (f : Fil) (t : List Int) : Nat → End
  | 0 => beg
  | k + 1 => match f.ps[k]? with
    | some p => isE f k p (stOf f t k) (tAt t k)
    | none => stOf f t k
theorem stOf_congr {f : Fil} {t u : List Int} : ∀ {k : Nat}, (∀ j, j < k → tAt t j = tAt u j) → stOf f t k = stOf f u k
  | 0, _ => rfl
  | k + 1, h => by
    rw [stOf, stOf, stOf_congr (fun j hj => h j (by omega)), h k (by omega)]
def goneK (f : Fil) : Nat → AL × List End
  | 0 => ([], [beg])
  | k + 1 => match f.ps[k]? with
    | some p => (goneK f k).2.foldl (gW f k p) ((goneK f k).1, [])
    | none => goneK f k
theorem goneK_gP (f : Fil) : ∀ k, k ≤ f.ps.length → gP f (f.ps.drop k) k (goneK f k) = gone f
  | 0, _ => rfl
  | k + 1, hk => by
    have hp : f.ps[k]? = some f.ps[k] := List.getElem?_eq_getElem (by omega)
    rw [← goneK_gP f k (by omega), gP_at hp, goneK, hp]
theorem gone_eq (f : Fil) : gone f = goneK f f.ps.length := by
  have := goneK_gP f f.ps.length (Nat.le_refl _)
  rw [List.drop_of_length_le (Nat.le_refl _), gP] at this
  exact this.symm
structure PInv (f : Fil) (k : Nat) (p : Pap) (a0 : AL) (s : AL × List End) (done : List (End × Int)) : Prop where
  mem : ∀ e, e ∈ s.2 ↔ ∃ w y, (w, y) ∈ done ∧ e = isE f k p w y
  al : ∀ x ∈ s.1, x ∈ a0 ∨ (x.1.i = k ∧ ∃ y, (x.2, y) ∈ done ∧ x.1 = isE f k p x.2 y)
  old : ∀ x ∈ a0, x ∈ s.1
  key : ∀ e, hasK s.1 e = true → e.i = k → e ∈ s.2
  has : ∀ e ∈ s.2, hasK s.1 e = true
theorem isE_i (f : Fil) (k : Nat) (p : Pap) (w : End) (y : Int) : (isE f k p w y).i = k := by
  unfold isE
  cases decide (¬ (bif goesB f k y w.year then w.first else y) = -1 ∧ f.Y ≤ y - (bif goesB f k y w.year then w.first else y)) <;> rfl
theorem isE_year (f : Fil) (k : Nat) (p : Pap) (w : End) (y : Int) : (isE f k p w y).year = y := by
  unfold isE
  cases decide (¬ (bif goesB f k y w.year then w.first else y) = -1 ∧ f.Y ≤ y - (bif goesB f k y w.year then w.first else y)) <;> rfl
theorem hasK_iff {a : AL} {e : End} : hasK a e = true ↔ ∃ x ∈ a, x.1 = e := by simp [hasK]
theorem PInv.gY {f : Fil} {k : Nat} {p : Pap} {a0 : AL} {s : AL × List End} {done : List (End × Int)} (h : PInv f k p a0 s done) (w : End) (y : Int) : PInv f k p a0 (gY f k p w s y) (done ++ [(w, y)]) := by
  have hi := isE_i f k p w y
  unfold Ytolnajnlcdacmaa.gY
  obtain ⟨E, hE⟩ : ∃ E, E = isE f k p w y := ⟨_, rfl⟩
  rw [← hE] at hi ⊢
  cases hk : hasK s.1 E
  · refine ⟨fun e => ?_, fun x hx => ?_, fun x hx => ?_, fun e he hi2 => ?_, fun e he => ?_⟩
    · simp only [cond_false, List.mem_append, List.mem_singleton, Prod.mk.injEq]
      rw [h.mem]
      constructor
      · rintro (⟨w', y', h1, h2⟩ | rfl)
        · exact ⟨w', y', .inl h1, h2⟩
        · exact ⟨w, y, .inr ⟨rfl, rfl⟩, hE⟩
      · rintro ⟨w', y', h1 | ⟨rfl, rfl⟩, h2⟩
        · exact .inl ⟨w', y', h1, h2⟩
        · exact .inr (h2.trans hE.symm)
    · simp only [cond_false, List.mem_append, List.mem_singleton] at hx
      rcases hx with hx | rfl
      · rcases h.al x hx with h1 | ⟨h1, y', h2, h3⟩
        · exact .inl h1
        · exact .inr ⟨h1, y', by simp [h2], h3⟩
      · exact .inr ⟨hi, y, by simp, hE⟩
    · simp only [cond_false, List.mem_append]
      exact .inl (h.old x hx)
    · simp only [cond_false] at he ⊢
      rw [hasK_snoc, Bool.or_eq_true, decide_eq_true_eq] at he
      rcases he with he | rfl
      · exact List.mem_append_left _ (h.key e he hi2)
      · simp
    · simp only [cond_false, List.mem_append, List.mem_singleton] at he ⊢
      rw [hasK_snoc]
      rcases he with he | rfl
      · rw [h.has e he]; rfl
      · simp
  · simp only [cond_true]
    refine ⟨fun e => ?_, fun x hx => ?_, h.old, h.key, h.has⟩
    · rw [h.mem]
      constructor
      · rintro ⟨w', y', h1, h2⟩
        exact ⟨w', y', by simp [h1], h2⟩
      · rintro ⟨w', y', h1, h2⟩
        simp only [List.mem_append, List.mem_singleton, Prod.mk.injEq] at h1
        rcases h1 with h1 | ⟨rfl, rfl⟩
        · exact ⟨w', y', h1, h2⟩
        · rw [← hE] at h2
          exact (h.mem e).1 (by rw [h2]; exact h.key E hk hi)
    · rcases h.al x hx with h1 | ⟨h1, y', h2, h3⟩
      · exact .inl h1
      · exact .inr ⟨h1, y', by simp [h2], h3⟩
def prs (p : Pap) (w : End) (m : Nat) : List (End × Int) := (List.range m).map fun j : Nat => (w, p.lo + (j : Int))
theorem PInv.gYs {f : Fil} {k : Nat} {p : Pap} {a0 : AL} {s : AL × List End} {done : List (End × Int)} (h : PInv f k p a0 s done) (w : End) : ∀ m, PInv f k p a0 (gYs f k p w s m) (done ++ prs p w m)
  | 0 => by simpa [prs, Ytolnajnlcdacmaa.gYs] using h
  | m + 1 => by
    have := (PInv.gYs h w m).gY w (p.lo + m)
    have e : prs p w (m + 1) = prs p w m ++ [(w, p.lo + (m : Int))] := by simp [prs, List.range_succ]
    rw [e, ← List.append_assoc]
    exact this
theorem PInv.fold {f : Fil} {k : Nat} {p : Pap} {a0 : AL} : ∀ (l : List End) {s : AL × List End} {done : List (End × Int)}, PInv f k p a0 s done → PInv f k p a0 (l.foldl (gW f k p) s) (done ++ l.flatMap fun w => prs p w (p.hi - p.lo + 1).toNat)
  | [], _, _, h => by simpa using h
  | w :: l, s, done, h => by
    rw [List.foldl_cons, List.flatMap_cons, ← List.append_assoc]
    exact PInv.fold l (h.gYs w _)
theorem mem_prs {p : Pap} {w : End} {v : End} {y : Int} : (v, y) ∈ prs p w (p.hi - p.lo + 1).toNat ↔ v = w ∧ p.lo ≤ y ∧ y ≤ p.hi := by
  unfold prs
  simp only [List.mem_map, List.mem_range, Prod.mk.injEq]
  constructor
  · rintro ⟨j, h1, rfl, rfl⟩; exact ⟨rfl, by omega, by omega⟩
  · rintro ⟨rfl, h1, h2⟩; exact ⟨(y - p.lo).toNat, by omega, rfl, by omega⟩
structure KInv (f : Fil) (k : Nat) : Prop where
  out : ∀ e ∈ (goneK f k).2, ∃ t ∈ tru (f.ps.take k), stOf f t k = e
  into : ∀ t ∈ tru (f.ps.take k), stOf f t k ∈ (goneK f k).2
  al : ∀ x ∈ (goneK f k).1, ∃ (j : Nat) (p : Pap) (y : Int), j < k ∧ f.ps[j]? = some p ∧ p.lo ≤ y ∧ y ≤ p.hi ∧ x.1 = isE f j p x.2 y ∧ x.2 ∈ (goneK f j).2
  has : ∀ j, 0 < j → j ≤ k → ∀ e ∈ (goneK f j).2, hasK (goneK f k).1 e = true
theorem tru_lenK {f : Fil} {k : Nat} {t : List Int} (hk : k ≤ f.ps.length) (ht : t ∈ tru (f.ps.take k)) : t.length = k := by
  have := (mem_tru.1 ht).1
  rw [this, List.length_take]; omega
theorem tAt_app {t : List Int} {y : Int} {j : Nat} (h : j < t.length) : tAt (t ++ [y]) j = tAt t j := by
  simp [tAt, List.getD_eq_getElem?_getD, List.getElem?_append_left h]
theorem tAt_end {t : List Int} {y : Int} : tAt (t ++ [y]) t.length = y := by simp [tAt]
theorem kinv (f : Fil) : ∀ k, k ≤ f.ps.length → KInv f k
  | 0, _ => by
    have ht : tru (f.ps.take 0) = [[]] := rfl
    refine ⟨fun e he => ?_, fun t ht2 => ?_, fun x hx => ?_, fun j h1 h2 => by omega⟩
    · simp only [goneK, List.mem_singleton] at he
      exact ⟨[], by rw [ht]; simp, he.symm⟩
    · simp [goneK, stOf]
    · simp [goneK] at hx
  | k + 1, hk => by
    have ih := kinv f k (by omega)
    have hp : f.ps[k]? = some f.ps[k] := List.getElem?_eq_getElem (by omega)
    generalize f.ps[k] = p at hp
    have hg : goneK f (k + 1) = (goneK f k).2.foldl (gW f k p) ((goneK f k).1, []) := by rw [goneK, hp]
    have hi0 : ∀ x ∈ (goneK f k).1, x.1.i ≠ k := by
      intro x hx h0
      obtain ⟨j, q, y, h1, _, _, _, h2, _⟩ := ih.al x hx
      have := isE_i f j q x.2 y
      rw [← h2] at this
      omega
    have P0 : PInv f k p (goneK f k).1 ((goneK f k).1, []) [] := by
      refine ⟨fun e => by simp, fun x hx => .inl hx, fun x hx => hx, fun e he hi => ?_, fun e he => by simp at he⟩
      obtain ⟨x, hx, rfl⟩ := hasK_iff.1 he
      exact absurd hi (hi0 x hx)
    have P := PInv.fold (goneK f k).2 P0
    rw [← hg, List.nil_append] at P
    have hmem : ∀ v y, (v, y) ∈ ((goneK f k).2.flatMap fun w => prs p w (p.hi - p.lo + 1).toNat) ↔ v ∈ (goneK f k).2 ∧ p.lo ≤ y ∧ y ≤ p.hi := by
      intro v y
      rw [List.mem_flatMap]
      constructor
      · rintro ⟨w, h1, h2⟩; obtain ⟨rfl, h3⟩ := mem_prs.1 h2; exact ⟨h1, h3⟩
      · rintro ⟨h1, h2⟩; exact ⟨v, h1, mem_prs.2 ⟨rfl, h2⟩⟩
    have hst : ∀ t ∈ tru (f.ps.take k), ∀ y, stOf f (t ++ [y]) (k + 1) = isE f k p (stOf f t k) y := by
      intro t ht y
      have hl := tru_lenK (by omega) ht
      rw [stOf, hp]
      simp only
      rw [stOf_congr (u := t) (fun j hj => tAt_app (by omega))]
      congr 1
      rw [← hl]; exact tAt_end
    refine ⟨fun e he => ?_, fun t ht => ?_, fun x hx => ?_, fun j h1 h2 e he => ?_⟩
    · obtain ⟨w, y, h1, h2⟩ := (P.mem e).1 he
      obtain ⟨h3, h4, h5⟩ := (hmem w y).1 h1
      obtain ⟨t, ht, hte⟩ := ih.out w h3
      refine ⟨t ++ [y], ?_, by rw [hst t ht, hte, h2]⟩
      rw [tru_snoc hp]
      unfold ext1 yrs
      rw [List.mem_flatMap]
      refine ⟨t, ht, ?_⟩
      rw [List.mem_map]
      exact ⟨y, by rw [List.mem_map]; exact ⟨(y - p.lo).toNat, by rw [List.mem_range]; omega, by omega⟩, rfl⟩
    · rw [tru_snoc hp] at ht
      unfold ext1 yrs at ht
      rw [List.mem_flatMap] at ht
      obtain ⟨t0, ht0, ht⟩ := ht
      rw [List.mem_map] at ht
      obtain ⟨y, hy, rfl⟩ := ht
      rw [List.mem_map] at hy
      obtain ⟨m, hm, rfl⟩ := hy
      rw [List.mem_range] at hm
      rw [P.mem]
      exact ⟨stOf f t0 k, _, (hmem _ _).2 ⟨ih.into t0 ht0, by omega, by omega⟩, hst t0 ht0 _⟩
    · rcases P.al x hx with h1 | ⟨h1, y, h2, h3⟩
      · obtain ⟨j, q, y, g1, g2⟩ := ih.al x h1
        exact ⟨j, q, y, by omega, g2⟩
      · obtain ⟨h4, h5, h6⟩ := (hmem _ _).1 h2
        exact ⟨k, p, y, by omega, hp, h5, h6, h3, h4⟩
    · by_cases hj : j = k + 1
      · subst hj; exact P.has e he
      · obtain ⟨x, hx, hxe⟩ := hasK_iff.1 (ih.has j h1 (by omega) e he)
        exact hasK_iff.2 ⟨x, P.old x hx, hxe⟩
/-! ### A state tells the owner -/

theorem Okt.wide {f : Fil} {t : List Int} (o : Okt f t) {a b : Nat} (h : a ≤ b) (hb : b < t.length) : tAt t a ≤ tAt t b := by
  rcases Nat.lt_or_eq_of_le h with h | h
  · exact Int.le_of_lt (o.mono h hb)
  · rw [h]; exact Int.le_refl _
theorem stOf_spec {f : Fil} {t : List Int} (o : Okt f t) : ∀ k, k + 1 ≤ t.length → stOf f t (k + 1) = ⟨k, tAt t k, if f.Y ≤ tAt t k - tAt t (fst f t k) then -1 else tAt t (fst f t k), (ownS f t (k + 1)).1, (ownS f t (k + 1)).2⟩ := by
  have hY := o.y
  have hlen := o.len
  intro k
  induction k with
  | zero =>
    intro hk
    have hp : f.ps[0]? = some f.ps[0] := List.getElem?_eq_getElem (by omega)
    have hpos : 0 ≤ tAt t 0 := by
      have hy : t[0]? = some t[0] := List.getElem?_eq_getElem (by omega)
      rw [tAt_eq hy]; exact (o.yr hy).1
    rw [stOf, hp]
    simp only [stOf]
    have ha : arB f t 0 = false := by unfold arB; rw [fst]; exact decide_eq_false (by omega)
    have hf0 : fst f t 0 = 0 := rfl
    have ho : ownS f t (0 + 1) = if arB f t 0 then (sdAt f 0, tAt t 0) else (2, 0) := rfl
    rw [ho, ha, isE_new (by omega), decide_eq_false (by omega), hf0, if_neg (show ¬ f.Y ≤ tAt t 0 - tAt t 0 by omega)]
    rfl
  | succ k ih =>
    intro hk
    have ih := ih (by omega)
    have hp : f.ps[k + 1]? = some f.ps[k + 1] := List.getElem?_eq_getElem (by omega)
    have hsd := sdAt_eq hp
    have hpos : 0 ≤ tAt t (k + 1) := by
      have hy : t[k + 1]? = some t[k + 1] := List.getElem?_eq_getElem (by omega)
      rw [tAt_eq hy]; exact (o.yr hy).1
    have hpos2 : ∀ j, j ≤ k → 0 ≤ tAt t j := by
      intro j hj
      have hy : t[j]? = some t[j] := List.getElem?_eq_getElem (by omega)
      rw [tAt_eq hy]; exact (o.yr hy).1
    have hlt := o.mono (a := k) (b := k + 1) (by omega) (by omega)
    have hfl := fst_le f t k
    rw [stOf, hp]
    simp only
    generalize f.ps[k + 1] = p at hp hsd
    have ho : ownS f t (k + 1 + 1) = if arB f t (k + 1) then (sdAt f (k + 1), tAt t (k + 1)) else ownS f t (k + 1) := rfl
    rw [ih, ho]
    by_cases hb : bgB f t (k + 1) = true
    · have hb2 : ¬ (0 < k + 1 ∧ sdAt f (k + 1) = sdAt f (k + 1 - 1) ∧ tAt t (k + 1) - tAt t k ≤ f.G) := by
        unfold bgB at hb
        rw [decide_eq_true_eq] at hb
        simp only [Nat.add_sub_cancel] at hb ⊢
        omega
      have hf : fst f t (k + 1) = k + 1 := by rw [fst, if_pos hb]
      have ha : arB f t (k + 1) = false := by unfold arB; rw [hf]; exact decide_eq_false (by omega)
      rw [isE_new hb2, decide_eq_false (by omega), ha, hf, if_neg (show ¬ f.Y ≤ tAt t (k + 1) - tAt t (k + 1) by omega)]
      simp
    · have hb2 : (0 < k + 1 ∧ sdAt f (k + 1) = sdAt f (k + 1 - 1) ∧ tAt t (k + 1) - tAt t k ≤ f.G) := by
        unfold bgB at hb
        rw [decide_eq_true_eq] at hb
        simp only [Nat.add_sub_cancel] at hb ⊢
        omega
      have hf : fst f t (k + 1) = fst f t k := by rw [fst, if_neg hb]
      have hp1 := hpos2 (fst f t k) hfl
      rw [isE_goes hb2]
      simp only
      have har : arB f t (k + 1) = decide (f.Y ≤ tAt t (k + 1) - tAt t (fst f t k) ∧ tAt t k - tAt t (fst f t k) < f.Y) := by unfold arB; rw [hf, Nat.add_sub_cancel]
      rw [har, hf]
      generalize tAt t (fst f t k) = z at hp1
      by_cases h1 : f.Y ≤ tAt t k - z
      · rw [if_pos h1, decide_eq_false (by omega), decide_eq_false (by omega), if_pos (show f.Y ≤ tAt t (k + 1) - z by omega)]
        simp
      · rw [if_neg h1]
        by_cases h2 : f.Y ≤ tAt t (k + 1) - z
        · rw [decide_eq_true (by omega), decide_eq_true (by omega), if_pos h2]
          simp [hsd]
        · rw [decide_eq_false (by omega), decide_eq_false (by omega), if_neg h2]
          simp
end Go.Proofs.Ytolnajnlcdacmaa

open Go.Vm
namespace Go.Proofs.Ytolnajnlcdacmaa
set_option maxRecDepth 20000
set_option maxHeartbeats 2000000

def backK (a : AL) : Nat → End → List Int
  | 0, _ => []
  | k + 1, e => e.year :: backK a k ((alGet a e).getD beg)
theorem backK_len (a : AL) : ∀ k e, (backK a k e).length = k
  | 0, _ => rfl
  | k + 1, e => by simp [backK, backK_len a k]
theorem alGet_mem {a : AL} {e v : End} (h : alGet a e = some v) : (e, v) ∈ a := by
  unfold alGet at h
  rw [Option.map_eq_some_iff] at h
  obtain ⟨x, h1, rfl⟩ := h
  have h2 := List.find?_some h1
  simp only [decide_eq_true_eq] at h2
  rw [← h2]
  exact List.mem_of_find?_eq_some h1
theorem back_step {f : Fil} {k : Nat} {x : End} (hk : k + 1 ≤ f.ps.length) (hx : x ∈ (goneK f (k + 1)).2) :
    x ≠ beg ∧ ∃ v p, alGet (gone f).1 x = some v ∧ v ∈ (goneK f k).2 ∧ f.ps[k]? = some p ∧ p.lo ≤ x.year ∧ x.year ≤ p.hi ∧ x = isE f k p v x.year := by
  have K := kinv f f.ps.length (Nat.le_refl _)
  have K1 := kinv f (k + 1) hk
  have hi : x.i = k := by
    obtain ⟨t, _, ht⟩ := K1.out x hx
    have hp : f.ps[k]? = some f.ps[k] := List.getElem?_eq_getElem (by omega)
    rw [stOf, hp] at ht
    rw [← ht]; exact isE_i _ _ _ _ _
  have hh := K.has (k + 1) (by omega) hk x hx
  rw [← gone_eq] at hh
  rw [hasK_get] at hh
  refine ⟨fun h0 => ?_, ?_⟩
  · rw [h0] at hi
    have : (-1 : Int) = k := hi
    omega
  · cases hg : alGet (gone f).1 x with
    | none => rw [hg] at hh; cases hh
    | some v =>
      have hm := alGet_mem hg
      rw [gone_eq] at hm
      obtain ⟨j, p, y, h1, h2, h3, h4, h5, h6⟩ := K.al (x, v) hm
      simp only at h5 h6
      have hj : (j : Int) = k := by rw [← hi, h5, isE_i]
      have hj : j = k := by omega
      subst hj
      have hy : x.year = y := by rw [h5, isE_year]
      exact ⟨v, p, rfl, h6, h2, by omega, by omega, by rw [hy]; exact h5⟩
theorem back_tru {f : Fil} : ∀ k x, k ≤ f.ps.length → x ∈ (goneK f k).2 → (backK (gone f).1 k x).reverse ∈ tru (f.ps.take k) ∧ stOf f (backK (gone f).1 k x).reverse k = x
  | 0, x, _, hx => by
    simp only [goneK, List.mem_singleton] at hx
    rw [hx]
    exact ⟨by simp [backK, tru], rfl⟩
  | k + 1, x, hk, hx => by
    obtain ⟨_, v, p, h1, h2, h3, h4, h5, h6⟩ := back_step hk hx
    obtain ⟨g1, g2⟩ := back_tru k v (by omega) h2
    rw [backK, h1, Option.getD_some, List.reverse_cons]
    have hl : (backK (gone f).1 k v).reverse.length = k := by rw [List.length_reverse, backK_len]
    generalize (backK (gone f).1 k v).reverse = t at g1 g2 hl
    constructor
    · rw [tru_snoc h3]
      unfold ext1 yrs
      rw [List.mem_flatMap]
      refine ⟨t, g1, ?_⟩
      rw [List.mem_map]
      exact ⟨x.year, by rw [List.mem_map]; exact ⟨(x.year - p.lo).toNat, by rw [List.mem_range]; omega, by omega⟩, rfl⟩
    · rw [stOf, h3]
      simp only
      rw [stOf_congr (u := t) (fun j hj => tAt_app (by omega)), g2]
      have : tAt (t ++ [x.year]) k = x.year := by rw [← hl]; exact tAt_end
      rw [this]; exact h6.symm
theorem own_end {f : Fil} {t : List Int} (o : Okt f t) : ((stOf f t f.ps.length).side, (stOf f t f.ps.length).since) = own f t := by
  have hl := o.len
  unfold own
  rw [← hl]
  rcases Nat.eq_zero_or_pos t.length with h | h
  · rw [h]; rfl
  · obtain ⟨k, hk⟩ : ∃ k, t.length = k + 1 := ⟨t.length - 1, by omega⟩
    rw [hk, stOf_spec o k (by omega)]
theorem isG_eq {f : Fil} (h0 : chk f = 0) (x : Int) : isG f x = isOwn f x := by
  have K := kinv f f.ps.length (Nat.le_refl _)
  have hT : f.ps.take f.ps.length = f.ps := List.take_length
  unfold isG isOwn
  rw [Bool.eq_iff_iff, List.any_eq_true, List.any_eq_true, gone_eq]
  constructor
  · rintro ⟨e, he, hx⟩
    obtain ⟨t, ht, hte⟩ := K.out e he
    rw [hT] at ht
    have := own_end (tru_okt h0 ht)
    rw [hte] at this
    exact ⟨t, ht, by rw [← this]; exact hx⟩
  · rintro ⟨t, ht, hx⟩
    have h1 := K.into t (by rw [hT]; exact ht)
    have := own_end (tru_okt h0 ht)
    rw [← this] at hx
    exact ⟨_, h1, hx⟩
theorem osG_eq {f : Fil} (h0 : chk f = 0) : osG f = osL f := by
  unfold osG osL
  congr 1
  funext k
  exact isG_eq h0 k
theorem fidx_spec (q : End → Bool) : ∀ (l : List End) (i : Int), (fidx q l i = -1 ∧ ∀ e ∈ l, q e = false) ∨ ∃ (j : Nat) (e : End), fidx q l i = i + j ∧ l[j]? = some e ∧ q e = true
  | [], i => .inl ⟨rfl, by simp⟩
  | a :: l, i => by
    rw [fidx]
    cases hq : q a
    · rcases fidx_spec q l (i + 1) with ⟨h1, h2⟩ | ⟨j, e, h1, h2, h3⟩
      · exact .inl ⟨h1, by intro e he; rcases List.mem_cons.1 he with rfl | he; exact hq; exact h2 e he⟩
      · exact .inr ⟨j + 1, e, by rw [cond_false, h1]; omega, by simpa using h2, h3⟩
    · exact .inr ⟨0, a, by simp, rfl, hq⟩
def truG (f : Fil) (x : Int) : List Int := match (gone f).2[(fidx (fun e => decide (e.side = x)) (gone f).2 0).toNat]? with
  | some e => (backK (gone f).1 f.ps.length e).reverse
  | none => []
theorem truG_ok {f : Fil} (h0 : chk f = 0) {x : Int} (h : isG f x = true) : truG f x ∈ tru f.ps ∧ (own f (truG f x)).1 = x := by
  have hT : f.ps.take f.ps.length = f.ps := List.take_length
  unfold truG
  rcases fidx_spec (fun e => decide (e.side = x)) (gone f).2 0 with ⟨_, h1⟩ | ⟨j, e, h1, h2, h3⟩
  · exfalso
    unfold isG at h
    rw [List.any_eq_true] at h
    obtain ⟨e, he, hx⟩ := h
    rw [h1 e he] at hx; cases hx
  · rw [h1, show ((0 : Int) + (j : Int)).toNat = j by omega, h2]
    simp only
    have hm := List.mem_of_getElem? h2
    obtain ⟨g1, g2⟩ := back_tru f.ps.length e (Nat.le_refl _) (by rw [← gone_eq]; exact hm)
    rw [hT] at g1
    refine ⟨g1, ?_⟩
    have := own_end (tru_okt h0 g1)
    rw [g2] at this
    rw [← this]
    simpa using h3
end Go.Proofs.Ytolnajnlcdacmaa

open Go.Vm
namespace Go.Proofs.Ytolnajnlcdacmaa
set_option maxRecDepth 20000
set_option maxHeartbeats 2000000
theorem vneqE (x y : End) : vaggeq Try.prog .neq 100 (aggE x) (aggE y) = some (B (decide (¬ x = y))) := by
  have : (!((x.i == y.i) && ((x.year == y.year) && ((x.first == y.first) && ((x.side == y.side) && ((x.since == y.since) && true)))))) = decide (¬ x = y) := by
    cases x; cases y; rw [Bool.eq_iff_iff, decide_eq_true_eq]; simp [-not_and]; omega
  rw [← this]
  unfold vaggeq
  rw [show eqTop Try.prog 100 = some (Sh.cons 0 1 false Sh.int (Sh.cons 1 1 false Sh.int (Sh.cons 2 1 false Sh.int (Sh.cons 3 1 false Sh.int (Sh.cons 4 1 false Sh.int Sh.nil))))) by kernel_rfl]
  rfl
theorem look_esF {a : AL} {e v : End} (hg : alGet a e = some v) : Look Try.prog (tiOf Try.prog) 95 false (aggE e) ((D.vs (keysE a)).zip (D.vs (valsE a))) (aggE v) := by
  obtain ⟨sh, h1, h2⟩ := top100
  obtain ⟨i, hi⟩ := found_some h2 hg
  rw [esE_zip]
  exact ⟨_, 100, 100, _, sh, true, some (i, aggE v), rfl, rfl, h1, by rw [h2]; simp, hi, rfl⟩
def truE (f : Fil) (x : Int) : Int := if chk f ≠ 0 then chk f else if x < 0 ∨ 2 < x then 4 else bif isG f x then 0 else 7
theorem vc_Truth_no (f : Fil) (x : Int) (h : Hp) (hn : f.ps.length ≤ 4000000) (hE : truE f x ≠ 0) : VC Try.prog 19 [vF f, I x] h (.tuple [.nilslice, I (truE f x)]) h := by
  unfold truE at hE ⊢
  by_cases h0 : chk f = 0
  · have hS : ∀ h, VC Try.prog 34 [vF f] h (I 0) h := fun h => h0 ▸ vc_check f h hn
    have hG := fun h => vc_gone f h h0
    obtain ⟨hok, hlen⟩ := gone_inv h0
    rw [if_neg (by simpa using h0)] at hE ⊢
    by_cases h1 : x < 0 ∨ 2 < x
    · rw [if_pos h1]
      refine VC.body Try.func19 rfl Try.ntmps19 Try.call19 (h.grows_refl) rfl ?_; conv => whnf
      repeat' (first | ((first | refine zs1 ?_ | refine zs2 ?_ | refine zs3 ?_ | refine zs4 ?_ | refine zs5 ?_ | refine zs6 [] ?_); conv => whnf) | ((first | apply zi1 | apply zi2 | apply zi3 | apply zi4 | apply zi5) <;> intro _ <;> conv => whnf) | (refine VCall.intro (hS _) ?_; conv => whnf) | (refine VCall.intro (vc_from _ _ _ _) ?_; conv => whnf))
      all_goals first | exact VOut.same rfl | (exfalso; omega)
    · rw [if_neg h1] at hE ⊢
      unfold isG vGone at *
      generalize gone f = G at hG hok hlen hE
      obtain ⟨a, L⟩ := G
      dsimp only at hG hok hlen hE
      cases hb : L.any fun e => decide (e.side = x)
      case true => rw [hb] at hE; exact absurd rfl hE
      have hf : fidx (fun e => decide (e.side = x)) L 0 = -1 := by
        rcases fidx_spec (fun e => decide (e.side = x)) L 0 with ⟨h1, _⟩ | ⟨j, e, _, h2, h3⟩
        · exact h1
        · rw [List.any_eq_false] at hb
          exact absurd h3 (hb e (List.mem_of_getElem? h2))
      have hI := fun h => vc_IndexFunc L (fun e => decide (e.side = x)) 59 [.pt [DI x]] (by omega) (fun e h => vc_Truth1 x e h) h
      rw [hf] at hI
      refine VC.body Try.func19 rfl Try.ntmps19 Try.call19 (h.grows_refl) rfl ?_; conv => whnf
      repeat' (first | ((first | refine zs1 ?_ | refine zs2 ?_ | refine zs3 ?_ | refine zs4 ?_ | refine zs5 ?_ | refine zs6 [] ?_); conv => whnf) | ((first | apply zi1 | apply zi2 | apply zi3 | apply zi4 | apply zi5) <;> intro _ <;> conv => whnf) | (refine VCall.intro (hS _) ?_; conv => whnf) | (refine VCall.intro (vc_from _ _ _ _) ?_; conv => whnf) | (refine VCall.intro (hG _) ?_; conv => whnf))
      · exfalso; omega
      · refine VCall.intro (VC.give (args' := [ends L, .func (.func 59) [] [.fp [DI x]]]) (loc' := [.flat true (encF f), .dead]) [(1, [DI x])] [] (OutOk.lift _) zb zf (by exact FmAll.nil) rfl zv (hI _)) ?_
        conv => whnf
        repeat' (first | ((first | refine zs1 ?_ | refine zs2 ?_ | refine zs3 ?_ | refine zs4 ?_ | refine zs5 ?_ | refine zs6 [] ?_); conv => whnf) | ((first | apply zi1 | apply zi2 | apply zi3 | apply zi4 | apply zi5) <;> intro _ <;> conv => whnf))
        all_goals first | exact VOut.same rfl | (exfalso; omega)
  · rw [if_pos h0]
    refine VC.body Try.func19 rfl Try.ntmps19 Try.call19 (h.grows_refl) rfl ?_; conv => whnf
    repeat' (first | ((first | refine zs1 ?_ | refine zs2 ?_ | refine zs3 ?_ | refine zs4 ?_ | refine zs5 ?_ | refine zs6 [] ?_); conv => whnf) | ((first | apply zi1 | apply zi2 | apply zi3 | apply zi4 | apply zi5) <;> intro _ <;> conv => whnf) | (refine VCall.intro (vc_check f _ hn) ?_; conv => whnf))
    all_goals first | exact VOut.same rfl | (exfalso; omega)
theorem vc_Truth_ok (f : Fil) (x : Int) (h : Hp) (hE : truE f x = 0) : VC Try.prog 19 [vF f, I x] h (.tuple [ints (truG f x), I 0]) h := by
  unfold truE at hE
  have h0 : chk f = 0 := by
    by_cases h0 : chk f = 0
    · exact h0
    · rw [if_pos h0] at hE; exact absurd hE h0
  rw [if_neg (by simpa using h0)] at hE
  have h1 : ¬ (x < 0 ∨ 2 < x) := fun h1 => by rw [if_pos h1] at hE; cases hE
  rw [if_neg h1] at hE
  have hg : isG f x = true := by
    cases hg : isG f x
    · rw [hg] at hE; cases hE
    · rfl
  have hn16 := (chk_zero h0).2.2.1
  have hS : ∀ h, VC Try.prog 34 [vF f] h (I 0) h := fun h => h0 ▸ vc_check f h (by omega)
  have hG := fun h => vc_gone f h h0
  obtain ⟨hok, hlen⟩ := gone_inv h0
  have hstep := fun k x hk hx => back_step (f := f) (k := k) (x := x) hk hx
  have hge := gone_eq f
  unfold isG at hg
  rw [List.any_eq_true] at hg
  obtain ⟨e1, hm1, he1⟩ := hg
  obtain ⟨R, hR⟩ : ∃ R, R = truG f x := ⟨_, rfl⟩
  rw [← hR]
  unfold truG at hR
  unfold vGone at hG
  generalize gone f = G at hG hok hlen hstep hge hm1 hR
  obtain ⟨a, L⟩ := G
  dsimp only at hG hok hlen hstep hm1 hR
  rcases fidx_spec (fun e => decide (e.side = x)) L 0 with ⟨_, hbad⟩ | ⟨j, e, hf, hj, he⟩
  · rw [hbad e1 hm1] at he1; cases he1
  have hI := fun h => vc_IndexFunc L (fun e => decide (e.side = x)) 59 [.pt [DI x]] (by omega) (fun e h => vc_Truth1 x e h) h
  rw [hf, Int.zero_add] at hI hR
  rw [Int.toNat_natCast, hj] at hR
  have heK : e ∈ (goneK f f.ps.length).2 := by rw [← hge]; exact List.mem_of_getElem? hj
  obtain ⟨W, hW⟩ : ∃ W, W = backK a f.ps.length e := ⟨_, rfl⟩
  have hR : R = W.reverse := by rw [hW]; exact hR
  subst hR
  have hWl : W.length = f.ps.length := by rw [hW, backK_len]
  refine VC.body Try.func19 rfl Try.ntmps19 Try.call19 (h.grows_refl) rfl ?_; conv => whnf
  repeat' (first | ((first | refine zs1 ?_ | refine zs2 ?_ | refine zs3 ?_ | refine zs4 ?_ | refine zs5 ?_ | refine zs6 [] ?_); conv => whnf) | ((first | apply zi1 | apply zi2 | apply zi3 | apply zi4 | apply zi5) <;> intro _ <;> conv => whnf) | (refine VCall.intro (hS _) ?_; conv => whnf) | (refine VCall.intro (vc_from _ _ _ _) ?_; conv => whnf) | (refine VCall.intro (hG _) ?_; conv => whnf))
  · exfalso; omega
  · refine VCall.intro (VC.give (args' := [ends L, .func (.func 59) [] [.fp [DI x]]]) (loc' := [.flat true (encF f), .dead]) [(1, [DI x])] [] (OutOk.lift _) zb zf (by exact FmAll.nil) rfl zv (hI _)) ?_
    conv => whnf
    repeat' (first | ((first | refine zs1 ?_ | refine zs2 ?_ | refine zs3 ?_ | refine zs4 ?_ | refine zs5 ?_ | refine zs6 [] ?_); conv => whnf) | ((first | apply zi1 | apply zi2 | apply zi3 | apply zi4 | apply zi5) <;> intro _ <;> conv => whnf) | (refine VAny.ix encE_len j (by omega) rfl hj ?_; conv => whnf))
    · refine VCode.lp (fun y : Nat × End × List Int => [(7, .fm (keysE a) (valsE a)), (10, .gl (.loc 1) 1 y.2.2.length), (11, .ptr (.loc 0) 0)]) (fun y => [.flat true (encE y.2.1), .flat true (y.2.2.flatMap encI)])
        (fun y => y.1 ≤ f.ps.length ∧ y.2.1 ∈ (goneK f y.1).2 ∧ W = y.2.2 ++ backK a y.1 y.2.1) (fun y => y.1) (f.ps.length, e, []) ⟨Nat.le_refl _, heK, hW⟩ ?_ ?_
      · conv => whnf
        refine Retell.turn ⟨[2,3], 3, [], []⟩ (TurnOk.mk' _ _ [] [] (OutOk.lift _) rfl (by decide) zb trivial trivial rfl) zv zm
      · rintro ⟨k, z, out⟩ ⟨g1, g2, g3⟩
        dsimp only at g1 g2 g3
        conv => whnf
        repeat' (first | ((first | refine zs1 ?_ | refine zs2 ?_ | refine zs3 ?_ | refine zs4 ?_ | refine zs5 ?_ | refine zs6 [] ?_); conv => whnf) | ((first | apply zi1 | apply zi2 | apply zi3 | apply zi4 | apply zi5) <;> intro _ <;> conv => whnf) | (refine VAgg.intro (vneqE z beg) ?_; conv => whnf))
        · rename_i hx
          have hz : ¬ z = beg := by first | exact hx | simpa using hx
          clear hx
          cases k with
          | zero => simp only [goneK, List.mem_singleton] at g2; exact absurd g2 hz
          | succ k =>
            obtain ⟨_, v, p, hv, hvm, _⟩ := hstep k z g1 g2
            rw [backK, hv, Option.getD_some] at g3
            have hol : out.length ≤ 16 := by
              have : W.length = out.length + (k + 1) := by rw [g3]; simp [backK_len]
              omega
            refine VMem.app1 z.year encI_len rfl rfl rfl rfl rfl (by dsimp only; omega) ?_
            conv => whnf
            repeat' (first | ((first | refine zs1 ?_ | refine zs2 ?_ | refine zs3 ?_ | refine zs4 ?_ | refine zs5 ?_ | refine zs6 [] ?_); conv => whnf) | ((first | apply zi1 | apply zi2 | apply zi3 | apply zi4 | apply zi5) <;> intro _ <;> conv => whnf) | (refine VLookF.intro (look_esF hv) ?_; conv => whnf))
            refine LEnd.intro (k, v, out ++ [z.year]) ⟨by dsimp only; omega, hvm, by rw [g3]; simp⟩ (by dsimp only; omega) ?_
            conv => whnf
            rw [List.length_append]
            refine Retell.turn ⟨[4,3], 5, [], []⟩ (TurnOk.mk' _ _ [] [] (OutOk.lift _) rfl (by decide) zb trivial trivial rfl) zv zm
        · rename_i hx
          have hz : z = beg := by first | exact hx | simpa using hx
          clear hx
          cases k with
          | succ k => exact absurd hz (hstep k z g1 g2).1
          | zero =>
            rw [backK, List.append_nil] at g3
            subst g3
            refine VCall.intro (vc_reverse W (.loc 1) _ rfl (by omega)) ?_
            conv => whnf
            repeat (first | ((first | refine zs1 ?_ | refine zs2 ?_ | refine zs3 ?_ | refine zs4 ?_ | refine zs5 ?_ | refine zs6 [] ?_); conv => whnf))
            rw [show ints W.reverse = .fs 1 W.length (W.reverse.flatMap encI) from by unfold ints; rw [List.length_reverse]]
            refine VOut.data 3 [(1, W.reverse.flatMap encI)] [] rfl zf (by exact FmAll.nil) zv
end Go.Proofs.Ytolnajnlcdacmaa

open Go.Vm
namespace Go.Proofs.Ytolnajnlcdacmaa
set_option maxRecDepth 20000
set_option maxHeartbeats 2000000

def sinL (x : Int) (l : List End) : List Int := (l.filter fun e => decide (e.side = x)).map (·.since)
theorem sinL_at {x : Int} {l : List End} {k : Nat} {e : End} (h : l[k]? = some e) : sinL x (l.take (k + 1)) = if e.side = x then sinL x (l.take k) ++ [e.since] else sinL x (l.take k) := by
  unfold sinL
  rw [List.take_add_one, h, List.filter_append, List.map_append]
  simp only [Option.toList_some, List.filter_cons, List.filter_nil]
  split <;> simp_all
theorem sinL_len (x : Int) (l : List End) : (sinL x l).length ≤ l.length := by
  unfold sinL
  rw [List.length_map]
  exact List.length_filter_le _ _
theorem vc_SinceG (f : Fil) (x : Int) (h : Hp) (h0 : chk f = 0) (hx : 0 ≤ x ∧ x ≤ 1) : VC Try.prog 22 [vF f, I x] h (match sinL x (gone f).2 with
    | [] => .tuple [.agg [I 0, I 0], I 7]
    | a :: r => .tuple [.agg [I (minL (a :: r)), I (maxL (a :: r))], I 0]) h := by
  have hn16 := (chk_zero h0).2.2.1
  have hS : ∀ h, VC Try.prog 34 [vF f] h (I 0) h := fun h => h0 ▸ vc_check f h (by omega)
  have hG := fun h => vc_gone f h h0
  obtain ⟨hok, hlen⟩ := gone_inv h0
  unfold vGone at hG
  generalize gone f = G at hG hok hlen
  obtain ⟨a, L⟩ := G
  dsimp only at hG hok hlen
  obtain ⟨F, hF⟩ : ∃ F, F = sinL x L := ⟨_, rfl⟩
  have hFl := sinL_len x L
  rw [← hF] at hFl
  dsimp only
  rw [← hF]
  refine VC.bodyC 8 Try.func22 rfl Try.ntmps22 Try.call22 (h.grows_refl) rfl ?_; conv => whnf
  repeat' (first | ((first | refine zs1 ?_ | refine zs2 ?_ | refine zs3 ?_ | refine zs4 ?_ | refine zs5 ?_ | refine zs6 [] ?_); conv => whnf) | ((first | apply zi1 | apply zi2 | apply zi3 | apply zi4 | apply zi5) <;> intro _ <;> conv => whnf) | (refine VCall.intro (hS _) ?_; conv => whnf) | (refine VCall.intro (hG _) ?_; conv => whnf) | (refine VCall.intro (vc_from _ _ _ _) ?_; conv => whnf))
  · exfalso; omega
  · refine VCode.lp (fun k : Nat => [(1, I x), (2, .ptr (.loc 0) 0), (4, .ptr (.loc 1) 0), (9, .gl (.loc 2) 1 (sinL x (L.take k)).length), (31, ends L), (32, I L.length), (33, I k)]) (fun k => [.flat true (encF f), .flat true [DI 0, DI 0], .flat true ((sinL x (L.take k)).flatMap encI)]) (fun k => k ≤ L.length) (fun k => L.length - k) 0 (Nat.zero_le _) ?_ ?_
    · conv => whnf
      refine Retell.turn ⟨[0,1,2], 2, [], []⟩ (TurnOk.mk' _ _ [] [] (OutOk.lift _) rfl (by decide) zb trivial trivial rfl) zv zm
    · intro k hk
      conv => whnf
      refine VIte.dec (fun h3 => ?_) (fun h3 => ?_)
      · have he : L[k]? = some L[k] := List.getElem?_eq_getElem (by omega)
        generalize L[k] = e at he
        have hs := sinL_at (x := x) he
        have hsl := sinL_len x (L.take k)
        rw [List.length_take] at hsl
        generalize sinL x (L.take k) = A at hs hsl
        conv => whnf
        repeat' (first | ((first | refine zs1 ?_ | refine zs2 ?_ | refine zs3 ?_ | refine zs4 ?_ | refine zs5 ?_ | refine zs6 [] ?_); conv => whnf) | ((first | apply zi1 | apply zi2 | apply zi3 | apply zi4 | apply zi5) <;> intro _ <;> conv => whnf) | (refine VAny.ix encE_len k rfl rfl he ?_; conv => whnf))
        · rename_i hc
          refine VMem.app1B e.since encI_len rfl rfl rfl rfl rfl (by omega) ?_
          conv => whnf
          repeat (first | ((first | refine zs1 ?_ | refine zs2 ?_ | refine zs3 ?_ | refine zs4 ?_ | refine zs5 ?_ | refine zs6 [] ?_); conv => whnf))
          refine LEnd.intro (k + 1) (by omega) (by omega) ?_
          conv => whnf
          rw [hs, if_pos hc, List.length_append]
          refine Retell.turn ⟨[0,1,5], 6, [], []⟩ (TurnOk.mk' _ _ [] [] (OutOk.lift _) rfl (by decide) zb trivial trivial rfl) zv zm
        · rename_i hc
          refine LEnd.intro (k + 1) (by omega) (by omega) ?_
          conv => whnf
          rw [hs, if_neg hc]
          refine Retell.turn ⟨[0,1,2], 4, [], []⟩ (TurnOk.mk' _ _ [] [] (OutOk.lift _) rfl (by decide) zb trivial trivial rfl) zv zm
      · have hkl : k = L.length := by omega
        subst hkl
        rw [List.take_length, ← hF]
        conv => whnf
        cases F with
        | nil =>
          repeat' (first | ((first | refine zs1 ?_ | refine zs2 ?_ | refine zs3 ?_ | refine zs4 ?_ | refine zs5 ?_ | refine zs6 [] ?_); conv => whnf) | ((first | apply zi1 | apply zi2 | apply zi3 | apply zi4 | apply zi5) <;> intro _ <;> conv => whnf))
          exact VOut.same rfl
        | cons b r =>
          have hl1 : r.length + 1 ≤ 108108024 := by simp only [List.length_cons] at hFl; omega
          repeat' (first | ((first | refine zs1 ?_ | refine zs2 ?_ | refine zs3 ?_ | refine zs4 ?_ | refine zs5 ?_ | refine zs6 [] ?_); conv => whnf) | ((first | apply zi1 | apply zi2 | apply zi3 | apply zi4 | apply zi5) <;> intro _ <;> conv => whnf))
          refine VCut.at [(4, .ptr (.loc 0) 0), (9, ints (b :: r)), (12, .fp [.func (.func 63) [] []]), (13, .fp [.func (.func 64) [] []])] [.flat true [DI 0, DI 0]] ?_ ?_
          · conv => whnf
            refine Retell.turn ⟨[1], 5, [(2, (b :: r).flatMap encI), (3, [.func (.func 63) [] []]), (4, [.func (.func 64) [] []])], []⟩ (TurnOk.mk' _ _ [(2, (b :: r).flatMap encI), (3, [.func (.func 63) [] []]), (4, [.func (.func 64) [] []])] [] (OutOk.lift _) rfl (by decide) zb zf trivial rfl) zv zm
          · conv => whnf
            repeat' (first | ((first | refine zs1 ?_ | refine zs2 ?_ | refine zs3 ?_ | refine zs4 ?_ | refine zs5 ?_ | refine zs6 [(3, 5)] ?_); conv => whnf) | ((first | apply zi1 | apply zi2 | apply zi3 | apply zi4 | apply zi5) <;> intro _ <;> conv => whnf) | (refine VCall.intro (vc_least (b :: r) _ (by simp only [List.length_cons]; omega)) ?_; conv => whnf) | (refine VCall.intro (vc_most b r _ (by omega)) ?_; conv => whnf))
            exact VOut.same rfl
end Go.Proofs.Ytolnajnlcdacmaa

open Go.Vm
namespace Go.Proofs.Ytolnajnlcdacmaa
set_option maxRecDepth 20000
set_option maxHeartbeats 2000000

structure Ext2 (S : Int → Prop) (lo hi : Int) : Prop where
  lo1 : S lo
  lo2 : ∀ y, S y → lo ≤ y
  hi1 : S hi
  hi2 : ∀ y, S y → y ≤ hi
theorem Ext2.uniq {S : Int → Prop} {a b c d : Int} (h : Ext2 S a b) (k : Ext2 S c d) : a = c ∧ b = d :=
  ⟨Int.le_antisymm (h.lo2 _ k.lo1) (k.lo2 _ h.lo1), Int.le_antisymm (k.hi2 _ h.hi1) (h.hi2 _ k.hi1)⟩
theorem min_mem : ∀ (r : List Int) (a : Int), (r.foldl min a = a ∨ r.foldl min a ∈ r) ∧ r.foldl min a ≤ a ∧ ∀ y ∈ r, r.foldl min a ≤ y
  | [], a => by simp
  | b :: r, a => by
    obtain ⟨h1, h2, h3⟩ := min_mem r (min a b)
    rw [List.foldl_cons]
    generalize r.foldl min (min a b) = m at h1 h2 h3
    refine ⟨?_, by omega, fun y hy => ?_⟩
    · rcases h1 with h1 | h1
      · rcases Int.le_total a b with h | h
        · left; omega
        · right; rw [h1, Int.min_eq_right h]; simp
      · right; simp [h1]
    · rcases List.mem_cons.1 hy with rfl | hy
      · omega
      · exact h3 y hy
theorem max_mem : ∀ (r : List Int) (a : Int), (r.foldl max a = a ∨ r.foldl max a ∈ r) ∧ a ≤ r.foldl max a ∧ ∀ y ∈ r, y ≤ r.foldl max a
  | [], a => by simp
  | b :: r, a => by
    obtain ⟨h1, h2, h3⟩ := max_mem r (max a b)
    rw [List.foldl_cons]
    generalize r.foldl max (max a b) = m at h1 h2 h3
    refine ⟨?_, by omega, fun y hy => ?_⟩
    · rcases h1 with h1 | h1
      · rcases Int.le_total a b with h | h
        · right; rw [h1, Int.max_eq_right h]; simp
        · left; omega
      · right; simp [h1]
    · rcases List.mem_cons.1 hy with rfl | hy
      · omega
      · exact h3 y hy
theorem ext2_list (a : Int) (r : List Int) : Ext2 (fun y => y ∈ a :: r) (minL (a :: r)) (maxL (a :: r)) := by
  obtain ⟨h1, h2, h3⟩ := min_mem r a
  obtain ⟨g1, g2, g3⟩ := max_mem r a
  have e1 : minL (a :: r) = r.foldl min a := rfl
  have e2 : maxL (a :: r) = r.foldl max a := rfl
  rw [e1, e2]
  refine ⟨?_, fun y hy => ?_, ?_, fun y hy => ?_⟩
  · rcases h1 with h1 | h1
    · rw [h1]; simp
    · exact List.mem_cons_of_mem _ h1
  · rcases List.mem_cons.1 hy with rfl | hy
    · exact h2
    · exact h3 y hy
  · rcases g1 with g1 | g1
    · rw [g1]; simp
    · exact List.mem_cons_of_mem _ g1
  · rcases List.mem_cons.1 hy with rfl | hy
    · exact g2
    · exact g3 y hy
theorem snF_fold (f : Fil) (x : Int) : ∀ (T : List (List Int)) (s : Sn) (S : Int → Prop), (s.found = false → ∀ y, ¬ S y) → (s.found = true → Ext2 S s.lo s.hi) →
    ((T.foldl (snF f x) s).found = false → ∀ y, ¬ (S y ∨ ∃ t ∈ T, own f t = (x, y))) ∧ ((T.foldl (snF f x) s).found = true → Ext2 (fun y => S y ∨ ∃ t ∈ T, own f t = (x, y)) (T.foldl (snF f x) s).lo (T.foldl (snF f x) s).hi)
  | [], s, S, h1, h2 => by simpa using ⟨h1, h2⟩
  | t :: T, s, S, h1, h2 => by
    rw [List.foldl_cons]
    have key : ((snF f x s t).found = false → ∀ y, ¬ (S y ∨ own f t = (x, y))) ∧ ((snF f x s t).found = true → Ext2 (fun y => S y ∨ own f t = (x, y)) (snF f x s t).lo (snF f x s t).hi) := by
      unfold snF
      by_cases hx : (own f t).1 = x
      · rw [if_pos hx]
        have hxy : ∀ y, own f t = (x, y) ↔ y = (own f t).2 := fun y => by
          constructor
          · intro h; rw [h]
          · intro h; rw [h, ← hx]
        simp only [hxy]
        generalize (own f t).2 = z
        refine ⟨by simp, fun _ => ?_⟩
        cases hf : s.found
        · have h1 := h1 hf
          simp only [true_or, if_true]
          exact ⟨.inr rfl, fun y hy => by rcases hy with hy | rfl; exact absurd hy (h1 y); exact Int.le_refl _, .inr rfl, fun y hy => by rcases hy with hy | rfl; exact absurd hy (h1 y); exact Int.le_refl _⟩
        · obtain ⟨a1, a2, a3, a4⟩ := h2 hf
          simp only [Bool.true_eq_false, false_or]
          refine ⟨?_, fun y hy => ?_, ?_, fun y hy => ?_⟩
          · split
            · exact .inr rfl
            · exact .inl a1
          · rcases hy with hy | rfl
            · have := a2 y hy; split <;> omega
            · split <;> omega
          · split
            · exact .inr rfl
            · exact .inl a3
          · rcases hy with hy | rfl
            · have := a4 y hy; split <;> omega
            · split <;> omega
      · rw [if_neg hx]
        have hxy : ∀ y, ¬ own f t = (x, y) := fun y h => hx (by rw [h])
        simp only [hxy, or_false]
        exact ⟨h1, h2⟩
    have := snF_fold f x T (snF f x s t) (fun y => S y ∨ own f t = (x, y)) key.1 key.2
    simpa [or_assoc] using this
theorem sn_spec (f : Fil) (x : Int) : ((sn f x).found = false → ∀ y, ¬ ∃ t ∈ tru f.ps, own f t = (x, y)) ∧ ((sn f x).found = true → Ext2 (fun y => ∃ t ∈ tru f.ps, own f t = (x, y)) (sn f x).lo (sn f x).hi) := by
  have := snF_fold f x (tru f.ps) ⟨false, 0, 0⟩ (fun _ => False) (fun _ _ h => h) (fun h => by cases h)
  simpa [sn] using this
theorem sinL_mem {f : Fil} (h0 : chk f = 0) (x y : Int) : y ∈ sinL x (gone f).2 ↔ ∃ t ∈ tru f.ps, own f t = (x, y) := by
  have K := kinv f f.ps.length (Nat.le_refl _)
  have hT : f.ps.take f.ps.length = f.ps := List.take_length
  unfold sinL
  rw [gone_eq]
  simp only [List.mem_map, List.mem_filter, decide_eq_true_eq]
  constructor
  · rintro ⟨e, ⟨he, rfl⟩, rfl⟩
    obtain ⟨t, ht, hte⟩ := K.out e he
    rw [hT] at ht
    have := own_end (tru_okt h0 ht)
    rw [hte] at this
    exact ⟨t, ht, this.symm⟩
  · rintro ⟨t, ht, hx⟩
    have h1 := K.into t (by rw [hT]; exact ht)
    have := own_end (tru_okt h0 ht)
    rw [hx] at this
    injection this with e1 e2
    exact ⟨_, ⟨h1, e1⟩, e2⟩
theorem vc_Since (f : Fil) (x : Int) (h : Hp) (hn : f.ps.length ≤ 4000000) : VC Try.prog 22 [vF f, I x] h (sinceR f x) h := by
  have hre : ∀ e, sinceE f x = e → e ≠ 0 → sinceR f x = .tuple [.agg [I 0, I 0], I e] := fun e he h0 => by unfold sinceR; rw [he, decide_eq_false h0]; rfl
  by_cases h0 : chk f = 0
  case neg =>
    rw [hre (chk f) (if_pos h0) h0]
    refine VC.body Try.func22 rfl Try.ntmps22 Try.call22 (h.grows_refl) rfl ?_; conv => whnf
    repeat' (first | ((first | refine zs1 ?_ | refine zs2 ?_ | refine zs3 ?_ | refine zs4 ?_ | refine zs5 ?_ | refine zs6 [] ?_); conv => whnf) | ((first | apply zi1 | apply zi2 | apply zi3 | apply zi4 | apply zi5) <;> intro _ <;> conv => whnf) | (refine VCall.intro (vc_check f _ hn) ?_; conv => whnf))
    all_goals first | exact VOut.same rfl | (exfalso; omega)
  case pos =>
    have he2 : sinceE f x = if x < 0 ∨ 1 < x then 4 else bif (sn f x).found then 0 else 7 := by unfold sinceE; rw [if_neg (by simpa using h0)]
    by_cases h1 : x < 0 ∨ 1 < x
    · rw [if_pos h1] at he2
      rw [hre 4 he2 (by decide)]
      have hS : ∀ h, VC Try.prog 34 [vF f] h (I 0) h := fun h => h0 ▸ vc_check f h hn
      refine VC.body Try.func22 rfl Try.ntmps22 Try.call22 (h.grows_refl) rfl ?_; conv => whnf
      repeat' (first | ((first | refine zs1 ?_ | refine zs2 ?_ | refine zs3 ?_ | refine zs4 ?_ | refine zs5 ?_ | refine zs6 [] ?_); conv => whnf) | ((first | apply zi1 | apply zi2 | apply zi3 | apply zi4 | apply zi5) <;> intro _ <;> conv => whnf) | (refine VCall.intro (hS _) ?_; conv => whnf) | (refine VCall.intro (vc_from _ _ _ _) ?_; conv => whnf))
      all_goals first | exact VOut.same rfl | (exfalso; omega)
    · rw [if_neg h1] at he2
      have hm := sinL_mem h0 x
      obtain ⟨s1, s2⟩ := sn_spec f x
      have := vc_SinceG f x h h0 (by omega)
      cases hs : sinL x (gone f).2 with
      | nil =>
        rw [hs] at this
        have hf : (sn f x).found = false := by
          cases hf : (sn f x).found
          · rfl
          · have := (hm _).2 (s2 hf).lo1
            rw [hs] at this; cases this
        rw [hf] at he2
        rw [hre 7 he2 (by decide)]
        exact this
      | cons a r =>
        rw [hs] at this hm
        have hf : (sn f x).found = true := by
          cases hf : (sn f x).found
          · exact absurd ((hm a).1 (by simp)) (s1 hf a)
          · rfl
        have e := ext2_list a r
        have : (fun y => y ∈ a :: r) = fun y => ∃ t ∈ tru f.ps, own f t = (x, y) := funext fun y => propext (hm y)
        rw [this] at e
        obtain ⟨e1, e2⟩ := e.uniq (s2 hf)
        rw [hf] at he2
        have he3 : sinceE f x = 0 := he2
        unfold sinceR
        rw [he3, decide_eq_true rfl, ← e1, ← e2]
        assumption
end Go.Proofs.Ytolnajnlcdacmaa

open Go.Vm
namespace Go.Proofs.Ytolnajnlcdacmaa
set_option maxRecDepth 20000
set_option maxHeartbeats 2000000

theorem VOut.own1 {h : Hp} {loc : List Blk} {esz n : Nat} {ds : List D} (j L : Nat) (hL : Nat.ble loc.length L = true) (hj : loc[j]? = some (.flat true ds)) : VOut h ⟨h.lift, loc⟩ (.gl (.loc j) esz n) (.gl h.fresh esz n) (h.push (.flat true ds)) := by
  refine VOut.upd [] [.flat true ds] [j] L hL (by intro p hp; cases hp) (by simp) rfl ?_ ?_ rfl
  · intro k b hk
    cases k with
    | zero => rw [List.getElem?_cons_zero, Option.some.injEq] at hk; subst hk; exact ⟨j, rfl, hj⟩
    | succ k => simp at hk
  · intro σ x hx
    have : (V.gl h.fresh esz n).ren (backR h.loc.length [j] L) = .gl (.loc j) esz n := by simp [V.ren, backR, Hp.fresh]
    rw [this]; exact hx
theorem VOut.own2 {h : Hp} {loc : List Blk} {esz n : Nat} {ds : List D} {s : S} (j L : Nat) (hL : Nat.ble loc.length L = true) (hj : loc[j]? = some (.flat true ds)) : VOut h ⟨h.lift, loc⟩ (.tuple [.gl (.loc j) esz n, .s s]) (.tuple [.gl h.fresh esz n, .s s]) (h.push (.flat true ds)) := by
  refine VOut.upd [] [.flat true ds] [j] L hL (by intro p hp; cases hp) (by simp) rfl ?_ ?_ rfl
  · intro k b hk
    cases k with
    | zero => rw [List.getElem?_cons_zero, Option.some.injEq] at hk; subst hk; exact ⟨j, rfl, hj⟩
    | succ k => simp at hk
  · intro σ x hx
    have : (V.tuple [.gl h.fresh esz n, .s s]).ren (backR h.loc.length [j] L) = .tuple [.gl (.loc j) esz n, .s s] := by simp [V.ren, V.rens, backR, Hp.fresh]
    rw [this]; exact hx
theorem VOut.own3 {h : Hp} {loc : List Blk} {esz n : Nat} {ds : List D} {a b : S} (j L : Nat) (hL : Nat.ble loc.length L = true) (hj : loc[j]? = some (.flat true ds)) : VOut h ⟨h.lift, loc⟩ (.agg [.s a, .s b, .gl (.loc j) esz n]) (.agg [.s a, .s b, .gl h.fresh esz n]) (h.push (.flat true ds)) := by
  refine VOut.upd [] [.flat true ds] [j] L hL (by intro p hp; cases hp) (by simp) rfl ?_ ?_ rfl
  · intro k b hk
    cases k with
    | zero => rw [List.getElem?_cons_zero, Option.some.injEq] at hk; subst hk; exact ⟨j, rfl, hj⟩
    | succ k => simp at hk
  · intro σ x hx
    have : (V.agg [.s a, .s b, .gl h.fresh esz n]).ren (backR h.loc.length [j] L) = .agg [.s a, .s b, .gl (.loc j) esz n] := by simp [V.ren, V.rens, backR, Hp.fresh]
    rw [this]; exact hx
theorem vc_darisesO (f : Fil) (t : List Int) (h : Hp) (o : Okt f t) : VC Try.prog 69 [.fp (encDk f t)] h (.gl h.fresh 1 (arL f t).length) (h.push (.flat true ((arL f t).flatMap encI))) := by
  have hn := o.n
  have hlen := o.len
  unfold arL
  refine VC.body Try.func69 rfl Try.ntmps69 Try.call69 (h.grows_push _) rfl ?_
  conv => whnf
  repeat (first | ((first | refine zs1 ?_ | refine zs2 ?_ | refine zs3 ?_ | refine zs4 ?_ | refine zs5 ?_ | refine zs6 [] ?_); conv => whnf))
  refine VCode.lp (fun k : Nat => [(0, .fp (encDk f t)), (3, .gl (.loc 0) 1 (selS (arB f t) k).length), (11, I t.length), (12, I k)]) (fun k => [.flat true ((selS (arB f t) k).flatMap encI)]) (fun k => k ≤ t.length) (fun k => t.length - k) 0 (Nat.zero_le _) ?_ ?_
  · conv => whnf
    refine Retell.turn ⟨[0], 0, [], []⟩ (TurnOk.mk' _ _ [] [] (OutOk.lift _) rfl (by decide) zb trivial trivial rfl) zv zm
  · intro k hk
    have hsl := selS_len (arB f t) k
    conv => whnf
    refine VIte.dec (fun h3 => ?_) (fun h3 => ?_)
    · conv => whnf
      repeat (first | ((first | refine zs1 ?_ | refine zs2 ?_ | refine zs3 ?_ | refine zs4 ?_ | refine zs5 ?_ | refine zs6 [] ?_); conv => whnf))
      refine VCall.intro (vc_chn f t k _ o) ?_
      cases ha : arB f t k
      · rw [chn_none o (by omega) ha]
        conv => whnf
        repeat (first | ((first | refine zs1 ?_ | refine zs2 ?_ | refine zs3 ?_ | refine zs4 ?_ | refine zs5 ?_ | refine zs6 [] ?_); conv => whnf))
        refine LEnd.intro (k + 1) (by omega) (by omega) ?_
        conv => whnf
        rw [selS, ha, if_neg (by simp)]
        refine Retell.turn ⟨[0], 2, [], []⟩ (TurnOk.mk' _ _ [] [] (OutOk.lift _) rfl (by decide) zb trivial trivial rfl) zv zm
      · obtain ⟨hi, hc, _⟩ := chn_some o (by omega) ha
        rw [hc]
        conv => whnf
        repeat (first | ((first | refine zs1 ?_ | refine zs2 ?_ | refine zs3 ?_ | refine zs4 ?_ | refine zs5 ?_ | refine zs6 [] ?_); conv => whnf))
        refine VMem.app1 (k : Int) encI_len rfl rfl rfl rfl rfl (by omega) ?_
        conv => whnf
        repeat (first | ((first | refine zs1 ?_ | refine zs2 ?_ | refine zs3 ?_ | refine zs4 ?_ | refine zs5 ?_ | refine zs6 [] ?_); conv => whnf))
        refine LEnd.intro (k + 1) (by omega) (by omega) ?_
        conv => whnf
        rw [selS, ha, if_pos rfl, List.length_append]
        refine Retell.turn ⟨[3], 4, [], []⟩ (TurnOk.mk' _ _ [] [] (OutOk.lift _) rfl (by decide) zb trivial trivial rfl) zv zm
    · conv => whnf
      have hk' : k = t.length := by omega
      subst hk'
      repeat (first | ((first | refine zs1 ?_ | refine zs2 ?_ | refine zs3 ?_ | refine zs4 ?_ | refine zs5 ?_ | refine zs6 [] ?_); conv => whnf))
      exact VOut.own1 0 1 rfl rfl
theorem vc_ArisesO (f : Fil) (t : List Int) (h : Hp) (hn : f.ps.length ≤ 4000000) (hl : t.length ≤ 4000000) (h0 : toldE f t = 0) : VC Try.prog 29 [vF f, ints t] h (.tuple [.gl h.fresh 1 (arL f t).length, I 0]) (h.push (.flat true ((arL f t).flatMap encI))) := by
  refine VC.body Try.func29 rfl Try.ntmps29 Try.call29 (h.grows_push _) rfl ?_
  conv => whnf
  repeat' (first | ((first | refine zs1 ?_ | refine zs2 ?_ | refine zs3 ?_ | refine zs4 ?_ | refine zs5 ?_ | refine zs6 [] ?_); conv => whnf) | ((first | apply zi1 | apply zi2 | apply zi3 | apply zi4 | apply zi5) <;> intro _ <;> conv => whnf) | (refine VCall.intro (vc_begun_ok f t _ hn hl h0) ?_; conv => whnf))
  refine VCall.intro (vc_darisesO f t _ (told_ok h0)) ?_
  conv => whnf
  repeat (first | ((first | refine zs1 ?_ | refine zs2 ?_ | refine zs3 ?_ | refine zs4 ?_ | refine zs5 ?_ | refine zs6 [] ?_); conv => whnf))
  exact VOut.own2 1 2 rfl rfl
theorem vc_FewestO (f : Fil) (t : List Int) (p : Nat) (h : Hp) (hl : t.length ≤ 4000000) (h0 : toldE f t = 0) (o : Shw f t p) : VC Try.prog 30 [vF f, ints t, I p] h (.tuple [.gl h.fresh 1 (few f t p).length, I 0]) (h.push (.flat true ((few f t p).flatMap encI))) := by
  have hlen := o.len
  have hn' := o.n
  have hlt := o.lt
  have hY := o.y
  obtain ⟨hi, c⟩ := InCh.of o
  have hfar := o.far
  have hph := c.ph
  have hhl := c.hl
  have hfl := fst_le f t p
  have hfin : few f t p = (fewS f t (fst f t p) p p p).reverse := rfl
  have hff : tAt t (fst f t p) ≤ tAt t p := by omega
  rw [hfin]
  have hfl2 := fewS_len f t (fst f t p) p p p
  obtain ⟨F, hF⟩ : ∃ F, F = fewS f t (fst f t p) p p p := ⟨_, rfl⟩
  rw [← hF] at hfl2 ⊢
  obtain ⟨lo, hlo⟩ : ∃ lo, lo = fst f t p := ⟨_, rfl⟩
  refine VC.body Try.func30 rfl Try.ntmps30 Try.call30 (h.grows_push _) rfl ?_
  conv => whnf
  repeat' (first | ((first | refine zs1 ?_ | refine zs2 ?_ | refine zs3 ?_ | refine zs4 ?_ | refine zs5 ?_ | refine zs6 [] ?_); conv => whnf) | ((first | apply zi1 | apply zi2 | apply zi3 | apply zi4 | apply zi5) <;> intro _ <;> conv => whnf) | (refine VCall.intro (vc_shown_ok f t p hi _ hl o h0 c.hc) ?_; conv => whnf))
  rw [← hlo] at hfl hfar hF hff ⊢
  refine VCode.lp (fun x : Nat × List Int => [(1, ints t), (2, I p), (8, .fp (encDk f t)), (9, .ptr (.loc 0) 0), (11, .gl (.loc 1) 1 (x.2 ++ [(x.1 : Int)]).length), (12, I x.1)])
    (fun x => [.flat true [DI lo, DI hi], .flat true ((x.2 ++ [(x.1 : Int)]).flatMap encI)]) (fun x => lo ≤ x.1 ∧ x.1 ≤ p ∧ ∃ n, x.1 ≤ n ∧ F = x.2 ++ fewS f t lo p n x.1) (fun x => x.1) (p, []) ⟨hfl, Nat.le_refl _, p, Nat.le_refl _, hF⟩ ?_ ?_
  · conv => whnf
    refine Retell.turn ⟨[1,2], 3, [], []⟩ (TurnOk.mk' _ _ [] [] (OutOk.lift _) rfl (by decide) zb trivial trivial rfl) zv zm
  · rintro ⟨a, pre⟩ ⟨h1, h2, n, h3, h4⟩
    simp only at h1 h2 h3 h4
    have ha : t[a]? = some t[a] := List.getElem?_eq_getElem (by omega)
    have hp : t[p]? = some t[p] := List.getElem?_eq_getElem (by omega)
    have b1 := o.yr ha
    have b2 := o.yr hp
    have e1 := tAt_eq ha
    have e2 := tAt_eq hp
    have hla : lo < a → jmp f t lo a a < a := by intro h5; have := c.jmp_lt (a := a) (by omega) (by omega); rw [← hlo] at this; exact this
    have hJ := jmp_ge f t lo a a h1
    generalize t[a] = y at ha b1 e1
    generalize t[p] = z at hp b2 e2
    conv => whnf
    repeat' (first | ((first | refine zs1 ?_ | refine zs2 ?_ | refine zs3 ?_ | refine zs4 ?_ | refine zs5 ?_ | refine zs6 [] ?_); conv => whnf) | ((first | apply zi1 | apply zi2 | apply zi3 | apply zi4 | apply zi5) <;> intro _ <;> conv => whnf) | (refine VAny.ix encI_len a rfl rfl ha ?_; conv => whnf) | (refine VAny.ix encI_len p rfl rfl hp ?_; conv => whnf))
    · rename_i h5
      have hlo2 : lo < a := by
        rcases Nat.eq_or_lt_of_le h1 with h6 | h6
        · subst h6; omega
        · exact h6
      have hja := hla hlo2
      obtain ⟨n, rfl⟩ : ∃ m, n = m + 1 := ⟨n - 1, by omega⟩
      rw [fewS, if_pos (by omega)] at h4
      obtain ⟨J, hJe⟩ : ∃ J, J = jmp f t lo a a := ⟨_, rfl⟩
      rw [← hJe] at h4 hja hJ
      have hpl : pre.length ≤ 16 := by
        have := congrArg List.length h4
        simp at this; omega
      refine VCode.lp (fun x : Nat => [(1, ints t), (2, I p), (8, .fp (encDk f t)), (9, .ptr (.loc 0) 0), (11, .gl (.loc 1) 1 (pre ++ [(a : Int)]).length), (12, I a), (13, I x)])
        (fun _ => [.flat true [DI lo, DI hi], .flat true ((pre ++ [(a : Int)]).flatMap encI)]) (fun x => lo ≤ x ∧ x ≤ a ∧ J = jmp f t lo a x) (fun x => x) a ⟨h1, Nat.le_refl _, hJe⟩ ?_ ?_
      · conv => whnf
        refine Retell.turn ⟨[0,1], 2, [], []⟩ (TurnOk.mk' _ _ [] [] (OutOk.lift _) rfl (by decide) zb trivial trivial rfl) zv zm
      · rintro x ⟨g1, g2, g3⟩
        have hx : t[x - 1]? = some t[x - 1] := List.getElem?_eq_getElem (by omega)
        have b3 := o.yr hx
        have e3 := tAt_eq hx
        generalize t[x - 1] = w at hx b3 e3
        have hne : ¬ (lo < x ∧ y - w ≤ f.G) → J = x := by
          intro hg
          rw [g3]
          cases x with
          | zero => rfl
          | succ x =>
            simp only [Nat.add_sub_cancel] at e3
            rw [jmp, if_neg (by omega)]
        have hfin2 : J = x → F = (pre ++ [(a : Int)]) ++ fewS f t lo p n x := by intro hg; rw [h4, hg, List.append_assoc]; rfl
        conv => whnf
        repeat' (first | ((first | refine zs1 ?_ | refine zs2 ?_ | refine zs3 ?_ | refine zs4 ?_ | refine zs5 ?_ | refine zs6 [] ?_); conv => whnf) | ((first | apply zi1 | apply zi2 | apply zi3 | apply zi4 | apply zi5) <;> intro _ <;> conv => whnf) | (refine VAny.ix encI_len a rfl rfl ha ?_; conv => whnf) | (refine VAny.ix encI_len (x - 1) (by omega) rfl hx ?_; conv => whnf))
        · obtain ⟨x, rfl⟩ : ∃ m, x = m + 1 := ⟨x - 1, by omega⟩
          simp only [Nat.add_sub_cancel] at e3
          rw [jmp, if_pos (by omega)] at g3
          refine LEnd.intro x ⟨by omega, by omega, g3⟩ (by omega) ?_
          conv => whnf
          refine Retell.turn ⟨[0,1], 2, [], []⟩ (TurnOk.mk' _ _ [] [] (OutOk.lift _) rfl (by decide) zb trivial trivial rfl) zv zm
        · have hJx := hne (by omega)
          refine VMem.app1 (x : Int) encI_len rfl rfl rfl rfl rfl (by simp; omega) ?_
          conv => whnf
          repeat (first | ((first | refine zs1 ?_ | refine zs2 ?_ | refine zs3 ?_ | refine zs4 ?_ | refine zs5 ?_ | refine zs6 [] ?_); conv => whnf))
          refine LEnd.intro (x, pre ++ [(a : Int)]) ⟨by omega, by omega, n, by omega, hfin2 hJx⟩ (by simp only; omega) ?_
          conv => whnf
          rw [List.length_append (bs := [(x : Int)])]
          refine Retell.turn ⟨[0,3], 4, [], []⟩ (TurnOk.mk' _ _ [] [] (OutOk.lift _) rfl (by decide) zb trivial trivial rfl) zv zm
        · have hJx := hne (by omega)
          refine VMem.app1 (x : Int) encI_len rfl rfl rfl rfl rfl (by simp; omega) ?_
          conv => whnf
          repeat (first | ((first | refine zs1 ?_ | refine zs2 ?_ | refine zs3 ?_ | refine zs4 ?_ | refine zs5 ?_ | refine zs6 [] ?_); conv => whnf))
          refine LEnd.intro (x, pre ++ [(a : Int)]) ⟨by omega, by omega, n, by omega, hfin2 hJx⟩ (by simp only; omega) ?_
          conv => whnf
          rw [List.length_append (bs := [(x : Int)])]
          refine Retell.turn ⟨[0,3], 4, [], []⟩ (TurnOk.mk' _ _ [] [] (OutOk.lift _) rfl (by decide) zb trivial trivial rfl) zv zm
    · have hF2 : F = pre ++ [(a : Int)] := by
        rw [h4]
        cases n with
        | zero => rfl
        | succ n => rw [fewS, if_neg (by omega)]
      rw [← hF2]
      refine VMem.make (n := F.length) (0 : Int) encI_len rfl rfl rfl rfl rfl rfl (by omega) ?_
      conv => whnf
      repeat (first | ((first | refine zs1 ?_ | refine zs2 ?_ | refine zs3 ?_ | refine zs4 ?_ | refine zs5 ?_ | refine zs6 [] ?_); conv => whnf))
      refine VMem.copyGl (l2 := F) encI_len rfl rfl rfl (by simp) rfl rfl ?_
      conv => whnf
      repeat (first | ((first | refine zs1 ?_ | refine zs2 ?_ | refine zs3 ?_ | refine zs4 ?_ | refine zs5 ?_ | refine zs6 [] ?_); conv => whnf))
      refine VCall.intro (vc_reverse F (.loc 2) _ rfl (by omega)) ?_
      conv => whnf
      repeat (first | ((first | refine zs1 ?_ | refine zs2 ?_ | refine zs3 ?_ | refine zs4 ?_ | refine zs5 ?_ | refine zs6 [] ?_); conv => whnf))
      rw [List.length_reverse]
      exact VOut.own2 2 3 rfl rfl
theorem vc_DatedO (Y G : Int) (l : List Int) (h : Hp) (hl : l.length ≤ 4000000) (hb : ∀ y ∈ l, -100000 ≤ y ∧ y ≤ 100000) : VC Try.prog 52 [I Y, I G, ints l] h (.agg [I Y, I G, .gl h.fresh 3 l.length]) (h.push (.flat true ((l.map datP).flatMap encP))) := by
  refine VC.body Try.func52 rfl Try.ntmps52 Try.call52 (h.grows_push _) rfl ?_
  conv => whnf
  repeat (first | ((first | refine zs1 ?_ | refine zs2 ?_ | refine zs3 ?_ | refine zs4 ?_ | refine zs5 ?_ | refine zs6 [] ?_); conv => whnf))
  refine VCode.lp (fun k : Nat => [(6, .ptr (.loc 0) 0), (7, .ptr (.loc 1) 0), (14, ints l), (15, I l.length), (16, I k)])
    (fun k => [.flat true [DI 0, DI 0, .nilslice], .cells true [I Y, I G, .gl (.loc 2) 3 k], .flat true (((l.take k).map datP).flatMap encP)]) (fun k => k ≤ l.length) (fun k => l.length - k) 0 (Nat.zero_le _) ?_ ?_
  · conv => whnf
    refine Retell.turn ⟨[0,1,2], 2, [], []⟩ (TurnOk.mk' _ _ [] [] (OutOk.lift _) rfl (by decide) zb trivial trivial rfl) zv zm
  · intro k hk
    conv => whnf
    refine VIte.dec (fun h3 => ?_) (fun h3 => ?_)
    · have hp : l[k]? = some l[k] := List.getElem?_eq_getElem (by omega)
      have hts : l.take (k + 1) = l.take k ++ [l[k]] := by rw [List.take_add_one, hp]; rfl
      have hbk := hb l[k] (List.getElem_mem (by omega))
      generalize l[k] = y at hp hts hbk
      have hlk : ((l.take k).map datP).length = k := by simp; omega
      conv => whnf
      repeat' (first | ((first | refine zs1 ?_ | refine zs2 ?_ | refine zs3 ?_ | refine zs4 ?_ | refine zs5 ?_ | refine zs6 [] ?_); conv => whnf) | ((first | apply zi1 | apply zi2 | apply zi3 | apply zi4 | apply zi5) <;> intro _ <;> conv => whnf) | (refine VAny.ix encI_len k rfl rfl hp ?_; conv => whnf))
      · rename_i hy
        have hd : datP y = ⟨1, 0 - y, 0 - y⟩ := by rw [datP, if_pos hy]; simp
        refine VMem.app1 (l := (l.take k).map datP) (⟨1, 0 - y, 0 - y⟩ : Pap) encP_len rfl rfl rfl hlk.symm rfl (by omega) ?_
        conv => whnf
        repeat (first | ((first | refine zs1 ?_ | refine zs2 ?_ | refine zs3 ?_ | refine zs4 ?_ | refine zs5 ?_ | refine zs6 [] ?_); conv => whnf))
        refine LEnd.intro (k + 1) (by omega) (by omega) ?_
        conv => whnf
        rw [hts, List.map_append, List.map_cons, List.map_nil, hd]
        refine Retell.turn ⟨[0,1,5], 6, [], []⟩ (TurnOk.mk' _ _ [] [] (OutOk.lift _) rfl (by decide) zb trivial trivial rfl) zv zm
      · rename_i hy
        have hd : datP y = ⟨0, y, y⟩ := if_neg hy
        refine VMem.app1 (l := (l.take k).map datP) (⟨0, y, y⟩ : Pap) encP_len rfl rfl rfl hlk.symm rfl (by omega) ?_
        conv => whnf
        repeat (first | ((first | refine zs1 ?_ | refine zs2 ?_ | refine zs3 ?_ | refine zs4 ?_ | refine zs5 ?_ | refine zs6 [] ?_); conv => whnf))
        refine LEnd.intro (k + 1) (by omega) (by omega) ?_
        conv => whnf
        rw [hts, List.map_append, List.map_cons, List.map_nil, hd]
        refine Retell.turn ⟨[0,1,5], 6, [], []⟩ (TurnOk.mk' _ _ [] [] (OutOk.lift _) rfl (by decide) zb trivial trivial rfl) zv zm
    · have hk2 : k = l.length := by omega
      subst hk2
      rw [List.take_of_length_le (Nat.le_refl _)]
      conv => whnf
      repeat (first | ((first | refine zs1 ?_ | refine zs2 ?_ | refine zs3 ?_ | refine zs4 ?_ | refine zs5 ?_ | refine zs6 [] ?_); conv => whnf))
      exact VOut.own3 2 3 rfl rfl
end Go.Proofs.Ytolnajnlcdacmaa

open Go.Vm
namespace Go.Proofs.Ytolnajnlcdacmaa
set_option maxRecDepth 20000
set_option maxHeartbeats 2000000

theorem encI_map : ∀ l : List Int, l.flatMap encI = (l.map fun y => S.int .i64 y).map D.s
  | [] => rfl
  | a :: l => by rw [List.flatMap_cons, encI_map l]; rfl
theorem VC.lendI {f : FuncId} {args : List V} {outer : Vm.Id → Option Blk} {loc : List Blk} {n : Nat} {l : List Int} {s : S} (ds : List D) (fz : List (Nat × List D)) (fm : List (Nat × List D × List D))
    (h0 : FzAll ⟨[], loc.length, fz, fm⟩ loc fz) (h0' : FmAll ⟨[], loc.length, fz, fm⟩ loc fm) (hv : VTos ⟨[], loc.length, fz, fm⟩ args (D.vs ds)) (hc : VC Try.prog f (D.vs ds) Hp.bare (.tuple [.gl (.loc 0) 1 n, .s s]) (Hp.bare.push (.flat true (l.flatMap encI)))) :
    VC Try.prog f args ⟨outer, loc⟩ (.tuple [.gl (.loc loc.length) 1 n, .s s]) ⟨outer, loc ++ [.flat true (l.flatMap encI)]⟩ := by
  rw [encI_map] at hc ⊢
  exact VC.lendL ds fz fm h0 h0' hv hc
def yl : List Int := [1700, 1715, 1730, 1745, 1760]
def f1 : Fil := ⟨50, 20, yl.map datP⟩
def f3 : Fil := ⟨50, 30, yl.map datP⟩
def f2 : Fil := ⟨50, 15, [⟨0, 1700, 1700⟩, ⟨0, 1715, 1715⟩, ⟨0, 1728, 1731⟩, ⟨0, 1745, 1745⟩, ⟨0, 1760, 1760⟩]⟩
def y6 : List Int := [1700, 1715, 1730, 1738, 1745, 1760]
def f4 : Fil := ⟨50, 20, [1700, 1715, 1730, -1738, 1745, 1760].map datP⟩
theorem told1 : toldE f1 yl = 0 := by decide +kernel
theorem told3 : toldE f3 yl = 0 := by decide +kernel
theorem told4 : toldE f4 y6 = 0 := by decide +kernel
theorem ar1 : arL f1 yl = [4] := by decide +kernel
theorem few1 : (few f1 yl 4).length = 5 := by decide +kernel
theorem few3 : (few f3 yl 4).length = 3 := by decide +kernel
theorem shw1 : Shw f1 yl 4 := by
  obtain ⟨q, h1, h2⟩ := show_ok (f := f1) (t := yl) (p := 4) (by decide +kernel)
  have : q = 4 := by omega
  rw [← this]; exact h2
theorem shw3 : Shw f3 yl 4 := by
  obtain ⟨q, h1, h2⟩ := show_ok (f := f3) (t := yl) (p := 4) (by decide +kernel)
  have : q = 4 := by omega
  rw [← this]; exact h2
theorem pv1 : pvE f1 yl 4 [1700, 1715, 1730] = 0 := by decide +kernel
theorem pv3 : pvE f3 yl 4 [1715] = 0 := by decide +kernel
theorem chk2 : chk f2 = 0 := by decide +kernel
theorem os2 : osG f2 = [0, 2] := by decide +kernel
theorem tru2 : truE f2 0 = 0 := by decide +kernel
theorem truG2 : truG f2 0 = yl := by decide +kernel
theorem sn2 : sinceE f2 0 = 0 ∧ (sn f2 0).lo = 1760 ∧ (sn f2 0).hi = 1760 := by decide +kernel
theorem chS4 : chS f4 y6 6 = [⟨0, 2⟩, ⟨3, 3⟩, ⟨4, 5⟩] := by decide +kernel
end Go.Proofs.Ytolnajnlcdacmaa

open Go.Vm
namespace Go.Proofs.Ytolnajnlcdacmaa
set_option maxRecDepth 20000
set_option maxHeartbeats 2000000

def dF (f : Fil) : D := .agg (encF f)
def dL (l : List Int) : D := .sl 1 l.length (l.flatMap encI)
theorem prv1 (h : Hp) : VC Try.prog 50 [vF f1, ints yl, I 4, ints [1700, 1715, 1730]] h (.tuple [I 5, I 0]) h := by
  have := vc_Proves_ok f1 yl 4 [1700, 1715, 1730] h (by decide) (by decide) told1 shw1
  rw [pv1] at this; exact this
theorem prv3 (h : Hp) : VC Try.prog 50 [vF f3, ints yl, I 4, ints [1715]] h (.tuple [I 3, I 0]) h := by
  have := vc_Proves_ok f3 yl 4 [1715] h (by decide) (by decide) told3 shw3
  rw [pv3] at this; exact this
def s4 : List Spn := [⟨0, 2⟩, ⟨3, 3⟩, ⟨4, 5⟩]
theorem ch4 (h : Hp) : VC Try.prog 31 [vF f4, ints y6] h (.tuple [spans s4, I 0]) h := by
  have := vc_Chains f4 y6 h (by decide) (by decide)
  rw [told4, if_pos rfl, show y6.length = 6 from rfl, chS4] at this; exact this
theorem vc_awake (h : Hp) : VC Try.prog 13 [] h (B true) h := by
  refine VC.bodyC 11 Try.func13 rfl Try.ntmps13 Try.call13 (h.grows_refl) rfl ?_; conv => whnf
  repeat (first | ((first | refine zs1 ?_ | refine zs2 ?_ | refine zs3 ?_ | refine zs4 ?_ | refine zs5 ?_ | refine zs6 [] ?_); conv => whnf))
  refine VCall.intro (VC.give (args' := [I 50, I 20, ints yl]) (loc' := [.dead]) [(0, yl.flatMap encI)] [] (OutOk.lift _) zb zf (by exact FmAll.nil) rfl zv (vc_DatedO 50 20 yl _ (by decide) (by decide))) ?_
  conv => whnf
  repeat (first | ((first | refine zs1 ?_ | refine zs2 ?_ | refine zs3 ?_ | refine zs4 ?_ | refine zs5 ?_ | refine zs6 [] ?_); conv => whnf))
  refine VCall.intro (VC.lendI [dF f1, dL yl] [(1, f1.ps.flatMap encP), (2, yl.flatMap encI)] [] zf trivial zv (vc_ArisesO f1 yl Hp.bare (by decide) (by decide) told1)) ?_
  rw [ar1]
  conv => whnf
  repeat (first | ((first | refine zs1 ?_ | refine zs2 ?_ | refine zs3 ?_ | refine zs4 ?_ | refine zs5 ?_ | refine zs6 [] ?_); conv => whnf))
  refine VCall.intro (VC.lendI [dF f1, dL yl, DI 4] [(1, f1.ps.flatMap encP), (2, yl.flatMap encI)] [] zf trivial zv (vc_FewestO f1 yl 4 Hp.bare (by decide) told1 shw1)) ?_
  have hf1 := few1
  generalize few f1 yl 4 = w1 at hf1
  rw [hf1]
  conv => whnf
  repeat (first | ((first | refine zs1 ?_ | refine zs2 ?_ | refine zs3 ?_ | refine zs4 ?_ | refine zs5 ?_ | refine zs6 [] ?_); conv => whnf))
  refine VCall.intro (VC.lendS [dF f1, dL yl, DI 4, dL [1700, 1715, 1730]] [(1, f1.ps.flatMap encP), (2, yl.flatMap encI), (6, [1700, 1715, 1730].flatMap encI)] [] zf trivial zv (prv1 Hp.bare)) ?_
  conv => whnf
  repeat (first | ((first | refine zs1 ?_ | refine zs2 ?_ | refine zs3 ?_ | refine zs4 ?_ | refine zs5 ?_ | refine zs6 [] ?_); conv => whnf))
  refine VCall.intro (VC.lend1 [dL [4], dL [4]] [(4, [4].flatMap encI), (7, [4].flatMap encI)] [] zf trivial zv (vc_equalI [4] [4] Hp.bare (by decide) (by decide))) ?_
  conv => whnf
  repeat (first | ((first | refine zs1 ?_ | refine zs2 ?_ | refine zs3 ?_ | refine zs4 ?_ | refine zs5 ?_ | refine zs6 [] ?_); conv => whnf))
  refine VCall.intro (VC.lendI [dF f3, dL yl, DI 4] [(1, f3.ps.flatMap encP), (2, yl.flatMap encI)] [] zf trivial zv (vc_FewestO f3 yl 4 Hp.bare (by decide) told3 shw3)) ?_
  have hf3 := few3
  generalize few f3 yl 4 = w3 at hf3
  rw [hf3]
  conv => whnf
  repeat (first | ((first | refine zs1 ?_ | refine zs2 ?_ | refine zs3 ?_ | refine zs4 ?_ | refine zs5 ?_ | refine zs6 [] ?_); conv => whnf))
  refine VCall.intro (VC.lendS [dF f3, dL yl, DI 4, dL [1715]] [(1, f3.ps.flatMap encP), (2, yl.flatMap encI), (9, [1715].flatMap encI)] [] zf trivial zv (prv3 Hp.bare)) ?_
  conv => whnf
  repeat (first | ((first | refine zs1 ?_ | refine zs2 ?_ | refine zs3 ?_ | refine zs4 ?_ | refine zs5 ?_ | refine zs6 [] ?_); conv => whnf))
  refine VCut.at [(1, .fp (encF f2)), (2, ints yl)] [] ?_ ?_
  · conv => whnf
    refine Retell.turn ⟨[], 10, [(1, f2.ps.flatMap encP), (2, yl.flatMap encI), (3, encF f2)], []⟩ (TurnOk.mk' _ _ [(1, f2.ps.flatMap encP), (2, yl.flatMap encI), (3, encF f2)] [] (OutOk.lift _) rfl (by decide) BTos.nil (FzAll.flat rfl (FzAll.flat rfl (FzAll.row rfl rfl (RowTo.vtos (l' := [I 50, I 15, .fs 3 5 (f2.ps.flatMap encP)]) zv) FzAll.nil))) trivial rfl) zv zm
  · conv => whnf
    repeat (first | ((first | refine zs1 ?_ | refine zs2 ?_ | refine zs3 ?_ | refine zs4 ?_ | refine zs5 ?_ | refine zs6 [] ?_); conv => whnf))
    refine VCall.intro (vc_Owners_ok f2 _ chk2) ?_
    rw [os2]
    conv => whnf
    repeat (first | ((first | refine zs1 ?_ | refine zs2 ?_ | refine zs3 ?_ | refine zs4 ?_ | refine zs5 ?_ | refine zs6 [] ?_); conv => whnf))
    refine VCall.intro (vc_Truth_ok f2 0 _ tru2) ?_
    rw [truG2]
    conv => whnf
    repeat (first | ((first | refine zs1 ?_ | refine zs2 ?_ | refine zs3 ?_ | refine zs4 ?_ | refine zs5 ?_ | refine zs6 [] ?_); conv => whnf))
    refine VCall.intro (vc_Since f2 0 _ (by decide)) ?_
    rw [show sinceR f2 0 = .tuple [.agg [I 1760, I 1760], I 0] from by unfold sinceR; rw [sn2.1, sn2.2.1, sn2.2.2]; rfl]
    conv => whnf
    repeat (first | ((first | refine zs1 ?_ | refine zs2 ?_ | refine zs3 ?_ | refine zs4 ?_ | refine zs5 ?_ | refine zs6 [] ?_); conv => whnf))
    refine VCall.intro (VC.lend1 [dL [0, 2], dL [0, 2]] [(1, [0, 2].flatMap encI)] [] zf trivial zv (vc_equalI [0, 2] [0, 2] Hp.bare (by decide) (by decide))) ?_
    conv => whnf
    repeat (first | ((first | refine zs1 ?_ | refine zs2 ?_ | refine zs3 ?_ | refine zs4 ?_ | refine zs5 ?_ | refine zs6 [] ?_); conv => whnf))
    refine VCall.intro (vc_equalI yl yl _ (by decide) (by decide)) ?_
    conv => whnf
    repeat (first | ((first | refine zs1 ?_ | refine zs2 ?_ | refine zs3 ?_ | refine zs4 ?_ | refine zs5 ?_ | refine zs6 [] ?_); conv => whnf))
    refine VAgg.intro (show _ = some (B false) from vneqS ⟨1760, 1760⟩ ⟨1760, 1760⟩) ?_
    conv => whnf
    repeat (first | ((first | refine zs1 ?_ | refine zs2 ?_ | refine zs3 ?_ | refine zs4 ?_ | refine zs5 ?_ | refine zs6 [] ?_); conv => whnf))
    refine VCall.intro (VC.give (args' := [I 50, I 20, ints [1700, 1715, 1730, -1738, 1745, 1760]]) (loc' := [.dead, .dead, .dead]) [(2, [1700, 1715, 1730, -1738, 1745, 1760].flatMap encI)] [] (OutOk.lift _) zb zf (by exact FmAll.nil) rfl zv (vc_Dated 50 20 [1700, 1715, 1730, -1738, 1745, 1760] _ (by decide) (by decide))) ?_
    conv => whnf
    repeat (first | ((first | refine zs1 ?_ | refine zs2 ?_ | refine zs3 ?_ | refine zs4 ?_ | refine zs5 ?_ | refine zs6 [] ?_); conv => whnf))
    refine VCall.intro (VC.give (args' := [vF f4, ints y6]) (loc' := [.dead, .dead, .dead, .dead]) [(3, y6.flatMap encI)] [] (OutOk.lift _) zb zf (by exact FmAll.nil) rfl zv (ch4 _)) ?_
    conv => whnf
    repeat (first | ((first | refine zs1 ?_ | refine zs2 ?_ | refine zs3 ?_ | refine zs4 ?_ | refine zs5 ?_ | refine zs6 [] ?_); conv => whnf))
    refine VCall.intro (VC.lend1 [.sl 2 3 (s4.flatMap encS), .sl 2 3 (s4.flatMap encS)] [(4, s4.flatMap encS)] [] zf trivial zv (vc_equalS s4 s4 Hp.bare (by decide) (by decide))) ?_
    conv => whnf
    repeat (first | ((first | refine zs1 ?_ | refine zs2 ?_ | refine zs3 ?_ | refine zs4 ?_ | refine zs5 ?_ | refine zs6 [] ?_); conv => whnf))
    exact VOut.same rfl
end Go.Proofs.Ytolnajnlcdacmaa

open Go.Vm
namespace Go.Proofs.Ytolnajnlcdacmaa
set_option maxRecDepth 20000
set_option maxHeartbeats 2000000

theorem eqNilI (h : Hp) : VC Try.prog 18 [.nilslice, .nilslice] h (B true) h := by
  obtain ⟨o, l⟩ := h
  refine VC.lend1 [dL [], dL []] [] [] trivial trivial zv ?_
  exact vc_equalI [] [] Hp.bare (by decide) (by decide)
theorem eqNilS (h : Hp) : VC Try.prog 39 [.nilslice, .nilslice] h (B true) h := by
  obtain ⟨o, l⟩ := h
  refine VC.lend1 [.sl 2 0 [], .sl 2 0 []] [] [] trivial trivial zv ?_
  exact vc_equalS [] [] Hp.bare (by decide) (by decide)
theorem eqI (l : List Int) (h : Hp) (hl : l.length ≤ 4000000) : VC Try.prog 18 [ints l, ints l] h (B true) h := by
  have := vc_equalI l l h hl hl
  rw [decide_eq_true rfl] at this; exact this
theorem eqS (l : List Spn) (h : Hp) (hl : l.length ≤ 4000000) : VC Try.prog 39 [spans l, spans l] h (B true) h := by
  have := vc_equalS l l h hl hl
  rw [decide_eq_true rfl] at this; exact this
theorem eqF (f : Fil) (h : Hp) (hl : f.ps.length ≤ 4000000) : VC Try.prog 24 [vF f, vF f] h (B true) h := by
  have := vc_equal f f h hl hl
  rw [decide_eq_true ⟨rfl, rfl, rfl⟩] at this; exact this
theorem vc_SilenceRights (f : Fil) (t : List Int) (h : Hp) : VC Try.prog 6 [vF f, ints t] h (B true) h := by
  refine VC.body Try.func6 rfl Try.ntmps6 Try.call6 (h.grows_refl) rfl ?_; conv => whnf
  repeat' (first | ((first | refine zs1 ?_ | refine zs2 ?_ | refine zs3 ?_ | refine zs4 ?_ | refine zs5 ?_); conv => whnf) | ((first | apply zi1 | apply zi2 | apply zi3 | apply zi4 | apply zi5) <;> intro _ <;> conv => whnf) | (refine VCall.intro (vc_awake _) ?_; conv => whnf))
  · exact VOut.same rfl
  · exact VOut.same rfl
  · have hn : f.ps.length ≤ 20 := by omega
    have hl : t.length ≤ 20 := by omega
    have hcl := (chS_le f t t.length).1
    have hal := selS_len (arB f t) t.length
    have a1 := fun h => vc_Arises f t h (by omega) (by omega)
    have a2 := fun h => vc_rArises f t h (by omega) (by omega)
    have a3 : ∀ h, VC Try.prog 18 [if toldE f t = 0 then ints (arL f t) else .nilslice, if toldE f t = 0 then ints (arL f t) else .nilslice] h (B true) h := fun h => by
      split
      · exact eqI _ h (by unfold arL; omega)
      · exact eqNilI h
    have b1 := fun h => vc_Chains f t h (by omega) (by omega)
    have b2 := fun h => vc_rChains f t h (by omega) (by omega)
    have b3 : ∀ h, VC Try.prog 39 [if toldE f t = 0 then spans (chS f t t.length) else .nilslice, if toldE f t = 0 then spans (chS f t t.length) else .nilslice] h (B true) h := fun h => by
      split
      · exact eqS _ h (by omega)
      · exact eqNilS h
    obtain ⟨VA, VB, hA, hB, hv⟩ : ∃ VA VB, VA = (if toldE f t = 0 then ints (arL f t) else .nilslice) ∧ VB = (if toldE f t = 0 then spans (chS f t t.length) else .nilslice) ∧ ((VA = ints (arL f t) ∧ VB = spans (chS f t t.length)) ∨ (VA = .nilslice ∧ VB = .nilslice)) := by
      refine ⟨_, _, rfl, rfl, ?_⟩
      split
      · exact .inl ⟨rfl, rfl⟩
      · exact .inr ⟨rfl, rfl⟩
    rw [← hA] at a1 a2 a3
    rw [← hB] at b1 b2 b3
    clear hA hB
    rcases hv with ⟨rfl, rfl⟩ | ⟨rfl, rfl⟩
    all_goals (
      refine VDraw.go [(1, 4), (3, 4)] (by kernel_rfl) (by kernel_rfl) ?_
      conv => whnf
      repeat' (first | ((first | refine zs1 ?_ | refine zs2 ?_ | refine zs3 ?_ | refine zs4 ?_ | refine zs5 ?_); conv => whnf) | ((first | apply zi1 | apply zi2 | apply zi3 | apply zi4 | apply zi5) <;> intro _ <;> conv => whnf) | (refine VCall.intro (vc_CloneFile f _ (by omega)) ?_; conv => whnf) | (refine VCall.intro (vc_cloneI t _ (by omega)) ?_; conv => whnf) | (refine VCall.intro (vc_File f _ (by omega)) ?_; conv => whnf))
      refine VDraw.go [(1, 2)] (by kernel_rfl) (by kernel_rfl) ?_
      conv => whnf
      repeat' (first | ((first | refine zs1 ?_ | refine zs2 ?_ | refine zs3 ?_ | refine zs4 ?_ | refine zs5 ?_); conv => whnf) | ((first | apply zi1 | apply zi2 | apply zi3 | apply zi4 | apply zi5) <;> intro _ <;> conv => whnf) | (refine VCall.intro (vc_check f _ (by omega)) ?_; conv => whnf) | (refine VCall.intro (vc_rcheck f _ (by omega)) ?_; conv => whnf) | (refine VCall.intro (vc_Holds f t _ (by omega) (by omega)) ?_; conv => whnf) | (refine VCall.intro (vc_rHolds f t _ (by omega) (by omega)) ?_; conv => whnf) | (refine VCall.intro (a1 _) ?_; conv => whnf) | (refine VCall.intro (a2 _) ?_; conv => whnf) | (refine VCall.intro (a3 _) ?_; conv => whnf) | (refine VCall.intro (b1 _) ?_; conv => whnf) | (refine VCall.intro (b2 _) ?_; conv => whnf) | (refine VCall.intro (b3 _) ?_; conv => whnf) | (refine VCall.intro (vc_Owner f t _ (by omega) (by omega)) ?_; conv => whnf) | (refine VCall.intro (vc_rOwner f t _ (by omega) (by omega)) ?_; conv => whnf) | (refine VCall.intro (eqF f _ (by omega)) ?_; conv => whnf) | (refine VCall.intro (eqI t _ (by omega)) ?_; conv => whnf) | (refine VCall.intro (vc_awake _) ?_; conv => whnf))
      all_goals first | exact VOut.same rfl | (rename_i hx; exact absurd rfl hx))
end Go.Proofs.Ytolnajnlcdacmaa

open Go.Vm
namespace Go.Proofs.Ytolnajnlcdacmaa
open Go.ChangeShapes Go.WideShapes Go.ChangeAt Go.RowKit
theorem ownKn : ownKnob Try.prog.godebug = none := by kernel_rfl
theorem laidOut : laidOutB Try.prog = true := by kernel_rfl
end Go.Proofs.Ytolnajnlcdacmaa

open Go.Vm
namespace Go.Proofs.Ytolnajnlcdacmaa
set_option maxRecDepth 20000
set_option maxHeartbeats 2000000

theorem vc_wide0 (f : Fil) (n : Int) (h : Hp) (hn : n ≤ 1000000) : VC Try.prog 12 [vF f, I n, .nilslice] h (B (wideB f n [])) h := by
  obtain ⟨o, l⟩ := h
  refine VC.lend1 [dF f, DI n, .sl 1 0 []] [] [] trivial trivial zv ?_
  exact vc_wide f n [] Hp.bare hn (by decide)
theorem ext1_len (p : Pap) (ts : List (List Int)) : (ext1 p ts).length = ts.length * (p.hi - p.lo + 1).toNat := by
  rw [← yrs_len]
  unfold ext1
  induction ts with
  | nil => simp
  | cons t ts ih => rw [List.flatMap_cons, List.length_append, ih, List.length_map, List.length_cons, Nat.add_mul]; omega
theorem few_of {f : Fil} {n : Int} (h0 : chk f = 0) (hn : n ≤ 1000000) (hn1 : 1 ≤ n) (hw : wideB f n [] = false) : Few f := by
  have hpk := chk_pok h0
  unfold wideB at hw
  simp only [List.any_nil, Bool.false_or, Bool.or_eq_false_iff] at hw
  have key : ∀ k, k ≤ f.ps.length → ((tru (f.ps.take k)).length : Int) ≤ n ∧ widGo n (f.ps.drop k) ((tru (f.ps.take k)).length : Int) = false := by
    intro k
    induction k with
    | zero => intro _; exact ⟨by simpa [tru] using hn1, by simpa [tru] using hw.2⟩
    | succ k ih =>
      intro hk
      obtain ⟨h1, h2⟩ := ih (by omega)
      have hp : f.ps[k]? = some f.ps[k] := List.getElem?_eq_getElem (by omega)
      have hq := hpk f.ps[k] (List.getElem_mem (by omega))
      generalize f.ps[k] = p at hp hq
      rw [widGo_at hp] at h2
      have e : widW p ((tru (f.ps.take k)).length : Int) = ((tru (f.ps.take (k + 1))).length : Int) := by
        have := hq.lo; have := hq.hi; have := hq.le; have := hq.near
        unfold widW
        rw [if_pos ⟨by omega, by omega, by omega⟩, tru_snoc hp, ext1_len, Int.natCast_mul]
        congr 1
        omega
      rw [e] at h2
      by_cases hc : n < ((tru (f.ps.take (k + 1))).length : Int)
      · rw [if_pos hc] at h2; cases h2
      · rw [if_neg hc] at h2; exact ⟨by omega, h2⟩
  intro k
  rcases Nat.le_total k f.ps.length with hk | hk
  · have := (key k hk).1; omega
  · have := (key f.ps.length (Nat.le_refl _)).1
    rw [List.take_of_length_le hk]
    rw [List.take_of_length_le (Nat.le_refl _)] at this
    omega
theorem told_tru {f : Fil} (h0 : chk f = 0) {t : List Int} (ht : t ∈ tru f.ps) : toldE f t = 0 := by
  obtain ⟨h1, h2⟩ := mem_tru.1 ht
  simp [toldE, hldE, hldB, h0, h1, h2]
theorem truE_eq (f : Fil) (x : Int) : truE f x = someE f x := by
  unfold truE someE
  by_cases h0 : chk f = 0
  · rw [isG_eq h0]
  · rw [if_pos h0, if_pos h0]
theorem veqS (x y : Spn) : vaggeq Try.prog .eql 43 (.agg [I x.lo, I x.hi]) (.agg [I y.lo, I y.hi]) = some (B (decide (x = y))) := by
  have : ((x.lo == y.lo) && ((x.hi == y.hi) && true)) = decide (x = y) := by cases x; cases y; rw [Bool.eq_iff_iff, decide_eq_true_eq]; simp [-not_and]
  rw [← this]
  unfold vaggeq
  rw [top43]
  rfl
theorem veqT (a b : Int) : vaggeq Try.prog .eql 43 (.agg [I a, I b]) (.agg [I a, I b]) = some (B true) := by
  have := veqS ⟨a, b⟩ ⟨a, b⟩
  rw [decide_eq_true rfl] at this; exact this
theorem osG_len (f : Fil) : (osG f).length ≤ 3 := selS_len _ 3
theorem vc_SilenceOwners (f : Fil) (x : Int) (h : Hp) : VC Try.prog 3 [vF f, I x] h (B true) h := by
  refine VC.bodyC 9 Try.func3 rfl Try.ntmps3 Try.call3 (h.grows_refl) rfl ?_; conv => whnf
  repeat' (first | ((first | refine zs1 ?_ | refine zs2 ?_ | refine zs3 ?_ | refine zs4 ?_ | refine zs5 ?_); conv => whnf) | ((first | apply zi1 | apply zi2 | apply zi3 | apply zi4 | apply zi5) <;> intro _ <;> conv => whnf) | (refine VCall.intro (vc_wide0 f 500 _ (by decide)) ?_; conv => whnf) | (refine VCall.intro (vc_awake _) ?_; conv => whnf))
  · exact VOut.same rfl
  · rename_i hw
    have hw : wideB f 500 [] = false := by simpa using hw
    have hn : f.ps.length ≤ 20 := by
      have := hw
      unfold wideB at this
      simp only [List.any_nil, Bool.false_or, Bool.or_eq_false_iff, decide_eq_false_iff_not] at this
      omega
    have hFew : chk f = 0 → Few f := fun h0 => few_of h0 (by decide) (by decide) hw
    obtain ⟨a, b, e, hS⟩ : ∃ a b e, sinceR f x = .tuple [.agg [I a, I b], I e] := by
      unfold sinceR
      cases decide (sinceE f x = 0)
      · exact ⟨_, _, _, rfl⟩
      · exact ⟨_, _, _, rfl⟩
    have s1 := fun h => vc_Since f x h (by omega)
    have s2 := fun h => vc_rSince f x h (by omega) hFew
    rw [hS] at s1 s2
    have hSm := fun h => vc_Some f x h (by omega) hFew
    rw [← truE_eq] at hSm
    by_cases h0 : chk f = 0
    · have o1 := fun h => vc_Owners_ok f h h0
      have o2 := fun h => vc_rOwners_ok f h h0 (hFew h0)
      rw [← osG_eq h0] at o2
      have o3 := fun h => eqI (osG f) h (by have := osG_len f; omega)
      by_cases hT : truE f x = 0
      · have t1 := fun h => vc_Truth_ok f x h hT
        have hg : isG f x = true := by
          unfold truE at hT
          rw [if_neg (by simpa using h0)] at hT
          split at hT
          · cases hT
          · cases hg : isG f x
            · rw [hg] at hT; cases hT
            · rfl
        obtain ⟨g1, g2⟩ := truG_ok h0 hg
        have g3 := told_tru h0 g1
        have g4 := (mem_tru.1 g1).1
        have t2 := fun h => vc_rOwner f (truG f x) h (by omega) (by omega)
        rw [if_pos g3, g3, g2] at t2
        rw [hT] at hSm
        refine VDraw.go [(1, 2)] (by kernel_rfl) (by kernel_rfl) ?_
        conv => whnf
        repeat' (first | ((first | refine zs1 ?_ | refine zs2 ?_ | refine zs3 ?_ | refine zs4 ?_ | refine zs5 ?_); conv => whnf) | ((first | apply zi1 | apply zi2 | apply zi3 | apply zi4 | apply zi5) <;> intro _ <;> conv => whnf) | (refine VCall.intro (vc_CloneFile f _ (by omega)) ?_; conv => whnf) | (refine VCall.intro (vc_File f _ (by omega)) ?_; conv => whnf) | (refine VCall.intro (o1 _) ?_; conv => whnf) | (refine VCall.intro (o2 _) ?_; conv => whnf) | (refine VCall.intro (o3 _) ?_; conv => whnf) | (refine VCall.intro (t1 _) ?_; conv => whnf) | (refine VCall.intro (hSm _) ?_; conv => whnf) | (refine VCall.intro (t2 _) ?_; conv => whnf))
        all_goals try first | exact VOut.same rfl | (rename_i hx; exact absurd rfl hx)
        all_goals (
          refine VCut.at [(1, I x), (2, .fp (encF f)), (5, .fp (encF f)), (6, .fp (encF f))] [] ?_ ?_
          · conv => whnf
            refine Retell.turn ⟨[], 3, [(0, encF f), (1, encF f), (2, encF f)], []⟩ (TurnOk.mk' _ _ [(0, encF f), (1, encF f), (2, encF f)] [] (OutOk.lift _) rfl (by decide) (by repeat' (first | exact BTos.nil | refine BTos.flat rfl rfl (by first | rfl | simp) ?_ | refine BTos.new rfl ?_ | refine BTos.dead rfl rfl ?_ | refine BTos.esE rfl rfl ?_ | refine BTos.row rfl rfl rfl (RowTo.snoc (RowTo.one rfl (by simp))) ?_ | refine BTos.cells rfl rfl rfl (by repeat' (first | exact VTo.undef | exact FrTo.leaf | refine FrTo.node ?_ ?_ ?_ | refine FrTo.none ?_ ?_ | exact VTo.sc (by first | rfl | (congr 1; omega) | (congr 1; simp; omega)) | exact VTos_dv _ _ | refine VTos.cons ?_ ?_ | exact VTos.nil | refine VTo.agg ?_ | refine VTo.tuple ?_ | refine VTo.func ?_ ?_ | exact VTo.fs | exact VTo.fp | exact VTo.nilptr | exact VTo.nilslice | exact VTo.nilfunc | exact VTo.ptr rfl | exact VTo.gl rfl | exact VTo.map rfl | exact VTo.yld rfl | exact VTo.fmMap rfl | exact VTo.fm | exact VTo.glNil' (by decide) rfl rfl | exact VTo.fsNil (by decide) | exact VTo.fsSl rfl rfl (by simp [flat_len encE_len]) | exact VTo.fpPtr rfl | exact VTo.fsGl rfl (by first | rfl | exact flat_len encI_len _ | exact flat_len encS_len _ | exact flat_len encP_len _ | exact flat_len encL_len _ | exact flat_len encE_len _ | (simp [flat_len encP_len]; done) | simp [flat_len encI_len, flat_len encS_len]))) ?_)) (by repeat' (first | exact FzAll.nil | refine FzAll.flat rfl ?_ | refine FzAll.row rfl rfl (RowTo.one rfl (by simp)) ?_)) trivial rfl) (by repeat' (first | exact VTo.undef | exact FrTo.leaf | refine FrTo.node ?_ ?_ ?_ | refine FrTo.none ?_ ?_ | exact VTo.sc (by first | rfl | (congr 1; omega) | (congr 1; simp; omega)) | exact VTos_dv _ _ | refine VTos.cons ?_ ?_ | exact VTos.nil | refine VTo.agg ?_ | refine VTo.tuple ?_ | refine VTo.func ?_ ?_ | exact VTo.fs | exact VTo.fp | exact VTo.nilptr | exact VTo.nilslice | exact VTo.nilfunc | exact VTo.ptr rfl | exact VTo.gl rfl | exact VTo.map rfl | exact VTo.yld rfl | exact VTo.fmMap rfl | exact VTo.fm | exact VTo.glNil' (by decide) rfl rfl | exact VTo.fsNil (by decide) | exact VTo.fsSl rfl rfl (by simp [flat_len encE_len]) | exact VTo.fpPtr rfl | exact VTo.fsGl rfl (by first | rfl | exact flat_len encI_len _ | exact flat_len encS_len _ | exact flat_len encP_len _ | exact flat_len encL_len _ | exact flat_len encE_len _ | (simp [flat_len encP_len]; done) | simp [flat_len encI_len, flat_len encS_len]))) (by first | rfl | (repeat' (first | exact MkTo.nil | refine MkTo.keep rfl ?_ | refine MkTo.drop (by decide) rfl ?_)))
          · conv => whnf
            repeat' (first | ((first | refine zs1 ?_ | refine zs2 ?_ | refine zs3 ?_ | refine zs4 ?_ | refine zs5 ?_); conv => whnf) | ((first | apply zi1 | apply zi2 | apply zi3 | apply zi4 | apply zi5) <;> intro _ <;> conv => whnf) | (refine VCall.intro (s1 _) ?_; conv => whnf) | (refine VCall.intro (s2 _) ?_; conv => whnf) | (refine VCall.intro (eqF f _ (by omega)) ?_; conv => whnf) | (refine VCall.intro (vc_awake _) ?_; conv => whnf) | (refine VAgg.intro (veqT a b) ?_; conv => whnf))
            all_goals first | exact VOut.same rfl | (rename_i hx; exact absurd rfl hx))
      · have t1 := fun h => vc_Truth_no f x h (by omega) hT
        refine VDraw.go [(1, 2)] (by kernel_rfl) (by kernel_rfl) ?_
        conv => whnf
        repeat' (first | ((first | refine zs1 ?_ | refine zs2 ?_ | refine zs3 ?_ | refine zs4 ?_ | refine zs5 ?_); conv => whnf) | ((first | apply zi1 | apply zi2 | apply zi3 | apply zi4 | apply zi5) <;> intro _ <;> conv => whnf) | (refine VCall.intro (vc_CloneFile f _ (by omega)) ?_; conv => whnf) | (refine VCall.intro (vc_File f _ (by omega)) ?_; conv => whnf) | (refine VCall.intro (o1 _) ?_; conv => whnf) | (refine VCall.intro (o2 _) ?_; conv => whnf) | (refine VCall.intro (o3 _) ?_; conv => whnf) | (refine VCall.intro (t1 _) ?_; conv => whnf) | (refine VCall.intro (hSm _) ?_; conv => whnf))
        all_goals try first | exact VOut.same rfl | (rename_i hx; exact absurd rfl hx) | (exfalso; rename_i hx; exact hT hx)
        all_goals (
          refine VCut.at [(1, I x), (2, .fp (encF f)), (5, .fp (encF f)), (6, .fp (encF f))] [] ?_ ?_
          · conv => whnf
            refine Retell.turn ⟨[], 3, [(0, encF f), (1, encF f), (2, encF f)], []⟩ (TurnOk.mk' _ _ [(0, encF f), (1, encF f), (2, encF f)] [] (OutOk.lift _) rfl (by decide) (by repeat' (first | exact BTos.nil | refine BTos.flat rfl rfl (by first | rfl | simp) ?_ | refine BTos.new rfl ?_ | refine BTos.dead rfl rfl ?_ | refine BTos.esE rfl rfl ?_ | refine BTos.row rfl rfl rfl (RowTo.snoc (RowTo.one rfl (by simp))) ?_ | refine BTos.cells rfl rfl rfl (by repeat' (first | exact VTo.undef | exact FrTo.leaf | refine FrTo.node ?_ ?_ ?_ | refine FrTo.none ?_ ?_ | exact VTo.sc (by first | rfl | (congr 1; omega) | (congr 1; simp; omega)) | exact VTos_dv _ _ | refine VTos.cons ?_ ?_ | exact VTos.nil | refine VTo.agg ?_ | refine VTo.tuple ?_ | refine VTo.func ?_ ?_ | exact VTo.fs | exact VTo.fp | exact VTo.nilptr | exact VTo.nilslice | exact VTo.nilfunc | exact VTo.ptr rfl | exact VTo.gl rfl | exact VTo.map rfl | exact VTo.yld rfl | exact VTo.fmMap rfl | exact VTo.fm | exact VTo.glNil' (by decide) rfl rfl | exact VTo.fsNil (by decide) | exact VTo.fsSl rfl rfl (by simp [flat_len encE_len]) | exact VTo.fpPtr rfl | exact VTo.fsGl rfl (by first | rfl | exact flat_len encI_len _ | exact flat_len encS_len _ | exact flat_len encP_len _ | exact flat_len encL_len _ | exact flat_len encE_len _ | (simp [flat_len encP_len]; done) | simp [flat_len encI_len, flat_len encS_len]))) ?_)) (by repeat' (first | exact FzAll.nil | refine FzAll.flat rfl ?_ | refine FzAll.row rfl rfl (RowTo.one rfl (by simp)) ?_)) trivial rfl) (by repeat' (first | exact VTo.undef | exact FrTo.leaf | refine FrTo.node ?_ ?_ ?_ | refine FrTo.none ?_ ?_ | exact VTo.sc (by first | rfl | (congr 1; omega) | (congr 1; simp; omega)) | exact VTos_dv _ _ | refine VTos.cons ?_ ?_ | exact VTos.nil | refine VTo.agg ?_ | refine VTo.tuple ?_ | refine VTo.func ?_ ?_ | exact VTo.fs | exact VTo.fp | exact VTo.nilptr | exact VTo.nilslice | exact VTo.nilfunc | exact VTo.ptr rfl | exact VTo.gl rfl | exact VTo.map rfl | exact VTo.yld rfl | exact VTo.fmMap rfl | exact VTo.fm | exact VTo.glNil' (by decide) rfl rfl | exact VTo.fsNil (by decide) | exact VTo.fsSl rfl rfl (by simp [flat_len encE_len]) | exact VTo.fpPtr rfl | exact VTo.fsGl rfl (by first | rfl | exact flat_len encI_len _ | exact flat_len encS_len _ | exact flat_len encP_len _ | exact flat_len encL_len _ | exact flat_len encE_len _ | (simp [flat_len encP_len]; done) | simp [flat_len encI_len, flat_len encS_len]))) (by first | rfl | (repeat' (first | exact MkTo.nil | refine MkTo.keep rfl ?_ | refine MkTo.drop (by decide) rfl ?_)))
          · conv => whnf
            repeat' (first | ((first | refine zs1 ?_ | refine zs2 ?_ | refine zs3 ?_ | refine zs4 ?_ | refine zs5 ?_); conv => whnf) | ((first | apply zi1 | apply zi2 | apply zi3 | apply zi4 | apply zi5) <;> intro _ <;> conv => whnf) | (refine VCall.intro (s1 _) ?_; conv => whnf) | (refine VCall.intro (s2 _) ?_; conv => whnf) | (refine VCall.intro (eqF f _ (by omega)) ?_; conv => whnf) | (refine VCall.intro (vc_awake _) ?_; conv => whnf) | (refine VAgg.intro (veqT a b) ?_; conv => whnf))
            all_goals first | exact VOut.same rfl | (rename_i hx; exact absurd rfl hx))
    · have o1 := fun h => vc_Owners_no f h (by omega) h0
      have o2 := fun h => vc_rOwners_no f h (by omega) h0
      have o3 := eqNilI
      have hT : truE f x ≠ 0 := by unfold truE; rw [if_pos h0]; exact h0
      have t1 := fun h => vc_Truth_no f x h (by omega) hT
      refine VDraw.go [(1, 2)] (by kernel_rfl) (by kernel_rfl) ?_
      conv => whnf
      repeat' (first | ((first | refine zs1 ?_ | refine zs2 ?_ | refine zs3 ?_ | refine zs4 ?_ | refine zs5 ?_); conv => whnf) | ((first | apply zi1 | apply zi2 | apply zi3 | apply zi4 | apply zi5) <;> intro _ <;> conv => whnf) | (refine VCall.intro (vc_CloneFile f _ (by omega)) ?_; conv => whnf) | (refine VCall.intro (vc_File f _ (by omega)) ?_; conv => whnf) | (refine VCall.intro (o1 _) ?_; conv => whnf) | (refine VCall.intro (o2 _) ?_; conv => whnf) | (refine VCall.intro (o3 _) ?_; conv => whnf) | (refine VCall.intro (t1 _) ?_; conv => whnf) | (refine VCall.intro (hSm _) ?_; conv => whnf))
      all_goals try first | exact VOut.same rfl | (rename_i hx; exact absurd rfl hx) | (exfalso; rename_i hx; exact hT hx)
      all_goals (
        refine VCut.at [(1, I x), (2, .fp (encF f)), (5, .fp (encF f)), (6, .fp (encF f))] [] ?_ ?_
        · conv => whnf
          refine Retell.turn ⟨[], 3, [(0, encF f), (1, encF f), (2, encF f)], []⟩ (TurnOk.mk' _ _ [(0, encF f), (1, encF f), (2, encF f)] [] (OutOk.lift _) rfl (by decide) (by repeat' (first | exact BTos.nil | refine BTos.flat rfl rfl (by first | rfl | simp) ?_ | refine BTos.new rfl ?_ | refine BTos.dead rfl rfl ?_ | refine BTos.esE rfl rfl ?_ | refine BTos.row rfl rfl rfl (RowTo.snoc (RowTo.one rfl (by simp))) ?_ | refine BTos.cells rfl rfl rfl (by repeat' (first | exact VTo.undef | exact FrTo.leaf | refine FrTo.node ?_ ?_ ?_ | refine FrTo.none ?_ ?_ | exact VTo.sc (by first | rfl | (congr 1; omega) | (congr 1; simp; omega)) | exact VTos_dv _ _ | refine VTos.cons ?_ ?_ | exact VTos.nil | refine VTo.agg ?_ | refine VTo.tuple ?_ | refine VTo.func ?_ ?_ | exact VTo.fs | exact VTo.fp | exact VTo.nilptr | exact VTo.nilslice | exact VTo.nilfunc | exact VTo.ptr rfl | exact VTo.gl rfl | exact VTo.map rfl | exact VTo.yld rfl | exact VTo.fmMap rfl | exact VTo.fm | exact VTo.glNil' (by decide) rfl rfl | exact VTo.fsNil (by decide) | exact VTo.fsSl rfl rfl (by simp [flat_len encE_len]) | exact VTo.fpPtr rfl | exact VTo.fsGl rfl (by first | rfl | exact flat_len encI_len _ | exact flat_len encS_len _ | exact flat_len encP_len _ | exact flat_len encL_len _ | exact flat_len encE_len _ | (simp [flat_len encP_len]; done) | simp [flat_len encI_len, flat_len encS_len]))) ?_)) (by repeat' (first | exact FzAll.nil | refine FzAll.flat rfl ?_ | refine FzAll.row rfl rfl (RowTo.one rfl (by simp)) ?_)) trivial rfl) (by repeat' (first | exact VTo.undef | exact FrTo.leaf | refine FrTo.node ?_ ?_ ?_ | refine FrTo.none ?_ ?_ | exact VTo.sc (by first | rfl | (congr 1; omega) | (congr 1; simp; omega)) | exact VTos_dv _ _ | refine VTos.cons ?_ ?_ | exact VTos.nil | refine VTo.agg ?_ | refine VTo.tuple ?_ | refine VTo.func ?_ ?_ | exact VTo.fs | exact VTo.fp | exact VTo.nilptr | exact VTo.nilslice | exact VTo.nilfunc | exact VTo.ptr rfl | exact VTo.gl rfl | exact VTo.map rfl | exact VTo.yld rfl | exact VTo.fmMap rfl | exact VTo.fm | exact VTo.glNil' (by decide) rfl rfl | exact VTo.fsNil (by decide) | exact VTo.fsSl rfl rfl (by simp [flat_len encE_len]) | exact VTo.fpPtr rfl | exact VTo.fsGl rfl (by first | rfl | exact flat_len encI_len _ | exact flat_len encS_len _ | exact flat_len encP_len _ | exact flat_len encL_len _ | exact flat_len encE_len _ | (simp [flat_len encP_len]; done) | simp [flat_len encI_len, flat_len encS_len]))) (by first | rfl | (repeat' (first | exact MkTo.nil | refine MkTo.keep rfl ?_ | refine MkTo.drop (by decide) rfl ?_)))
        · conv => whnf
          repeat' (first | ((first | refine zs1 ?_ | refine zs2 ?_ | refine zs3 ?_ | refine zs4 ?_ | refine zs5 ?_); conv => whnf) | ((first | apply zi1 | apply zi2 | apply zi3 | apply zi4 | apply zi5) <;> intro _ <;> conv => whnf) | (refine VCall.intro (s1 _) ?_; conv => whnf) | (refine VCall.intro (s2 _) ?_; conv => whnf) | (refine VCall.intro (eqF f _ (by omega)) ?_; conv => whnf) | (refine VCall.intro (vc_awake _) ?_; conv => whnf) | (refine VAgg.intro (veqT a b) ?_; conv => whnf))
          all_goals first | exact VOut.same rfl | (rename_i hx; exact absurd rfl hx))
end Go.Proofs.Ytolnajnlcdacmaa

open Go.Vm
namespace Go.Proofs.Ytolnajnlcdacmaa
set_option maxRecDepth 20000
set_option maxHeartbeats 2000000

/-! ### The fewest papers: as many as the reference counts, they show the right, and the windows prove as many -/

theorem jmp_spec (f : Fil) (t : List Int) (lo a : Nat) : ∀ n, lo ≤ n → (jmp f t lo a n = lo ∨ f.G < tAt t a - tAt t (jmp f t lo a n - 1)) ∧ ∀ c, jmp f t lo a n ≤ c → c < n → tAt t a - tAt t c ≤ f.G
  | 0, h => ⟨.inl (by rw [jmp]; omega), fun c _ h2 => by omega⟩
  | n + 1, h => by
    rw [jmp]
    split
    · rename_i h1
      obtain ⟨i1, i2⟩ := jmp_spec f t lo a n (by omega)
      refine ⟨i1, fun c h2 h3 => ?_⟩
      rcases Nat.eq_or_lt_of_le (Nat.le_of_lt_succ h3) with h4 | h4
      · subst h4; exact h1.2
      · exact i2 c h2 h4
    · rename_i h1
      refine ⟨?_, fun c h2 h3 => by omega⟩
      by_cases hl : n + 1 = lo
      · exact .inl hl
      · right
        rw [Nat.add_sub_cancel]
        have : ¬ tAt t a - tAt t n ≤ f.G := fun h5 => h1 ⟨by omega, h5⟩
        omega
structure Lad (f : Fil) (t : List Int) (lo p : Nat) : Prop where
  mono : ∀ a b, lo ≤ a → a < b → b ≤ p → tAt t a < tAt t b
  step : ∀ b, lo < b → b ≤ p → jmp f t lo b b < b
  far : f.Y ≤ tAt t p - tAt t lo
  y : 1 ≤ f.Y
  le : lo ≤ p
theorem Lad.of {f : Fil} {t : List Int} {p : Nat} (o : Shw f t p) : Lad f t (fst f t p) p := by
  obtain ⟨hi, c⟩ := InCh.of o
  have h1 := c.ph
  have h2 := c.hl
  exact ⟨fun a b _ hab hb => o.toOkt.mono hab (by omega), c.jmps, o.far, o.y.1, fst_le f t p⟩
theorem Lad.wide {f : Fil} {t : List Int} {lo p a b : Nat} (L : Lad f t lo p) (h : lo ≤ a) (hab : a ≤ b) (hb : b ≤ p) : tAt t a ≤ tAt t b := by
  rcases Nat.lt_or_eq_of_le hab with h1 | h1
  · exact Int.le_of_lt (L.mono a b h h1 hb)
  · rw [h1]; exact Int.le_refl _
def lenF (f : Fil) (t : List Int) (lo p a : Nat) : Nat := (fewS f t lo p a a).length
theorem fewS_fuel {f : Fil} {t : List Int} {lo p : Nat} (L : Lad f t lo p) : ∀ n m a, lo ≤ a → a ≤ p → a ≤ n → a ≤ m → fewS f t lo p n a = fewS f t lo p m a
  | 0, 0, a, _, _, _, _ => rfl
  | 0, m + 1, a, h1, h2, h3, _ => by
    have ha : a = lo := by omega
    rw [fewS, fewS, if_neg]
    rw [ha]; have := L.far; omega
  | n + 1, 0, a, h1, h2, _, h4 => by
    have ha : a = lo := by omega
    rw [fewS, fewS, if_neg]
    rw [ha]; have := L.far; omega
  | n + 1, m + 1, a, h1, h2, h3, h4 => by
    rw [fewS, fewS]
    split
    · rename_i h5
      have hne : lo < a := by
        rcases Nat.eq_or_lt_of_le h1 with h6 | h6
        · subst h6; have := L.far; omega
        · exact h6
      have hj := L.step a hne h2
      rw [fewS_fuel L n m _ (jmp_ge f t lo a a h1) (by omega) (by omega) (by omega)]
    · rfl
theorem lenF_far {f : Fil} {t : List Int} {lo p a : Nat} (h : f.Y ≤ tAt t p - tAt t a) : lenF f t lo p a = 1 := by
  unfold lenF
  cases a with
  | zero => rfl
  | succ a => rw [fewS, if_neg (by omega)]; rfl
theorem lenF_near {f : Fil} {t : List Int} {lo p a : Nat} (L : Lad f t lo p) (h1 : lo ≤ a) (h2 : a ≤ p) (h : tAt t p - tAt t a < f.Y) : lo < a ∧ lenF f t lo p a = lenF f t lo p (jmp f t lo a a) + 1 := by
  have hne : lo < a := by
    rcases Nat.eq_or_lt_of_le h1 with h6 | h6
    · subst h6; have := L.far; omega
    · exact h6
  have hj := L.step a hne h2
  refine ⟨hne, ?_⟩
  unfold lenF
  obtain ⟨b, rfl⟩ : ∃ b, a = b + 1 := ⟨a - 1, by omega⟩
  conv => lhs; rw [fewS, if_pos h]
  rw [List.length_cons, fewS_fuel L b (jmp f t lo (b + 1) (b + 1)) _ (jmp_ge f t lo _ _ h1) (by omega) (by omega) (Nat.le_refl _)]
theorem jmp_mono {f : Fil} {t : List Int} {lo p a b : Nat} (L : Lad f t lo p) (h1 : lo ≤ a) (hab : a ≤ b) (hb : b ≤ p) : jmp f t lo a a ≤ jmp f t lo b b := by
  obtain ⟨i1, i2⟩ := jmp_spec f t lo a a h1
  obtain ⟨g1, g2⟩ := jmp_spec f t lo b b (by omega)
  have hge := jmp_ge f t lo b b (by omega)
  have hle := jmp_le f t lo a a
  rcases i1 with i1 | i1
  · rw [i1]; exact hge
  · rcases Nat.lt_or_ge (jmp f t lo b b) (jmp f t lo a a) with h | h
    · exfalso
      have h3 := g2 (jmp f t lo a a - 1) (by omega) (by omega)
      have h4 := L.wide h1 hab hb
      omega
    · exact h
theorem lenF_mono {f : Fil} {t : List Int} {lo p : Nat} (L : Lad f t lo p) : ∀ (b a : Nat), lo ≤ a → a ≤ b → b ≤ p → lenF f t lo p a ≤ lenF f t lo p b := by
  intro b
  induction b using Nat.strongRecOn with
  | ind b ih =>
    intro a h1 hab hb
    have hw := L.wide h1 hab hb
    by_cases hb2 : f.Y ≤ tAt t p - tAt t b
    · rw [lenF_far hb2, lenF_far (by omega)]; exact Nat.le_refl _
    · obtain ⟨q1, q2⟩ := lenF_near L (by omega) hb (by omega)
      by_cases ha2 : f.Y ≤ tAt t p - tAt t a
      · rw [lenF_far ha2, q2]; omega
      · obtain ⟨r1, r2⟩ := lenF_near L h1 (by omega) (by omega)
        have hj := L.step b q1 hb
        rw [q2, r2]
        have := ih (jmp f t lo b b) hj (jmp f t lo a a) (jmp_ge f t lo a a h1) (jmp_mono L h1 hab hb) (by omega)
        omega
theorem innS_le {f : Fil} {t : List Int} {i : Nat} {l : List Int} : ∀ (k j : Nat) (v : Int), innS f t i l k j v ≤ v ∧ ∀ j', j ≤ j' → j' < j + k → tAt t i - tAt t j' ≤ f.G → innS f t i l k j v ≤ l.getD j' 0 + 1
  | 0, j, v => ⟨Int.le_refl _, fun j' h1 h2 => by omega⟩
  | k + 1, j, v => by
    rw [innS]
    obtain ⟨h1, h2⟩ := innS_le (f := f) (t := t) (i := i) (l := l) k (j + 1) (if tAt t i - tAt t j ≤ f.G ∧ l.getD j 0 + 1 < v then l.getD j 0 + 1 else v)
    generalize innS f t i l k (j + 1) (if tAt t i - tAt t j ≤ f.G ∧ l.getD j 0 + 1 < v then l.getD j 0 + 1 else v) = r at h1 h2
    refine ⟨by split at h1 <;> omega, fun j' h3 h4 h5 => ?_⟩
    rcases Nat.eq_or_lt_of_le h3 with h6 | h6
    · subst h6
      split at h1
      · exact h1
      · rename_i h7
        have : ¬ l.getD j 0 + 1 < v := fun h8 => h7 ⟨h5, h8⟩
        omega
    · exact h2 j' (by omega) (by omega) h5
theorem innS_ge {f : Fil} {t : List Int} {i : Nat} {l : List Int} {T : Int} : ∀ (k j : Nat) (v : Int), T ≤ v → (∀ j', j ≤ j' → j' < j + k → tAt t i - tAt t j' ≤ f.G → T ≤ l.getD j' 0 + 1) → T ≤ innS f t i l k j v
  | 0, j, v, h, _ => h
  | k + 1, j, v, h, hc => by
    rw [innS]
    refine innS_ge k (j + 1) _ ?_ fun j' h1 h2 h3 => hc j' (by omega) (by omega) h3
    split
    · rename_i h1; exact hc j (Nat.le_refl _) (by omega) h1.1
    · exact h
theorem mn1_eq {f : Fil} {t : List Int} {lo p i : Nat} {l : List Int} (L : Lad f t lo p) (h1 : lo ≤ i) (h2 : i ≤ p) (hp : p < 90) (hl : ∀ j, lo ≤ j → j < i → l.getD j 0 = (lenF f t lo p j : Int)) : mn1 f t p lo i l = (lenF f t lo p i : Int) := by
  unfold mn1
  have hb : ∀ a, (lenF f t lo p a : Int) ≤ a + 1 := fun a => by have := fewS_len f t lo p a a; unfold lenF; omega
  have hpos : ∀ a, (1 : Int) ≤ lenF f t lo p a := fun a => by have := List.length_pos_iff.2 (fewS_ne f t lo p a a); unfold lenF; omega
  obtain ⟨u1, u2⟩ := innS_le (f := f) (t := t) (i := i) (l := l) (i - lo) lo (if f.Y ≤ tAt t p - tAt t i then 1 else 100)
  apply Int.le_antisymm
  · by_cases hf : f.Y ≤ tAt t p - tAt t i
    · rw [if_pos hf] at u1 ⊢; rw [lenF_far hf]; exact u1
    · obtain ⟨q1, q2⟩ := lenF_near L h1 h2 (by omega)
      have hj := L.step i q1 h2
      have hge := jmp_ge f t lo i i h1
      have h3 := (jmp_spec f t lo i i h1).2 (jmp f t lo i i) (Nat.le_refl _) hj
      have := u2 (jmp f t lo i i) hge (by omega) h3
      rw [hl _ hge hj] at this
      rw [q2]; omega
  · refine innS_ge _ _ _ ?_ fun j h3 h4 h5 => ?_
    · by_cases hf : f.Y ≤ tAt t p - tAt t i
      · rw [if_pos hf, lenF_far hf]; exact Int.le_refl _
      · rw [if_neg hf]; have := hb i; omega
    · rw [hl j h3 (by omega)]
      by_cases hf : f.Y ≤ tAt t p - tAt t i
      · rw [lenF_far hf]; have := hpos j; omega
      · obtain ⟨q1, q2⟩ := lenF_near L h1 h2 (by omega)
        have hge := jmp_ge f t lo i i h1
        have hjj : jmp f t lo i i ≤ j := by
          rcases Nat.lt_or_ge j (jmp f t lo i i) with h | h
          · exfalso
            rcases (jmp_spec f t lo i i h1).1 with h6 | h6
            · omega
            · have := L.wide (a := j) (b := jmp f t lo i i - 1) h3 (by omega) (by have := jmp_le f t lo i i; omega)
              omega
          · exact h
        have := lenF_mono L j (jmp f t lo i i) hge hjj (by omega)
        rw [q2]; omega
theorem mnS_eq {f : Fil} {t : List Int} {lo p : Nat} (L : Lad f t lo p) (hp : p < 90) : ∀ (k i : Nat) (l : List Int), lo ≤ i → i + k ≤ p + 1 → p < l.length → (∀ j, lo ≤ j → j < i → l.getD j 0 = (lenF f t lo p j : Int)) →
    ∀ j, lo ≤ j → j < i + k → (mnS f t p lo k i l).getD j 0 = (lenF f t lo p j : Int)
  | 0, i, l, _, _, _, h, j, h1, h2 => by rw [mnS]; exact h j h1 (by omega)
  | k + 1, i, l, h1, h2, hl, h, j, h3, h4 => by
    rw [mnS]
    refine mnS_eq L hp k (i + 1) _ (by omega) (by omega) (by simpa using hl) (fun j' g1 g2 => ?_) j h3 (by omega)
    rw [List.getD_eq_getElem?_getD, List.getElem?_set]
    by_cases e : i = j'
    · subst e
      rw [if_pos rfl, if_pos (by omega)]
      exact mn1_eq L h1 (by omega) hp h
    · rw [if_neg e, ← List.getD_eq_getElem?_getD]
      exact h j' g1 (by omega)
theorem many_eq {f : Fil} {t : List Int} {p : Nat} (o : Shw f t p) : many f t p = ((few f t p).length : Int) := by
  have L := Lad.of o
  have h1 := o.n
  have h2 := o.len
  have h3 := o.lt
  have h4 := fst_le f t p
  unfold many few
  rw [List.length_reverse]
  exact mnS_eq L (by omega) (p + 1 - fst f t p) (fst f t p) _ (Nat.le_refl _) (by omega) (by simpa using h3) (fun j g1 g2 => by omega) p h4 (by omega)
end Go.Proofs.Ytolnajnlcdacmaa

open Go.Vm
namespace Go.Proofs.Ytolnajnlcdacmaa
set_option maxRecDepth 20000
set_option maxHeartbeats 2000000

structure Down (f : Fil) (t : List Int) (lo p : Nat) (l : List Int) (a : Nat) : Prop where
  head : l[0]? = some (a : Int)
  step : ∀ (k : Nat) (x y : Int), l[k]? = some x → l[k + 1]? = some y → y.toNat = jmp f t lo x.toNat x.toNat ∧ tAt t p - tAt t x.toNat < f.Y ∧ lo < x.toNat ∧ x.toNat ≤ p ∧ 0 ≤ x ∧ 0 ≤ y
  last : ∀ x, l[l.length - 1]? = some x → f.Y ≤ tAt t p - tAt t x.toNat ∧ (lo : Int) ≤ x ∧ x ≤ p
theorem fewS_down {f : Fil} {t : List Int} {lo p : Nat} (L : Lad f t lo p) : ∀ n a, lo ≤ a → a ≤ p → a ≤ n → Down f t lo p (fewS f t lo p n a) a
  | 0, a, h1, h2, h3 => by
    have ha : a = lo := by omega
    refine ⟨rfl, fun k x y hx hy => by simp [fewS] at hy, fun x hx => ?_⟩
    simp only [fewS, List.length_singleton, Nat.sub_self, List.getElem?_cons_zero, Option.some.injEq] at hx
    subst hx
    rw [Int.toNat_natCast, ha]
    exact ⟨L.far, Int.le_refl _, by have := L.le; omega⟩
  | n + 1, a, h1, h2, h3 => by
    rw [fewS]
    split
    · rename_i h5
      obtain ⟨hne, _⟩ := lenF_near L h1 h2 h5
      have hj := L.step a hne h2
      have ih := fewS_down L n (jmp f t lo a a) (jmp_ge f t lo a a h1) (by omega) (by omega)
      refine ⟨rfl, fun k x y hx hy => ?_, fun x hx => ?_⟩
      · cases k with
        | zero =>
          simp only [List.getElem?_cons_zero, Option.some.injEq] at hx
          rw [List.getElem?_cons_succ, ih.head, Option.some.injEq] at hy
          subst hx hy
          simp only [Int.toNat_natCast]
          exact ⟨trivial, h5, hne, h2, by omega, by omega⟩
        | succ k =>
          rw [List.getElem?_cons_succ] at hx hy
          exact ih.step k x y hx hy
      · have hl := List.length_pos_iff.2 (fewS_ne f t lo p n (jmp f t lo a a))
        rw [List.length_cons, Nat.add_sub_cancel] at hx
        obtain ⟨m, hm⟩ : ∃ m, (fewS f t lo p n (jmp f t lo a a)).length = m + 1 := ⟨_, (Nat.succ_pred_eq_of_pos hl).symm⟩
        rw [hm, List.getElem?_cons_succ] at hx
        exact ih.last x (by rw [hm]; exact hx)
    · rename_i h5
      refine ⟨rfl, fun k x y hx hy => by simp at hy, fun x hx => ?_⟩
      simp only [List.length_singleton, Nat.sub_self, List.getElem?_cons_zero, Option.some.injEq] at hx
      subst hx
      rw [Int.toNat_natCast]
      exact ⟨by omega, by omega, by omega⟩
structure Up (f : Fil) (t : List Int) (lo p : Nat) (l : List Int) : Prop where
  step : ∀ (k : Nat) (x y : Int), l[k]? = some x → l[k + 1]? = some y → x.toNat = jmp f t lo y.toNat y.toNat ∧ tAt t p - tAt t y.toNat < f.Y ∧ lo < y.toNat ∧ y.toNat ≤ p ∧ 0 ≤ y ∧ 0 ≤ x
  first : ∀ x, l[0]? = some x → f.Y ≤ tAt t p - tAt t x.toNat ∧ (lo : Int) ≤ x ∧ x ≤ p
  last : l[l.length - 1]? = some (p : Int)
theorem few_up {f : Fil} {t : List Int} {p : Nat} (o : Shw f t p) : Up f t (fst f t p) p (few f t p) := by
  have L := Lad.of o
  have D := fewS_down L p p L.le (Nat.le_refl _) (Nat.le_refl _)
  have hl := List.length_pos_iff.2 (fewS_ne f t (fst f t p) p p p)
  unfold few
  generalize fewS f t (fst f t p) p p p = F at D hl
  refine ⟨fun k x y hx hy => ?_, fun x hx => ?_, ?_⟩
  · have hk : k + 1 < F.length := by have := (List.getElem?_eq_some_iff.1 hy).1; simpa using this
    rw [List.getElem?_reverse (by omega)] at hx
    rw [List.getElem?_reverse (by omega)] at hy
    have e : F.length - 1 - k = F.length - 1 - (k + 1) + 1 := by omega
    rw [e] at hx
    obtain ⟨q1, q2, q3, q4, q5, q6⟩ := D.step _ y x hy hx
    exact ⟨q1, q2, q3, q4, q5, q6⟩
  · rw [List.getElem?_reverse hl, Nat.sub_zero] at hx
    exact D.last x hx
  · rw [List.length_reverse, List.getElem?_reverse (by omega), Nat.sub_self]
    exact D.head
theorem few_shows {f : Fil} {t : List Int} {p : Nat} (o : Shw f t p) : inR t.length (few f t p) = true ∧ shB f t p (few f t p) = true := by
  have U := few_up o
  have L := Lad.of o
  have hlt := o.lt
  have hm := few_mem o
  obtain ⟨hl1, _⟩ := few_len o
  generalize few f t p = l at U hm hl1
  have ha : l[0]? = some (l.getD 0 0) := by rw [List.getElem?_eq_getElem (by omega)]; simp [List.getElem?_eq_getElem (show 0 < l.length by omega)]
  have hb : l.getD (l.length - 1) 0 = p := by rw [List.getD_eq_getElem?_getD, U.last]; rfl
  constructor
  · unfold inR
    rw [List.all_eq_true]
    intro x hx
    have := hm x hx
    rw [decide_eq_true_eq]; omega
  · unfold shB
    obtain ⟨u1, u2, u3⟩ := U.first _ ha
    rw [decide_eq_true ⟨by omega, hb, u2, u1⟩, Bool.true_and]
    refine eachS_iff.2 fun i x hx => ?_
    rw [Nat.zero_add]
    unfold nx
    rw [decide_eq_true_eq]
    cases i with
    | zero => exact .inl rfl
    | succ i =>
      right
      rw [Nat.add_sub_cancel]
      have hi : i < l.length := by have := (List.getElem?_eq_some_iff.1 hx).1; omega
      have hy : l[i]? = some (l.getD i 0) := by simp [List.getElem?_eq_getElem hi]
      obtain ⟨q1, q2, q3, q4, q5, q6⟩ := U.step i _ x hy hx
      have hj := L.step x.toNat q3 q4
      have hs := (jmp_spec f t (fst f t p) x.toNat x.toNat (by omega)).2 _ (Nat.le_refl _) hj
      rw [← q1] at hs hj
      exact ⟨by omega, hs⟩
/-! ### The windows -/

theorem cntS_zero {f : Fil} {y : Int} {l : List Int} : ∀ k, (∀ j, j < k → ¬ (l.getD j 0 + 1 ≤ y ∧ y ≤ l.getD j 0 + f.G)) → cntS f y l k = 0
  | 0, _ => rfl
  | k + 1, h => by rw [cntS, cntS_zero k (fun j hj => h j (by omega)), if_neg (h k (by omega))]
theorem cntS_one {f : Fil} {y : Int} {l : List Int} : ∀ k, (∀ i j, i < j → j < k → (l.getD i 0 + 1 ≤ y ∧ y ≤ l.getD i 0 + f.G) → ¬ (l.getD j 0 + 1 ≤ y ∧ y ≤ l.getD j 0 + f.G)) → cntS f y l k ≤ 1
  | 0, _ => Nat.zero_le _
  | k + 1, h => by
    rw [cntS]
    by_cases hk : l.getD k 0 + 1 ≤ y ∧ y ≤ l.getD k 0 + f.G
    · rw [if_pos hk, cntS_zero k fun j hj hq => h j k hj (by omega) hq hk]; omega
    · rw [if_neg hk]; exact cntS_one k fun i j h1 h2 => h i j h1 (by omega)
theorem okW_true {f : Fil} {t l : List Int} {p : Nat} : ∀ k i, (∀ j, i ≤ j → j < i + k → badW f t l p j = false) → okW f t l p k i = true
  | 0, _, _ => rfl
  | k + 1, i, h => by rw [okW, h i (Nat.le_refl _) (by omega), cond_false]; exact okW_true k (i + 1) fun j h1 h2 => h j (by omega) (by omega)
theorem farS_max {f : Fil} {t : List Int} {lo p : Nat} (L : Lad f t lo p) {b : Nat} (h0 : lo < b) (hb : b ≤ p) (h : tAt t p - tAt t b < f.Y) : ∀ n i, lo ≤ i → i < b → farS f t p n i < b
  | 0, i, _, h2 => h2
  | n + 1, i, h1, h2 => by
    rw [farS]
    split
    · rename_i h3
      refine farS_max L h0 hb h n (i + 1) (by omega) ?_
      rcases Nat.eq_or_lt_of_le h2 with h4 | h4
      · have h4 : i + 1 = b := h4
        rw [h4] at h3; omega
      · exact h4
    · exact h2
theorem win_len {f : Fil} {t : List Int} {p : Nat} (o : Shw f t p) : (win f t p).length = (few f t p).length - 2 := by
  have := few_len o
  simp [win]; omega
theorem win_get {f : Fil} {t : List Int} {p : Nat} (o : Shw f t p) {k : Nat} {w : Int} (h : (win f t p)[k]? = some w) :
    ∃ x y : Nat, (few f t p)[k + 1]? = some (x : Int) ∧ (few f t p)[k + 2]? = some (y : Int) ∧ w = tAt t (x - 1) ∧ fst f t p < x ∧ x < y ∧ y ≤ p ∧ tAt t p - tAt t x < f.Y ∧ f.G < tAt t y - tAt t (x - 1) := by
  have U := few_up o
  have L := Lad.of o
  have hk : k < (few f t p).length - 2 := by have := (List.getElem?_eq_some_iff.1 h).1; rwa [win_len o] at this
  have h0 : (few f t p)[k]? = some ((few f t p).getD k 0) := by simp [List.getElem?_eq_getElem (show k < (few f t p).length by omega)]
  have h1 : (few f t p)[k + 1]? = some ((few f t p).getD (k + 1) 0) := by simp [List.getElem?_eq_getElem (show k + 1 < (few f t p).length by omega)]
  have h2 : (few f t p)[k + 2]? = some ((few f t p).getD (k + 2) 0) := by simp [List.getElem?_eq_getElem (show k + 2 < (few f t p).length by omega)]
  obtain ⟨p1, p2, p3, p4, p5, p6⟩ := U.step k _ _ h0 h1
  obtain ⟨q1, q2, q3, q4, q5, q6⟩ := U.step (k + 1) _ _ h1 h2
  have hw : w = tAt t (((few f t p).getD (k + 1) 0).toNat - 1) := by
    unfold win at h
    rw [List.getElem?_map, List.getElem?_take, if_pos (by omega), List.getElem?_drop, Nat.add_comm 1 k, h1] at h
    simpa using h.symm
  generalize (few f t p).getD (k + 1) 0 = x at h1 p1 p2 p3 p4 p5 q1 q5 q6 hw
  generalize (few f t p).getD (k + 2) 0 = y at h2 q1 q2 q3 q4 q5
  have hj := L.step y.toNat q3 q4
  have hs := (jmp_spec f t (fst f t p) y.toNat y.toNat (by omega)).1
  rw [← q1] at hj hs
  refine ⟨x.toNat, y.toNat, ?_, ?_, hw, p3, hj, q4, p2, ?_⟩
  · rw [h1]; congr 1; omega
  · rw [h2]; congr 1; omega
  · rcases hs with hs | hs
    · omega
    · exact hs
theorem few_lt {f : Fil} {t : List Int} {p : Nat} (o : Shw f t p) {i j : Nat} {x y : Int} (h : i < j) (hx : (few f t p)[i]? = some x) (hy : (few f t p)[j]? = some y) : x < y := by
  have := few_asc o
  obtain ⟨h1, rfl⟩ := List.getElem?_eq_some_iff.1 hx
  obtain ⟨h2, rfl⟩ := List.getElem?_eq_some_iff.1 hy
  exact List.pairwise_iff_getElem.1 this i j h1 h2 h
theorem win_proves {f : Fil} {t : List Int} {p : Nat} (o : Shw f t p) : pvE f t p (win f t p) = 0 := by
  have L := Lad.of o
  obtain ⟨hi, c⟩ := InCh.of o
  have hph := c.ph
  have hhl := c.hl
  have hhi : hiOf f t p = hi := by rw [hiOf, c.hc]; rfl
  have hgD : ∀ k, k < (win f t p).length → (win f t p)[k]? = some ((win f t p).getD k 0) := fun k hk => by simp [List.getElem?_eq_getElem hk]
  have mono := fun a b (h : a < b) (hb : b < t.length) => o.toOkt.mono h hb
  -- where a paper of a window lies
  have key : ∀ k i, k < (win f t p).length → fst f t p ≤ i → i ≤ hi → ((win f t p).getD k 0 + 1 ≤ tAt t i ∧ tAt t i ≤ (win f t p).getD k 0 + f.G) → ∃ x y : Nat, (few f t p)[k + 1]? = some (x : Int) ∧ (few f t p)[k + 2]? = some (y : Int) ∧ x ≤ i ∧ i < y ∧ y ≤ p := by
    intro k i hk h1 h2 ⟨h3, h4⟩
    obtain ⟨x, y, g1, g2, g3, g4, g5, g6, g7, g8⟩ := win_get o (hgD k hk)
    rw [g3] at h3 h4
    refine ⟨x, y, g1, g2, ?_, ?_, g6⟩
    · rcases Nat.lt_or_ge i x with h | h
      · exfalso
        rcases Nat.eq_or_lt_of_le (Nat.le_sub_one_of_lt h) with e | e
        · rw [e] at h3; omega
        · have := mono i (x - 1) e (by omega); omega
      · exact h
    · rcases Nat.lt_or_ge i y with h | h
      · exact h
      · exfalso
        rcases Nat.eq_or_lt_of_le h with e | e
        · rw [← e] at h4; omega
        · have := mono y i e (by omega); omega
  have e1 : eachS (asc (win f t p)) 0 (win f t p) = true := by
    refine eachS_iff.2 fun i x hx => ?_
    rw [Nat.zero_add]
    unfold asc
    rw [decide_eq_true_eq]
    cases i with
    | zero => exact .inl rfl
    | succ i =>
      right
      rw [Nat.add_sub_cancel]
      have hi2 : i + 1 < (win f t p).length := (List.getElem?_eq_some_iff.1 hx).1
      obtain ⟨a, b, g1, g2, g3, g4, g5, g6, g7, g8⟩ := win_get o (hgD i (by omega))
      obtain ⟨a', b', q1, q2, q3, q4, q5, q6, q7, q8⟩ := win_get o hx
      rw [g2] at q1
      have hba : b = a' := by injection q1 with q1; omega
      subst hba
      rw [g3, q3]
      exact mono (a - 1) (b - 1) (by omega) (by omega)
  have e2 : (win f t p).all (fun x => decide (tAt t (far f t p) ≤ x ∧ x ≤ tAt t p - 1)) = true := by
    rw [List.all_eq_true]
    intro w hw
    obtain ⟨k, hk, rfl⟩ := List.getElem_of_mem hw
    obtain ⟨x, y, g1, g2, g3, g4, g5, g6, g7, g8⟩ := win_get o (List.getElem?_eq_getElem hk)
    rw [g3, decide_eq_true_eq]
    have hfar := farS_max L (b := x) g4 (by omega) g7 p (fst f t p) (Nat.le_refl _) g4
    have hge := (far_ok o).1
    have hfar : far f t p < x := hfar
    have h1 := L.wide (a := far f t p) (b := x - 1) hge (by omega) (by omega)
    have h2 := L.mono (x - 1) p (by omega) (by omega) (Nat.le_refl _)
    exact ⟨h1, by omega⟩
  have e3 : okW f t (win f t p) p (hiOf f t p + 1 - fst f t p) (fst f t p) = true := by
    refine okW_true _ _ fun i h1 h2 => ?_
    have hfl := fst_le f t p
    have hih : i ≤ hi := by omega
    unfold badW
    rw [decide_eq_false_iff_not]
    rintro (h3 | ⟨h3, rfl⟩)
    · have := cntS_one (f := f) (y := tAt t i) (l := win f t p) (win f t p).length fun a b hab hb ha hb2 => by
        obtain ⟨x, y, g1, g2, g3, g4, g5⟩ := key a i (by omega) h1 hih ha
        obtain ⟨x', y', q1, q2, q3, q4, q5⟩ := key b i hb h1 hih hb2
        have hyx : (y : Int) ≤ x' := by
          rcases Nat.eq_or_lt_of_le (show a + 2 ≤ b + 1 by omega) with e | e
          · rw [← e, g2] at q1; injection q1 with q1; omega
          · exact Int.le_of_lt (few_lt o e g2 q1)
        omega
      omega
    · have := cntS_zero (f := f) (y := tAt t i) (l := win f t i) (win f t i).length fun a ha hq => by
        obtain ⟨x, y, g1, g2, g3, g4, g5⟩ := key a i ha h1 hih hq
        omega
      omega
  unfold pvE
  rw [e1, e2, e3]
  rfl
end Go.Proofs.Ytolnajnlcdacmaa

open Go.Vm
namespace Go.Proofs.Ytolnajnlcdacmaa
set_option maxRecDepth 20000
set_option maxHeartbeats 4000000

theorem vc_ShownA (f : Fil) (t l x : List Int) (p : Int) (h : Hp) (b1 : Bool) (e1 n2 e2 e0 : Int) (w wn : V) (n0 : Int)
    (hn : f.ps.length ≤ 20) (ht : t.length ≤ 20) (hl : l.length ≤ 20) (hx : x.length ≤ 20)
    (c1 : ∀ h, VC Try.prog 30 [vF f, ints t, I p] h (.tuple [w, I e0]) h) (c2 : ∀ h, VC Try.prog 45 [vF f, ints t, I p] h (.tuple [I n0, I e0]) h) (c3 : ∀ h, VC Try.prog 46 [vF f, ints t, I p] h (.tuple [wn, I e0]) h)
    (c6 : ∀ h, VC Try.prog 49 [vF f, ints t, I p, ints l] h (.tuple [B b1, I e1]) h) (c7 : ∀ h, VC Try.prog 47 [vF f, ints t, I p, ints l] h (.tuple [B b1, I e1]) h)
    (c8 : ∀ h, VC Try.prog 50 [vF f, ints t, I p, ints x] h (.tuple [I n2, I e2]) h) (c9 : ∀ h, VC Try.prog 48 [vF f, ints t, I p, ints x] h (.tuple [I n2, I e2]) h)
    (hw : (w = .nilslice ∧ wn = .nilslice ∧ n0 = 0 ∧ e0 ≠ 0) ∨ ∃ W WN : List Int, w = ints W ∧ wn = ints WN ∧ n0 = (W.length : Int) ∧ e0 = 0 ∧
      (∀ h, VC Try.prog 47 [vF f, ints t, I p, ints W] h (.tuple [B true, I 0]) h) ∧ (∀ h, VC Try.prog 48 [vF f, ints t, I p, ints WN] h (.tuple [I (W.length : Int), I 0]) h)) :
    VC Try.prog 9 [vF f, ints t, I p, ints l, ints x] h (B true) h := by
  rcases hw with ⟨rfl, rfl, rfl, he0⟩ | ⟨W, WN, rfl, rfl, rfl, rfl, c4, c5⟩
  · refine VC.bodyC 8 Try.func9 rfl Try.ntmps9 Try.call9 (h.grows_refl) rfl ?_; conv => whnf
    repeat' (first | ((first | refine zs1 ?_ | refine zs2 ?_ | refine zs3 ?_ | refine zs4 ?_ | refine zs5 ?_); conv => whnf) | ((first | apply zi1 | apply zi2 | apply zi3 | apply zi4 | apply zi5) <;> intro _ <;> conv => whnf))
    all_goals try (exfalso; omega)
    refine VDraw.go [(1, 8), (3, 8), (5, 8), (7, 8)] (by kernel_rfl) (by kernel_rfl) ?_
    conv => whnf
    repeat' (first | ((first | refine zs1 ?_ | refine zs2 ?_ | refine zs3 ?_ | refine zs4 ?_ | refine zs5 ?_); conv => whnf) | ((first | apply zi1 | apply zi2 | apply zi3 | apply zi4 | apply zi5) <;> intro _ <;> conv => whnf) | (refine VCall.intro (vc_CloneFile f _ (by omega)) ?_; conv => whnf) | (refine VCall.intro (vc_cloneI t _ (by omega)) ?_; conv => whnf) | (refine VCall.intro (vc_cloneI l _ (by omega)) ?_; conv => whnf) | (refine VCall.intro (vc_cloneI x _ (by omega)) ?_; conv => whnf) | (refine VCall.intro (vc_File f _ (by omega)) ?_; conv => whnf) | (refine VCall.intro (c1 _) ?_; conv => whnf) | (refine VCall.intro (c2 _) ?_; conv => whnf) | (refine VCall.intro (c3 _) ?_; conv => whnf) | (refine VCall.intro (c6 _) ?_; conv => whnf) | (refine VCall.intro (c7 _) ?_; conv => whnf) | (refine VCall.intro (c8 _) ?_; conv => whnf) | (refine VCall.intro (c9 _) ?_; conv => whnf))
    all_goals try first | exact VOut.same rfl | (rename_i hx; exact absurd rfl hx) | (exfalso; omega)
    all_goals (
      refine VCut.at [(1, ints t), (2, I p), (3, ints l), (4, ints x), (5, .fp (encF f)), (11, .fp (encF f)), (12, ints t), (13, ints l), (14, ints x), (15, .fp (encF f))] [] ?_ ?_
      · conv => whnf
        refine Retell.turn ⟨[], 3, [(0, encF f), (1, encF f), (2, encF f)], []⟩ (TurnOk.mk' _ _ [(0, encF f), (1, encF f), (2, encF f)] [] (OutOk.lift _) rfl (by decide) (by repeat' (first | exact BTos.nil | refine BTos.flat rfl rfl (by first | rfl | simp) ?_ | refine BTos.new rfl ?_ | refine BTos.dead rfl rfl ?_ | refine BTos.esE rfl rfl ?_ | refine BTos.row rfl rfl rfl (RowTo.snoc (RowTo.one rfl (by simp))) ?_ | refine BTos.cells rfl rfl rfl (by repeat' (first | exact VTo.undef | exact FrTo.leaf | refine FrTo.node ?_ ?_ ?_ | refine FrTo.none ?_ ?_ | exact VTo.sc (by first | rfl | (congr 1; omega) | (congr 1; simp; omega)) | exact VTos_dv _ _ | refine VTos.cons ?_ ?_ | exact VTos.nil | refine VTo.agg ?_ | refine VTo.tuple ?_ | refine VTo.func ?_ ?_ | exact VTo.fs | exact VTo.fp | exact VTo.nilptr | exact VTo.nilslice | exact VTo.nilfunc | exact VTo.ptr rfl | exact VTo.gl rfl | exact VTo.map rfl | exact VTo.yld rfl | exact VTo.fmMap rfl | exact VTo.fm | exact VTo.glNil' (by decide) rfl rfl | exact VTo.fsNil (by decide) | exact VTo.fsSl rfl rfl (by simp [flat_len encE_len]) | exact VTo.fpPtr rfl | exact VTo.fsGl rfl (by first | rfl | exact flat_len encI_len _ | exact flat_len encS_len _ | exact flat_len encP_len _ | exact flat_len encL_len _ | exact flat_len encE_len _ | (simp [flat_len encP_len]; done) | simp [flat_len encI_len, flat_len encS_len]))) ?_)) (by repeat' (first | exact FzAll.nil | refine FzAll.flat rfl ?_ | refine FzAll.row rfl rfl (RowTo.one rfl (by simp)) ?_)) trivial rfl) (by repeat' (first | exact VTo.undef | exact FrTo.leaf | refine FrTo.node ?_ ?_ ?_ | refine FrTo.none ?_ ?_ | exact VTo.sc (by first | rfl | (congr 1; omega) | (congr 1; simp; omega)) | exact VTos_dv _ _ | refine VTos.cons ?_ ?_ | exact VTos.nil | refine VTo.agg ?_ | refine VTo.tuple ?_ | refine VTo.func ?_ ?_ | exact VTo.fs | exact VTo.fp | exact VTo.nilptr | exact VTo.nilslice | exact VTo.nilfunc | exact VTo.ptr rfl | exact VTo.gl rfl | exact VTo.map rfl | exact VTo.yld rfl | exact VTo.fmMap rfl | exact VTo.fm | exact VTo.glNil' (by decide) rfl rfl | exact VTo.fsNil (by decide) | exact VTo.fsSl rfl rfl (by simp [flat_len encE_len]) | exact VTo.fpPtr rfl | exact VTo.fsGl rfl (by first | rfl | exact flat_len encI_len _ | exact flat_len encS_len _ | exact flat_len encP_len _ | exact flat_len encL_len _ | exact flat_len encE_len _ | (simp [flat_len encP_len]; done) | simp [flat_len encI_len, flat_len encS_len]))) (by first | rfl | (repeat' (first | exact MkTo.nil | refine MkTo.keep rfl ?_ | refine MkTo.drop (by decide) rfl ?_)))
      · conv => whnf
        repeat' (first | ((first | refine zs1 ?_ | refine zs2 ?_ | refine zs3 ?_ | refine zs4 ?_ | refine zs5 ?_); conv => whnf) | ((first | apply zi1 | apply zi2 | apply zi3 | apply zi4 | apply zi5) <;> intro _ <;> conv => whnf) | (refine VCall.intro (c6 _) ?_; conv => whnf) | (refine VCall.intro (c7 _) ?_; conv => whnf) | (refine VCall.intro (c8 _) ?_; conv => whnf) | (refine VCall.intro (c9 _) ?_; conv => whnf) | (refine VCall.intro (eqF f _ (by omega)) ?_; conv => whnf) | (refine VCall.intro (eqI t _ (by omega)) ?_; conv => whnf) | (refine VCall.intro (eqI l _ (by omega)) ?_; conv => whnf) | (refine VCall.intro (eqI x _ (by omega)) ?_; conv => whnf) | (refine VCall.intro (vc_awake _) ?_; conv => whnf))
        all_goals first | exact VOut.same rfl | (rename_i hx; exact absurd rfl hx))
  · refine VC.bodyC 8 Try.func9 rfl Try.ntmps9 Try.call9 (h.grows_refl) rfl ?_; conv => whnf
    repeat' (first | ((first | refine zs1 ?_ | refine zs2 ?_ | refine zs3 ?_ | refine zs4 ?_ | refine zs5 ?_); conv => whnf) | ((first | apply zi1 | apply zi2 | apply zi3 | apply zi4 | apply zi5) <;> intro _ <;> conv => whnf))
    all_goals try (exfalso; omega)
    refine VDraw.go [(1, 8), (3, 8), (5, 8), (7, 8)] (by kernel_rfl) (by kernel_rfl) ?_
    conv => whnf
    repeat' (first | ((first | refine zs1 ?_ | refine zs2 ?_ | refine zs3 ?_ | refine zs4 ?_ | refine zs5 ?_); conv => whnf) | ((first | apply zi1 | apply zi2 | apply zi3 | apply zi4 | apply zi5) <;> intro _ <;> conv => whnf) | (refine VCall.intro (vc_CloneFile f _ (by omega)) ?_; conv => whnf) | (refine VCall.intro (vc_cloneI t _ (by omega)) ?_; conv => whnf) | (refine VCall.intro (vc_cloneI l _ (by omega)) ?_; conv => whnf) | (refine VCall.intro (vc_cloneI x _ (by omega)) ?_; conv => whnf) | (refine VCall.intro (vc_File f _ (by omega)) ?_; conv => whnf) | (refine VCall.intro (c1 _) ?_; conv => whnf) | (refine VCall.intro (c2 _) ?_; conv => whnf) | (refine VCall.intro (c3 _) ?_; conv => whnf) | (refine VCall.intro (c4 _) ?_; conv => whnf) | (refine VCall.intro (c5 _) ?_; conv => whnf) | (refine VCall.intro (c6 _) ?_; conv => whnf) | (refine VCall.intro (c7 _) ?_; conv => whnf) | (refine VCall.intro (c8 _) ?_; conv => whnf) | (refine VCall.intro (c9 _) ?_; conv => whnf))
    all_goals try first | exact VOut.same rfl | (rename_i hx; exact absurd rfl hx)
    all_goals (
      refine VCut.at [(1, ints t), (2, I p), (3, ints l), (4, ints x), (5, .fp (encF f)), (11, .fp (encF f)), (12, ints t), (13, ints l), (14, ints x), (15, .fp (encF f))] [] ?_ ?_
      · conv => whnf
        refine Retell.turn ⟨[], 3, [(0, encF f), (1, encF f), (2, encF f)], []⟩ (TurnOk.mk' _ _ [(0, encF f), (1, encF f), (2, encF f)] [] (OutOk.lift _) rfl (by decide) (by repeat' (first | exact BTos.nil | refine BTos.flat rfl rfl (by first | rfl | simp) ?_ | refine BTos.new rfl ?_ | refine BTos.dead rfl rfl ?_ | refine BTos.esE rfl rfl ?_ | refine BTos.row rfl rfl rfl (RowTo.snoc (RowTo.one rfl (by simp))) ?_ | refine BTos.cells rfl rfl rfl (by repeat' (first | exact VTo.undef | exact FrTo.leaf | refine FrTo.node ?_ ?_ ?_ | refine FrTo.none ?_ ?_ | exact VTo.sc (by first | rfl | (congr 1; omega) | (congr 1; simp; omega)) | exact VTos_dv _ _ | refine VTos.cons ?_ ?_ | exact VTos.nil | refine VTo.agg ?_ | refine VTo.tuple ?_ | refine VTo.func ?_ ?_ | exact VTo.fs | exact VTo.fp | exact VTo.nilptr | exact VTo.nilslice | exact VTo.nilfunc | exact VTo.ptr rfl | exact VTo.gl rfl | exact VTo.map rfl | exact VTo.yld rfl | exact VTo.fmMap rfl | exact VTo.fm | exact VTo.glNil' (by decide) rfl rfl | exact VTo.fsNil (by decide) | exact VTo.fsSl rfl rfl (by simp [flat_len encE_len]) | exact VTo.fpPtr rfl | exact VTo.fsGl rfl (by first | rfl | exact flat_len encI_len _ | exact flat_len encS_len _ | exact flat_len encP_len _ | exact flat_len encL_len _ | exact flat_len encE_len _ | (simp [flat_len encP_len]; done) | simp [flat_len encI_len, flat_len encS_len]))) ?_)) (by repeat' (first | exact FzAll.nil | refine FzAll.flat rfl ?_ | refine FzAll.row rfl rfl (RowTo.one rfl (by simp)) ?_)) trivial rfl) (by repeat' (first | exact VTo.undef | exact FrTo.leaf | refine FrTo.node ?_ ?_ ?_ | refine FrTo.none ?_ ?_ | exact VTo.sc (by first | rfl | (congr 1; omega) | (congr 1; simp; omega)) | exact VTos_dv _ _ | refine VTos.cons ?_ ?_ | exact VTos.nil | refine VTo.agg ?_ | refine VTo.tuple ?_ | refine VTo.func ?_ ?_ | exact VTo.fs | exact VTo.fp | exact VTo.nilptr | exact VTo.nilslice | exact VTo.nilfunc | exact VTo.ptr rfl | exact VTo.gl rfl | exact VTo.map rfl | exact VTo.yld rfl | exact VTo.fmMap rfl | exact VTo.fm | exact VTo.glNil' (by decide) rfl rfl | exact VTo.fsNil (by decide) | exact VTo.fsSl rfl rfl (by simp [flat_len encE_len]) | exact VTo.fpPtr rfl | exact VTo.fsGl rfl (by first | rfl | exact flat_len encI_len _ | exact flat_len encS_len _ | exact flat_len encP_len _ | exact flat_len encL_len _ | exact flat_len encE_len _ | (simp [flat_len encP_len]; done) | simp [flat_len encI_len, flat_len encS_len]))) (by first | rfl | (repeat' (first | exact MkTo.nil | refine MkTo.keep rfl ?_ | refine MkTo.drop (by decide) rfl ?_)))
      · conv => whnf
        repeat' (first | ((first | refine zs1 ?_ | refine zs2 ?_ | refine zs3 ?_ | refine zs4 ?_ | refine zs5 ?_); conv => whnf) | ((first | apply zi1 | apply zi2 | apply zi3 | apply zi4 | apply zi5) <;> intro _ <;> conv => whnf) | (refine VCall.intro (c6 _) ?_; conv => whnf) | (refine VCall.intro (c7 _) ?_; conv => whnf) | (refine VCall.intro (c8 _) ?_; conv => whnf) | (refine VCall.intro (c9 _) ?_; conv => whnf) | (refine VCall.intro (eqF f _ (by omega)) ?_; conv => whnf) | (refine VCall.intro (eqI t _ (by omega)) ?_; conv => whnf) | (refine VCall.intro (eqI l _ (by omega)) ?_; conv => whnf) | (refine VCall.intro (eqI x _ (by omega)) ?_; conv => whnf) | (refine VCall.intro (vc_awake _) ?_; conv => whnf))
        all_goals first | exact VOut.same rfl | (rename_i hx; exact absurd rfl hx))
theorem vc_SilenceShown (f : Fil) (t : List Int) (p : Int) (l x : List Int) (h : Hp) : VC Try.prog 9 [vF f, ints t, I p, ints l, ints x] h (B true) h := by
  by_cases hs : f.ps.length ≤ 20 ∧ t.length ≤ 20 ∧ l.length ≤ 20 ∧ x.length ≤ 20
  · obtain ⟨hn, ht, hl, hx⟩ := hs
    by_cases h0 : showE f t p = 0
    · obtain ⟨q, rfl, o⟩ := show_ok h0
      have h1 : toldE f t = 0 := by
        unfold showE at h0
        by_cases hc : toldE f t = 0
        · exact hc
        · rw [if_pos hc] at h0; exact absurd h0 hc
      obtain ⟨s1, s2⟩ := few_shows o
      have hfl := few_len o
      have hwl := win_len o
      have hlt := o.lt
      have c4 := fun h => vc_rShows_ok f t q (few f t q) h (by omega) (by omega) h0 o
      have c5 := fun h => vc_rProves_ok f t q (win f t q) h (by omega) (by omega) h0 o
      rw [s1, s2] at c4
      rw [win_proves o] at c5
      have c2 := fun h => vc_Many_ok f t q h (by omega) h0 o
      rw [many_eq o] at c2
      refine vc_ShownA f t l x q h _ _ _ _ 0 (ints (few f t q)) (ints (win f t q)) _ hn ht hl hx (fun h => vc_Fewest_ok f t q h (by omega) h1 o) c2 (fun h => vc_Windows_ok f t q h (by omega) h1 o)
        (fun h => vc_Shows_ok f t q l h (by omega) (by omega) h1 o) (fun h => vc_rShows_ok f t q l h (by omega) (by omega) h0 o) (fun h => vc_Proves_ok f t q x h (by omega) (by omega) h1 o) (fun h => vc_rProves_ok f t q x h (by omega) (by omega) h0 o)
        (.inr ⟨few f t q, win f t q, rfl, rfl, rfl, rfl, c4, fun h => ?_⟩)
      have := c5 h
      unfold pvR at this
      rw [if_pos rfl, hwl] at this
      have e : (((few f t q).length - 2 : Nat) : Int) + 2 = ((few f t q).length : Int) := by omega
      rw [e] at this
      exact this
    · exact vc_ShownA f t l x p h false _ 0 _ (showE f t p) .nilslice .nilslice 0 hn ht hl hx (fun h => vc_Fewest_no f t p h (by omega) (by omega) h0) (fun h => vc_Many_no f t p h (by omega) (by omega) h0) (fun h => vc_Windows_no f t p h (by omega) (by omega) h0)
        (fun h => vc_Shows_no f t p l h (by omega) (by omega) h0) (fun h => vc_rShows_no f t p l h (by omega) (by omega) h0) (fun h => vc_Proves_no f t p x h (by omega) (by omega) h0) (fun h => vc_rProves_no f t p x h (by omega) (by omega) h0)
        (.inl ⟨rfl, rfl, rfl, h0⟩)
  · refine VC.bodyC 2 Try.func9 rfl Try.ntmps9 Try.call9 (h.grows_refl) rfl ?_; conv => whnf
    repeat' (first | ((first | refine zs1 ?_ | refine zs2 ?_ | refine zs3 ?_ | refine zs4 ?_ | refine zs5 ?_); conv => whnf) | ((first | apply zi1 | apply zi2 | apply zi3 | apply zi4 | apply zi5) <;> intro _ <;> conv => whnf) | (refine VCall.intro (vc_awake _) ?_; conv => whnf))
    all_goals first | exact VOut.same rfl | (exfalso; omega)
end Go.Proofs.Ytolnajnlcdacmaa

open Go.Vm
namespace Go.Proofs.Ytolnajnlcdacmaa
set_option maxRecDepth 20000
set_option maxHeartbeats 4000000
theorem tmod_bd {a k : Int} (ha : 0 ≤ a) (hk : 0 < k) : 0 ≤ a.tmod k ∧ a.tmod k < k := by
  rw [Int.tmod_eq_emod_of_nonneg ha]
  exact ⟨Int.emod_nonneg _ (by omega), Int.emod_lt_of_pos _ hk⟩
end Go.Proofs.Ytolnajnlcdacmaa

open Go.Vm
namespace Go.Proofs.Ytolnajnlcdacmaa
set_option maxRecDepth 20000
set_option maxHeartbeats 4000000

theorem chkGo_of : ∀ {ps : List Pap} {last : Int}, ps.Pairwise (fun p q => p.hi < q.lo) → (∀ p ∈ ps, ¬ badPap p ∧ last < p.lo) → chkGo ps last = 0
  | [], _, _, _ => rfl
  | p :: ps, last, h, hb => by
    obtain ⟨h1, h2⟩ := List.pairwise_cons.1 h
    obtain ⟨b1, b2⟩ := hb p (by simp)
    rw [chkGo, if_neg b1, if_neg (by omega)]
    exact chkGo_of h2 fun q hq => ⟨(hb q (by simp [hq])).1, h1 q hq⟩
end Go.Proofs.Ytolnajnlcdacmaa

open Go.Vm
namespace Go.Proofs.Ytolnajnlcdacmaa
set_option maxRecDepth 20000
set_option maxHeartbeats 1000000

structure Nar (f g : Fil) : Prop where
  Y : g.Y = f.Y
  G : g.G = f.G
  len : g.ps.length = f.ps.length
  at_ : ∀ (i : Nat) p q, f.ps[i]? = some p → g.ps[i]? = some q → q.side = p.side ∧ p.lo ≤ q.lo ∧ q.lo ≤ q.hi ∧ q.hi ≤ p.hi
variable {f g : Fil} {t : List Int}
theorem Nar.chk (N : Nar f g) (h0 : chk f = 0) (hp : f.ps.Pairwise (fun p q => p.hi < q.lo)) : Proofs.Ytolnajnlcdacmaa.chk g = 0 := by
  obtain ⟨c1, c2, c3, c4⟩ := chk_zero h0
  have hat : ∀ (i : Nat) (q : Pap), g.ps[i]? = some q → ∃ p, f.ps[i]? = some p ∧ q.side = p.side ∧ p.lo ≤ q.lo ∧ q.lo ≤ q.hi ∧ q.hi ≤ p.hi := by
    intro i q hq
    have hi : i < f.ps.length := by rw [← N.len]; exact (List.getElem?_eq_some_iff.1 hq).1
    have hp : f.ps[i]? = some f.ps[i] := List.getElem?_eq_getElem hi
    exact ⟨_, hp, N.at_ i _ _ hp hq⟩
  unfold Proofs.Ytolnajnlcdacmaa.chk
  rw [if_neg (by rw [N.Y, N.G]; omega), if_neg (by rw [N.len]; omega)]
  refine chkGo_of ?_ ?_
  · rw [List.pairwise_iff_getElem] at hp ⊢
    intro i j hi hj hij
    obtain ⟨p, p1, p2⟩ := hat i _ (List.getElem?_eq_getElem hi)
    obtain ⟨q, q1, q2⟩ := hat j _ (List.getElem?_eq_getElem hj)
    have := hp i j (by rw [← N.len]; exact hi) (by rw [← N.len]; exact hj) hij
    obtain ⟨_, e1⟩ := List.getElem?_eq_some_iff.1 p1
    obtain ⟨_, e2⟩ := List.getElem?_eq_some_iff.1 q1
    rw [e1, e2] at this
    omega
  · intro q hq
    obtain ⟨i, hi⟩ := List.mem_iff_getElem?.1 hq
    obtain ⟨p, p1, p2⟩ := hat i q hi
    have := chk_pok h0 p (List.mem_of_getElem? p1)
    have b1 := this.side
    have b2 := this.lo
    have b3 := this.hi
    have b4 := this.le
    have b5 := this.near
    refine ⟨?_, by omega⟩
    unfold badPap
    omega
end Go.Proofs.Ytolnajnlcdacmaa

open Go.Vm
namespace Go.Vm
theorem VTo.slK {c : TCtx} {i j : Id} {o a b : Nat} {m : Option Nat} (h : j = c.ρ i) : VTo c (.slice j o a b m) (.slice i o a b m) := by simp only [VTo]; rw [h]
theorem zvS {p : Prop} (h : p := by repeat' (first | exact VTo.undef | exact FrTo.leaf | refine FrTo.node ?_ ?_ ?_ | refine FrTo.none ?_ ?_ | exact VTo.slK rfl | exact VTo.sc (by first | rfl | (congr 1; omega) | (congr 1; simp; omega)) | exact VTo.ptr rfl | exact VTo.gl rfl)) : p := h
theorem VTo.fsSlP {c : TCtx} {p o a b : Nat} {m : Option Nat} {ds cs : List D} (h : c.frz p ds) (hl : cs.length = b * a) (ho : o + b * a ≤ ds.length) (hc : cs = (ds.drop o).take (b * a)) : VTo c (.slice (.loc p) o a b m) (.fs a b cs) := by
  simp only [VTo, VToFs]
  exact ⟨trivial, trivial, hl, ds, h, ho, hc⟩
end Go.Vm
namespace Go.Proofs.Ytolnajnlcdacmaa
set_option maxRecDepth 20000
set_option maxHeartbeats 4000000
section
variable {outer : Vm.Id → Option Blk} {loc : List Blk} {A B C E : List D} {ps : List Pap} {t l x : List Int} {p q r s n1 n2 n3 n4 : Nat} {Y G a : Int}
theorem own6 (hA : loc[p]? = some (.flat true A)) (hB : loc[q]? = some (.flat true B)) (eA : A = ps.flatMap encP) (eB : B = t.flatMap encI) (l1 : ps.length = n1) (l2 : t.length = n2) (dpq : Nat.beq p q = false) :
    VC Try.prog 6 [.agg [I Y, I G, .gl (.loc p) 3 n1], .gl (.loc q) 1 n2] ⟨outer, loc⟩ (.s (.bool true)) ⟨outer, loc⟩ := by
  subst eA eB l1 l2
  have fp : assoc [(p, ps.flatMap encP), (q, t.flatMap encI)] p = some (ps.flatMap encP) := by simp [assoc]
  have fq : assoc [(p, ps.flatMap encP), (q, t.flatMap encI)] q = some (t.flatMap encI) := by simp [assoc, dpq]
  exact VC.lend1 [dF ⟨Y, G, ps⟩, dL t] [(p, ps.flatMap encP), (q, t.flatMap encI)] [] (FzAll.flat hA (FzAll.flat hB FzAll.nil)) trivial
    (VTos.cons (VTo.agg (VTos.cons (VTo.sc rfl) (VTos.cons (VTo.sc rfl) (VTos.cons (VTo.fsGl fp (flat_len encP_len _)) VTos.nil)))) (VTos.cons (VTo.fsGl fq (flat_len encI_len _)) VTos.nil)) (vc_SilenceRights ⟨Y, G, ps⟩ t Hp.bare)
theorem own3 (hA : loc[p]? = some (.flat true A)) (eA : A = ps.flatMap encP) (l1 : ps.length = n1) :
    VC Try.prog 3 [.agg [I Y, I G, .gl (.loc p) 3 n1], I a] ⟨outer, loc⟩ (.s (.bool true)) ⟨outer, loc⟩ := by
  subst eA l1
  have fp : assoc [(p, ps.flatMap encP)] p = some (ps.flatMap encP) := by simp [assoc]
  exact VC.lend1 [dF ⟨Y, G, ps⟩, DI a] [(p, ps.flatMap encP)] [] (FzAll.flat hA FzAll.nil) trivial
    (VTos.cons (VTo.agg (VTos.cons (VTo.sc rfl) (VTos.cons (VTo.sc rfl) (VTos.cons (VTo.fsGl fp (flat_len encP_len _)) VTos.nil)))) (VTos.cons (VTo.sc rfl) VTos.nil)) (vc_SilenceOwners ⟨Y, G, ps⟩ a Hp.bare)
theorem own9 (hA : loc[p]? = some (.flat true A)) (hB : loc[q]? = some (.flat true B)) (hC : loc[r]? = some (.flat true C)) (hE : loc[s]? = some (.flat true E)) (eA : A = ps.flatMap encP) (eB : B = t.flatMap encI) (eC : C = l.flatMap encI) (eE : E = x.flatMap encI) (l1 : ps.length = n1) (l2 : t.length = n2) (l3 : l.length = n3) (l4 : x.length = n4) (dpq : Nat.beq p q = false) (dpr : Nat.beq p r = false) (dps : Nat.beq p s = false) (dqr : Nat.beq q r = false) (dqs : Nat.beq q s = false) (drs : Nat.beq r s = false) :
    VC Try.prog 9 [.agg [I Y, I G, .gl (.loc p) 3 n1], .gl (.loc q) 1 n2, I a, .gl (.loc r) 1 n3, .gl (.loc s) 1 n4] ⟨outer, loc⟩ (.s (.bool true)) ⟨outer, loc⟩ := by
  subst eA eB eC eE l1 l2 l3 l4
  have fp : assoc [(p, ps.flatMap encP), (q, t.flatMap encI), (r, l.flatMap encI), (s, x.flatMap encI)] p = some (ps.flatMap encP) := by simp [assoc]
  have fq : assoc [(p, ps.flatMap encP), (q, t.flatMap encI), (r, l.flatMap encI), (s, x.flatMap encI)] q = some (t.flatMap encI) := by simp [assoc, dpq]
  have fr : assoc [(p, ps.flatMap encP), (q, t.flatMap encI), (r, l.flatMap encI), (s, x.flatMap encI)] r = some (l.flatMap encI) := by simp [assoc, dpr, dqr]
  have fs : assoc [(p, ps.flatMap encP), (q, t.flatMap encI), (r, l.flatMap encI), (s, x.flatMap encI)] s = some (x.flatMap encI) := by simp [assoc, dps, dqs, drs]
  exact VC.lend1 [dF ⟨Y, G, ps⟩, dL t, DI a, dL l, dL x] [(p, ps.flatMap encP), (q, t.flatMap encI), (r, l.flatMap encI), (s, x.flatMap encI)] [] (FzAll.flat hA (FzAll.flat hB (FzAll.flat hC (FzAll.flat hE FzAll.nil)))) trivial
    (VTos.cons (VTo.agg (VTos.cons (VTo.sc rfl) (VTos.cons (VTo.sc rfl) (VTos.cons (VTo.fsGl fp (flat_len encP_len _)) VTos.nil)))) (VTos.cons (VTo.fsGl fq (flat_len encI_len _)) (VTos.cons (VTo.sc rfl) (VTos.cons (VTo.fsGl fr (flat_len encI_len _)) (VTos.cons (VTo.fsGl fs (flat_len encI_len _)) VTos.nil))))) (vc_SilenceShown ⟨Y, G, ps⟩ t a l x Hp.bare)
theorem own9t (hA : loc[p]? = some (.flat true A)) (hB : loc[q]? = some (.flat true B)) (hC : loc[r]? = some (.flat true C)) (eA : A = ps.flatMap encP) (eB : B = t.flatMap encI) (eC : C = l.flatMap encI) (l1 : ps.length = n1) (l2 : t.length = n2) (l3 : l.length = n3) (dpq : Nat.beq p q = false) (dpr : Nat.beq p r = false) (dqr : Nat.beq q r = false) :
    VC Try.prog 9 [.agg [I Y, I G, .gl (.loc p) 3 n1], .gl (.loc q) 1 n2, I a, .gl (.loc r) 1 n3, .gl (.loc q) 1 n2] ⟨outer, loc⟩ (.s (.bool true)) ⟨outer, loc⟩ := by
  subst eA eB eC l1 l2 l3
  have fp : assoc [(p, ps.flatMap encP), (q, t.flatMap encI), (r, l.flatMap encI)] p = some (ps.flatMap encP) := by simp [assoc]
  have fq : assoc [(p, ps.flatMap encP), (q, t.flatMap encI), (r, l.flatMap encI)] q = some (t.flatMap encI) := by simp [assoc, dpq]
  have fr : assoc [(p, ps.flatMap encP), (q, t.flatMap encI), (r, l.flatMap encI)] r = some (l.flatMap encI) := by simp [assoc, dpr, dqr]
  exact VC.lend1 [dF ⟨Y, G, ps⟩, dL t, DI a, dL l, dL t] [(p, ps.flatMap encP), (q, t.flatMap encI), (r, l.flatMap encI)] [] (FzAll.flat hA (FzAll.flat hB (FzAll.flat hC FzAll.nil))) trivial
    (VTos.cons (VTo.agg (VTos.cons (VTo.sc rfl) (VTos.cons (VTo.sc rfl) (VTos.cons (VTo.fsGl fp (flat_len encP_len _)) VTos.nil)))) (VTos.cons (VTo.fsGl fq (flat_len encI_len _)) (VTos.cons (VTo.sc rfl) (VTos.cons (VTo.fsGl fr (flat_len encI_len _)) (VTos.cons (VTo.fsGl fq (flat_len encI_len _)) VTos.nil))))) (vc_SilenceShown ⟨Y, G, ps⟩ t a l t Hp.bare)
theorem own9s (hA : loc[p]? = some (.flat true A)) (hB : loc[q]? = some (.flat true B)) (hC : loc[r]? = some (.flat true C)) (hE : loc[s]? = some (.flat true E)) (eA : A = ps.flatMap encP) (eB : B = t.flatMap encI) (eC : C = l.flatMap encI) (eE : (E.drop 0).take (n4 * 1) = x.flatMap encI) (hn : 0 + n4 * 1 ≤ E.length) (l1 : ps.length = n1) (l2 : t.length = n2) (l3 : l.length = n3) (l4 : x.length = n4) (dpq : Nat.beq p q = false) (dpr : Nat.beq p r = false) (dps : Nat.beq p s = false) (dqr : Nat.beq q r = false) (dqs : Nat.beq q s = false) (drs : Nat.beq r s = false) :
    VC Try.prog 9 [.agg [I Y, I G, .gl (.loc p) 3 n1], .gl (.loc q) 1 n2, I a, .gl (.loc r) 1 n3, .slice (.loc s) 0 1 n4 none] ⟨outer, loc⟩ (.s (.bool true)) ⟨outer, loc⟩ := by
  subst eA eB eC l1 l2 l3 l4
  have fp : assoc [(p, ps.flatMap encP), (q, t.flatMap encI), (r, l.flatMap encI), (s, E)] p = some (ps.flatMap encP) := by simp [assoc]
  have fq : assoc [(p, ps.flatMap encP), (q, t.flatMap encI), (r, l.flatMap encI), (s, E)] q = some (t.flatMap encI) := by simp [assoc, dpq]
  have fr : assoc [(p, ps.flatMap encP), (q, t.flatMap encI), (r, l.flatMap encI), (s, E)] r = some (l.flatMap encI) := by simp [assoc, dpr, dqr]
  have fs : assoc [(p, ps.flatMap encP), (q, t.flatMap encI), (r, l.flatMap encI), (s, E)] s = some E := by simp [assoc, dps, dqs, drs]
  exact VC.lend1 [dF ⟨Y, G, ps⟩, dL t, DI a, dL l, dL x] [(p, ps.flatMap encP), (q, t.flatMap encI), (r, l.flatMap encI), (s, E)] [] (FzAll.flat hA (FzAll.flat hB (FzAll.flat hC (FzAll.flat hE FzAll.nil)))) trivial
    (VTos.cons (VTo.agg (VTos.cons (VTo.sc rfl) (VTos.cons (VTo.sc rfl) (VTos.cons (VTo.fsGl fp (flat_len encP_len _)) VTos.nil)))) (VTos.cons (VTo.fsGl fq (flat_len encI_len _)) (VTos.cons (VTo.sc rfl) (VTos.cons (VTo.fsGl fr (flat_len encI_len _)) (VTos.cons (VTo.fsSlP fs (flat_len encI_len _) hn eE.symm) VTos.nil))))) (vc_SilenceShown ⟨Y, G, ps⟩ t a l x Hp.bare)
theorem non6 : VC Try.prog 6 [.agg [I 0, I 0, .nilslice], .nilslice] ⟨outer, loc⟩ (.s (.bool true)) ⟨outer, loc⟩ :=
  VC.lend1 [dF ⟨0, 0, []⟩, dL []] [] [] trivial trivial zv (vc_SilenceRights ⟨0, 0, []⟩ [] Hp.bare)
theorem non3 : VC Try.prog 3 [.agg [I 1, I 1, .nilslice], I 2] ⟨outer, loc⟩ (.s (.bool true)) ⟨outer, loc⟩ :=
  VC.lend1 [dF ⟨1, 1, []⟩, DI 2] [] [] trivial trivial zv (vc_SilenceOwners ⟨1, 1, []⟩ 2 Hp.bare)
theorem non9 : VC Try.prog 9 [.agg [I 1, I 1, .nilslice], .nilslice, I 0, .nilslice, .nilslice] ⟨outer, loc⟩ (.s (.bool true)) ⟨outer, loc⟩ :=
  VC.lend1 [dF ⟨1, 1, []⟩, dL [], DI 0, dL [], dL []] [] [] trivial trivial zv (vc_SilenceShown ⟨1, 1, []⟩ [] 0 [] [] Hp.bare)
theorem own34 {e : Int} (hA : loc[p]? = some (.flat true A)) (eA : A = ps.flatMap encP) (l1 : ps.length = n1) (h1 : ps.length ≤ 4000000) (he : chk ⟨Y, G, ps⟩ = e) :
    VC Try.prog 34 [.agg [I Y, I G, .gl (.loc p) 3 n1]] ⟨outer, loc⟩ (.s (.int .i64 e)) ⟨outer, loc⟩ := by
  subst eA l1 he
  have fp : assoc [(p, ps.flatMap encP)] p = some (ps.flatMap encP) := by simp [assoc]
  exact VC.lend1 [dF ⟨Y, G, ps⟩] [(p, ps.flatMap encP)] [] (FzAll.flat hA FzAll.nil) trivial
    (VTos.cons (VTo.agg (VTos.cons (VTo.sc rfl) (VTos.cons (VTo.sc rfl) (VTos.cons (VTo.fsGl fp (flat_len encP_len _)) VTos.nil)))) VTos.nil) (vc_check ⟨Y, G, ps⟩ Hp.bare h1)
end
theorem vc_cloneSl (ds : List D) (l2 : List Int) (rw : Bool) (i : Vm.Id) (m : Nat) (lim : Option Nat) (h : Hp) (hb : h.get i = some (.flat rw ds)) (h2 : 0 + m * 1 ≤ ds.length) (hl : (ds.drop 0).take (m * 1) = l2.flatMap encI) (hm2 : m = l2.length) (h63 : l2.length ≤ 4000000) :
    VC Try.prog 33 [.slice i 0 1 m lim] h (.gl h.fresh 1 m) (h.push (.flat true (l2.flatMap encI))) := by
  refine VC.body Try.func33 rfl Try.ntmps33 Try.call33 (h.grows_push _) rfl ?_
  conv => whnf
  repeat (first | ((first | refine zs1 ?_ | refine zs2 ?_ | refine zs3 ?_ | refine zs4 ?_ | refine zs5 ?_ | refine zs6 [] ?_); conv => whnf))
  refine VMem.appNilSl (esz := 1) l2 encI_len rfl (get_out hb _) h2 hl hm2 rfl (by omega) ?_
  conv => whnf
  repeat (first | ((first | refine zs1 ?_ | refine zs2 ?_ | refine zs3 ?_ | refine zs4 ?_ | refine zs5 ?_ | refine zs6 [] ?_); conv => whnf))
  exact VOut.own1 0 1 rfl rfl
/-! Told from their cells. -/
def iOf : D → Int
  | .s (.int _ n) => n
  | _ => 0
def unI (l : List D) : List Int := l.map iOf
def unP : List D → List Pap
  | a :: b :: c :: r => ⟨iOf a, iOf b, iOf c⟩ :: unP r
  | _ => []
section
variable {outer : Vm.Id → Option Blk} {loc : List Blk} {A B C E : List D} {p q r s n1 n2 n3 n4 : Nat} {Y G a : Int}
theorem own6u (hA : loc[p]? = some (.flat true A)) (hB : loc[q]? = some (.flat true B)) (eA : A = (unP A).flatMap encP) (eB : B = (unI B).flatMap encI) (l1 : (unP A).length = n1) (l2 : (unI B).length = n2) (dpq : Nat.beq p q = false) :
    VC Try.prog 6 [.agg [I Y, I G, .gl (.loc p) 3 n1], .gl (.loc q) 1 n2] ⟨outer, loc⟩ (.s (.bool true)) ⟨outer, loc⟩ := own6 hA hB eA eB l1 l2 dpq
theorem own3u (hA : loc[p]? = some (.flat true A)) (eA : A = (unP A).flatMap encP) (l1 : (unP A).length = n1) :
    VC Try.prog 3 [.agg [I Y, I G, .gl (.loc p) 3 n1], I a] ⟨outer, loc⟩ (.s (.bool true)) ⟨outer, loc⟩ := own3 hA eA l1
theorem own9u (hA : loc[p]? = some (.flat true A)) (hB : loc[q]? = some (.flat true B)) (hC : loc[r]? = some (.flat true C)) (hE : loc[s]? = some (.flat true E)) (eA : A = (unP A).flatMap encP) (eB : B = (unI B).flatMap encI) (eC : C = (unI C).flatMap encI) (eE : E = (unI E).flatMap encI) (l1 : (unP A).length = n1) (l2 : (unI B).length = n2) (l3 : (unI C).length = n3) (l4 : (unI E).length = n4) (dpq : Nat.beq p q = false) (dpr : Nat.beq p r = false) (dps : Nat.beq p s = false) (dqr : Nat.beq q r = false) (dqs : Nat.beq q s = false) (drs : Nat.beq r s = false) :
    VC Try.prog 9 [.agg [I Y, I G, .gl (.loc p) 3 n1], .gl (.loc q) 1 n2, I a, .gl (.loc r) 1 n3, .gl (.loc s) 1 n4] ⟨outer, loc⟩ (.s (.bool true)) ⟨outer, loc⟩ := own9 hA hB hC hE eA eB eC eE l1 l2 l3 l4 dpq dpr dps dqr dqs drs
end
end Go.Proofs.Ytolnajnlcdacmaa

open Go.Vm
namespace Go.Proofs.Ytolnajnlcdacmaa
set_option maxRecDepth 100000
set_option maxHeartbeats 16000000

def smV : List Int := [-2, -1, 0, 1, 2, 3, 4, 5, 14, 15, 16, 30, 45, 46, 60, 61, 199, 200, 201, 500, 501, 1700, 1727, 1728, 1730, 1731, 1732, 1745, 2999, 3000, 3001, 9223372036854775807, -9223372036854775808]
theorem tdiv_bd {a k : Int} (ha : 0 ≤ a) (hk : 0 < k) : 0 ≤ a.tdiv k ∧ a.tdiv k ≤ a := by
  rw [Int.tdiv_eq_ediv_of_nonneg ha]
  exact ⟨Int.ediv_nonneg ha (by omega), Int.ediv_le_self _ ha⟩
theorem wtd {a k : Int} {A : Int} (ha : 0 ≤ a) (hA : a ≤ A) (h : A ≤ 1000000) (hk : 0 < k) : ∃ K, IntKind.i64.wrap (a.tdiv k) = K ∧ 0 ≤ K ∧ K ≤ A := by
  have := tdiv_bd ha hk
  exact ⟨_, rfl, by rw [wrap_i64 (by omega)]; omega, by rw [wrap_i64 (by omega)]; omega⟩
theorem wtm {a k : Int} (ha : 0 ≤ a) (hk : 0 < k) : ∃ K, a.tmod k = K ∧ 0 ≤ K ∧ K < k := ⟨_, rfl, tmod_bd ha hk⟩
def pC (i : Nat) : Pap := ⟨0, 9 * (i : Int), 9 * (i : Int) + (i : Int).tmod 2⟩
def psC (n : Nat) : List Pap := (List.range n).map pC
def tC (n : Nat) : List Int := (List.range n).map fun i : Nat => 9 * (i : Int)
def lC (n : Nat) : List Int := (List.range n).map fun i : Nat => (i : Int)
theorem psC_len (n : Nat) : (psC n).length = n := by simp [psC]
theorem tC_len (n : Nat) : (tC n).length = n := by simp [tC]
theorem lC_len (n : Nat) : (lC n).length = n := by simp [lC]
theorem psC_succ (n : Nat) : psC (n + 1) = psC n ++ [pC n] := by simp [psC, List.range_succ]
theorem tC_succ (n : Nat) : tC (n + 1) = tC n ++ [9 * (n : Int)] := by simp [tC, List.range_succ]
theorem lC_succ (n : Nat) : lC (n + 1) = lC n ++ [(n : Int)] := by simp [lC, List.range_succ]
theorem chkC : ∀ n, n < 19 → (chk ⟨100, 13, psC n⟩ = 0 ↔ n < 17) := by decide +kernel
theorem vc_SilenceSmall (h : Hp) : VC Try.prog 11 [] h (B true) h := by
  refine VC.bodyC 2 Try.func11 rfl Try.ntmps11 Try.call11 (h.grows_refl) rfl ?_; conv => whnf
  repeat' (first | ((first | refine zs1 ?_ | refine zs2 ?_ | refine zs3 ?_ | refine zs4 ?_ | refine zs5 ?_ | refine zs6 [] ?_); conv => whnf) | ((first | apply zi1 | apply zi2 | apply zi3 | apply zi4 | apply zi5) <;> intro _ <;> conv => whnf))
  refine VCode.lp (fun k : Nat => [(25, ints smV), (26, I 33), (27, I k)]) (fun _ => []) (fun k => k ≤ 33) (fun k => 33 - k) 0 (Nat.zero_le _) ?_ ?_
  · conv => whnf
    refine Retell.turn ⟨[], 1, [(0, smV.flatMap encI)], []⟩ (TurnOk.mk' _ _ [(0, smV.flatMap encI)] [] (OutOk.lift _) rfl (by decide) zb zf trivial rfl) zv zm
  · intro k hk
    conv => whnf
    refine VIte.dec (fun h3 => ?_) (fun h3 => ?_)
    · have hkl : k < smV.length := by show k < 33; omega
      have hv : smV[k]? = some smV[k] := List.getElem?_eq_getElem hkl
      generalize smV[k] = v at hv
      conv => whnf
      repeat' (first | ((first | refine zs1 ?_ | refine zs2 ?_ | refine zs3 ?_ | refine zs4 ?_ | refine zs5 ?_ | refine zs6 [] ?_); conv => whnf) | ((first | apply zi1 | apply zi2 | apply zi3 | apply zi4 | apply zi5) <;> intro _ <;> conv => whnf) | (refine VAny.ix encI_len k rfl rfl hv ?_; conv => whnf))
      refine VCode.lp (fun i : Nat => [(2, I v), (25, ints smV), (26, I 33), (27, I k), (31, I i)]) (fun _ => []) (fun i => i ≤ 20) (fun i => 20 - i) 0 (Nat.zero_le _) ?_ ?_
      · conv => whnf
        refine Retell.turn ⟨[], 0, [], []⟩ (TurnOk.mk' _ _ [] [] (OutOk.lift _) rfl (by decide) zb trivial trivial rfl) zv zm
      · intro i hi
        conv => whnf
        refine VIte.dec (fun h4 => ?_) (fun h4 => ?_)
        · obtain ⟨j, hj⟩ : ∃ j, j = i + 1 := ⟨_, rfl⟩
          conv => whnf
          repeat' (first | ((first | refine zs1 ?_ | refine zs2 ?_ | refine zs3 ?_ | refine zs4 ?_ | refine zs5 ?_); conv => whnf) | ((first | apply zi1 | apply zi2 | apply zi3 | apply zi4 | apply zi5) <;> intro _ <;> conv => whnf))
          refine VCall.intro (VC.give (args' := [I 50, I 15, ints yl]) (loc' := [.dead]) [(0, yl.flatMap encI)] [] (OutOk.lift _) zb zf (by exact FmAll.nil) rfl zv (vc_DatedO 50 15 yl _ (by decide) (by decide))) ?_
          rw [show (yl.map datP).flatMap encP = [DI 0, DI 1700, DI 1700, DI 0, DI 1715, DI 1715, DI 0, DI 1730, DI 1730, DI 0, DI 1745, DI 1745, DI 0, DI 1760, DI 1760] from rfl]
          conv => whnf
          repeat' (first | ((first | refine zs1 ?_ | refine zs2 ?_ | refine zs3 ?_ | refine zs4 ?_ | refine zs5 ?_); conv => whnf) | ((first | apply zi1 | apply zi2 | apply zi3 | apply zi4 | apply zi5) <;> intro _ <;> conv => whnf))
          all_goals (
            rename_i h5
            refine VDraw.cut 44 (by kernel_rfl) (by kernel_rfl) ?_
            conv => whnf
            repeat' (first | ((first | refine zs1 ?_ | refine zs2 ?_ | refine zs3 ?_ | refine zs4 ?_ | refine zs5 ?_); conv => whnf) | ((first | apply zi1 | apply zi2 | apply zi3 | apply zi4 | apply zi5) <;> intro _ <;> conv => whnf))
            refine Later.alloc (.sl 1 20) [.ptr (.loc 5) 0, .ptr (.loc 5) 0, .ptr (.loc 5) 1, .ptr (.loc 5) 1, .ptr (.loc 1) 0, .ptr (.loc 1) 12, .ptr (.loc 1) 1, .ptr (.loc 1) 7, .ptr (.loc 1) 8, .ptr (.loc 1) 14, .ptr (.loc 2) 0, .ptr (.loc 2) 2, .ptr (.loc 6) 0, .ptr (.loc 6) 0, .ptr (.loc 3) 0, .ptr (.loc 3) 2, .ptr (.loc 4) 0, .ptr (.loc 4) 2, .ptr (.loc 7) 0, .ptr (.loc 7) 0] rfl rfl (by kernel_rfl) rfl ?_
            conv => whnf
            repeat' (first | ((first | refine zs1 ?_ | refine zs2 ?_ | refine zs3 ?_ | refine zs4 ?_ | refine zs5 ?_); conv => whnf) | ((first | apply zi1 | apply zi2 | apply zi3 | apply zi4 | apply zi5) <;> intro _ <;> conv => whnf))
            have h20 : i = 0 ∨ i = 1 ∨ i = 2 ∨ i = 3 ∨ i = 4 ∨ i = 5 ∨ i = 6 ∨ i = 7 ∨ i = 8 ∨ i = 9 ∨ i = 10 ∨ i = 11 ∨ i = 12 ∨ i = 13 ∨ i = 14 ∨ i = 15 ∨ i = 16 ∨ i = 17 ∨ i = 18 ∨ i = 19 := by omega
            rcases h20 with rfl | rfl | rfl | rfl | rfl | rfl | rfl | rfl | rfl | rfl | rfl | rfl | rfl | rfl | rfl | rfl | rfl | rfl | rfl | rfl)
          all_goals try (exact absurd h5 (by decide))
          all_goals try (exact absurd (by decide) h5)
          all_goals (
            repeat' (first | ((first | refine zs1 ?_ | refine zs2 ?_ | refine zs3 ?_ | refine zs4 ?_ | refine zs5 ?_); conv => whnf) | ((first | apply zi1 | apply zi2 | apply zi3 | apply zi4 | apply zi5) <;> intro _ <;> conv => whnf) | (refine VCall.intro (own6u rfl rfl rfl rfl rfl rfl rfl) ?_; conv => whnf) | (refine VCall.intro (own3u rfl rfl rfl) ?_; conv => whnf) | (refine VCall.intro (own9u rfl rfl rfl rfl rfl rfl rfl rfl rfl rfl rfl rfl rfl rfl rfl rfl rfl rfl) ?_; conv => whnf))
            refine LEnd.intro j (by omega) (by omega) ?_
            conv => whnf
            refine Retell.turn ⟨[], 9, [], []⟩ (TurnOk.mk' _ _ [] [] (OutOk.lift _) rfl (by decide) zb trivial trivial rfl) zv zm)
        · conv => whnf
          repeat' (first | ((first | refine zs1 ?_ | refine zs2 ?_ | refine zs3 ?_ | refine zs4 ?_ | refine zs5 ?_ | refine zs6 [] ?_); conv => whnf) | ((first | apply zi1 | apply zi2 | apply zi3 | apply zi4 | apply zi5) <;> intro _ <;> conv => whnf))
          refine LEnd.intro (k + 1) (by omega) (by omega) ?_
          conv => whnf
          refine Retell.turn ⟨[], 0, [], []⟩ (TurnOk.mk' _ _ [] [] (OutOk.lift _) rfl (by decide) zb trivial trivial rfl) zv zm
    · conv => whnf
      repeat (first | ((first | refine zs1 ?_ | refine zs2 ?_ | refine zs3 ?_ | refine zs4 ?_ | refine zs5 ?_ | refine zs6 [] ?_); conv => whnf))
      refine VCut.at' 1 [] [] ?_ ?_
      · conv => whnf
        refine Retell.turn ⟨[], 0, [], []⟩ (TurnOk.mk' _ _ [] [] (OutOk.lift _) rfl (by decide) zb trivial trivial rfl) zv zm
      · conv => whnf
        repeat' (first | ((first | refine zs1 ?_ | refine zs2 ?_ | refine zs3 ?_ | refine zs4 ?_ | refine zs5 ?_ | refine zs6 [] ?_); conv => whnf) | ((first | apply zi1 | apply zi2 | apply zi3 | apply zi4 | apply zi5) <;> intro _ <;> conv => whnf))
        refine VCode.lp (fun n : Nat => [(135, I n)]) (fun _ => []) (fun n => n ≤ 3000) (fun n => 3000 - n) 0 (Nat.zero_le _) ?_ ?_
        · conv => whnf
          refine Retell.turn ⟨[], 0, [], []⟩ (TurnOk.mk' _ _ [] [] (OutOk.lift _) rfl (by decide) zb trivial trivial rfl) zv zm
        · intro n hn
          conv => whnf
          refine VIte.dec (fun h4 => ?_) (fun h4 => ?_)
          · have hn0 : (0 : Int) ≤ n := by omega
            have hn1 : (n : Int) ≤ 3000 := by omega
            obtain ⟨a7, ha7, ba7⟩ := wtm (a := (n : Int)) (k := 7) hn0 (by omega)
            obtain ⟨q7, hq7, bq7⟩ := wtd (a := (n : Int)) (k := 7) hn0 hn1 (by omega) (by omega)
            obtain ⟨g4, hg4, bg4⟩ := wtm (a := q7) (k := 4) bq7.1 (by omega)
            obtain ⟨y3, hy3, by3⟩ := wtm (a := (n : Int)) (k := 3) hn0 (by omega)
            obtain ⟨M, hM, bM⟩ : ∃ M : Nat, (n : Int).tmod 6 = (M : Int) ∧ M ≤ 5 := by
              have := tmod_bd (a := (n : Int)) (k := 6) hn0 (by omega)
              exact ⟨((n : Int).tmod 6).toNat, by omega, by omega⟩
            obtain ⟨p2, hp2, bp2⟩ := wtm (a := (n : Int)) (k := 2) hn0 (by omega)
            conv => whnf
            repeat' (first | ((first | refine zs1 ?_ | refine zs2 ?_ | refine zs3 ?_ | refine zs4 ?_ | refine zs5 ?_); conv => whnf) | ((first | apply zi1 | apply zi2 | apply zi3 | apply zi4 | apply zi5) <;> intro _ <;> conv => whnf))
            simp only [ha7, hq7, hg4, hy3, hM, hp2]
            repeat' (first | ((first | refine zs1 ?_ | refine zs2 ?_ | refine zs3 ?_ | refine zs4 ?_ | refine zs5 ?_); conv => whnf) | ((first | apply zi1 | apply zi2 | apply zi3 | apply zi4 | apply zi5) <;> intro _ <;> conv => whnf))
            simp only [ha7, hq7, hg4, hy3, hM, hp2]
            repeat' (first | ((first | refine zs1 ?_ | refine zs2 ?_ | refine zs3 ?_ | refine zs4 ?_ | refine zs5 ?_); conv => whnf) | ((first | apply zi1 | apply zi2 | apply zi3 | apply zi4 | apply zi5) <;> intro _ <;> conv => whnf))
            obtain ⟨Y, hY⟩ : ∃ Y, Y = 1 + a7 := ⟨_, rfl⟩
            obtain ⟨G, hG⟩ : ∃ G, G = 1 + g4 := ⟨_, rfl⟩
            rw [← hY, ← hG]
            refine VCode.lp (fun y : Nat × (Int × List Pap × List Int) => [(11, I n), (12, .ptr (.loc 0) 0), (13, .gl (.loc 2) 1 y.1), (14, I y.2.1), (135, I n), (149, I M), (150, I y.1)]) (fun y => [.cells true [I Y, I G, .gl (.loc 1) 3 y.1], .flat true (y.2.2.1.flatMap encP), .flat true (y.2.2.2.flatMap encI)]) (fun y => y.1 ≤ M ∧ (0 ≤ y.2.1 ∧ y.2.1 ≤ 10 + 10 * y.1) ∧ y.2.2.1.length = y.1 ∧ y.2.2.2.length = y.1) (fun y => M - y.1) (0, (y3, [], [])) ⟨Nat.zero_le _, by dsimp only; omega, rfl, rfl⟩ ?_ ?_
            · conv => whnf
              refine Retell.turn ⟨[0,1,2], 1, [], []⟩ (TurnOk.mk' _ _ [] [] (OutOk.lift _) rfl (by decide) zb trivial trivial rfl) zv zm
            · rintro ⟨i, yr, ps, tr⟩ ⟨hi, hyr, hp, ht⟩
              dsimp only at hi hyr hp ht
              conv => whnf
              refine VIte.dec (fun h5 => ?_) (fun h5 => ?_)
              · dsimp only at h5 ⊢
                have z1 : (((i : Int) + 2) != 0) = true := by rw [bne_iff_ne]; omega
                obtain ⟨K1, hK1, bK1⟩ := wtd (a := (n : Int)) (k := (i : Int) + 2) hn0 hn1 (by omega) (by omega)
                obtain ⟨A7, hA7, bA7⟩ := wtm (a := K1 + 5 * (i : Int)) (k := 7) (by omega) (by omega)
                obtain ⟨S, hS, bS⟩ := wtd (a := A7) (k := 5) (A := 6) bA7.1 (by omega) (by omega) (by omega)
                obtain ⟨R3, hR3, bR3⟩ := wtm (a := K1 + 5 * (i : Int)) (k := 3) (by omega) (by omega)
                obtain ⟨D3, hD3, bD3⟩ := wtd (a := K1 + 5 * (i : Int)) (k := 3) (A := 4000) (by omega) (by omega) (by omega) (by omega)
                obtain ⟨Q3, hQ3, bQ3⟩ := wtm (a := D3) (k := 3) bD3.1 (by omega)
                have hm : 0 ≤ R3 * p2 ∧ R3 * p2 ≤ 2 := by
                  have : p2 = 0 ∨ p2 = 1 := by omega
                  rcases this with h | h <;> rw [h] <;> omega
                conv => whnf
                repeat' (first | ((first | refine zs1 ?_ | refine zs2 ?_ | refine zs3 ?_ | refine zs4 ?_ | refine zs5 ?_); conv => whnf) | ((first | apply zi1 | apply zi2 | apply zi3 | apply zi4 | apply zi5) <;> intro _ <;> conv => whnf))
                simp only [hK1, hA7, hS, hR3, hD3, hQ3, hp2]
                repeat' (first | ((first | refine zs1 ?_ | refine zs2 ?_ | refine zs3 ?_ | refine zs4 ?_ | refine zs5 ?_); conv => whnf) | ((first | apply zi1 | apply zi2 | apply zi3 | apply zi4 | apply zi5) <;> intro _ <;> conv => whnf))
                simp only [hK1, hA7, hS, hR3, hD3, hQ3, hp2]
                repeat' (first | ((first | refine zs1 ?_ | refine zs2 ?_ | refine zs3 ?_ | refine zs4 ?_ | refine zs5 ?_); conv => whnf) | ((first | apply zi1 | apply zi2 | apply zi3 | apply zi4 | apply zi5) <;> intro _ <;> conv => whnf))
                refine VMem.app1 (l := ps) ⟨S, yr, yr + R3⟩ encP_len rfl rfl rfl hp.symm rfl (by omega) ?_
                conv => whnf
                repeat' (first | ((first | refine zs1 ?_ | refine zs2 ?_ | refine zs3 ?_ | refine zs4 ?_ | refine zs5 ?_); conv => whnf) | ((first | apply zi1 | apply zi2 | apply zi3 | apply zi4 | apply zi5) <;> intro _ <;> conv => whnf))
                simp only [hK1, hA7, hS, hR3, hD3, hQ3, hp2]
                repeat' (first | ((first | refine zs1 ?_ | refine zs2 ?_ | refine zs3 ?_ | refine zs4 ?_ | refine zs5 ?_); conv => whnf) | ((first | apply zi1 | apply zi2 | apply zi3 | apply zi4 | apply zi5) <;> intro _ <;> conv => whnf))
                refine VMem.app1 (l := tr) (yr + R3 * p2) encI_len rfl rfl rfl ht.symm rfl (by omega) ?_
                conv => whnf
                repeat' (first | ((first | refine zs1 ?_ | refine zs2 ?_ | refine zs3 ?_ | refine zs4 ?_ | refine zs5 ?_); conv => whnf) | ((first | apply zi1 | apply zi2 | apply zi3 | apply zi4 | apply zi5) <;> intro _ <;> conv => whnf))
                simp only [hK1, hA7, hS, hR3, hD3, hQ3, hp2]
                repeat' (first | ((first | refine zs1 ?_ | refine zs2 ?_ | refine zs3 ?_ | refine zs4 ?_ | refine zs5 ?_); conv => whnf) | ((first | apply zi1 | apply zi2 | apply zi3 | apply zi4 | apply zi5) <;> intro _ <;> conv => whnf))
                refine LEnd.intro (i + 1, yr + (R3 + 1 + Q3), ps ++ [⟨S, yr, yr + R3⟩], tr ++ [yr + R3 * p2]) ⟨by dsimp only; omega, by dsimp only; omega, by dsimp only; rw [List.length_append, hp]; rfl, by dsimp only; rw [List.length_append, ht]; rfl⟩ (by dsimp only; omega) ?_
                conv => whnf
                refine Retell.turn ⟨[0,4,6], 7, [], []⟩ (TurnOk.mk' _ _ [] [] (OutOk.lift _) rfl (by decide) zb trivial trivial rfl) zv zm
              · have hiM : i = M := by dsimp only at h5; omega
                subst hiM
                obtain ⟨m4, hm4, bm4⟩ : ∃ m : Nat, (n : Int).tmod 4 = (m : Int) ∧ m ≤ 3 := by
                  have := tmod_bd (a := (n : Int)) (k := 4) hn0 (by omega)
                  exact ⟨((n : Int).tmod 4).toNat, by omega, by omega⟩
                obtain ⟨d2, hd2, bd2⟩ := wtd (a := (n : Int)) (k := 2) hn0 hn1 (by omega) (by omega)
                obtain ⟨e2, he2, be2⟩ := wtm (a := d2) (k := 2) bd2.1 (by omega)
                obtain ⟨d4, hd4, bd4⟩ := wtd (a := (n : Int)) (k := 4) hn0 hn1 (by omega) (by omega)
                obtain ⟨e4, he4, be4⟩ := wtm (a := d4) (k := 2) bd4.1 (by omega)
                obtain ⟨r5, hr5, br5⟩ := wtm (a := (n : Int)) (k := 5) hn0 (by omega)
                obtain ⟨d5, hd5, bd5⟩ := wtd (a := (n : Int)) (k := 5) hn0 hn1 (by omega) (by omega)
                obtain ⟨e5, he5, be5⟩ := wtm (a := d5) (k := 5) bd5.1 (by omega)
                obtain ⟨d3, hd3, bd3⟩ := wtd (a := (n : Int)) (k := 3) hn0 hn1 (by omega) (by omega)
                obtain ⟨e3, he3, be3⟩ := wtm (a := d3) (k := 3) bd3.1 (by omega)
                obtain ⟨q4, hq4, bq4⟩ : ∃ m : Nat, d4.tmod 4 = (m : Int) ∧ m ≤ 3 := by
                  have := tmod_bd (a := d4) (k := 4) bd4.1 (by omega)
                  exact ⟨(d4.tmod 4).toNat, by omega, by omega⟩
                dsimp only
                conv => whnf
                repeat' (first | ((first | refine zs1 ?_ | refine zs2 ?_ | refine zs3 ?_ | refine zs4 ?_ | refine zs5 ?_); conv => whnf) | ((first | apply zi1 | apply zi2 | apply zi3 | apply zi4 | apply zi5) <;> intro _ <;> conv => whnf))
                simp only [hd2, he2, hd4, he4, hr5, hd5, he5, hd3, he3, hm4, hq4, hp2]
                repeat' (first | ((first | refine zs1 ?_ | refine zs2 ?_ | refine zs3 ?_ | refine zs4 ?_ | refine zs5 ?_); conv => whnf) | ((first | apply zi1 | apply zi2 | apply zi3 | apply zi4 | apply zi5) <;> intro _ <;> conv => whnf))
                simp only [hd2, he2, hd4, he4, hr5, hd5, he5, hd3, he3, hm4, hq4, hp2]
                repeat' (first | ((first | refine zs1 ?_ | refine zs2 ?_ | refine zs3 ?_ | refine zs4 ?_ | refine zs5 ?_); conv => whnf) | ((first | apply zi1 | apply zi2 | apply zi3 | apply zi4 | apply zi5) <;> intro _ <;> conv => whnf))
                refine VAny.intro (v := .slice (.loc 3) 0 1 m4 none) ⟨by omega, m4, by omega, .inr ⟨by decide, rfl⟩⟩ ?_
                conv => whnf
                repeat' (first | ((first | refine zs1 ?_ | refine zs2 ?_ | refine zs3 ?_ | refine zs4 ?_ | refine zs5 ?_); conv => whnf) | ((first | apply zi1 | apply zi2 | apply zi3 | apply zi4 | apply zi5) <;> intro _ <;> conv => whnf))
                simp only [hd2, he2, hd4, he4, hr5, hd5, he5, hd3, he3, hm4, hq4, hp2]
                repeat' (first | ((first | refine zs1 ?_ | refine zs2 ?_ | refine zs3 ?_ | refine zs4 ?_ | refine zs5 ?_); conv => whnf) | ((first | apply zi1 | apply zi2 | apply zi3 | apply zi4 | apply zi5) <;> intro _ <;> conv => whnf))
                simp only [hd2, he2, hd4, he4, hr5, hd5, he5, hd3, he3, hm4, hq4, hp2]
                repeat' (first | ((first | refine zs1 ?_ | refine zs2 ?_ | refine zs3 ?_ | refine zs4 ?_ | refine zs5 ?_); conv => whnf) | ((first | apply zi1 | apply zi2 | apply zi3 | apply zi4 | apply zi5) <;> intro _ <;> conv => whnf))
                simp only [hd4, hq4]
                refine VAny.intro (v := .slice (.loc 4) 0 1 q4 none) ⟨by omega, q4, by omega, .inr ⟨by decide, rfl⟩⟩ ?_
                conv => whnf
                repeat' (first | ((first | refine zs1 ?_ | refine zs2 ?_ | refine zs3 ?_ | refine zs4 ?_ | refine zs5 ?_); conv => whnf) | ((first | apply zi1 | apply zi2 | apply zi3 | apply zi4 | apply zi5) <;> intro _ <;> conv => whnf) | (refine VCall.intro (own6 (ps := ps) (t := tr) rfl rfl rfl rfl hp ht rfl) ?_; conv => whnf))
                simp only [hm4]
                repeat' (first | ((first | refine zs1 ?_ | refine zs2 ?_ | refine zs3 ?_ | refine zs4 ?_ | refine zs5 ?_); conv => whnf) | ((first | apply zi1 | apply zi2 | apply zi3 | apply zi4 | apply zi5) <;> intro _ <;> conv => whnf) | (refine VCall.intro (own3 (ps := ps) rfl rfl hp) ?_; conv => whnf))
                obtain ⟨L, hL, hL3⟩ : ∃ L : List Int, L = [p2, 1 + e2, 3 + e4] ∧ L.length = 3 := ⟨_, rfl, rfl⟩
                obtain ⟨W, hW, hW3⟩ : ∃ W : List Int, W = [r5, 3 + e5, 8 + e3] ∧ W.length = 3 := ⟨_, rfl, rfl⟩
                refine VCode.lp (fun j : Nat => [(12, .ptr (.loc 0) 0), (13, .gl (.loc 2) 1 i), (17, .slice (.loc 3) 0 1 m4 none), (18, .slice (.loc 4) 0 1 q4 none), (135, I n), (238, I ((i : Int) + 1)), (239, I j)]) (fun _ => [.cells true [I Y, I G, .gl (.loc 1) 3 i], .flat true (ps.flatMap encP), .flat true (tr.flatMap encI), .flat true (L.flatMap encI), .flat true (W.flatMap encI)]) (fun j => j ≤ i + 1) (fun j => i + 1 - j) 0 (Nat.zero_le _) ?_ ?_
                · subst hL hW
                  conv => whnf
                  refine Retell.turn ⟨[0,1,2,3,4], 5, [], []⟩ (TurnOk.mk' _ _ [] [] (OutOk.lift _) rfl (by decide) zb trivial trivial rfl) zvS zm
                · intro j hj
                  conv => whnf
                  refine VIte.dec (fun h6 => ?_) (fun h6 => ?_)
                  · have cC := fun (i : Vm.Id) (h : Hp) hb => vc_cloneSl (L.flatMap encI) (L.take m4) true i m4 none h hb (by rw [flat_len1 encI_len]; omega) (by rw [List.drop_zero, flat_takeD encI_len]) (by rw [List.length_take]; omega) (by rw [List.length_take]; omega)
                    have c9 := fun (o : Vm.Id → Option Blk) (b5 b6 : Blk) => own9s (outer := o) (loc := [.cells true [I Y, I G, .gl (.loc 1) 3 i], .flat true (ps.flatMap encP), .flat true (tr.flatMap encI), .flat true (L.flatMap encI), .flat true (W.flatMap encI), b5, b6, .flat true ((L.take m4 ++ [(j : Int)]).flatMap encI)]) (p := 1) (q := 2) (r := 7) (s := 4) (ps := ps) (t := tr) (l := L.take m4 ++ [(j : Int)]) (x := W.take q4) (n1 := i) (n2 := i) (n3 := m4 + 1) (n4 := q4) (Y := Y) (G := G) (a := j) rfl rfl rfl rfl rfl rfl rfl (by rw [List.drop_zero, flat_takeD encI_len]) (by rw [flat_len1 encI_len]; omega) hp ht (by rw [List.length_append, List.length_take]; simp only [List.length_singleton]; omega) (by rw [List.length_take]; omega) rfl rfl rfl rfl rfl rfl
                    conv => whnf
                    refine VDraw.go [(0, 4), (0, 7)] (by kernel_rfl) (by kernel_rfl) ?_
                    conv => whnf
                    repeat' (first | ((first | refine zs1 ?_ | refine zs2 ?_ | refine zs3 ?_ | refine zs4 ?_ | refine zs5 ?_); conv => whnf) | ((first | apply zi1 | apply zi2 | apply zi3 | apply zi4 | apply zi5) <;> intro _ <;> conv => whnf) | (refine VCall.intro (cC _ _ rfl) ?_; conv => whnf))
                    refine VMem.app1 (l := L.take m4) (j : Int) encI_len rfl rfl rfl (by rw [List.length_take]; omega) rfl (by rw [List.length_take]; omega) ?_
                    conv => whnf
                    repeat' (first | ((first | refine zs1 ?_ | refine zs2 ?_ | refine zs3 ?_ | refine zs4 ?_ | refine zs5 ?_); conv => whnf) | ((first | apply zi1 | apply zi2 | apply zi3 | apply zi4 | apply zi5) <;> intro _ <;> conv => whnf) | (refine VCall.intro (c9 _ _ _) ?_; conv => whnf))
                    refine LEnd.intro (j + 1) (by omega) (by omega) ?_
                    conv => whnf
                    refine Retell.turn ⟨[0,1,2,3,4], 8, [], []⟩ (TurnOk.mk' _ _ [] [] (OutOk.lift _) rfl (by decide) zb trivial trivial rfl) zvS zm
                  · conv => whnf
                    repeat' (first | ((first | refine zs1 ?_ | refine zs2 ?_ | refine zs3 ?_ | refine zs4 ?_ | refine zs5 ?_); conv => whnf) | ((first | apply zi1 | apply zi2 | apply zi3 | apply zi4 | apply zi5) <;> intro _ <;> conv => whnf))
                    refine LEnd.intro (n + 1) (by omega) (by omega) ?_
                    conv => whnf
                    refine Retell.turn ⟨[], 5, [], []⟩ (TurnOk.mk' _ _ [] [] (OutOk.lift _) rfl (by decide) zb trivial trivial rfl) zv zm
          · conv => whnf
            repeat' (first | ((first | refine zs1 ?_ | refine zs2 ?_ | refine zs3 ?_ | refine zs4 ?_ | refine zs5 ?_); conv => whnf) | ((first | apply zi1 | apply zi2 | apply zi3 | apply zi4 | apply zi5) <;> intro _ <;> conv => whnf))
            refine VCut.at' 99 [] [] ?_ ?_
            · conv => whnf
              refine Retell.turn ⟨[], 0, [], []⟩ (TurnOk.mk' _ _ [] [] (OutOk.lift _) rfl (by decide) zb trivial trivial rfl) zv zm
            · conv => whnf
              repeat' (first | ((first | refine zs1 ?_ | refine zs2 ?_ | refine zs3 ?_ | refine zs4 ?_ | refine zs5 ?_ | refine zs6 [] ?_); conv => whnf) | ((first | apply zi1 | apply zi2 | apply zi3 | apply zi4 | apply zi5) <;> intro _ <;> conv => whnf))
              refine VCode.lp (fun n : Nat => [(255, I n)]) (fun _ => []) (fun n => n ≤ 19) (fun n => 19 - n) 0 (Nat.zero_le _) ?_ ?_
              · conv => whnf
                refine Retell.turn ⟨[], 0, [], []⟩ (TurnOk.mk' _ _ [] [] (OutOk.lift _) rfl (by decide) zb trivial trivial rfl) zv zm
              · intro n hn
                conv => whnf
                refine VIte.dec (fun h4 => ?_) (fun h4 => ?_)
                · have hn18 : n ≤ 18 := by omega
                  conv => whnf
                  repeat' (first | ((first | refine zs1 ?_ | refine zs2 ?_ | refine zs3 ?_ | refine zs4 ?_ | refine zs5 ?_); conv => whnf) | ((first | apply zi1 | apply zi2 | apply zi3 | apply zi4 | apply zi5) <;> intro _ <;> conv => whnf))
                  refine VCode.lp (fun i : Nat => [(20, I n), (21, .ptr (.loc 0) 0), (22, .gl (.loc 2) 1 i), (23, .gl (.loc 3) 1 i), (255, I n), (259, I n), (260, I i)]) (fun i => [.cells true [I 100, I 13, .gl (.loc 1) 3 i], .flat true ((psC i).flatMap encP), .flat true ((tC i).flatMap encI), .flat true ((lC i).flatMap encI)]) (fun i => i ≤ n) (fun i => n - i) 0 (Nat.zero_le _) ?_ ?_
                  · conv => whnf
                    refine Retell.turn ⟨[0,1,2,3], 1, [], []⟩ (TurnOk.mk' _ _ [] [] (OutOk.lift _) rfl (by decide) zb trivial trivial rfl) zv zm
                  · intro i hi
                    conv => whnf
                    refine VIte.dec (fun h5 => ?_) (fun h5 => ?_)
                    · have b1 := tmod_bd (a := (i : Int)) (k := 2) (by omega) (by omega)
                      conv => whnf
                      repeat' (first | ((first | refine zs1 ?_ | refine zs2 ?_ | refine zs3 ?_ | refine zs4 ?_ | refine zs5 ?_); conv => whnf) | ((first | apply zi1 | apply zi2 | apply zi3 | apply zi4 | apply zi5) <;> intro _ <;> conv => whnf))
                      refine VMem.app1 (l := psC i) (pC i) encP_len rfl rfl rfl (psC_len i).symm rfl (by rw [psC_len]; omega) ?_
                      rw [← psC_succ]
                      conv => whnf
                      repeat' (first | ((first | refine zs1 ?_ | refine zs2 ?_ | refine zs3 ?_ | refine zs4 ?_ | refine zs5 ?_); conv => whnf) | ((first | apply zi1 | apply zi2 | apply zi3 | apply zi4 | apply zi5) <;> intro _ <;> conv => whnf))
                      refine VMem.app1 (l := tC i) (9 * (i : Int)) encI_len rfl rfl rfl (tC_len i).symm rfl (by rw [tC_len]; omega) ?_
                      rw [← tC_succ]
                      conv => whnf
                      repeat' (first | ((first | refine zs1 ?_ | refine zs2 ?_ | refine zs3 ?_ | refine zs4 ?_ | refine zs5 ?_); conv => whnf) | ((first | apply zi1 | apply zi2 | apply zi3 | apply zi4 | apply zi5) <;> intro _ <;> conv => whnf))
                      refine VMem.app1 (l := lC i) (i : Int) encI_len rfl rfl rfl (lC_len i).symm rfl (by rw [lC_len]; omega) ?_
                      rw [← lC_succ]
                      conv => whnf
                      repeat' (first | ((first | refine zs1 ?_ | refine zs2 ?_ | refine zs3 ?_ | refine zs4 ?_ | refine zs5 ?_); conv => whnf) | ((first | apply zi1 | apply zi2 | apply zi3 | apply zi4 | apply zi5) <;> intro _ <;> conv => whnf))
                      refine LEnd.intro (i + 1) (by omega) (by omega) ?_
                      conv => whnf
                      refine Retell.turn ⟨[0,5,7,9], 10, [], []⟩ (TurnOk.mk' _ _ [] [] (OutOk.lift _) rfl (by decide) zb trivial trivial rfl) zv zm
                    · have hin : i = n := by omega
                      subst hin
                      have g1 := chkC i (by omega)
                      obtain ⟨e1, he1⟩ : ∃ e, chk ⟨100, 13, psC i⟩ = e := ⟨_, rfl⟩
                      rw [he1] at g1
                      have q1 : (e1 == 0) = decide ((i : Int) < 17) := by rw [Bool.eq_iff_iff, beq_iff_eq, decide_eq_true_eq]; omega
                      conv => whnf
                      repeat' (first | ((first | refine zs1 ?_ | refine zs2 ?_ | refine zs3 ?_ | refine zs4 ?_ | refine zs5 ?_ | refine zs6 [] ?_); conv => whnf) | ((first | apply zi1 | apply zi2 | apply zi3 | apply zi4 | apply zi5) <;> intro _ <;> conv => whnf) | (refine VCall.intro (own6 (ps := psC i) (t := tC i) rfl rfl rfl rfl (psC_len i) (tC_len i) rfl) ?_; conv => whnf) | (refine VCall.intro (own3 (ps := psC i) rfl rfl (psC_len i)) ?_; conv => whnf) | (refine VCall.intro (own9t (ps := psC i) (t := tC i) (l := lC i) rfl rfl rfl rfl rfl rfl (psC_len i) (tC_len i) (lC_len i) rfl rfl rfl) ?_; conv => whnf) | (refine VCall.intro (own34 (ps := psC i) rfl rfl (psC_len i) (by rw [psC_len]; omega) he1) ?_; conv => whnf))
                      all_goals try (exfalso; rename_i hz; exact hz q1)
                      all_goals (
                        refine LEnd.intro (i + 1) (by omega) (by omega) ?_
                        conv => whnf
                        refine Retell.turn ⟨[], 4, [], []⟩ (TurnOk.mk' _ _ [] [] (OutOk.lift _) rfl (by decide) zb trivial trivial rfl) zv zm)
                · conv => whnf
                  repeat' (first | ((first | refine zs1 ?_ | refine zs2 ?_ | refine zs3 ?_ | refine zs4 ?_ | refine zs5 ?_ | refine zs6 [] ?_); conv => whnf) | ((first | apply zi1 | apply zi2 | apply zi3 | apply zi4 | apply zi5) <;> intro _ <;> conv => whnf) | (refine VCall.intro (non6) ?_; conv => whnf) | (refine VCall.intro (non3) ?_; conv => whnf) | (refine VCall.intro (non9) ?_; conv => whnf) | (refine VCall.intro (vc_awake _) ?_; conv => whnf))
                  exact VOut.same rfl
end Go.Proofs.Ytolnajnlcdacmaa

open Go.Vm
namespace Go.Proofs.Ytolnajnlcdacmaa
open Go.ChangeShapes Go.WideShapes Go.ChangeAt Go.RowKit

theorem open11p : OpenAll Try.prog Try.f11.params.toList (fun _ : Unit => []) := by
  rw [Try.params11]
  exact OpenAll.nil
set_option maxRecDepth 100000 in
theorem contract11 (H : Type) (enc : TypeId × Value → H) (W : World) (base : Nat) (args : Array Value) (ds gs : List (DataW H)) (before : List MemPlace)
    (hval : ∀ (j : Nat) t v, Try.f11.params[j]? = some t → args[j]? = some v → Value.okWide Try.prog W .any base t v)
    (hW : DataW.Whole enc Try.prog Try.f11.params.toList Rows.silenceSmallSpec.vars false W args.toList ds gs before) :
    Calls Try.prog 11 args W fun e W' => ∃ v, e = .returned v ∧ Rows.silenceSmallSpec.post enc Try.prog Try.f11 false true false false W args v W' := by
  refine contract_of_vc open11p (fun _ => vc_SilenceSmall Hp.bare) laidOut ?_ (tb := 4) (by kernel_rfl) Try.underlying4 rfl ?_ hval hW
  · rw [Try.params11]
    intro t ht

    exact absurd ht (by simp)
  · intro H dd hl
    rw [Try.params11] at hl
    match dd, hl with
    | [], _ => rfl
set_option maxRecDepth 100000 in
theorem lifted11 (os : Os) (started : os.Started) (H : Type) (enc : TypeId × Value → H) :
    ReturnsInHanded {} Try.checked os 11 .any (Rows.silenceSmallSpec.pre6 enc Try.prog Try.f11 Rows.silenceSmallRow.domain false) (Rows.silenceSmallSpec.post enc Try.prog Try.f11 false true false false) := by
  refine returnsInHanded_of_change (C := Try.checked) ownKn started (by kernel_rfl) Try.func11
    (ChangeSpec.witness6 (enc := enc) (C := Try.checked) false ⟨#[], #[], []⟩ 8 (by kernel_rfl) (by kernel_rfl) (by kernel_rfl) (by kernel_rfl)) ?_
  intro W base args ds gs before hval hW _ _
  exact contract11 H enc W base args ds gs before hval hW
theorem silenceSmall_said : Rows.SilenceSmallSaid :=
  OpenClaim.holds_of_wide 11 Try.f11 rfl rfl rfl rfl rfl rfl rfl ⟨rfl, rfl, rfl, rfl, rfl⟩ rfl rfl rfl rfl rfl (by kernel_rfl) Try.func11 (by kernel_rfl)
    (of_decide_eq_true (by kernel_rfl)) (by unfold Func.isWrapper; first | (rw [if_pos (by decide +kernel)]; kernel_rfl) | (rw [if_neg (by decide +kernel)]; exact ⟨rfl, rfl⟩))
    (fun os started H enc _ => lifted11 os started H enc)
end Go.Proofs.Ytolnajnlcdacmaa

