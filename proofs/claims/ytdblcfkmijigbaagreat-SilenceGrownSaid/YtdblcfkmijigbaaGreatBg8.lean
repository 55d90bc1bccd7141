/- Part 8 of the proof that whose a field is that a river left is as the given statement says. No condition. -/
import Derived.Test.YtdblcfkmijigbaaGreatBg7
set_option linter.unusedVariables false
set_option linter.unusedSimpArgs false
open Go.Vm
namespace Go.Proofs.YtdblcfkmijigbaaGreat.Sl
set_option maxRecDepth 20000
set_option maxHeartbeats 4000000

def vGone (f : Fil) : V := .tuple [.fm (keysE (gone f).1) (valsE (gone f).1), ends (gone f).2]
structure GJ (o : Vm.Id → Option Blk) (s : AL × List End) (g : Hp) : Prop where
  o : g.outer = o
  c : g.get (.loc 0) = some (.cells true [.map (.loc 1)])
  mp : g.get (.loc 1) = some (.map (esE s.1))
  li : ∃ m, (m = 3 ∨ 6 ≤ m) ∧ g.get (.loc 2) = some (.cells true [.gl (.loc m) 5 s.2.length]) ∧ g.get (.loc m) = some (.flat true (s.2.flatMap encE))
  mar : g.get (.loc 4) = some .mark
theorem isE_go {f : Fil} {i : Nat} {p : Pap} {was : End} {y : Int} (h : 0 < i ∧ sdAt f i = sdAt f (i - 1) ∧ y - was.year ≤ f.G) :
    isE f i p was y = bif decide (¬ was.first = -1 ∧ f.Y ≤ y - was.first) then ⟨i, y, -1, p.side, y⟩ else ⟨i, y, was.first, was.side, was.since⟩ := by
  unfold isE goesB
  rw [decide_eq_true h]; rfl
theorem isE_no {f : Fil} {i : Nat} {p : Pap} {was : End} {y : Int} (h : ¬ (0 < i ∧ sdAt f i = sdAt f (i - 1) ∧ y - was.year ≤ f.G)) :
    isE f i p was y = bif decide (¬ y = -1 ∧ f.Y ≤ y - y) then ⟨i, y, -1, p.side, y⟩ else ⟨i, y, y, was.side, was.since⟩ := by
  unfold isE goesB
  rw [decide_eq_false h]; rfl
theorem upd_ok {g : Hp} {m : Nat} {a2 b2 : AL} {n2 : List End} {b : Blk} (jb : g.get (.loc 2) = some (.cells true [.gl (.loc m) 5 n2.length])) (jm : g.get (.loc 1) = some (.map (esE a2))) (jl : g.get (.loc m) = some (.flat true (n2.flatMap encE))) :
    ∀ p ∈ [(Vm.Id.loc 1, Blk.map (esE b2)), (.loc m, .dead), (.loc 2, b)], g.get p.1 ≠ none := by
  intro p hp
  simp only [List.mem_cons, List.not_mem_nil, or_false] at hp
  rcases hp with rfl | rfl | rfl <;> simp only
  · rw [jm]; simp
  · rw [jl]; simp
  · rw [jb]; simp
theorem GJ.step {o : Vm.Id → Option Blk} {a2 : AL} {n2 : List End} {E was : End} {g : Hp} {m : Nat} (jo : g.outer = o) (jc : g.get (.loc 0) = some (.cells true [.map (.loc 1)])) (jm : g.get (.loc 1) = some (.map (esE a2)))
    (jb : g.get (.loc 2) = some (.cells true [.gl (.loc m) 5 n2.length])) (jl : g.get (.loc m) = some (.flat true (n2.flatMap encE))) (jk : g.get (.loc 4) = some .mark) (hm : m = 3 ∨ 6 ≤ m) {b5 : Blk} (j5 : g.get (.loc 5) = some b5) :
    g.grows ((g.sets [(.loc 1, .map (esE (a2 ++ [(E, was)]))), (.loc m, .dead), (.loc 2, .cells true [.gl g.fresh 5 (n2.length + 1)])]).pushes [.flat true ((n2 ++ [E]).flatMap encE)]) ∧
    GJ o (a2 ++ [(E, was)], n2 ++ [E]) ((g.sets [(.loc 1, .map (esE (a2 ++ [(E, was)]))), (.loc m, .dead), (.loc 2, .cells true [.gl g.fresh 5 (n2.length + 1)])]).pushes [.flat true ((n2 ++ [E]).flatMap encE)]) ∧
    ∀ b, g.get (.loc 5) = some b → ((g.sets [(.loc 1, .map (esE (a2 ++ [(E, was)]))), (.loc m, .dead), (.loc 2, .cells true [.gl g.fresh 5 (n2.length + 1)])]).pushes [.flat true ((n2 ++ [E]).flatMap encE)]).get (.loc 5) = some b := by
  obtain ⟨go, gl⟩ := g
  simp only [Hp.get] at jc jm jb jl jk j5
  have l5 := (List.getElem?_eq_some_iff.1 j5).1
  have l0 := (List.getElem?_eq_some_iff.1 jc).1
  have l1 := (List.getElem?_eq_some_iff.1 jm).1
  have l2 := (List.getElem?_eq_some_iff.1 jb).1
  have l4 := (List.getElem?_eq_some_iff.1 jk).1
  have key : ∀ x, x < gl.length → x ≠ 1 → x ≠ m → x ≠ 2 → ∀ (A B C N : Blk), ((((gl.set 1 A).set m B).set 2 C) ++ [N])[x]? = gl[x]? := by
    intro x hx h1 h2 h3 A B C N
    rw [List.getElem?_append_left (by simpa using hx), List.getElem?_set_ne (Ne.symm h3), List.getElem?_set_ne (Ne.symm h2), List.getElem?_set_ne (Ne.symm h1)]
  refine ⟨Hp.grows_sets (upd_ok (g := ⟨go, gl⟩) jb jm jl), ⟨jo, ?_, ?_, ⟨gl.length, .inr (by omega), ?_, ?_⟩, ?_⟩, fun b hb => ?_⟩
  · show (_ ++ _)[_]? = _
    exact (key 0 l0 (by omega) (by omega) (by omega) _ _ _ _).trans jc
  · show ((((gl.set 1 _).set m _).set 2 _) ++ [_])[1]? = _
    rw [List.getElem?_append_left (by simpa using l1), List.getElem?_set_ne (show (2 : Nat) ≠ 1 by omega), List.getElem?_set_ne (show m ≠ 1 by omega), List.getElem?_set_self l1]
  · show ((((gl.set 1 _).set m _).set 2 _) ++ [_])[2]? = _
    rw [List.getElem?_append_left (by simpa using l2), List.getElem?_set_self (by simpa using l2)]
    simp [Hp.fresh]
  · show ((((gl.set 1 _).set m _).set 2 _) ++ [_])[gl.length]? = _
    rw [List.getElem?_append_right (by simp)]
    simp
  · show (_ ++ _)[_]? = _
    exact (key 4 l4 (by omega) (by omega) (by omega) _ _ _ _).trans jk
  · have hb : gl[5]? = some b := hb
    show (_ ++ _)[_]? = _
    exact (key 5 (List.getElem?_eq_some_iff.1 hb).1 (by omega) (by omega) (by omega) _ _ _ _).trans hb
theorem blt_of {a b : Nat} (h : a < b) : Nat.blt a b = true := Nat.ble_eq_true_of_le h
theorem outer_fix {o : Vm.Id → Option Blk} {iy i1 i2 i3 : Vm.Id} {b0 b b1 b2 b3 : Blk} (h : o iy = some b) (n1 : iy ≠ i1) (n2 : iy ≠ i2) (n3 : iy ≠ i3) : outW (outW (outW (outW (outW o iy b0) i1 b1) i2 b2) i3 b3) iy b = outW (outW (outW o i1 b1) i2 b2) i3 b3 := by
  funext j
  unfold outW
  by_cases e : j = iy
  · subst e; rw [if_pos rfl, if_neg n3, if_neg n2, if_neg n1, h]
  · rw [if_neg e, if_neg e]
theorem VOut.back {h : Hp} {loc : List Blk} {iy : Vm.Id} {b0 b : Blk} {r1 r : V} (hb : h.lift iy = some b) (hr : r1 = r.ren .out) : VOut h ⟨outW (outW h.lift iy b0) iy b, loc⟩ r1 r h := by
  rw [outW_same, ← outW_id hb]
  exact VOut.same hr
theorem vc_gone (f : Fil) (h : Hp) (hc : chk f = 0) : VC Tryz.prog 32 [vF f] h (vGone f) h := by
  have hpok := chk_pok hc
  obtain ⟨hY1, hY2, hn16, _⟩ := chk_zero hc
  obtain ⟨R, hR⟩ : ∃ R, R = gone f := ⟨_, rfl⟩
  unfold vGone
  rw [← hR]
  refine VC.body Tryz.func32 rfl Tryz.ntmps32 Tryz.call32 (h.grows_refl) rfl ?_; conv => whnf
  repeat (first | ((first | refine zs1 ?_ | refine zs2 ?_ | refine zs3 ?_ | refine zs4 ?_ | refine zs5 ?_ | refine zs6 [] ?_); conv => whnf))
  refine VCode.lp (fun x : Nat × AL × List End => [(1, .fp (encF f)), (5, .ptr (.loc 0) 0), (6, ends x.2.2), (21, paps f.ps), (22, I f.ps.length), (23, I x.1)]) (fun x => [.cells true [.map (.loc 1)], .map (esE x.2.1)])
    (fun x => x.1 ≤ f.ps.length ∧ R = gP f (f.ps.drop x.1) x.1 x.2 ∧ (∀ e ∈ x.2.2, EOk e) ∧ x.2.2.length ≤ 108108024) (fun x => f.ps.length - x.1) (0, [], [beg]) ⟨Nat.zero_le _, hR, by simp [EOk.beg], by simp⟩ ?_ ?_
  · conv => whnf
    refine Retell.turn ⟨[3,2], 5, [(0, encF f), (4, [beg].flatMap encE)], []⟩ (TurnOk.mk' _ _ [(0, encF f), (4, [beg].flatMap encE)] [] (OutOk.lift _) rfl (by decide) zb zf trivial rfl) zv zm
  · rintro ⟨i, a, now⟩ ⟨hi, hRi, hok, hnl⟩
    dsimp only at hi hRi hok hnl
    conv => whnf
    refine VIte.dec (fun h3 => ?_) (fun h3 => ?_)
    · have hp : f.ps[i]? = some f.ps[i] := List.getElem?_eq_getElem (by omega)
      have hpk := hpok f.ps[i] (List.getElem_mem (by omega))
      rw [gP_at hp] at hRi
      generalize f.ps[i] = p at hp hpk hRi
      obtain ⟨W, hW⟩ : ∃ W, W = now.foldl (gW f i p) (a, []) := ⟨_, rfl⟩
      rw [← hW] at hRi
      conv => whnf
      repeat' (first | ((first | refine zs1 ?_ | refine zs2 ?_ | refine zs3 ?_ | refine zs4 ?_ | refine zs5 ?_ | refine zs6 [] ?_); conv => whnf) | ((first | apply zi1 | apply zi2 | apply zi3 | apply zi4 | apply zi5) <;> intro _ <;> conv => whnf) | (refine VAny.ix encP_len i rfl rfl hp ?_; conv => whnf))
      refine VCode.lp (fun x : Nat × AL × List End => [(1, .fp (encF f)), (5, .ptr (.loc 0) 0), (7, .fp [DI i]), (8, .fp (encP p)), (9, .ptr (.loc 2) 0), (21, paps f.ps), (22, I f.ps.length), (23, I i), (28, ends now), (29, I now.length), (30, I x.1)])
        (fun x => [.cells true [.map (.loc 1)], .map (esE x.2.1), .cells true [.gl (.loc 3) 5 x.2.2.length], .flat true (x.2.2.flatMap encE)])
        (fun x => x.1 ≤ now.length ∧ W = (now.drop x.1).foldl (gW f i p) x.2 ∧ GI i p x.2) (fun x => now.length - x.1) (0, a, []) ⟨Nat.zero_le _, hW, by constructor <;> simp⟩ ?_ ?_
      · conv => whnf
        refine Retell.turn ⟨[0,1,4,5], 5, [(2, [DI i]), (3, encP p)], []⟩ (TurnOk.mk' _ _ [(2, [DI i]), (3, encP p)] [] (OutOk.lift _) rfl (by decide) zb zf trivial rfl) zv zm
      · rintro ⟨j, a1, nx⟩ ⟨hj, hWj, hgi⟩
        dsimp only at hj hWj
        conv => whnf
        refine VIte.dec (fun h5 => ?_) (fun h5 => ?_)
        · have hw : now[j]? = some now[j] := List.getElem?_eq_getElem (by omega)
          have hwk := hok now[j] (List.getElem_mem (by omega))
          rw [gW_at hw] at hWj
          generalize now[j] = was at hw hwk hWj
          conv => whnf
          repeat' (first | ((first | refine zs1 ?_ | refine zs2 ?_ | refine zs3 ?_ | refine zs4 ?_ | refine zs5 ?_ | refine zs6 [] ?_); conv => whnf) | ((first | apply zi1 | apply zi2 | apply zi3 | apply zi4 | apply zi5) <;> intro _ <;> conv => whnf) | (refine VAny.ix encE_len j rfl rfl hw ?_; conv => whnf) | (refine VCall.intro (vc_years p _) ?_; conv => whnf))
          refine VCode.tell [(1, .fp (encF f)), (5, .ptr (.loc 0) 0), (7, .fp [DI i]), (8, .fp (encP p)), (9, .ptr (.loc 2) 0), (11, .fp (encE was)), (21, paps f.ps), (22, I f.ps.length), (23, I i), (28, ends now), (29, I now.length), (30, I j), (35, .func (.func 75) [] [.fp (encP p)])]
            [.cells true [.map (.loc 1)], .map (esE a1), .cells true [.gl (.loc 3) 5 nx.length], .flat true (nx.flatMap encE)] (marks' := []) ?_ ?_
          · conv => whnf
            refine Retell.turn ⟨[0,1,2,3], 5, [(4, encE was)], []⟩ (TurnOk.mk' _ _ [(4, encE was)] [] (OutOk.lift _) rfl (by decide) zb zf trivial rfl) zv zm
          · conv => whnf
            obtain ⟨p1, p2, p3, p4, p5⟩ := hpk
            obtain ⟨w1, w2, w3, w4⟩ := hwk
            refine VCode.iter (p.hi - p.lo + 1).toNat (fun k => I (p.lo + k)) (fun k g => GJ h.lift (gYs f i p was (a1, nx) k) g) _ (.loc 5) rfl (vc_years1 p (by omega) (by omega)) rfl rfl rfl (by decide) ?_ ?_ ?_
            · exact ⟨rfl, rfl, rfl, ⟨3, .inl rfl, rfl, rfl⟩, rfl⟩
            · intro k g hk hJ hl
              have hgk := GI.gYs (was := was) (f := f) hgi p1 ⟨w1, w2, w3, w4⟩ p2 p3 p5 k (by omega)
              obtain ⟨E, hE⟩ : ∃ E, E = isE f i p was (p.lo + k) := ⟨_, rfl⟩
              have hnext : gYs f i p was (a1, nx) (k + 1) = bif hasK (gYs f i p was (a1, nx) k).1 E then gYs f i p was (a1, nx) k else ((gYs f i p was (a1, nx) k).1 ++ [(E, was)], (gYs f i p was (a1, nx) k).2 ++ [E]) := by rw [gYs, gY, hE]
              rw [hnext]
              generalize gYs f i p was (a1, nx) k = s at hJ hgk
              obtain ⟨a2, n2⟩ := s
              obtain ⟨y, hy⟩ : ∃ y, y = p.lo + k := ⟨_, rfl⟩
              dsimp only
              rw [← hy] at hE ⊢
              have hyb : 0 ≤ y ∧ y ≤ 3000 := by omega
              obtain ⟨jo, jc, jm, ⟨m, hm, jb, jl⟩, jk⟩ := hJ
              dsimp only at jb jl jm
              have hlen := hgk.len
              dsimp only at hlen
              have hm1 : Vm.Id.loc m ≠ .loc 1 := by intro h0; injection h0; omega
              have hm2 : Vm.Id.loc 2 ≠ .loc m := by intro h0; injection h0; omega
              have hm5 : Vm.Id.loc m ≠ .loc 5 := by intro h0; injection h0; omega
              have hm5' : Vm.Id.loc 5 ≠ .loc m := fun h0 => hm5 h0.symm
              cases hk2 : hasK a2 E
              · obtain ⟨s1, s2, s3⟩ := GJ.step (E := E) (was := was) jo jc jm jb jl jk hm hl
                refine ⟨_, s1, s2, s3 _ hl, fun l => ?_⟩
                refine VRound.tell [(1, .fp (encF f)), (5, .ptr (.out (.loc 0)) 0), (7, .fp [DI i]), (8, .fp (encP p)), (9, .ptr (.out (.loc 2)) 0), (11, .fp (encE was)), (36, I y)] ?_ ?_
                · conv => whnf
                  refine Retell.turn ⟨[], 0, [], []⟩ (TurnOk.mk' _ _ [] [] (OutOk.lift _) rfl (by decide) zb trivial trivial rfl) zv zm
                · conv => whnf
                  refine VBegin.intro (get_out hl _) rfl ?_
                  conv => whnf
                  repeat' (first | ((first | refine zs1 ?_ | refine zs2 ?_ | refine zs3 ?_ | refine zs4 ?_ | refine zs5 ?_ | refine zs6 [] ?_); conv => whnf) | ((first | apply zi1 | apply zi2 | apply zi3 | apply zi4 | apply zi5) <;> intro _ <;> conv => whnf) | (refine VCall.intro (vc_goes f i y was.year _ (by omega) (by omega) (by omega) (by omega)) ?_; conv => whnf))
                  · rename_i x1 x2 x3
                    rw [isE_go x1, decide_eq_true ⟨x2, x3⟩] at hE
                    dsimp only [cond_true, cond_false] at hE
                    subst hE
                    have hag : alGet a2 ⟨(i : Int), y, -1, p.side, y⟩ = none := by
                      have := hk2; rw [hasK_get] at this
                      cases hz : alGet a2 ⟨(i : Int), y, -1, p.side, y⟩ with
                      | none => rfl
                      | some v => rw [hz] at this; cases this
                    refine VLd.cell rfl rfl (get_setO (by decide) jc _) rfl ?_
                    conv => whnf
                    repeat (first | ((first | refine zs1 ?_ | refine zs2 ?_ | refine zs3 ?_ | refine zs4 ?_ | refine zs5 ?_ | refine zs6 [] ?_); conv => whnf))
                    refine VLook.intro (es := esE a2) ((get_setO (by decide) jm _).trans (by rw [esE_ren])) (look_esE a2 ⟨(i : Int), y, -1, p.side, y⟩) ?_
                    rw [hag]
                    conv => whnf
                    repeat (first | ((first | refine zs1 ?_ | refine zs2 ?_ | refine zs3 ?_ | refine zs4 ?_ | refine zs5 ?_ | refine zs6 [] ?_); conv => whnf))
                    refine VLd.cell rfl rfl (get_setO (by decide) jc _) rfl ?_
                    conv => whnf
                    repeat (first | ((first | refine zs1 ?_ | refine zs2 ?_ | refine zs3 ?_ | refine zs4 ?_ | refine zs5 ?_ | refine zs6 [] ?_); conv => whnf))
                    refine VMem.newE (a := a2) (e := ⟨(i : Int), y, -1, p.side, y⟩) (v := was) ((get_setO (by decide) jm _).trans (by rw [esE_ren])) hk2 ?_
                    conv => whnf
                    refine VLd.cell rfl rfl (get_outNe (by decide) (get_setO (by decide) jb _)) rfl ?_
                    conv => whnf
                    repeat (first | ((first | refine zs1 ?_ | refine zs2 ?_ | refine zs3 ?_ | refine zs4 ?_ | refine zs5 ?_ | refine zs6 [] ?_); conv => whnf))
                    refine VMem.app1B (α := End) (l := n2) ⟨(i : Int), y, -1, p.side, y⟩ encE_len rfl (get_outNe hm1 (get_setO hm5 jl _)) rfl rfl rfl (by omega) ?_
                    conv => whnf
                    repeat (first | ((first | refine zs1 ?_ | refine zs2 ?_ | refine zs3 ?_ | refine zs4 ?_ | refine zs5 ?_ | refine zs6 [] ?_); conv => whnf))
                    refine VMem.st1 rfl rfl rfl (b := .cells true [.gl (.out (.loc m)) 5 n2.length]) (get_outNe hm2 (get_outNe (by decide) (get_setO (by decide) jb _))) rfl ?_
                    conv => whnf
                    refine RFin.on (get_outNe (by decide) (get_outNe hm5' (get_outNe (by decide) (outW_get _ _ _ _)))) ?_
                    refine VOut.upd [(.loc 1, .map (esE (a2 ++ [(⟨(i : Int), y, -1, p.side, y⟩, was)]))), (.loc m, .dead), (.loc 2, .cells true [.gl g.fresh 5 (n2.length + 1)])] [.flat true ((n2 ++ ([⟨(i : Int), y, -1, p.side, y⟩] : List End)).flatMap encE)] [3] 4 ?_ (upd_ok jb jm jl) ?_ ?_ ?_ ?_ ?_
                    · rfl
                    · decide
                    · rfl
                    · intro k b hk
                      cases k with
                      | zero => rw [List.getElem?_cons_zero, Option.some.injEq] at hk; subst hk; exact ⟨3, rfl, rfl⟩
                      | succ k => simp at hk
                    · intro σ x hx; exact hx
                    · have e1 : (Blk.cells true [V.gl g.fresh 5 (n2.length + 1)]).ren (backR g.loc.length [3] 4) = .cells true [.gl (.loc 3) 5 (n2.length + 1)] := by simp [Blk.ren, V.ren, backR, Hp.fresh]
                      simp only [List.map_cons, List.map_nil, e1, esE_ren]
                      exact outer_fix (get_out hl []) (by decide) hm5' (by decide)
                  · rename_i x1 x2 x3
                    rw [isE_go x1, decide_eq_false (fun hh => x3 hh.2)] at hE
                    dsimp only [cond_true, cond_false] at hE
                    subst hE
                    have hag : alGet a2 ⟨(i : Int), y, was.first, was.side, was.since⟩ = none := by
                      have := hk2; rw [hasK_get] at this
                      cases hz : alGet a2 ⟨(i : Int), y, was.first, was.side, was.since⟩ with
                      | none => rfl
                      | some v => rw [hz] at this; cases this
                    refine VLd.cell rfl rfl (get_setO (by decide) jc _) rfl ?_
                    conv => whnf
                    repeat (first | ((first | refine zs1 ?_ | refine zs2 ?_ | refine zs3 ?_ | refine zs4 ?_ | refine zs5 ?_ | refine zs6 [] ?_); conv => whnf))
                    refine VLook.intro (es := esE a2) ((get_setO (by decide) jm _).trans (by rw [esE_ren])) (look_esE a2 ⟨(i : Int), y, was.first, was.side, was.since⟩) ?_
                    rw [hag]
                    conv => whnf
                    repeat (first | ((first | refine zs1 ?_ | refine zs2 ?_ | refine zs3 ?_ | refine zs4 ?_ | refine zs5 ?_ | refine zs6 [] ?_); conv => whnf))
                    refine VLd.cell rfl rfl (get_setO (by decide) jc _) rfl ?_
                    conv => whnf
                    repeat (first | ((first | refine zs1 ?_ | refine zs2 ?_ | refine zs3 ?_ | refine zs4 ?_ | refine zs5 ?_ | refine zs6 [] ?_); conv => whnf))
                    refine VMem.newE (a := a2) (e := ⟨(i : Int), y, was.first, was.side, was.since⟩) (v := was) ((get_setO (by decide) jm _).trans (by rw [esE_ren])) hk2 ?_
                    conv => whnf
                    refine VLd.cell rfl rfl (get_outNe (by decide) (get_setO (by decide) jb _)) rfl ?_
                    conv => whnf
                    repeat (first | ((first | refine zs1 ?_ | refine zs2 ?_ | refine zs3 ?_ | refine zs4 ?_ | refine zs5 ?_ | refine zs6 [] ?_); conv => whnf))
                    refine VMem.app1B (α := End) (l := n2) ⟨(i : Int), y, was.first, was.side, was.since⟩ encE_len rfl (get_outNe hm1 (get_setO hm5 jl _)) rfl rfl rfl (by omega) ?_
                    conv => whnf
                    repeat (first | ((first | refine zs1 ?_ | refine zs2 ?_ | refine zs3 ?_ | refine zs4 ?_ | refine zs5 ?_ | refine zs6 [] ?_); conv => whnf))
                    refine VMem.st1 rfl rfl rfl (b := .cells true [.gl (.out (.loc m)) 5 n2.length]) (get_outNe hm2 (get_outNe (by decide) (get_setO (by decide) jb _))) rfl ?_
                    conv => whnf
                    refine RFin.on (get_outNe (by decide) (get_outNe hm5' (get_outNe (by decide) (outW_get _ _ _ _)))) ?_
                    refine VOut.upd [(.loc 1, .map (esE (a2 ++ [(⟨(i : Int), y, was.first, was.side, was.since⟩, was)]))), (.loc m, .dead), (.loc 2, .cells true [.gl g.fresh 5 (n2.length + 1)])] [.flat true ((n2 ++ ([⟨(i : Int), y, was.first, was.side, was.since⟩] : List End)).flatMap encE)] [3] 4 ?_ (upd_ok jb jm jl) ?_ ?_ ?_ ?_ ?_
                    · rfl
                    · decide
                    · rfl
                    · intro k b hk
                      cases k with
                      | zero => rw [List.getElem?_cons_zero, Option.some.injEq] at hk; subst hk; exact ⟨3, rfl, rfl⟩
                      | succ k => simp at hk
                    · intro σ x hx; exact hx
                    · have e1 : (Blk.cells true [V.gl g.fresh 5 (n2.length + 1)]).ren (backR g.loc.length [3] 4) = .cells true [.gl (.loc 3) 5 (n2.length + 1)] := by simp [Blk.ren, V.ren, backR, Hp.fresh]
                      simp only [List.map_cons, List.map_nil, e1, esE_ren]
                      exact outer_fix (get_out hl []) (by decide) hm5' (by decide)
                  · rename_i x1 x2
                    rw [isE_go x1, decide_eq_false (fun hh => hh.1 x2)] at hE
                    dsimp only [cond_true, cond_false] at hE
                    subst hE
                    have hag : alGet a2 ⟨(i : Int), y, was.first, was.side, was.since⟩ = none := by
                      have := hk2; rw [hasK_get] at this
                      cases hz : alGet a2 ⟨(i : Int), y, was.first, was.side, was.since⟩ with
                      | none => rfl
                      | some v => rw [hz] at this; cases this
                    refine VLd.cell rfl rfl (get_setO (by decide) jc _) rfl ?_
                    conv => whnf
                    repeat (first | ((first | refine zs1 ?_ | refine zs2 ?_ | refine zs3 ?_ | refine zs4 ?_ | refine zs5 ?_ | refine zs6 [] ?_); conv => whnf))
                    refine VLook.intro (es := esE a2) ((get_setO (by decide) jm _).trans (by rw [esE_ren])) (look_esE a2 ⟨(i : Int), y, was.first, was.side, was.since⟩) ?_
                    rw [hag]
                    conv => whnf
                    repeat (first | ((first | refine zs1 ?_ | refine zs2 ?_ | refine zs3 ?_ | refine zs4 ?_ | refine zs5 ?_ | refine zs6 [] ?_); conv => whnf))
                    refine VLd.cell rfl rfl (get_setO (by decide) jc _) rfl ?_
                    conv => whnf
                    repeat (first | ((first | refine zs1 ?_ | refine zs2 ?_ | refine zs3 ?_ | refine zs4 ?_ | refine zs5 ?_ | refine zs6 [] ?_); conv => whnf))
                    refine VMem.newE (a := a2) (e := ⟨(i : Int), y, was.first, was.side, was.since⟩) (v := was) ((get_setO (by decide) jm _).trans (by rw [esE_ren])) hk2 ?_
                    conv => whnf
                    refine VLd.cell rfl rfl (get_outNe (by decide) (get_setO (by decide) jb _)) rfl ?_
                    conv => whnf
                    repeat (first | ((first | refine zs1 ?_ | refine zs2 ?_ | refine zs3 ?_ | refine zs4 ?_ | refine zs5 ?_ | refine zs6 [] ?_); conv => whnf))
                    refine VMem.app1B (α := End) (l := n2) ⟨(i : Int), y, was.first, was.side, was.since⟩ encE_len rfl (get_outNe hm1 (get_setO hm5 jl _)) rfl rfl rfl (by omega) ?_
                    conv => whnf
                    repeat (first | ((first | refine zs1 ?_ | refine zs2 ?_ | refine zs3 ?_ | refine zs4 ?_ | refine zs5 ?_ | refine zs6 [] ?_); conv => whnf))
                    refine VMem.st1 rfl rfl rfl (b := .cells true [.gl (.out (.loc m)) 5 n2.length]) (get_outNe hm2 (get_outNe (by decide) (get_setO (by decide) jb _))) rfl ?_
                    conv => whnf
                    refine RFin.on (get_outNe (by decide) (get_outNe hm5' (get_outNe (by decide) (outW_get _ _ _ _)))) ?_
                    refine VOut.upd [(.loc 1, .map (esE (a2 ++ [(⟨(i : Int), y, was.first, was.side, was.since⟩, was)]))), (.loc m, .dead), (.loc 2, .cells true [.gl g.fresh 5 (n2.length + 1)])] [.flat true ((n2 ++ ([⟨(i : Int), y, was.first, was.side, was.since⟩] : List End)).flatMap encE)] [3] 4 ?_ (upd_ok jb jm jl) ?_ ?_ ?_ ?_ ?_
                    · rfl
                    · decide
                    · rfl
                    · intro k b hk
                      cases k with
                      | zero => rw [List.getElem?_cons_zero, Option.some.injEq] at hk; subst hk; exact ⟨3, rfl, rfl⟩
                      | succ k => simp at hk
                    · intro σ x hx; exact hx
                    · have e1 : (Blk.cells true [V.gl g.fresh 5 (n2.length + 1)]).ren (backR g.loc.length [3] 4) = .cells true [.gl (.loc 3) 5 (n2.length + 1)] := by simp [Blk.ren, V.ren, backR, Hp.fresh]
                      simp only [List.map_cons, List.map_nil, e1, esE_ren]
                      exact outer_fix (get_out hl []) (by decide) hm5' (by decide)
                  · rename_i x1 x2 x3
                    rw [isE_no x1, decide_eq_true ⟨x2, x3⟩] at hE
                    dsimp only [cond_true, cond_false] at hE
                    subst hE
                    have hag : alGet a2 ⟨(i : Int), y, -1, p.side, y⟩ = none := by
                      have := hk2; rw [hasK_get] at this
                      cases hz : alGet a2 ⟨(i : Int), y, -1, p.side, y⟩ with
                      | none => rfl
                      | some v => rw [hz] at this; cases this
                    refine VLd.cell rfl rfl (get_setO (by decide) jc _) rfl ?_
                    conv => whnf
                    repeat (first | ((first | refine zs1 ?_ | refine zs2 ?_ | refine zs3 ?_ | refine zs4 ?_ | refine zs5 ?_ | refine zs6 [] ?_); conv => whnf))
                    refine VLook.intro (es := esE a2) ((get_setO (by decide) jm _).trans (by rw [esE_ren])) (look_esE a2 ⟨(i : Int), y, -1, p.side, y⟩) ?_
                    rw [hag]
                    conv => whnf
                    repeat (first | ((first | refine zs1 ?_ | refine zs2 ?_ | refine zs3 ?_ | refine zs4 ?_ | refine zs5 ?_ | refine zs6 [] ?_); conv => whnf))
                    refine VLd.cell rfl rfl (get_setO (by decide) jc _) rfl ?_
                    conv => whnf
                    repeat (first | ((first | refine zs1 ?_ | refine zs2 ?_ | refine zs3 ?_ | refine zs4 ?_ | refine zs5 ?_ | refine zs6 [] ?_); conv => whnf))
                    refine VMem.newE (a := a2) (e := ⟨(i : Int), y, -1, p.side, y⟩) (v := was) ((get_setO (by decide) jm _).trans (by rw [esE_ren])) hk2 ?_
                    conv => whnf
                    refine VLd.cell rfl rfl (get_outNe (by decide) (get_setO (by decide) jb _)) rfl ?_
                    conv => whnf
                    repeat (first | ((first | refine zs1 ?_ | refine zs2 ?_ | refine zs3 ?_ | refine zs4 ?_ | refine zs5 ?_ | refine zs6 [] ?_); conv => whnf))
                    refine VMem.app1B (α := End) (l := n2) ⟨(i : Int), y, -1, p.side, y⟩ encE_len rfl (get_outNe hm1 (get_setO hm5 jl _)) rfl rfl rfl (by omega) ?_
                    conv => whnf
                    repeat (first | ((first | refine zs1 ?_ | refine zs2 ?_ | refine zs3 ?_ | refine zs4 ?_ | refine zs5 ?_ | refine zs6 [] ?_); conv => whnf))
                    refine VMem.st1 rfl rfl rfl (b := .cells true [.gl (.out (.loc m)) 5 n2.length]) (get_outNe hm2 (get_outNe (by decide) (get_setO (by decide) jb _))) rfl ?_
                    conv => whnf
                    refine RFin.on (get_outNe (by decide) (get_outNe hm5' (get_outNe (by decide) (outW_get _ _ _ _)))) ?_
                    refine VOut.upd [(.loc 1, .map (esE (a2 ++ [(⟨(i : Int), y, -1, p.side, y⟩, was)]))), (.loc m, .dead), (.loc 2, .cells true [.gl g.fresh 5 (n2.length + 1)])] [.flat true ((n2 ++ ([⟨(i : Int), y, -1, p.side, y⟩] : List End)).flatMap encE)] [3] 4 ?_ (upd_ok jb jm jl) ?_ ?_ ?_ ?_ ?_
                    · rfl
                    · decide
                    · rfl
                    · intro k b hk
                      cases k with
                      | zero => rw [List.getElem?_cons_zero, Option.some.injEq] at hk; subst hk; exact ⟨3, rfl, rfl⟩
                      | succ k => simp at hk
                    · intro σ x hx; exact hx
                    · have e1 : (Blk.cells true [V.gl g.fresh 5 (n2.length + 1)]).ren (backR g.loc.length [3] 4) = .cells true [.gl (.loc 3) 5 (n2.length + 1)] := by simp [Blk.ren, V.ren, backR, Hp.fresh]
                      simp only [List.map_cons, List.map_nil, e1, esE_ren]
                      exact outer_fix (get_out hl []) (by decide) hm5' (by decide)
                  · rename_i x1 x2 x3
                    rw [isE_no x1, decide_eq_false (fun hh => x3 hh.2)] at hE
                    dsimp only [cond_true, cond_false] at hE
                    subst hE
                    have hag : alGet a2 ⟨(i : Int), y, y, was.side, was.since⟩ = none := by
                      have := hk2; rw [hasK_get] at this
                      cases hz : alGet a2 ⟨(i : Int), y, y, was.side, was.since⟩ with
                      | none => rfl
                      | some v => rw [hz] at this; cases this
                    refine VLd.cell rfl rfl (get_setO (by decide) jc _) rfl ?_
                    conv => whnf
                    repeat (first | ((first | refine zs1 ?_ | refine zs2 ?_ | refine zs3 ?_ | refine zs4 ?_ | refine zs5 ?_ | refine zs6 [] ?_); conv => whnf))
                    refine VLook.intro (es := esE a2) ((get_setO (by decide) jm _).trans (by rw [esE_ren])) (look_esE a2 ⟨(i : Int), y, y, was.side, was.since⟩) ?_
                    rw [hag]
                    conv => whnf
                    repeat (first | ((first | refine zs1 ?_ | refine zs2 ?_ | refine zs3 ?_ | refine zs4 ?_ | refine zs5 ?_ | refine zs6 [] ?_); conv => whnf))
                    refine VLd.cell rfl rfl (get_setO (by decide) jc _) rfl ?_
                    conv => whnf
                    repeat (first | ((first | refine zs1 ?_ | refine zs2 ?_ | refine zs3 ?_ | refine zs4 ?_ | refine zs5 ?_ | refine zs6 [] ?_); conv => whnf))
                    refine VMem.newE (a := a2) (e := ⟨(i : Int), y, y, was.side, was.since⟩) (v := was) ((get_setO (by decide) jm _).trans (by rw [esE_ren])) hk2 ?_
                    conv => whnf
                    refine VLd.cell rfl rfl (get_outNe (by decide) (get_setO (by decide) jb _)) rfl ?_
                    conv => whnf
                    repeat (first | ((first | refine zs1 ?_ | refine zs2 ?_ | refine zs3 ?_ | refine zs4 ?_ | refine zs5 ?_ | refine zs6 [] ?_); conv => whnf))
                    refine VMem.app1B (α := End) (l := n2) ⟨(i : Int), y, y, was.side, was.since⟩ encE_len rfl (get_outNe hm1 (get_setO hm5 jl _)) rfl rfl rfl (by omega) ?_
                    conv => whnf
                    repeat (first | ((first | refine zs1 ?_ | refine zs2 ?_ | refine zs3 ?_ | refine zs4 ?_ | refine zs5 ?_ | refine zs6 [] ?_); conv => whnf))
                    refine VMem.st1 rfl rfl rfl (b := .cells true [.gl (.out (.loc m)) 5 n2.length]) (get_outNe hm2 (get_outNe (by decide) (get_setO (by decide) jb _))) rfl ?_
                    conv => whnf
                    refine RFin.on (get_outNe (by decide) (get_outNe hm5' (get_outNe (by decide) (outW_get _ _ _ _)))) ?_
                    refine VOut.upd [(.loc 1, .map (esE (a2 ++ [(⟨(i : Int), y, y, was.side, was.since⟩, was)]))), (.loc m, .dead), (.loc 2, .cells true [.gl g.fresh 5 (n2.length + 1)])] [.flat true ((n2 ++ ([⟨(i : Int), y, y, was.side, was.since⟩] : List End)).flatMap encE)] [3] 4 ?_ (upd_ok jb jm jl) ?_ ?_ ?_ ?_ ?_
                    · rfl
                    · decide
                    · rfl
                    · intro k b hk
                      cases k with
                      | zero => rw [List.getElem?_cons_zero, Option.some.injEq] at hk; subst hk; exact ⟨3, rfl, rfl⟩
                      | succ k => simp at hk
                    · intro σ x hx; exact hx
                    · have e1 : (Blk.cells true [V.gl g.fresh 5 (n2.length + 1)]).ren (backR g.loc.length [3] 4) = .cells true [.gl (.loc 3) 5 (n2.length + 1)] := by simp [Blk.ren, V.ren, backR, Hp.fresh]
                      simp only [List.map_cons, List.map_nil, e1, esE_ren]
                      exact outer_fix (get_out hl []) (by decide) hm5' (by decide)
                  · rename_i x1 x2
                    rw [isE_no x1, decide_eq_false (fun hh => hh.1 x2)] at hE
                    dsimp only [cond_true, cond_false] at hE
                    subst hE
                    have hag : alGet a2 ⟨(i : Int), y, y, was.side, was.since⟩ = none := by
                      have := hk2; rw [hasK_get] at this
                      cases hz : alGet a2 ⟨(i : Int), y, y, was.side, was.since⟩ with
                      | none => rfl
                      | some v => rw [hz] at this; cases this
                    refine VLd.cell rfl rfl (get_setO (by decide) jc _) rfl ?_
                    conv => whnf
                    repeat (first | ((first | refine zs1 ?_ | refine zs2 ?_ | refine zs3 ?_ | refine zs4 ?_ | refine zs5 ?_ | refine zs6 [] ?_); conv => whnf))
                    refine VLook.intro (es := esE a2) ((get_setO (by decide) jm _).trans (by rw [esE_ren])) (look_esE a2 ⟨(i : Int), y, y, was.side, was.since⟩) ?_
                    rw [hag]
                    conv => whnf
                    repeat (first | ((first | refine zs1 ?_ | refine zs2 ?_ | refine zs3 ?_ | refine zs4 ?_ | refine zs5 ?_ | refine zs6 [] ?_); conv => whnf))
                    refine VLd.cell rfl rfl (get_setO (by decide) jc _) rfl ?_
                    conv => whnf
                    repeat (first | ((first | refine zs1 ?_ | refine zs2 ?_ | refine zs3 ?_ | refine zs4 ?_ | refine zs5 ?_ | refine zs6 [] ?_); conv => whnf))
                    refine VMem.newE (a := a2) (e := ⟨(i : Int), y, y, was.side, was.since⟩) (v := was) ((get_setO (by decide) jm _).trans (by rw [esE_ren])) hk2 ?_
                    conv => whnf
                    refine VLd.cell rfl rfl (get_outNe (by decide) (get_setO (by decide) jb _)) rfl ?_
                    conv => whnf
                    repeat (first | ((first | refine zs1 ?_ | refine zs2 ?_ | refine zs3 ?_ | refine zs4 ?_ | refine zs5 ?_ | refine zs6 [] ?_); conv => whnf))
                    refine VMem.app1B (α := End) (l := n2) ⟨(i : Int), y, y, was.side, was.since⟩ encE_len rfl (get_outNe hm1 (get_setO hm5 jl _)) rfl rfl rfl (by omega) ?_
                    conv => whnf
                    repeat (first | ((first | refine zs1 ?_ | refine zs2 ?_ | refine zs3 ?_ | refine zs4 ?_ | refine zs5 ?_ | refine zs6 [] ?_); conv => whnf))
                    refine VMem.st1 rfl rfl rfl (b := .cells true [.gl (.out (.loc m)) 5 n2.length]) (get_outNe hm2 (get_outNe (by decide) (get_setO (by decide) jb _))) rfl ?_
                    conv => whnf
                    refine RFin.on (get_outNe (by decide) (get_outNe hm5' (get_outNe (by decide) (outW_get _ _ _ _)))) ?_
                    refine VOut.upd [(.loc 1, .map (esE (a2 ++ [(⟨(i : Int), y, y, was.side, was.since⟩, was)]))), (.loc m, .dead), (.loc 2, .cells true [.gl g.fresh 5 (n2.length + 1)])] [.flat true ((n2 ++ ([⟨(i : Int), y, y, was.side, was.since⟩] : List End)).flatMap encE)] [3] 4 ?_ (upd_ok jb jm jl) ?_ ?_ ?_ ?_ ?_
                    · rfl
                    · decide
                    · rfl
                    · intro k b hk
                      cases k with
                      | zero => rw [List.getElem?_cons_zero, Option.some.injEq] at hk; subst hk; exact ⟨3, rfl, rfl⟩
                      | succ k => simp at hk
                    · intro σ x hx; exact hx
                    · have e1 : (Blk.cells true [V.gl g.fresh 5 (n2.length + 1)]).ren (backR g.loc.length [3] 4) = .cells true [.gl (.loc 3) 5 (n2.length + 1)] := by simp [Blk.ren, V.ren, backR, Hp.fresh]
                      simp only [List.map_cons, List.map_nil, e1, esE_ren]
                      exact outer_fix (get_out hl []) (by decide) hm5' (by decide)
              · refine ⟨g, g.grows_refl, ⟨jo, jc, jm, ⟨m, hm, jb, jl⟩, jk⟩, hl, fun l => ?_⟩
                refine VRound.tell [(1, .fp (encF f)), (5, .ptr (.out (.loc 0)) 0), (7, .fp [DI i]), (8, .fp (encP p)), (9, .ptr (.out (.loc 2)) 0), (11, .fp (encE was)), (36, I y)] ?_ ?_
                · conv => whnf
                  refine Retell.turn ⟨[], 0, [], []⟩ (TurnOk.mk' _ _ [] [] (OutOk.lift _) rfl (by decide) zb trivial trivial rfl) zv zm
                · conv => whnf
                  refine VBegin.intro (get_out hl _) rfl ?_
                  conv => whnf
                  repeat' (first | ((first | refine zs1 ?_ | refine zs2 ?_ | refine zs3 ?_ | refine zs4 ?_ | refine zs5 ?_ | refine zs6 [] ?_); conv => whnf) | ((first | apply zi1 | apply zi2 | apply zi3 | apply zi4 | apply zi5) <;> intro _ <;> conv => whnf) | (refine VCall.intro (vc_goes f i y was.year _ (by omega) (by omega) (by omega) (by omega)) ?_; conv => whnf))
                  · rename_i x1 x2 x3
                    rw [isE_go x1, decide_eq_true ⟨x2, x3⟩] at hE
                    dsimp only [cond_true, cond_false] at hE
                    subst hE
                    have hag : ∃ v, alGet a2 ⟨(i : Int), y, -1, p.side, y⟩ = some v := by
                      have := hk2; rw [hasK_get] at this
                      cases hz : alGet a2 ⟨(i : Int), y, -1, p.side, y⟩ with
                      | none => rw [hz] at this; cases this
                      | some v => exact ⟨v, rfl⟩
                    obtain ⟨v, hag⟩ := hag
                    refine VLd.cell rfl rfl (get_setO (by decide) jc _) rfl ?_
                    conv => whnf
                    repeat (first | ((first | refine zs1 ?_ | refine zs2 ?_ | refine zs3 ?_ | refine zs4 ?_ | refine zs5 ?_ | refine zs6 [] ?_); conv => whnf))
                    refine VLook.intro (es := esE a2) ((get_setO (by decide) jm _).trans (by rw [esE_ren])) (look_esE a2 ⟨(i : Int), y, -1, p.side, y⟩) ?_
                    rw [hag]
                    conv => whnf
                    repeat (first | ((first | refine zs1 ?_ | refine zs2 ?_ | refine zs3 ?_ | refine zs4 ?_ | refine zs5 ?_ | refine zs6 [] ?_); conv => whnf))
                    refine RFin.on (outW_get _ _ _ _) ?_
                    exact VOut.back (get_out hl []) rfl
                  · rename_i x1 x2 x3
                    rw [isE_go x1, decide_eq_false (fun hh => x3 hh.2)] at hE
                    dsimp only [cond_true, cond_false] at hE
                    subst hE
                    have hag : ∃ v, alGet a2 ⟨(i : Int), y, was.first, was.side, was.since⟩ = some v := by
                      have := hk2; rw [hasK_get] at this
                      cases hz : alGet a2 ⟨(i : Int), y, was.first, was.side, was.since⟩ with
                      | none => rw [hz] at this; cases this
                      | some v => exact ⟨v, rfl⟩
                    obtain ⟨v, hag⟩ := hag
                    refine VLd.cell rfl rfl (get_setO (by decide) jc _) rfl ?_
                    conv => whnf
                    repeat (first | ((first | refine zs1 ?_ | refine zs2 ?_ | refine zs3 ?_ | refine zs4 ?_ | refine zs5 ?_ | refine zs6 [] ?_); conv => whnf))
                    refine VLook.intro (es := esE a2) ((get_setO (by decide) jm _).trans (by rw [esE_ren])) (look_esE a2 ⟨(i : Int), y, was.first, was.side, was.since⟩) ?_
                    rw [hag]
                    conv => whnf
                    repeat (first | ((first | refine zs1 ?_ | refine zs2 ?_ | refine zs3 ?_ | refine zs4 ?_ | refine zs5 ?_ | refine zs6 [] ?_); conv => whnf))
                    refine RFin.on (outW_get _ _ _ _) ?_
                    exact VOut.back (get_out hl []) rfl
                  · rename_i x1 x2
                    rw [isE_go x1, decide_eq_false (fun hh => hh.1 x2)] at hE
                    dsimp only [cond_true, cond_false] at hE
                    subst hE
                    have hag : ∃ v, alGet a2 ⟨(i : Int), y, was.first, was.side, was.since⟩ = some v := by
                      have := hk2; rw [hasK_get] at this
                      cases hz : alGet a2 ⟨(i : Int), y, was.first, was.side, was.since⟩ with
                      | none => rw [hz] at this; cases this
                      | some v => exact ⟨v, rfl⟩
                    obtain ⟨v, hag⟩ := hag
                    refine VLd.cell rfl rfl (get_setO (by decide) jc _) rfl ?_
                    conv => whnf
                    repeat (first | ((first | refine zs1 ?_ | refine zs2 ?_ | refine zs3 ?_ | refine zs4 ?_ | refine zs5 ?_ | refine zs6 [] ?_); conv => whnf))
                    refine VLook.intro (es := esE a2) ((get_setO (by decide) jm _).trans (by rw [esE_ren])) (look_esE a2 ⟨(i : Int), y, was.first, was.side, was.since⟩) ?_
                    rw [hag]
                    conv => whnf
                    repeat (first | ((first | refine zs1 ?_ | refine zs2 ?_ | refine zs3 ?_ | refine zs4 ?_ | refine zs5 ?_ | refine zs6 [] ?_); conv => whnf))
                    refine RFin.on (outW_get _ _ _ _) ?_
                    exact VOut.back (get_out hl []) rfl
                  · rename_i x1 x2 x3
                    rw [isE_no x1, decide_eq_true ⟨x2, x3⟩] at hE
                    dsimp only [cond_true, cond_false] at hE
                    subst hE
                    have hag : ∃ v, alGet a2 ⟨(i : Int), y, -1, p.side, y⟩ = some v := by
                      have := hk2; rw [hasK_get] at this
                      cases hz : alGet a2 ⟨(i : Int), y, -1, p.side, y⟩ with
                      | none => rw [hz] at this; cases this
                      | some v => exact ⟨v, rfl⟩
                    obtain ⟨v, hag⟩ := hag
                    refine VLd.cell rfl rfl (get_setO (by decide) jc _) rfl ?_
                    conv => whnf
                    repeat (first | ((first | refine zs1 ?_ | refine zs2 ?_ | refine zs3 ?_ | refine zs4 ?_ | refine zs5 ?_ | refine zs6 [] ?_); conv => whnf))
                    refine VLook.intro (es := esE a2) ((get_setO (by decide) jm _).trans (by rw [esE_ren])) (look_esE a2 ⟨(i : Int), y, -1, p.side, y⟩) ?_
                    rw [hag]
                    conv => whnf
                    repeat (first | ((first | refine zs1 ?_ | refine zs2 ?_ | refine zs3 ?_ | refine zs4 ?_ | refine zs5 ?_ | refine zs6 [] ?_); conv => whnf))
                    refine RFin.on (outW_get _ _ _ _) ?_
                    exact VOut.back (get_out hl []) rfl
                  · rename_i x1 x2 x3
                    rw [isE_no x1, decide_eq_false (fun hh => x3 hh.2)] at hE
                    dsimp only [cond_true, cond_false] at hE
                    subst hE
                    have hag : ∃ v, alGet a2 ⟨(i : Int), y, y, was.side, was.since⟩ = some v := by
                      have := hk2; rw [hasK_get] at this
                      cases hz : alGet a2 ⟨(i : Int), y, y, was.side, was.since⟩ with
                      | none => rw [hz] at this; cases this
                      | some v => exact ⟨v, rfl⟩
                    obtain ⟨v, hag⟩ := hag
                    refine VLd.cell rfl rfl (get_setO (by decide) jc _) rfl ?_
                    conv => whnf
                    repeat (first | ((first | refine zs1 ?_ | refine zs2 ?_ | refine zs3 ?_ | refine zs4 ?_ | refine zs5 ?_ | refine zs6 [] ?_); conv => whnf))
                    refine VLook.intro (es := esE a2) ((get_setO (by decide) jm _).trans (by rw [esE_ren])) (look_esE a2 ⟨(i : Int), y, y, was.side, was.since⟩) ?_
                    rw [hag]
                    conv => whnf
                    repeat (first | ((first | refine zs1 ?_ | refine zs2 ?_ | refine zs3 ?_ | refine zs4 ?_ | refine zs5 ?_ | refine zs6 [] ?_); conv => whnf))
                    refine RFin.on (outW_get _ _ _ _) ?_
                    exact VOut.back (get_out hl []) rfl
                  · rename_i x1 x2
                    rw [isE_no x1, decide_eq_false (fun hh => hh.1 x2)] at hE
                    dsimp only [cond_true, cond_false] at hE
                    subst hE
                    have hag : ∃ v, alGet a2 ⟨(i : Int), y, y, was.side, was.since⟩ = some v := by
                      have := hk2; rw [hasK_get] at this
                      cases hz : alGet a2 ⟨(i : Int), y, y, was.side, was.since⟩ with
                      | none => rw [hz] at this; cases this
                      | some v => exact ⟨v, rfl⟩
                    obtain ⟨v, hag⟩ := hag
                    refine VLd.cell rfl rfl (get_setO (by decide) jc _) rfl ?_
                    conv => whnf
                    repeat (first | ((first | refine zs1 ?_ | refine zs2 ?_ | refine zs3 ?_ | refine zs4 ?_ | refine zs5 ?_ | refine zs6 [] ?_); conv => whnf))
                    refine VLook.intro (es := esE a2) ((get_setO (by decide) jm _).trans (by rw [esE_ren])) (look_esE a2 ⟨(i : Int), y, y, was.side, was.since⟩) ?_
                    rw [hag]
                    conv => whnf
                    repeat (first | ((first | refine zs1 ?_ | refine zs2 ?_ | refine zs3 ?_ | refine zs4 ?_ | refine zs5 ?_ | refine zs6 [] ?_); conv => whnf))
                    refine RFin.on (outW_get _ _ _ _) ?_
                    exact VOut.back (get_out hl []) rfl
            · intro g hJ hl
              have hgk := GI.gYs (was := was) (f := f) hgi p1 ⟨w1, w2, w3, w4⟩ p2 p3 p5 (p.hi - p.lo + 1).toNat (Nat.le_refl _)
              have e : gYs f i p was (a1, nx) (p.hi - p.lo + 1).toNat = gW f i p (a1, nx) was := rfl
              rw [e] at hJ hgk
              generalize gW f i p (a1, nx) was = s at hJ hgk hWj
              obtain ⟨a2, n2⟩ := s
              obtain ⟨go, gl⟩ := g
              obtain ⟨jo, jc, jm, ⟨m, hm, jb, jl⟩, jk⟩ := hJ
              dsimp only at jo jb jl jm
              subst jo
              simp only [Hp.get] at jc jm jb jl jk
              have l0 := (List.getElem?_eq_some_iff.1 jc).1
              have l1 := (List.getElem?_eq_some_iff.1 jm).1
              have l2 := (List.getElem?_eq_some_iff.1 jb).1
              have lm := (List.getElem?_eq_some_iff.1 jl).1
              have key : ∀ (x : Nat) (A : Blk), x ≠ 5 → (gl.set 5 A)[x]? = gl[x]? := fun x A hx => List.getElem?_set_ne (Ne.symm hx)
              conv => whnf
              repeat (first | ((first | refine zs1 ?_ | refine zs2 ?_ | refine zs3 ?_ | refine zs4 ?_ | refine zs5 ?_ | refine zs6 [] ?_); conv => whnf))
              refine LEnd.intro (j + 1, a2, n2) ⟨by dsimp only; omega, hWj, hgk⟩ (by dsimp only; omega) ?_
              conv => whnf
              have hmn : ([0, 1, 2, m] : List Nat).Nodup := by simp; omega
              have hm4 : 4 ∉ ([0, 1, 2, m] : List Nat) := by simp; omega
              refine Retell.turn ⟨[0, 1, 2, m], gl.length, [], []⟩ (TurnOk.mk' _ _ [] [] (OutOk.lift _) (Nat.ble_eq_true_of_le (by simp)) hmn
                (BTos.cells (blt_of l0) ((key 0 _ (by omega)).trans jc) rfl zv (BTos.esE (blt_of l1) ((key 1 _ (by omega)).trans jm) (BTos.cells (blt_of l2) ((key 2 _ (by omega)).trans jb) rfl zv (BTos.flat (blt_of lm) ((key m _ (by omega)).trans jl) rfl BTos.nil)))) trivial trivial rfl) zv
                (MkTo.drop hm4 ((key 4 _ (by omega)).trans jk) MkTo.nil)
        · have hje : j = now.length := by omega
          subst hje
          rw [List.drop_of_length_le (Nat.le_refl _), List.foldl_nil] at hWj
          subst hWj
          conv => whnf
          repeat (first | ((first | refine zs1 ?_ | refine zs2 ?_ | refine zs3 ?_ | refine zs4 ?_ | refine zs5 ?_ | refine zs6 [] ?_); conv => whnf))
          refine LEnd.intro (i + 1, a1, nx) ⟨by dsimp only; omega, hRi, hgi.ok, hgi.len⟩ (by dsimp only; omega) ?_
          conv => whnf
          refine Retell.turn ⟨[0,1], 4, [(3, nx.flatMap encE)], []⟩ (TurnOk.mk' _ _ [(3, nx.flatMap encE)] [] (OutOk.lift _) rfl (by decide) zb zf trivial rfl) zv zm
    · have hie : i = f.ps.length := by dsimp only at h3; omega
      subst hie
      rw [List.drop_of_length_le (Nat.le_refl _), gP] at hRi
      subst hRi
      conv => whnf
      repeat (first | ((first | refine zs1 ?_ | refine zs2 ?_ | refine zs3 ?_ | refine zs4 ?_ | refine zs5 ?_ | refine zs6 [] ?_); conv => whnf))
      refine VOut.data 2 [] [(1, keysE a, valsE a)] rfl FzAll.nil ⟨⟨esE a, rfl, EsTo.esE a⟩, trivial⟩ zv
end Go.Proofs.YtdblcfkmijigbaaGreat.Sl

open Go.Vm
namespace Go.Proofs.YtdblcfkmijigbaaGreat.Sl
set_option maxRecDepth 20000
set_option maxHeartbeats 2000000

def isG (f : Fil) (x : Int) : Bool := (gone f).2.any fun e => decide (e.side = x)
def osG (f : Fil) : List Int := selS (fun k => isG f k) 3
theorem foldl_inv {α β : Type} {P : β → Prop} {g : β → α → β} : ∀ {l : List α} {s : β}, P s → (∀ s a, a ∈ l → P s → P (g s a)) → P (l.foldl g s)
  | [], _, h, _ => h
  | a :: l, s, h, hg => foldl_inv (l := l) (hg s a (by simp) h) fun s b hb hs => hg s b (by simp [hb]) hs
theorem gP_inv {f : Fil} : ∀ (ps : List Pap) (i : Nat) (s : AL × List End), (∀ p ∈ ps, POk p) → (∀ e ∈ s.2, EOk e) → s.2.length ≤ 108108024 → (∀ e ∈ (gP f ps i s).2, EOk e) ∧ (gP f ps i s).2.length ≤ 108108024
  | [], _, _, _, h, hl => ⟨h, hl⟩
  | p :: r, i, s, hp, h, _ => by
    rw [gP]
    have hpk := hp p (by simp)
    have key : GI i p (s.2.foldl (gW f i p) (s.1, [])) := by
      refine foldl_inv (P := GI i p) (by constructor <;> simp) fun s' was hw hs => ?_
      exact GI.gYs hs hpk.side (h was hw) hpk.lo hpk.hi hpk.near _ (Nat.le_refl _)
    exact gP_inv r (i + 1) _ (fun q hq => hp q (by simp [hq])) key.ok key.len
theorem gone_inv {f : Fil} (h : chk f = 0) : (∀ e ∈ (gone f).2, EOk e) ∧ (gone f).2.length ≤ 108108024 :=
  gP_inv f.ps 0 _ (chk_pok h) (by simp [EOk.beg]) (by simp)
theorem vc_Owners_ok (f : Fil) (h : Hp) (h0 : chk f = 0) : VC Tryz.prog 26 [vF f] h (.tuple [ints (osG f), I 0]) h := by
  have hn := (chk_zero h0).2.2.1
  have hS : ∀ h, VC Tryz.prog 30 [vF f] h (I 0) h := fun h => h0 ▸ vc_check f h (by omega)
  have hG := fun h => vc_gone f h h0
  obtain ⟨hok, hlen⟩ := gone_inv h0
  have hio : ∀ x, isG f x = (gone f).2.any fun e => decide (e.side = x) := fun x => rfl
  unfold osG vGone at *
  obtain ⟨q, hq⟩ : ∃ q : Int → Bool, q = isG f := ⟨_, rfl⟩
  rw [← hq] at hio ⊢
  generalize gone f = G at hG hok hlen hio
  obtain ⟨ga, L⟩ := G
  dsimp only at hG hok hlen hio
  refine VC.body Tryz.func26 rfl Tryz.ntmps26 Tryz.call26 (h.grows_refl) rfl ?_; conv => whnf
  repeat' (first | ((first | refine zs1 ?_ | refine zs2 ?_ | refine zs3 ?_ | refine zs4 ?_ | refine zs5 ?_ | refine zs6 [] ?_); conv => whnf) | ((first | apply zi1 | apply zi2 | apply zi3 | apply zi4 | apply zi5) <;> intro _ <;> conv => whnf) | (refine VCall.intro (hS _) ?_; conv => whnf) | (refine VCall.intro (hG _) ?_; conv => whnf))
  refine VCode.lp (fun x : Nat × Bool × Bool × Bool => [(1, .ptr (.loc 0) 0), (5, .ptr (.loc 1) 0), (22, ends L), (23, I L.length), (24, I x.1)]) (fun x => [.flat true (encF f), .flat true [DB x.2.1, DB x.2.2.1, DB x.2.2.2]])
    (fun x => x.1 ≤ L.length ∧ q 0 = (x.2.1 || (L.drop x.1).any fun e => decide (e.side = 0)) ∧ q 1 = (x.2.2.1 || (L.drop x.1).any fun e => decide (e.side = 1)) ∧ q 2 = (x.2.2.2 || (L.drop x.1).any fun e => decide (e.side = 2))) (fun x => L.length - x.1) (0, false, false, false) ⟨Nat.zero_le _, hio 0, hio 1, hio 2⟩ ?_ ?_
  · conv => whnf
    refine Retell.turn ⟨[0,1], 2, [], []⟩ (TurnOk.mk' _ _ [] [] (OutOk.lift _) rfl (by decide) zb trivial trivial rfl) zv zm
  · rintro ⟨j, b0, b1, b2⟩ ⟨g1, g2, g3, g4⟩
    dsimp only at g1 g2 g3 g4
    conv => whnf
    refine VIte.dec (fun h3 => ?_) (fun h3 => ?_)
    · have hx : L[j]? = some L[j] := List.getElem?_eq_getElem (by omega)
      have hox := hok L[j] (List.getElem_mem (by omega))
      generalize L[j] = e at hx hox
      rw [any_drop hx] at g2 g3 g4
      obtain ⟨ei, ey, ef, es, en⟩ := e
      have hs := hox.side
      dsimp only at hs g2 g3 g4
      have : es = 0 ∨ es = 1 ∨ es = 2 := by omega
      rcases this with rfl | rfl | rfl
      · conv => whnf
        repeat' (first | ((first | refine zs1 ?_ | refine zs2 ?_ | refine zs3 ?_ | refine zs4 ?_ | refine zs5 ?_ | refine zs6 [] ?_); conv => whnf) | ((first | apply zi1 | apply zi2 | apply zi3 | apply zi4 | apply zi5) <;> intro _ <;> conv => whnf) | (refine VAny.ix encE_len j rfl rfl hx ?_; conv => whnf))
        refine LEnd.intro (j + 1, true, b1, b2) ⟨by dsimp only; omega, by rw [g2]; simp, by rw [g3]; simp, by rw [g4]; simp⟩ (by dsimp only; omega) ?_
        conv => whnf
        refine Retell.turn ⟨[0,1], 3, [], []⟩ (TurnOk.mk' _ _ [] [] (OutOk.lift _) rfl (by decide) zb trivial trivial rfl) zv zm
      · conv => whnf
        repeat' (first | ((first | refine zs1 ?_ | refine zs2 ?_ | refine zs3 ?_ | refine zs4 ?_ | refine zs5 ?_ | refine zs6 [] ?_); conv => whnf) | ((first | apply zi1 | apply zi2 | apply zi3 | apply zi4 | apply zi5) <;> intro _ <;> conv => whnf) | (refine VAny.ix encE_len j rfl rfl hx ?_; conv => whnf))
        refine LEnd.intro (j + 1, b0, true, b2) ⟨by dsimp only; omega, by rw [g2]; simp, by rw [g3]; simp, by rw [g4]; simp⟩ (by dsimp only; omega) ?_
        conv => whnf
        refine Retell.turn ⟨[0,1], 3, [], []⟩ (TurnOk.mk' _ _ [] [] (OutOk.lift _) rfl (by decide) zb trivial trivial rfl) zv zm
      · conv => whnf
        repeat' (first | ((first | refine zs1 ?_ | refine zs2 ?_ | refine zs3 ?_ | refine zs4 ?_ | refine zs5 ?_ | refine zs6 [] ?_); conv => whnf) | ((first | apply zi1 | apply zi2 | apply zi3 | apply zi4 | apply zi5) <;> intro _ <;> conv => whnf) | (refine VAny.ix encE_len j rfl rfl hx ?_; conv => whnf))
        refine LEnd.intro (j + 1, b0, b1, true) ⟨by dsimp only; omega, by rw [g2]; simp, by rw [g3]; simp, by rw [g4]; simp⟩ (by dsimp only; omega) ?_
        conv => whnf
        refine Retell.turn ⟨[0,1], 3, [], []⟩ (TurnOk.mk' _ _ [] [] (OutOk.lift _) rfl (by decide) zb trivial trivial rfl) zv zm
    · rw [List.drop_of_length_le (by dsimp only at h3; omega), List.any_nil, Bool.or_false] at g2 g3 g4
      rw [← g2, ← g3, ← g4]
      conv => whnf
      repeat (first | ((first | refine zs1 ?_ | refine zs2 ?_ | refine zs3 ?_ | refine zs4 ?_ | refine zs5 ?_ | refine zs6 [] ?_); conv => whnf))
      refine VCode.lp (fun k : Nat => [(5, .ptr (.loc 0) 0), (10, .gl (.loc 1) 1 (selS (fun k => q k) k).length), (32, I k)]) (fun k => [.flat true [DB (q 0), DB (q 1), DB (q 2)], .flat true ((selS (fun k => q k) k).flatMap Vm.encI)]) (fun k => k ≤ 3) (fun k => 3 - k) 0 (Nat.zero_le _) ?_ ?_
      · conv => whnf
        refine Retell.turn ⟨[1,2], 2, [], []⟩ (TurnOk.mk' _ _ [] [] (OutOk.lift _) rfl (by decide) zb trivial trivial rfl) zv zm
      · intro k hk
        have hsl := selS_len (fun k => q k) k
        conv => whnf
        refine VIte.dec (fun h3 => ?_) (fun h3 => ?_)
        · have : k = 0 ∨ k = 1 ∨ k = 2 := by omega
          have hs1 : selS (fun k => q k) (k + 1) = if q k then selS (fun k => q k) k ++ [(k : Int)] else selS (fun k => q k) k := rfl
          rcases this with rfl | rfl | rfl
          · have hs2 : q 0 = q ((0 : Nat) : Int) := rfl
            conv => whnf
            repeat' (first | ((first | refine zs1 ?_ | refine zs2 ?_ | refine zs3 ?_ | refine zs4 ?_ | refine zs5 ?_ | refine zs6 [] ?_); conv => whnf) | ((first | apply zi1 | apply zi2 | apply zi3 | apply zi4 | apply zi5) <;> intro _ <;> conv => whnf))
            · rename_i hq1
              refine VMem.app1 ((0 : Nat) : Int) encI_len rfl rfl rfl rfl rfl (by omega) ?_
              conv => whnf
              repeat (first | ((first | refine zs1 ?_ | refine zs2 ?_ | refine zs3 ?_ | refine zs4 ?_ | refine zs5 ?_ | refine zs6 [] ?_); conv => whnf))
              refine LEnd.intro (0 + 1) (by omega) (by omega) ?_
              conv => whnf
              rw [hs1, ← hs2, if_pos hq1, List.length_append]
              refine Retell.turn ⟨[0,3], 4, [], []⟩ (TurnOk.mk' _ _ [] [] (OutOk.lift _) rfl (by decide) zb trivial trivial rfl) zv zm
            · rename_i hq1
              refine LEnd.intro (0 + 1) (by omega) (by omega) ?_
              conv => whnf
              rw [hs1, ← hs2, if_neg (by simpa using hq1)]
              refine Retell.turn ⟨[0,1], 2, [], []⟩ (TurnOk.mk' _ _ [] [] (OutOk.lift _) rfl (by decide) zb trivial trivial rfl) zv zm
          · have hs2 : q 1 = q ((1 : Nat) : Int) := rfl
            conv => whnf
            repeat' (first | ((first | refine zs1 ?_ | refine zs2 ?_ | refine zs3 ?_ | refine zs4 ?_ | refine zs5 ?_ | refine zs6 [] ?_); conv => whnf) | ((first | apply zi1 | apply zi2 | apply zi3 | apply zi4 | apply zi5) <;> intro _ <;> conv => whnf))
            · rename_i hq1
              refine VMem.app1 ((1 : Nat) : Int) encI_len rfl rfl rfl rfl rfl (by omega) ?_
              conv => whnf
              repeat (first | ((first | refine zs1 ?_ | refine zs2 ?_ | refine zs3 ?_ | refine zs4 ?_ | refine zs5 ?_ | refine zs6 [] ?_); conv => whnf))
              refine LEnd.intro (1 + 1) (by omega) (by omega) ?_
              conv => whnf
              rw [hs1, ← hs2, if_pos hq1, List.length_append]
              refine Retell.turn ⟨[0,3], 4, [], []⟩ (TurnOk.mk' _ _ [] [] (OutOk.lift _) rfl (by decide) zb trivial trivial rfl) zv zm
            · rename_i hq1
              refine LEnd.intro (1 + 1) (by omega) (by omega) ?_
              conv => whnf
              rw [hs1, ← hs2, if_neg (by simpa using hq1)]
              refine Retell.turn ⟨[0,1], 2, [], []⟩ (TurnOk.mk' _ _ [] [] (OutOk.lift _) rfl (by decide) zb trivial trivial rfl) zv zm
          · have hs2 : q 2 = q ((2 : Nat) : Int) := rfl
            conv => whnf
            repeat' (first | ((first | refine zs1 ?_ | refine zs2 ?_ | refine zs3 ?_ | refine zs4 ?_ | refine zs5 ?_ | refine zs6 [] ?_); conv => whnf) | ((first | apply zi1 | apply zi2 | apply zi3 | apply zi4 | apply zi5) <;> intro _ <;> conv => whnf))
            · rename_i hq1
              refine VMem.app1 ((2 : Nat) : Int) encI_len rfl rfl rfl rfl rfl (by omega) ?_
              conv => whnf
              repeat (first | ((first | refine zs1 ?_ | refine zs2 ?_ | refine zs3 ?_ | refine zs4 ?_ | refine zs5 ?_ | refine zs6 [] ?_); conv => whnf))
              refine LEnd.intro (2 + 1) (by omega) (by omega) ?_
              conv => whnf
              rw [hs1, ← hs2, if_pos hq1, List.length_append]
              refine Retell.turn ⟨[0,3], 4, [], []⟩ (TurnOk.mk' _ _ [] [] (OutOk.lift _) rfl (by decide) zb trivial trivial rfl) zv zm
            · rename_i hq1
              refine LEnd.intro (2 + 1) (by omega) (by omega) ?_
              conv => whnf
              rw [hs1, ← hs2, if_neg (by simpa using hq1)]
              refine Retell.turn ⟨[0,1], 2, [], []⟩ (TurnOk.mk' _ _ [] [] (OutOk.lift _) rfl (by decide) zb trivial trivial rfl) zv zm
        · conv => whnf
          have hk' : k = 3 := by omega
          subst hk'
          repeat (first | ((first | refine zs1 ?_ | refine zs2 ?_ | refine zs3 ?_ | refine zs4 ?_ | refine zs5 ?_ | refine zs6 [] ?_); conv => whnf))
          refine VOut.data 2 [(1, (selS (fun k => q k) 3).flatMap Vm.encI)] [] rfl zf (by exact FmAll.nil) zv
end Go.Proofs.YtdblcfkmijigbaaGreat.Sl

open Go.Vm
namespace Go.Proofs.YtdblcfkmijigbaaGreat.Sl
set_option maxRecDepth 20000
set_option maxHeartbeats 1000000

/-! ### What gone finds are the ends of truths -/

theorem isE_goes {f : Fil} {i : Nat} {p : Pap} {was : End} {y : Int} (h : 0 < i ∧ sdAt f i = sdAt f (i - 1) ∧ y - was.year ≤ f.G) :
    isE f i p was y = bif decide (¬ was.first = -1 ∧ f.Y ≤ y - was.first) then ⟨i, y, -1, p.side, y⟩ else ⟨i, y, was.first, was.side, was.since⟩ := by
  unfold isE goesB
  rw [decide_eq_true h]; rfl
theorem isE_new {f : Fil} {i : Nat} {p : Pap} {was : End} {y : Int} (h : ¬ (0 < i ∧ sdAt f i = sdAt f (i - 1) ∧ y - was.year ≤ f.G)) :
    isE f i p was y = bif decide (¬ y = -1 ∧ f.Y ≤ y - y) then ⟨i, y, -1, p.side, y⟩ else ⟨i, y, y, was.side, was.since⟩ := by
  unfold isE goesB
  rw [decide_eq_false h]; rfl
def stOf (f : Fil) (t : List Int) : Nat → End
  | 0 => beg
  | k + 1 => match f.ps[k]? with
    | some p => isE f k p (stOf f t k) (tAt t k)
    | none => stOf f t k
theorem stOf_congr {f : Fil} {t u : List Int} : ∀ {k : Nat}, (∀ j, j < k → tAt t j = tAt u j) → stOf f t k = stOf f u k
  | 0, _ => rfl
  | k + 1, h => by
    rw [stOf, stOf, stOf_congr (fun j hj => h j (by omega)), h k (by omega)]
def goneK (f : Fil) : Nat → AL × List End
  | 0 => ([], [beg])
  | k + 1 => match f.ps[k]? with
    | some p => (goneK f k).2.foldl (gW f k p) ((goneK f k).1, [])
    | none => goneK f k
theorem goneK_gP (f : Fil) : ∀ k, k ≤ f.ps.length → gP f (f.ps.drop k) k (goneK f k) = gone f
  | 0, _ => rfl
  | k + 1, hk => by
    have hp : f.ps[k]? = some f.ps[k] := List.getElem?_eq_getElem (by omega)
    rw [← goneK_gP f k (by omega), gP_at hp, goneK, hp]
theorem gone_eq (f : Fil) : gone f = goneK f f.ps.length := by
  have := goneK_gP f f.ps.length (Nat.le_refl _)
  rw [List.drop_of_length_le (Nat.le_refl _), gP] at this
  exact this.symm
structure PInv (f : Fil) (k : Nat) (p : Pap) (a0 : AL) (s : AL × List End) (done : List (End × Int)) : Prop where
  mem : ∀ e, e ∈ s.2 ↔ ∃ w y, (w, y) ∈ done ∧ e = isE f k p w y
  al : ∀ x ∈ s.1, x ∈ a0 ∨ (x.1.i = k ∧ ∃ y, (x.2, y) ∈ done ∧ x.1 = isE f k p x.2 y)
  old : ∀ x ∈ a0, x ∈ s.1
  key : ∀ e, hasK s.1 e = true → e.i = k → e ∈ s.2
  has : ∀ e ∈ s.2, hasK s.1 e = true
theorem isE_i (f : Fil) (k : Nat) (p : Pap) (w : End) (y : Int) : (isE f k p w y).i = k := by
  unfold isE
  cases decide (¬ (bif goesB f k y w.year then w.first else y) = -1 ∧ f.Y ≤ y - (bif goesB f k y w.year then w.first else y)) <;> rfl
theorem isE_year (f : Fil) (k : Nat) (p : Pap) (w : End) (y : Int) : (isE f k p w y).year = y := by
  unfold isE
  cases decide (¬ (bif goesB f k y w.year then w.first else y) = -1 ∧ f.Y ≤ y - (bif goesB f k y w.year then w.first else y)) <;> rfl
theorem hasK_iff {a : AL} {e : End} : hasK a e = true ↔ ∃ x ∈ a, x.1 = e := by simp [hasK]
theorem PInv.gY {f : Fil} {k : Nat} {p : Pap} {a0 : AL} {s : AL × List End} {done : List (End × Int)} (h : PInv f k p a0 s done) (w : End) (y : Int) : PInv f k p a0 (gY f k p w s y) (done ++ [(w, y)]) := by
  have hi := isE_i f k p w y
  unfold YtdblcfkmijigbaaGreat.Sl.gY
  obtain ⟨E, hE⟩ : ∃ E, E = isE f k p w y := ⟨_, rfl⟩
  rw [← hE] at hi ⊢
  cases hk : hasK s.1 E
  · refine ⟨fun e => ?_, fun x hx => ?_, fun x hx => ?_, fun e he hi2 => ?_, fun e he => ?_⟩
    · simp only [cond_false, List.mem_append, List.mem_singleton, Prod.mk.injEq]
      rw [h.mem]
      constructor
      · rintro (⟨w', y', h1, h2⟩ | rfl)
        · exact ⟨w', y', .inl h1, h2⟩
        · exact ⟨w, y, .inr ⟨rfl, rfl⟩, hE⟩
      · rintro ⟨w', y', h1 | ⟨rfl, rfl⟩, h2⟩
        · exact .inl ⟨w', y', h1, h2⟩
        · exact .inr (h2.trans hE.symm)
    · simp only [cond_false, List.mem_append, List.mem_singleton] at hx
      rcases hx with hx | rfl
      · rcases h.al x hx with h1 | ⟨h1, y', h2, h3⟩
        · exact .inl h1
        · exact .inr ⟨h1, y', by simp [h2], h3⟩
      · exact .inr ⟨hi, y, by simp, hE⟩
    · simp only [cond_false, List.mem_append]
      exact .inl (h.old x hx)
    · simp only [cond_false] at he ⊢
      rw [hasK_snoc, Bool.or_eq_true, decide_eq_true_eq] at he
      rcases he with he | rfl
      · exact List.mem_append_left _ (h.key e he hi2)
      · simp
    · simp only [cond_false, List.mem_append, List.mem_singleton] at he ⊢
      rw [hasK_snoc]
      rcases he with he | rfl
      · rw [h.has e he]; rfl
      · simp
  · simp only [cond_true]
    refine ⟨fun e => ?_, fun x hx => ?_, h.old, h.key, h.has⟩
    · rw [h.mem]
      constructor
      · rintro ⟨w', y', h1, h2⟩
        exact ⟨w', y', by simp [h1], h2⟩
      · rintro ⟨w', y', h1, h2⟩
        simp only [List.mem_append, List.mem_singleton, Prod.mk.injEq] at h1
        rcases h1 with h1 | ⟨rfl, rfl⟩
        · exact ⟨w', y', h1, h2⟩
        · rw [← hE] at h2
          exact (h.mem e).1 (by rw [h2]; exact h.key E hk hi)
    · rcases h.al x hx with h1 | ⟨h1, y', h2, h3⟩
      · exact .inl h1
      · exact .inr ⟨h1, y', by simp [h2], h3⟩
def prs (p : Pap) (w : End) (m : Nat) : List (End × Int) := (List.range m).map fun j : Nat => (w, p.lo + (j : Int))
theorem PInv.gYs {f : Fil} {k : Nat} {p : Pap} {a0 : AL} {s : AL × List End} {done : List (End × Int)} (h : PInv f k p a0 s done) (w : End) : ∀ m, PInv f k p a0 (gYs f k p w s m) (done ++ prs p w m)
  | 0 => by simpa [prs, YtdblcfkmijigbaaGreat.Sl.gYs] using h
  | m + 1 => by
    have := (PInv.gYs h w m).gY w (p.lo + m)
    have e : prs p w (m + 1) = prs p w m ++ [(w, p.lo + (m : Int))] := by simp [prs, List.range_succ]
    rw [e, ← List.append_assoc]
    exact this
theorem PInv.fold {f : Fil} {k : Nat} {p : Pap} {a0 : AL} : ∀ (l : List End) {s : AL × List End} {done : List (End × Int)}, PInv f k p a0 s done → PInv f k p a0 (l.foldl (gW f k p) s) (done ++ l.flatMap fun w => prs p w (p.hi - p.lo + 1).toNat)
  | [], _, _, h => by simpa using h
  | w :: l, s, done, h => by
    rw [List.foldl_cons, List.flatMap_cons, ← List.append_assoc]
    exact PInv.fold l (h.gYs w _)
theorem mem_prs {p : Pap} {w : End} {v : End} {y : Int} : (v, y) ∈ prs p w (p.hi - p.lo + 1).toNat ↔ v = w ∧ p.lo ≤ y ∧ y ≤ p.hi := by
  unfold prs
  simp only [List.mem_map, List.mem_range, Prod.mk.injEq]
  constructor
  · rintro ⟨j, h1, rfl, rfl⟩; exact ⟨rfl, by omega, by omega⟩
  · rintro ⟨rfl, h1, h2⟩; exact ⟨(y - p.lo).toNat, by omega, rfl, by omega⟩
structure KInv (f : Fil) (k : Nat) : Prop where
  out : ∀ e ∈ (goneK f k).2, ∃ t ∈ tru (f.ps.take k), stOf f t k = e
  into : ∀ t ∈ tru (f.ps.take k), stOf f t k ∈ (goneK f k).2
  al : ∀ x ∈ (goneK f k).1, ∃ (j : Nat) (p : Pap) (y : Int), j < k ∧ f.ps[j]? = some p ∧ p.lo ≤ y ∧ y ≤ p.hi ∧ x.1 = isE f j p x.2 y ∧ x.2 ∈ (goneK f j).2
  has : ∀ j, 0 < j → j ≤ k → ∀ e ∈ (goneK f j).2, hasK (goneK f k).1 e = true
theorem tru_lenK {f : Fil} {k : Nat} {t : List Int} (hk : k ≤ f.ps.length) (ht : t ∈ tru (f.ps.take k)) : t.length = k := by
  have := (mem_tru.1 ht).1
  rw [this, List.length_take]; omega
theorem tAt_app {t : List Int} {y : Int} {j : Nat} (h : j < t.length) : tAt (t ++ [y]) j = tAt t j := by
  simp [tAt, List.getD_eq_getElem?_getD, List.getElem?_append_left h]
theorem tAt_end {t : List Int} {y : Int} : tAt (t ++ [y]) t.length = y := by simp [tAt]
theorem kinv (f : Fil) : ∀ k, k ≤ f.ps.length → KInv f k
  | 0, _ => by
    have ht : tru (f.ps.take 0) = [[]] := rfl
    refine ⟨fun e he => ?_, fun t ht2 => ?_, fun x hx => ?_, fun j h1 h2 => by omega⟩
    · simp only [goneK, List.mem_singleton] at he
      exact ⟨[], by rw [ht]; simp, he.symm⟩
    · simp [goneK, stOf]
    · simp [goneK] at hx
  | k + 1, hk => by
    have ih := kinv f k (by omega)
    have hp : f.ps[k]? = some f.ps[k] := List.getElem?_eq_getElem (by omega)
    generalize f.ps[k] = p at hp
    have hg : goneK f (k + 1) = (goneK f k).2.foldl (gW f k p) ((goneK f k).1, []) := by rw [goneK, hp]
    have hi0 : ∀ x ∈ (goneK f k).1, x.1.i ≠ k := by
      intro x hx h0
      obtain ⟨j, q, y, h1, _, _, _, h2, _⟩ := ih.al x hx
      have := isE_i f j q x.2 y
      rw [← h2] at this
      omega
    have P0 : PInv f k p (goneK f k).1 ((goneK f k).1, []) [] := by
      refine ⟨fun e => by simp, fun x hx => .inl hx, fun x hx => hx, fun e he hi => ?_, fun e he => by simp at he⟩
      obtain ⟨x, hx, rfl⟩ := hasK_iff.1 he
      exact absurd hi (hi0 x hx)
    have P := PInv.fold (goneK f k).2 P0
    rw [← hg, List.nil_append] at P
    have hmem : ∀ v y, (v, y) ∈ ((goneK f k).2.flatMap fun w => prs p w (p.hi - p.lo + 1).toNat) ↔ v ∈ (goneK f k).2 ∧ p.lo ≤ y ∧ y ≤ p.hi := by
      intro v y
      rw [List.mem_flatMap]
      constructor
      · rintro ⟨w, h1, h2⟩; obtain ⟨rfl, h3⟩ := mem_prs.1 h2; exact ⟨h1, h3⟩
      · rintro ⟨h1, h2⟩; exact ⟨v, h1, mem_prs.2 ⟨rfl, h2⟩⟩
    have hst : ∀ t ∈ tru (f.ps.take k), ∀ y, stOf f (t ++ [y]) (k + 1) = isE f k p (stOf f t k) y := by
      intro t ht y
      have hl := tru_lenK (by omega) ht
      rw [stOf, hp]
      simp only
      rw [stOf_congr (u := t) (fun j hj => tAt_app (by omega))]
      congr 1
      rw [← hl]; exact tAt_end
    refine ⟨fun e he => ?_, fun t ht => ?_, fun x hx => ?_, fun j h1 h2 e he => ?_⟩
    · obtain ⟨w, y, h1, h2⟩ := (P.mem e).1 he
      obtain ⟨h3, h4, h5⟩ := (hmem w y).1 h1
      obtain ⟨t, ht, hte⟩ := ih.out w h3
      refine ⟨t ++ [y], ?_, by rw [hst t ht, hte, h2]⟩
      rw [tru_snoc hp]
      unfold ext1 yrs
      rw [List.mem_flatMap]
      refine ⟨t, ht, ?_⟩
      rw [List.mem_map]
      exact ⟨y, by rw [List.mem_map]; exact ⟨(y - p.lo).toNat, by rw [List.mem_range]; omega, by omega⟩, rfl⟩
    · rw [tru_snoc hp] at ht
      unfold ext1 yrs at ht
      rw [List.mem_flatMap] at ht
      obtain ⟨t0, ht0, ht⟩ := ht
      rw [List.mem_map] at ht
      obtain ⟨y, hy, rfl⟩ := ht
      rw [List.mem_map] at hy
      obtain ⟨m, hm, rfl⟩ := hy
      rw [List.mem_range] at hm
      rw [P.mem]
      exact ⟨stOf f t0 k, _, (hmem _ _).2 ⟨ih.into t0 ht0, by omega, by omega⟩, hst t0 ht0 _⟩
    · rcases P.al x hx with h1 | ⟨h1, y, h2, h3⟩
      · obtain ⟨j, q, y, g1, g2⟩ := ih.al x h1
        exact ⟨j, q, y, by omega, g2⟩
      · obtain ⟨h4, h5, h6⟩ := (hmem _ _).1 h2
        exact ⟨k, p, y, by omega, hp, h5, h6, h3, h4⟩
    · by_cases hj : j = k + 1
      · subst hj; exact P.has e he
      · obtain ⟨x, hx, hxe⟩ := hasK_iff.1 (ih.has j h1 (by omega) e he)
        exact hasK_iff.2 ⟨x, P.old x hx, hxe⟩
theorem stOf_spec {f : Fil} {t : List Int} (o : Okt f t) : ∀ k, k + 1 ≤ t.length → stOf f t (k + 1) = ⟨k, tAt t k, if f.Y ≤ tAt t k - tAt t (fst f t k) then -1 else tAt t (fst f t k), (ownS f t (k + 1)).1, (ownS f t (k + 1)).2⟩ := by
  have hY := o.y
  have hlen := o.len
  intro k
  induction k with
  | zero =>
    intro hk
    have hp : f.ps[0]? = some f.ps[0] := List.getElem?_eq_getElem (by omega)
    have hpos : 0 ≤ tAt t 0 := by
      have hy : t[0]? = some t[0] := List.getElem?_eq_getElem (by omega)
      rw [tAt_eq hy]; exact (o.yr hy).1
    rw [stOf, hp]
    simp only [stOf]
    have ha : arB f t 0 = false := by unfold arB; rw [fst]; exact decide_eq_false (by omega)
    have hf0 : fst f t 0 = 0 := rfl
    have ho : ownS f t (0 + 1) = if arB f t 0 then (sdAt f 0, tAt t 0) else (2, 0) := rfl
    rw [ho, ha, isE_new (by omega), decide_eq_false (by omega), hf0, if_neg (show ¬ f.Y ≤ tAt t 0 - tAt t 0 by omega)]
    rfl
  | succ k ih =>
    intro hk
    have ih := ih (by omega)
    have hp : f.ps[k + 1]? = some f.ps[k + 1] := List.getElem?_eq_getElem (by omega)
    have hsd := sdAt_eq hp
    have hpos : 0 ≤ tAt t (k + 1) := by
      have hy : t[k + 1]? = some t[k + 1] := List.getElem?_eq_getElem (by omega)
      rw [tAt_eq hy]; exact (o.yr hy).1
    have hpos2 : ∀ j, j ≤ k → 0 ≤ tAt t j := by
      intro j hj
      have hy : t[j]? = some t[j] := List.getElem?_eq_getElem (by omega)
      rw [tAt_eq hy]; exact (o.yr hy).1
    have hlt := o.mono (a := k) (b := k + 1) (by omega) (by omega)
    have hfl := fst_le f t k
    rw [stOf, hp]
    simp only
    generalize f.ps[k + 1] = p at hp hsd
    have ho : ownS f t (k + 1 + 1) = if arB f t (k + 1) then (sdAt f (k + 1), tAt t (k + 1)) else ownS f t (k + 1) := rfl
    rw [ih, ho]
    by_cases hb : bgB f t (k + 1) = true
    · have hb2 : ¬ (0 < k + 1 ∧ sdAt f (k + 1) = sdAt f (k + 1 - 1) ∧ tAt t (k + 1) - tAt t k ≤ f.G) := by
        unfold bgB at hb
        rw [decide_eq_true_eq] at hb
        simp only [Nat.add_sub_cancel] at hb ⊢
        omega
      have hf : fst f t (k + 1) = k + 1 := by rw [fst, if_pos hb]
      have ha : arB f t (k + 1) = false := by unfold arB; rw [hf]; exact decide_eq_false (by omega)
      rw [isE_new hb2, decide_eq_false (by omega), ha, hf, if_neg (show ¬ f.Y ≤ tAt t (k + 1) - tAt t (k + 1) by omega)]
      simp
    · have hb2 : (0 < k + 1 ∧ sdAt f (k + 1) = sdAt f (k + 1 - 1) ∧ tAt t (k + 1) - tAt t k ≤ f.G) := by
        unfold bgB at hb
        rw [decide_eq_true_eq] at hb
        simp only [Nat.add_sub_cancel] at hb ⊢
        omega
      have hf : fst f t (k + 1) = fst f t k := by rw [fst, if_neg hb]
      have hp1 := hpos2 (fst f t k) hfl
      rw [isE_goes hb2]
      simp only
      have har : arB f t (k + 1) = decide (f.Y ≤ tAt t (k + 1) - tAt t (fst f t k) ∧ tAt t k - tAt t (fst f t k) < f.Y) := by unfold arB; rw [hf, Nat.add_sub_cancel]
      rw [har, hf]
      generalize tAt t (fst f t k) = z at hp1
      by_cases h1 : f.Y ≤ tAt t k - z
      · rw [if_pos h1, decide_eq_false (by omega), decide_eq_false (by omega), if_pos (show f.Y ≤ tAt t (k + 1) - z by omega)]
        simp
      · rw [if_neg h1]
        by_cases h2 : f.Y ≤ tAt t (k + 1) - z
        · rw [decide_eq_true (by omega), decide_eq_true (by omega), if_pos h2]
          simp [hsd]
        · rw [decide_eq_false (by omega), decide_eq_false (by omega), if_neg h2]
          simp
end Go.Proofs.YtdblcfkmijigbaaGreat.Sl

open Go.Vm
namespace Go.Proofs.YtdblcfkmijigbaaGreat.Sl
set_option maxRecDepth 20000
set_option maxHeartbeats 2000000

def backK (a : AL) : Nat → End → List Int
  | 0, _ => []
  | k + 1, e => e.year :: backK a k ((alGet a e).getD beg)
theorem backK_len (a : AL) : ∀ k e, (backK a k e).length = k
  | 0, _ => rfl
  | k + 1, e => by simp [backK, backK_len a k]
theorem alGet_mem {a : AL} {e v : End} (h : alGet a e = some v) : (e, v) ∈ a := by
  unfold alGet at h
  rw [Option.map_eq_some_iff] at h
  obtain ⟨x, h1, rfl⟩ := h
  have h2 := List.find?_some h1
  simp only [decide_eq_true_eq] at h2
  rw [← h2]
  exact List.mem_of_find?_eq_some h1
theorem back_step {f : Fil} {k : Nat} {x : End} (hk : k + 1 ≤ f.ps.length) (hx : x ∈ (goneK f (k + 1)).2) :
    x ≠ beg ∧ ∃ v p, alGet (gone f).1 x = some v ∧ v ∈ (goneK f k).2 ∧ f.ps[k]? = some p ∧ p.lo ≤ x.year ∧ x.year ≤ p.hi ∧ x = isE f k p v x.year := by
  have K := kinv f f.ps.length (Nat.le_refl _)
  have K1 := kinv f (k + 1) hk
  have hi : x.i = k := by
    obtain ⟨t, _, ht⟩ := K1.out x hx
    have hp : f.ps[k]? = some f.ps[k] := List.getElem?_eq_getElem (by omega)
    rw [stOf, hp] at ht
    rw [← ht]; exact isE_i _ _ _ _ _
  have hh := K.has (k + 1) (by omega) hk x hx
  rw [← gone_eq] at hh
  rw [hasK_get] at hh
  refine ⟨fun h0 => ?_, ?_⟩
  · rw [h0] at hi
    have : (-1 : Int) = k := hi
    omega
  · cases hg : alGet (gone f).1 x with
    | none => rw [hg] at hh; cases hh
    | some v =>
      have hm := alGet_mem hg
      rw [gone_eq] at hm
      obtain ⟨j, p, y, h1, h2, h3, h4, h5, h6⟩ := K.al (x, v) hm
      simp only at h5 h6
      have hj : (j : Int) = k := by rw [← hi, h5, isE_i]
      have hj : j = k := by omega
      subst hj
      have hy : x.year = y := by rw [h5, isE_year]
      exact ⟨v, p, rfl, h6, h2, by omega, by omega, by rw [hy]; exact h5⟩
theorem own_end {f : Fil} {t : List Int} (o : Okt f t) : ((stOf f t f.ps.length).side, (stOf f t f.ps.length).since) = own f t := by
  have hl := o.len
  unfold own
  rw [← hl]
  rcases Nat.eq_zero_or_pos t.length with h | h
  · rw [h]; rfl
  · obtain ⟨k, hk⟩ : ∃ k, t.length = k + 1 := ⟨t.length - 1, by omega⟩
    rw [hk, stOf_spec o k (by omega)]
theorem fidx_spec (q : End → Bool) : ∀ (l : List End) (i : Int), (fidx q l i = -1 ∧ ∀ e ∈ l, q e = false) ∨ ∃ (j : Nat) (e : End), fidx q l i = i + j ∧ l[j]? = some e ∧ q e = true
  | [], i => .inl ⟨rfl, by simp⟩
  | a :: l, i => by
    rw [fidx]
    cases hq : q a
    · rcases fidx_spec q l (i + 1) with ⟨h1, h2⟩ | ⟨j, e, h1, h2, h3⟩
      · exact .inl ⟨h1, by intro e he; rcases List.mem_cons.1 he with rfl | he; exact hq; exact h2 e he⟩
      · exact .inr ⟨j + 1, e, by rw [cond_false, h1]; omega, by simpa using h2, h3⟩
    · exact .inr ⟨0, a, by simp, rfl, hq⟩
def truG (f : Fil) (x : Int) : List Int := match (gone f).2[(fidx (fun e => decide (e.side = x)) (gone f).2 0).toNat]? with
  | some e => (backK (gone f).1 f.ps.length e).reverse
  | none => []
end Go.Proofs.YtdblcfkmijigbaaGreat.Sl

open Go.Vm
namespace Go.Proofs.YtdblcfkmijigbaaGreat.Sl
set_option maxRecDepth 20000
set_option maxHeartbeats 2000000
theorem vneqE (x y : End) : vaggeq Tryz.prog .neq 79 (aggE x) (aggE y) = some (B (decide (¬ x = y))) := by
  have : (!((x.i == y.i) && ((x.year == y.year) && ((x.first == y.first) && ((x.side == y.side) && ((x.since == y.since) && true)))))) = decide (¬ x = y) := by
    cases x; cases y; rw [Bool.eq_iff_iff, decide_eq_true_eq]; simp [-not_and]; omega
  rw [← this]
  unfold vaggeq
  rw [show eqTop Tryz.prog 79 = some (Sh.cons 0 1 false Sh.int (Sh.cons 1 1 false Sh.int (Sh.cons 2 1 false Sh.int (Sh.cons 3 1 false Sh.int (Sh.cons 4 1 false Sh.int Sh.nil))))) by kernel_rfl]
  rfl
theorem look_esF {a : AL} {e v : End} (hg : alGet a e = some v) : Look Tryz.prog (tiOf Tryz.prog) 74 false (aggE e) ((D.vs (keysE a)).zip (D.vs (valsE a))) (aggE v) := by
  obtain ⟨sh, h1, h2⟩ := top100
  obtain ⟨i, hi⟩ := found_some h2 hg
  rw [esE_zip]
  exact ⟨_, 79, 79, _, sh, true, some (i, aggE v), rfl, rfl, h1, by rw [h2]; simp, hi, rfl⟩
def truE (f : Fil) (x : Int) : Int := if chk f ≠ 0 then chk f else if x < 0 ∨ 2 < x then 4 else bif isG f x then 0 else 7
theorem vc_Truth_ok (f : Fil) (x : Int) (h : Hp) (hE : truE f x = 0) : VC Tryz.prog 27 [vF f, I x] h (.tuple [ints (truG f x), I 0]) h := by
  unfold truE at hE
  have h0 : chk f = 0 := by
    by_cases h0 : chk f = 0
    · exact h0
    · rw [if_pos h0] at hE; exact absurd hE h0
  rw [if_neg (by simpa using h0)] at hE
  have h1 : ¬ (x < 0 ∨ 2 < x) := fun h1 => by rw [if_pos h1] at hE; cases hE
  rw [if_neg h1] at hE
  have hg : isG f x = true := by
    cases hg : isG f x
    · rw [hg] at hE; cases hE
    · rfl
  have hn16 := (chk_zero h0).2.2.1
  have hS : ∀ h, VC Tryz.prog 30 [vF f] h (I 0) h := fun h => h0 ▸ vc_check f h (by omega)
  have hG := fun h => vc_gone f h h0
  obtain ⟨hok, hlen⟩ := gone_inv h0
  have hstep := fun k x hk hx => back_step (f := f) (k := k) (x := x) hk hx
  have hge := gone_eq f
  unfold isG at hg
  rw [List.any_eq_true] at hg
  obtain ⟨e1, hm1, he1⟩ := hg
  obtain ⟨R, hR⟩ : ∃ R, R = truG f x := ⟨_, rfl⟩
  rw [← hR]
  unfold truG at hR
  unfold vGone at hG
  generalize gone f = G at hG hok hlen hstep hge hm1 hR
  obtain ⟨a, L⟩ := G
  dsimp only at hG hok hlen hstep hm1 hR
  rcases fidx_spec (fun e => decide (e.side = x)) L 0 with ⟨_, hbad⟩ | ⟨j, e, hf, hj, he⟩
  · rw [hbad e1 hm1] at he1; cases he1
  have hI := fun h => vc_IndexFunc L (fun e => decide (e.side = x)) 57 [.pt [DI x]] (by omega) (fun e h => vc_Truth1 x e h) h
  rw [hf, Int.zero_add] at hI hR
  rw [Int.toNat_natCast, hj] at hR
  have heK : e ∈ (goneK f f.ps.length).2 := by rw [← hge]; exact List.mem_of_getElem? hj
  obtain ⟨W, hW⟩ : ∃ W, W = backK a f.ps.length e := ⟨_, rfl⟩
  have hR : R = W.reverse := by rw [hW]; exact hR
  subst hR
  have hWl : W.length = f.ps.length := by rw [hW, backK_len]
  refine VC.body Tryz.func27 rfl Tryz.ntmps27 Tryz.call27 (h.grows_refl) rfl ?_; conv => whnf
  repeat' (first | ((first | refine zs1 ?_ | refine zs2 ?_ | refine zs3 ?_ | refine zs4 ?_ | refine zs5 ?_ | refine zs6 [] ?_); conv => whnf) | ((first | apply zi1 | apply zi2 | apply zi3 | apply zi4 | apply zi5) <;> intro _ <;> conv => whnf) | (refine VCall.intro (hS _) ?_; conv => whnf) | (refine VCall.intro (vc_from _ _ _ _) ?_; conv => whnf) | (refine VCall.intro (hG _) ?_; conv => whnf))
  · exfalso; omega
  · refine VCall.intro (VC.give (args' := [ends L, .func (.func 57) [] [.fp [DI x]]]) (loc' := [.flat true (encF f), .dead]) [(1, [DI x])] [] (OutOk.lift _) zb zf (by exact FmAll.nil) rfl zv (hI _)) ?_
    conv => whnf
    repeat' (first | ((first | refine zs1 ?_ | refine zs2 ?_ | refine zs3 ?_ | refine zs4 ?_ | refine zs5 ?_ | refine zs6 [] ?_); conv => whnf) | ((first | apply zi1 | apply zi2 | apply zi3 | apply zi4 | apply zi5) <;> intro _ <;> conv => whnf) | (refine VAny.ix encE_len j (by omega) rfl hj ?_; conv => whnf))
    · refine VCode.lp (fun y : Nat × End × List Int => [(7, .fm (keysE a) (valsE a)), (10, .gl (.loc 1) 1 y.2.2.length), (11, .ptr (.loc 0) 0)]) (fun y => [.flat true (encE y.2.1), .flat true (y.2.2.flatMap Vm.encI)])
        (fun y => y.1 ≤ f.ps.length ∧ y.2.1 ∈ (goneK f y.1).2 ∧ W = y.2.2 ++ backK a y.1 y.2.1) (fun y => y.1) (f.ps.length, e, []) ⟨Nat.le_refl _, heK, hW⟩ ?_ ?_
      · conv => whnf
        refine Retell.turn ⟨[2,3], 3, [], []⟩ (TurnOk.mk' _ _ [] [] (OutOk.lift _) rfl (by decide) zb trivial trivial rfl) zv zm
      · rintro ⟨k, z, out⟩ ⟨g1, g2, g3⟩
        dsimp only at g1 g2 g3
        conv => whnf
        repeat' (first | ((first | refine zs1 ?_ | refine zs2 ?_ | refine zs3 ?_ | refine zs4 ?_ | refine zs5 ?_ | refine zs6 [] ?_); conv => whnf) | ((first | apply zi1 | apply zi2 | apply zi3 | apply zi4 | apply zi5) <;> intro _ <;> conv => whnf) | (refine VAgg.intro (vneqE z beg) ?_; conv => whnf))
        · rename_i hx
          have hz : ¬ z = beg := by first | exact hx | simpa using hx
          clear hx
          cases k with
          | zero => simp only [goneK, List.mem_singleton] at g2; exact absurd g2 hz
          | succ k =>
            obtain ⟨_, v, p, hv, hvm, _⟩ := hstep k z g1 g2
            rw [backK, hv, Option.getD_some] at g3
            have hol : out.length ≤ 16 := by
              have : W.length = out.length + (k + 1) := by rw [g3]; simp [backK_len]
              omega
            refine VMem.app1 z.year encI_len rfl rfl rfl rfl rfl (by dsimp only; omega) ?_
            conv => whnf
            repeat' (first | ((first | refine zs1 ?_ | refine zs2 ?_ | refine zs3 ?_ | refine zs4 ?_ | refine zs5 ?_ | refine zs6 [] ?_); conv => whnf) | ((first | apply zi1 | apply zi2 | apply zi3 | apply zi4 | apply zi5) <;> intro _ <;> conv => whnf) | (refine VLookF.intro (look_esF hv) ?_; conv => whnf))
            refine LEnd.intro (k, v, out ++ [z.year]) ⟨by dsimp only; omega, hvm, by rw [g3]; simp⟩ (by dsimp only; omega) ?_
            conv => whnf
            rw [List.length_append]
            refine Retell.turn ⟨[4,3], 5, [], []⟩ (TurnOk.mk' _ _ [] [] (OutOk.lift _) rfl (by decide) zb trivial trivial rfl) zv zm
        · rename_i hx
          have hz : z = beg := by first | exact hx | simpa using hx
          clear hx
          cases k with
          | succ k => exact absurd hz (hstep k z g1 g2).1
          | zero =>
            rw [backK, List.append_nil] at g3
            subst g3
            refine VCall.intro (vc_reverse W (.loc 1) _ rfl (by omega)) ?_
            conv => whnf
            repeat (first | ((first | refine zs1 ?_ | refine zs2 ?_ | refine zs3 ?_ | refine zs4 ?_ | refine zs5 ?_ | refine zs6 [] ?_); conv => whnf))
            rw [show ints W.reverse = .fs 1 W.length (W.reverse.flatMap Vm.encI) from by unfold ints; rw [List.length_reverse]]
            refine VOut.data 3 [(1, W.reverse.flatMap Vm.encI)] [] rfl zf (by exact FmAll.nil) zv
end Go.Proofs.YtdblcfkmijigbaaGreat.Sl

open Go.Vm
namespace Go.Proofs.YtdblcfkmijigbaaGreat.Sl
set_option maxRecDepth 20000
set_option maxHeartbeats 2000000

def sinL (x : Int) (l : List End) : List Int := (l.filter fun e => decide (e.side = x)).map (·.since)
theorem sinL_at {x : Int} {l : List End} {k : Nat} {e : End} (h : l[k]? = some e) : sinL x (l.take (k + 1)) = if e.side = x then sinL x (l.take k) ++ [e.since] else sinL x (l.take k) := by
  unfold sinL
  rw [List.take_add_one, h, List.filter_append, List.map_append]
  simp only [Option.toList_some, List.filter_cons, List.filter_nil]
  split <;> simp_all
theorem sinL_len (x : Int) (l : List End) : (sinL x l).length ≤ l.length := by
  unfold sinL
  rw [List.length_map]
  exact List.length_filter_le _ _
theorem vc_SinceG (f : Fil) (x : Int) (h : Hp) (h0 : chk f = 0) (hx : 0 ≤ x ∧ x ≤ 1) : VC Tryz.prog 11 [vF f, I x] h (match sinL x (gone f).2 with
    | [] => .tuple [.agg [I 0, I 0], I 7]
    | a :: r => .tuple [.agg [I (minL (a :: r)), I (maxL (a :: r))], I 0]) h := by
  have hn16 := (chk_zero h0).2.2.1
  have hS : ∀ h, VC Tryz.prog 30 [vF f] h (I 0) h := fun h => h0 ▸ vc_check f h (by omega)
  have hG := fun h => vc_gone f h h0
  obtain ⟨hok, hlen⟩ := gone_inv h0
  unfold vGone at hG
  generalize gone f = G at hG hok hlen
  obtain ⟨a, L⟩ := G
  dsimp only at hG hok hlen
  obtain ⟨F, hF⟩ : ∃ F, F = sinL x L := ⟨_, rfl⟩
  have hFl := sinL_len x L
  rw [← hF] at hFl
  dsimp only
  rw [← hF]
  refine VC.bodyC 8 Tryz.func11 rfl Tryz.ntmps11 Tryz.call11 (h.grows_refl) rfl ?_; conv => whnf
  repeat' (first | ((first | refine zs1 ?_ | refine zs2 ?_ | refine zs3 ?_ | refine zs4 ?_ | refine zs5 ?_ | refine zs6 [] ?_); conv => whnf) | ((first | apply zi1 | apply zi2 | apply zi3 | apply zi4 | apply zi5) <;> intro _ <;> conv => whnf) | (refine VCall.intro (hS _) ?_; conv => whnf) | (refine VCall.intro (hG _) ?_; conv => whnf) | (refine VCall.intro (vc_from _ _ _ _) ?_; conv => whnf))
  · exfalso; omega
  · refine VCode.lp (fun k : Nat => [(1, I x), (2, .ptr (.loc 0) 0), (4, .ptr (.loc 1) 0), (9, .gl (.loc 2) 1 (sinL x (L.take k)).length), (31, ends L), (32, I L.length), (33, I k)]) (fun k => [.flat true (encF f), .flat true [DI 0, DI 0], .flat true ((sinL x (L.take k)).flatMap Vm.encI)]) (fun k => k ≤ L.length) (fun k => L.length - k) 0 (Nat.zero_le _) ?_ ?_
    · conv => whnf
      refine Retell.turn ⟨[0,1,2], 2, [], []⟩ (TurnOk.mk' _ _ [] [] (OutOk.lift _) rfl (by decide) zb trivial trivial rfl) zv zm
    · intro k hk
      conv => whnf
      refine VIte.dec (fun h3 => ?_) (fun h3 => ?_)
      · have he : L[k]? = some L[k] := List.getElem?_eq_getElem (by omega)
        generalize L[k] = e at he
        have hs := sinL_at (x := x) he
        have hsl := sinL_len x (L.take k)
        rw [List.length_take] at hsl
        generalize sinL x (L.take k) = A at hs hsl
        conv => whnf
        repeat' (first | ((first | refine zs1 ?_ | refine zs2 ?_ | refine zs3 ?_ | refine zs4 ?_ | refine zs5 ?_ | refine zs6 [] ?_); conv => whnf) | ((first | apply zi1 | apply zi2 | apply zi3 | apply zi4 | apply zi5) <;> intro _ <;> conv => whnf) | (refine VAny.ix encE_len k rfl rfl he ?_; conv => whnf))
        · rename_i hc
          refine VMem.app1B e.since encI_len rfl rfl rfl rfl rfl (by omega) ?_
          conv => whnf
          repeat (first | ((first | refine zs1 ?_ | refine zs2 ?_ | refine zs3 ?_ | refine zs4 ?_ | refine zs5 ?_ | refine zs6 [] ?_); conv => whnf))
          refine LEnd.intro (k + 1) (by omega) (by omega) ?_
          conv => whnf
          rw [hs, if_pos hc, List.length_append]
          refine Retell.turn ⟨[0,1,5], 6, [], []⟩ (TurnOk.mk' _ _ [] [] (OutOk.lift _) rfl (by decide) zb trivial trivial rfl) zv zm
        · rename_i hc
          refine LEnd.intro (k + 1) (by omega) (by omega) ?_
          conv => whnf
          rw [hs, if_neg hc]
          refine Retell.turn ⟨[0,1,2], 4, [], []⟩ (TurnOk.mk' _ _ [] [] (OutOk.lift _) rfl (by decide) zb trivial trivial rfl) zv zm
      · have hkl : k = L.length := by omega
        subst hkl
        rw [List.take_length, ← hF]
        conv => whnf
        cases F with
        | nil =>
          repeat' (first | ((first | refine zs1 ?_ | refine zs2 ?_ | refine zs3 ?_ | refine zs4 ?_ | refine zs5 ?_ | refine zs6 [] ?_); conv => whnf) | ((first | apply zi1 | apply zi2 | apply zi3 | apply zi4 | apply zi5) <;> intro _ <;> conv => whnf))
          exact VOut.same rfl
        | cons b r =>
          have hl1 : r.length + 1 ≤ 108108024 := by simp only [List.length_cons] at hFl; omega
          repeat' (first | ((first | refine zs1 ?_ | refine zs2 ?_ | refine zs3 ?_ | refine zs4 ?_ | refine zs5 ?_ | refine zs6 [] ?_); conv => whnf) | ((first | apply zi1 | apply zi2 | apply zi3 | apply zi4 | apply zi5) <;> intro _ <;> conv => whnf))
          refine VCut.at [(4, .ptr (.loc 0) 0), (9, ints (b :: r)), (12, .fp [.func (.func 33) [] []]), (13, .fp [.func (.func 34) [] []])] [.flat true [DI 0, DI 0]] ?_ ?_
          · conv => whnf
            refine Retell.turn ⟨[1], 5, [(2, (b :: r).flatMap Vm.encI), (3, [.func (.func 33) [] []]), (4, [.func (.func 34) [] []])], []⟩ (TurnOk.mk' _ _ [(2, (b :: r).flatMap Vm.encI), (3, [.func (.func 33) [] []]), (4, [.func (.func 34) [] []])] [] (OutOk.lift _) rfl (by decide) zb zf trivial rfl) zv zm
          · conv => whnf
            repeat' (first | ((first | refine zs1 ?_ | refine zs2 ?_ | refine zs3 ?_ | refine zs4 ?_ | refine zs5 ?_ | refine zs6 [(3, 5)] ?_); conv => whnf) | ((first | apply zi1 | apply zi2 | apply zi3 | apply zi4 | apply zi5) <;> intro _ <;> conv => whnf) | (refine VCall.intro (vc_least (b :: r) _ (by simp only [List.length_cons]; omega)) ?_; conv => whnf) | (refine VCall.intro (vc_most b r _ (by omega)) ?_; conv => whnf))
            exact VOut.same rfl
end Go.Proofs.YtdblcfkmijigbaaGreat.Sl

open Go.Vm
namespace Go.Proofs.YtdblcfkmijigbaaGreat.Sl
set_option maxRecDepth 20000
set_option maxHeartbeats 2000000

structure Ext2 (S : Int → Prop) (lo hi : Int) : Prop where
  lo1 : S lo
  lo2 : ∀ y, S y → lo ≤ y
  hi1 : S hi
  hi2 : ∀ y, S y → y ≤ hi
theorem Ext2.uniq {S : Int → Prop} {a b c d : Int} (h : Ext2 S a b) (k : Ext2 S c d) : a = c ∧ b = d :=
  ⟨Int.le_antisymm (h.lo2 _ k.lo1) (k.lo2 _ h.lo1), Int.le_antisymm (k.hi2 _ h.hi1) (h.hi2 _ k.hi1)⟩
theorem min_mem : ∀ (r : List Int) (a : Int), (r.foldl min a = a ∨ r.foldl min a ∈ r) ∧ r.foldl min a ≤ a ∧ ∀ y ∈ r, r.foldl min a ≤ y
  | [], a => by simp
  | b :: r, a => by
    obtain ⟨h1, h2, h3⟩ := min_mem r (min a b)
    rw [List.foldl_cons]
    generalize r.foldl min (min a b) = m at h1 h2 h3
    refine ⟨?_, by omega, fun y hy => ?_⟩
    · rcases h1 with h1 | h1
      · rcases Int.le_total a b with h | h
        · left; omega
        · right; rw [h1, Int.min_eq_right h]; simp
      · right; simp [h1]
    · rcases List.mem_cons.1 hy with rfl | hy
      · omega
      · exact h3 y hy
theorem max_mem : ∀ (r : List Int) (a : Int), (r.foldl max a = a ∨ r.foldl max a ∈ r) ∧ a ≤ r.foldl max a ∧ ∀ y ∈ r, y ≤ r.foldl max a
  | [], a => by simp
  | b :: r, a => by
    obtain ⟨h1, h2, h3⟩ := max_mem r (max a b)
    rw [List.foldl_cons]
    generalize r.foldl max (max a b) = m at h1 h2 h3
    refine ⟨?_, by omega, fun y hy => ?_⟩
    · rcases h1 with h1 | h1
      · rcases Int.le_total a b with h | h
        · right; rw [h1, Int.max_eq_right h]; simp
        · left; omega
      · right; simp [h1]
    · rcases List.mem_cons.1 hy with rfl | hy
      · omega
      · exact h3 y hy
theorem ext2_list (a : Int) (r : List Int) : Ext2 (fun y => y ∈ a :: r) (minL (a :: r)) (maxL (a :: r)) := by
  obtain ⟨h1, h2, h3⟩ := min_mem r a
  obtain ⟨g1, g2, g3⟩ := max_mem r a
  have e1 : minL (a :: r) = r.foldl min a := rfl
  have e2 : maxL (a :: r) = r.foldl max a := rfl
  rw [e1, e2]
  refine ⟨?_, fun y hy => ?_, ?_, fun y hy => ?_⟩
  · rcases h1 with h1 | h1
    · rw [h1]; simp
    · exact List.mem_cons_of_mem _ h1
  · rcases List.mem_cons.1 hy with rfl | hy
    · exact h2
    · exact h3 y hy
  · rcases g1 with g1 | g1
    · rw [g1]; simp
    · exact List.mem_cons_of_mem _ g1
  · rcases List.mem_cons.1 hy with rfl | hy
    · exact g2
    · exact g3 y hy
theorem snF_fold (f : Fil) (x : Int) : ∀ (T : List (List Int)) (s : Sn) (S : Int → Prop), (s.found = false → ∀ y, ¬ S y) → (s.found = true → Ext2 S s.lo s.hi) →
    ((T.foldl (snF f x) s).found = false → ∀ y, ¬ (S y ∨ ∃ t ∈ T, own f t = (x, y))) ∧ ((T.foldl (snF f x) s).found = true → Ext2 (fun y => S y ∨ ∃ t ∈ T, own f t = (x, y)) (T.foldl (snF f x) s).lo (T.foldl (snF f x) s).hi)
  | [], s, S, h1, h2 => by simpa using ⟨h1, h2⟩
  | t :: T, s, S, h1, h2 => by
    rw [List.foldl_cons]
    have key : ((snF f x s t).found = false → ∀ y, ¬ (S y ∨ own f t = (x, y))) ∧ ((snF f x s t).found = true → Ext2 (fun y => S y ∨ own f t = (x, y)) (snF f x s t).lo (snF f x s t).hi) := by
      unfold snF
      by_cases hx : (own f t).1 = x
      · rw [if_pos hx]
        have hxy : ∀ y, own f t = (x, y) ↔ y = (own f t).2 := fun y => by
          constructor
          · intro h; rw [h]
          · intro h; rw [h, ← hx]
        simp only [hxy]
        generalize (own f t).2 = z
        refine ⟨by simp, fun _ => ?_⟩
        cases hf : s.found
        · have h1 := h1 hf
          simp only [true_or, if_true]
          exact ⟨.inr rfl, fun y hy => by rcases hy with hy | rfl; exact absurd hy (h1 y); exact Int.le_refl _, .inr rfl, fun y hy => by rcases hy with hy | rfl; exact absurd hy (h1 y); exact Int.le_refl _⟩
        · obtain ⟨a1, a2, a3, a4⟩ := h2 hf
          simp only [Bool.true_eq_false, false_or]
          refine ⟨?_, fun y hy => ?_, ?_, fun y hy => ?_⟩
          · split
            · exact .inr rfl
            · exact .inl a1
          · rcases hy with hy | rfl
            · have := a2 y hy; split <;> omega
            · split <;> omega
          · split
            · exact .inr rfl
            · exact .inl a3
          · rcases hy with hy | rfl
            · have := a4 y hy; split <;> omega
            · split <;> omega
      · rw [if_neg hx]
        have hxy : ∀ y, ¬ own f t = (x, y) := fun y h => hx (by rw [h])
        simp only [hxy, or_false]
        exact ⟨h1, h2⟩
    have := snF_fold f x T (snF f x s t) (fun y => S y ∨ own f t = (x, y)) key.1 key.2
    simpa [or_assoc] using this
theorem sn_spec (f : Fil) (x : Int) : ((sn f x).found = false → ∀ y, ¬ ∃ t ∈ tru f.ps, own f t = (x, y)) ∧ ((sn f x).found = true → Ext2 (fun y => ∃ t ∈ tru f.ps, own f t = (x, y)) (sn f x).lo (sn f x).hi) := by
  have := snF_fold f x (tru f.ps) ⟨false, 0, 0⟩ (fun _ => False) (fun _ _ h => h) (fun h => by cases h)
  simpa [sn] using this
theorem sinL_mem {f : Fil} (h0 : chk f = 0) (x y : Int) : y ∈ sinL x (gone f).2 ↔ ∃ t ∈ tru f.ps, own f t = (x, y) := by
  have K := kinv f f.ps.length (Nat.le_refl _)
  have hT : f.ps.take f.ps.length = f.ps := List.take_length
  unfold sinL
  rw [gone_eq]
  simp only [List.mem_map, List.mem_filter, decide_eq_true_eq]
  constructor
  · rintro ⟨e, ⟨he, rfl⟩, rfl⟩
    obtain ⟨t, ht, hte⟩ := K.out e he
    rw [hT] at ht
    have := own_end (tru_okt h0 ht)
    rw [hte] at this
    exact ⟨t, ht, this.symm⟩
  · rintro ⟨t, ht, hx⟩
    have h1 := K.into t (by rw [hT]; exact ht)
    have := own_end (tru_okt h0 ht)
    rw [hx] at this
    injection this with e1 e2
    exact ⟨_, ⟨h1, e1⟩, e2⟩
theorem vc_Since (f : Fil) (x : Int) (h : Hp) (hn : f.ps.length ≤ 4000000) : VC Tryz.prog 11 [vF f, I x] h (sinceR f x) h := by
  have hre : ∀ e, sinceE f x = e → e ≠ 0 → sinceR f x = .tuple [.agg [I 0, I 0], I e] := fun e he h0 => by unfold sinceR; rw [he, decide_eq_false h0]; rfl
  by_cases h0 : chk f = 0
  case neg =>
    rw [hre (chk f) (if_pos h0) h0]
    refine VC.body Tryz.func11 rfl Tryz.ntmps11 Tryz.call11 (h.grows_refl) rfl ?_; conv => whnf
    repeat' (first | ((first | refine zs1 ?_ | refine zs2 ?_ | refine zs3 ?_ | refine zs4 ?_ | refine zs5 ?_ | refine zs6 [] ?_); conv => whnf) | ((first | apply zi1 | apply zi2 | apply zi3 | apply zi4 | apply zi5) <;> intro _ <;> conv => whnf) | (refine VCall.intro (vc_check f _ hn) ?_; conv => whnf))
    all_goals first | exact VOut.same rfl | (exfalso; omega)
  case pos =>
    have he2 : sinceE f x = if x < 0 ∨ 1 < x then 4 else bif (sn f x).found then 0 else 7 := by unfold sinceE; rw [if_neg (by simpa using h0)]
    by_cases h1 : x < 0 ∨ 1 < x
    · rw [if_pos h1] at he2
      rw [hre 4 he2 (by decide)]
      have hS : ∀ h, VC Tryz.prog 30 [vF f] h (I 0) h := fun h => h0 ▸ vc_check f h hn
      refine VC.body Tryz.func11 rfl Tryz.ntmps11 Tryz.call11 (h.grows_refl) rfl ?_; conv => whnf
      repeat' (first | ((first | refine zs1 ?_ | refine zs2 ?_ | refine zs3 ?_ | refine zs4 ?_ | refine zs5 ?_ | refine zs6 [] ?_); conv => whnf) | ((first | apply zi1 | apply zi2 | apply zi3 | apply zi4 | apply zi5) <;> intro _ <;> conv => whnf) | (refine VCall.intro (hS _) ?_; conv => whnf) | (refine VCall.intro (vc_from _ _ _ _) ?_; conv => whnf))
      all_goals first | exact VOut.same rfl | (exfalso; omega)
    · rw [if_neg h1] at he2
      have hm := sinL_mem h0 x
      obtain ⟨s1, s2⟩ := sn_spec f x
      have := vc_SinceG f x h h0 (by omega)
      cases hs : sinL x (gone f).2 with
      | nil =>
        rw [hs] at this
        have hf : (sn f x).found = false := by
          cases hf : (sn f x).found
          · rfl
          · have := (hm _).2 (s2 hf).lo1
            rw [hs] at this; cases this
        rw [hf] at he2
        rw [hre 7 he2 (by decide)]
        exact this
      | cons a r =>
        rw [hs] at this hm
        have hf : (sn f x).found = true := by
          cases hf : (sn f x).found
          · exact absurd ((hm a).1 (by simp)) (s1 hf a)
          · rfl
        have e := ext2_list a r
        have : (fun y => y ∈ a :: r) = fun y => ∃ t ∈ tru f.ps, own f t = (x, y) := funext fun y => propext (hm y)
        rw [this] at e
        obtain ⟨e1, e2⟩ := e.uniq (s2 hf)
        rw [hf] at he2
        have he3 : sinceE f x = 0 := he2
        unfold sinceR
        rw [he3, decide_eq_true rfl, ← e1, ← e2]
        assumption
end Go.Proofs.YtdblcfkmijigbaaGreat.Sl

open Go.Vm
namespace Go.Proofs.YtdblcfkmijigbaaGreat.Sl
set_option maxRecDepth 20000
set_option maxHeartbeats 2000000

theorem VOut.own1 {h : Hp} {loc : List Blk} {esz n : Nat} {ds : List D} (j L : Nat) (hL : Nat.ble loc.length L = true) (hj : loc[j]? = some (.flat true ds)) : VOut h ⟨h.lift, loc⟩ (.gl (.loc j) esz n) (.gl h.fresh esz n) (h.push (.flat true ds)) := by
  refine VOut.upd [] [.flat true ds] [j] L hL (by intro p hp; cases hp) (by simp) rfl ?_ ?_ rfl
  · intro k b hk
    cases k with
    | zero => rw [List.getElem?_cons_zero, Option.some.injEq] at hk; subst hk; exact ⟨j, rfl, hj⟩
    | succ k => simp at hk
  · intro σ x hx
    have : (V.gl h.fresh esz n).ren (backR h.loc.length [j] L) = .gl (.loc j) esz n := by simp [V.ren, backR, Hp.fresh]
    rw [this]; exact hx
theorem VOut.own2 {h : Hp} {loc : List Blk} {esz n : Nat} {ds : List D} {s : S} (j L : Nat) (hL : Nat.ble loc.length L = true) (hj : loc[j]? = some (.flat true ds)) : VOut h ⟨h.lift, loc⟩ (.tuple [.gl (.loc j) esz n, .s s]) (.tuple [.gl h.fresh esz n, .s s]) (h.push (.flat true ds)) := by
  refine VOut.upd [] [.flat true ds] [j] L hL (by intro p hp; cases hp) (by simp) rfl ?_ ?_ rfl
  · intro k b hk
    cases k with
    | zero => rw [List.getElem?_cons_zero, Option.some.injEq] at hk; subst hk; exact ⟨j, rfl, hj⟩
    | succ k => simp at hk
  · intro σ x hx
    have : (V.tuple [.gl h.fresh esz n, .s s]).ren (backR h.loc.length [j] L) = .tuple [.gl (.loc j) esz n, .s s] := by simp [V.ren, V.rens, backR, Hp.fresh]
    rw [this]; exact hx
theorem VOut.own3 {h : Hp} {loc : List Blk} {esz n : Nat} {ds : List D} {a b : S} (j L : Nat) (hL : Nat.ble loc.length L = true) (hj : loc[j]? = some (.flat true ds)) : VOut h ⟨h.lift, loc⟩ (.agg [.s a, .s b, .gl (.loc j) esz n]) (.agg [.s a, .s b, .gl h.fresh esz n]) (h.push (.flat true ds)) := by
  refine VOut.upd [] [.flat true ds] [j] L hL (by intro p hp; cases hp) (by simp) rfl ?_ ?_ rfl
  · intro k b hk
    cases k with
    | zero => rw [List.getElem?_cons_zero, Option.some.injEq] at hk; subst hk; exact ⟨j, rfl, hj⟩
    | succ k => simp at hk
  · intro σ x hx
    have : (V.agg [.s a, .s b, .gl h.fresh esz n]).ren (backR h.loc.length [j] L) = .agg [.s a, .s b, .gl (.loc j) esz n] := by simp [V.ren, V.rens, backR, Hp.fresh]
    rw [this]; exact hx
theorem vc_darisesO (f : Fil) (t : List Int) (h : Hp) (o : Okt f t) : VC Tryz.prog 20 [.fp (encDk f t)] h (.gl h.fresh 1 (arL f t).length) (h.push (.flat true ((arL f t).flatMap Vm.encI))) := by
  have hn := o.n
  have hlen := o.len
  unfold arL
  refine VC.body Tryz.func20 rfl Tryz.ntmps20 Tryz.call20 (h.grows_push _) rfl ?_
  conv => whnf
  repeat (first | ((first | refine zs1 ?_ | refine zs2 ?_ | refine zs3 ?_ | refine zs4 ?_ | refine zs5 ?_ | refine zs6 [] ?_); conv => whnf))
  refine VCode.lp (fun k : Nat => [(0, .fp (encDk f t)), (3, .gl (.loc 0) 1 (selS (arB f t) k).length), (11, I t.length), (12, I k)]) (fun k => [.flat true ((selS (arB f t) k).flatMap Vm.encI)]) (fun k => k ≤ t.length) (fun k => t.length - k) 0 (Nat.zero_le _) ?_ ?_
  · conv => whnf
    refine Retell.turn ⟨[0], 0, [], []⟩ (TurnOk.mk' _ _ [] [] (OutOk.lift _) rfl (by decide) zb trivial trivial rfl) zv zm
  · intro k hk
    have hsl := selS_len (arB f t) k
    conv => whnf
    refine VIte.dec (fun h3 => ?_) (fun h3 => ?_)
    · conv => whnf
      repeat (first | ((first | refine zs1 ?_ | refine zs2 ?_ | refine zs3 ?_ | refine zs4 ?_ | refine zs5 ?_ | refine zs6 [] ?_); conv => whnf))
      refine VCall.intro (vc_chn f t k _ o) ?_
      cases ha : arB f t k
      · rw [chn_none o (by omega) ha]
        conv => whnf
        repeat (first | ((first | refine zs1 ?_ | refine zs2 ?_ | refine zs3 ?_ | refine zs4 ?_ | refine zs5 ?_ | refine zs6 [] ?_); conv => whnf))
        refine LEnd.intro (k + 1) (by omega) (by omega) ?_
        conv => whnf
        rw [selS, ha, if_neg (by simp)]
        refine Retell.turn ⟨[0], 2, [], []⟩ (TurnOk.mk' _ _ [] [] (OutOk.lift _) rfl (by decide) zb trivial trivial rfl) zv zm
      · obtain ⟨hi, hc, _⟩ := chn_some o (by omega) ha
        rw [hc]
        conv => whnf
        repeat (first | ((first | refine zs1 ?_ | refine zs2 ?_ | refine zs3 ?_ | refine zs4 ?_ | refine zs5 ?_ | refine zs6 [] ?_); conv => whnf))
        refine VMem.app1 (k : Int) encI_len rfl rfl rfl rfl rfl (by omega) ?_
        conv => whnf
        repeat (first | ((first | refine zs1 ?_ | refine zs2 ?_ | refine zs3 ?_ | refine zs4 ?_ | refine zs5 ?_ | refine zs6 [] ?_); conv => whnf))
        refine LEnd.intro (k + 1) (by omega) (by omega) ?_
        conv => whnf
        rw [selS, ha, if_pos rfl, List.length_append]
        refine Retell.turn ⟨[3], 4, [], []⟩ (TurnOk.mk' _ _ [] [] (OutOk.lift _) rfl (by decide) zb trivial trivial rfl) zv zm
    · conv => whnf
      have hk' : k = t.length := by omega
      subst hk'
      repeat (first | ((first | refine zs1 ?_ | refine zs2 ?_ | refine zs3 ?_ | refine zs4 ?_ | refine zs5 ?_ | refine zs6 [] ?_); conv => whnf))
      exact VOut.own1 0 1 rfl rfl
theorem vc_ArisesO (f : Fil) (t : List Int) (h : Hp) (hn : f.ps.length ≤ 4000000) (hl : t.length ≤ 4000000) (h0 : toldE f t = 0) : VC Tryz.prog 22 [vF f, ints t] h (.tuple [.gl h.fresh 1 (arL f t).length, I 0]) (h.push (.flat true ((arL f t).flatMap Vm.encI))) := by
  refine VC.body Tryz.func22 rfl Tryz.ntmps22 Tryz.call22 (h.grows_push _) rfl ?_
  conv => whnf
  repeat' (first | ((first | refine zs1 ?_ | refine zs2 ?_ | refine zs3 ?_ | refine zs4 ?_ | refine zs5 ?_ | refine zs6 [] ?_); conv => whnf) | ((first | apply zi1 | apply zi2 | apply zi3 | apply zi4 | apply zi5) <;> intro _ <;> conv => whnf) | (refine VCall.intro (vc_begun_ok f t _ hn hl h0) ?_; conv => whnf))
  refine VCall.intro (vc_darisesO f t _ (told_ok h0)) ?_
  conv => whnf
  repeat (first | ((first | refine zs1 ?_ | refine zs2 ?_ | refine zs3 ?_ | refine zs4 ?_ | refine zs5 ?_ | refine zs6 [] ?_); conv => whnf))
  exact VOut.own2 1 2 rfl rfl
theorem vc_FewestO (f : Fil) (t : List Int) (p : Nat) (h : Hp) (hl : t.length ≤ 4000000) (h0 : toldE f t = 0) (o : Shw f t p) : VC Tryz.prog 23 [vF f, ints t, I p] h (.tuple [.gl h.fresh 1 (few f t p).length, I 0]) (h.push (.flat true ((few f t p).flatMap Vm.encI))) := by
  have hlen := o.len
  have hn' := o.n
  have hlt := o.lt
  have hY := o.y
  obtain ⟨hi, c⟩ := InCh.of o
  have hfar := o.far
  have hph := c.ph
  have hhl := c.hl
  have hfl := fst_le f t p
  have hfin : few f t p = (fewS f t (fst f t p) p p p).reverse := rfl
  have hff : tAt t (fst f t p) ≤ tAt t p := by omega
  rw [hfin]
  have hfl2 := fewS_len f t (fst f t p) p p p
  obtain ⟨F, hF⟩ : ∃ F, F = fewS f t (fst f t p) p p p := ⟨_, rfl⟩
  rw [← hF] at hfl2 ⊢
  obtain ⟨lo, hlo⟩ : ∃ lo, lo = fst f t p := ⟨_, rfl⟩
  refine VC.body Tryz.func23 rfl Tryz.ntmps23 Tryz.call23 (h.grows_push _) rfl ?_
  conv => whnf
  repeat' (first | ((first | refine zs1 ?_ | refine zs2 ?_ | refine zs3 ?_ | refine zs4 ?_ | refine zs5 ?_ | refine zs6 [] ?_); conv => whnf) | ((first | apply zi1 | apply zi2 | apply zi3 | apply zi4 | apply zi5) <;> intro _ <;> conv => whnf) | (refine VCall.intro (vc_shown_ok f t p hi _ hl o h0 c.hc) ?_; conv => whnf))
  rw [← hlo] at hfl hfar hF hff ⊢
  refine VCode.lp (fun x : Nat × List Int => [(1, ints t), (2, I p), (8, .fp (encDk f t)), (9, .ptr (.loc 0) 0), (11, .gl (.loc 1) 1 (x.2 ++ [(x.1 : Int)]).length), (12, I x.1)])
    (fun x => [.flat true [DI lo, DI hi], .flat true ((x.2 ++ [(x.1 : Int)]).flatMap Vm.encI)]) (fun x => lo ≤ x.1 ∧ x.1 ≤ p ∧ ∃ n, x.1 ≤ n ∧ F = x.2 ++ fewS f t lo p n x.1) (fun x => x.1) (p, []) ⟨hfl, Nat.le_refl _, p, Nat.le_refl _, hF⟩ ?_ ?_
  · conv => whnf
    refine Retell.turn ⟨[1,2], 3, [], []⟩ (TurnOk.mk' _ _ [] [] (OutOk.lift _) rfl (by decide) zb trivial trivial rfl) zv zm
  · rintro ⟨a, pre⟩ ⟨h1, h2, n, h3, h4⟩
    simp only at h1 h2 h3 h4
    have ha : t[a]? = some t[a] := List.getElem?_eq_getElem (by omega)
    have hp : t[p]? = some t[p] := List.getElem?_eq_getElem (by omega)
    have b1 := o.yr ha
    have b2 := o.yr hp
    have e1 := tAt_eq ha
    have e2 := tAt_eq hp
    have hla : lo < a → jmp f t lo a a < a := by intro h5; have := c.jmp_lt (a := a) (by omega) (by omega); rw [← hlo] at this; exact this
    have hJ := jmp_ge f t lo a a h1
    generalize t[a] = y at ha b1 e1
    generalize t[p] = z at hp b2 e2
    conv => whnf
    repeat' (first | ((first | refine zs1 ?_ | refine zs2 ?_ | refine zs3 ?_ | refine zs4 ?_ | refine zs5 ?_ | refine zs6 [] ?_); conv => whnf) | ((first | apply zi1 | apply zi2 | apply zi3 | apply zi4 | apply zi5) <;> intro _ <;> conv => whnf) | (refine VAny.ix encI_len a rfl rfl ha ?_; conv => whnf) | (refine VAny.ix encI_len p rfl rfl hp ?_; conv => whnf))
    · rename_i h5
      have hlo2 : lo < a := by
        rcases Nat.eq_or_lt_of_le h1 with h6 | h6
        · subst h6; omega
        · exact h6
      have hja := hla hlo2
      obtain ⟨n, rfl⟩ : ∃ m, n = m + 1 := ⟨n - 1, by omega⟩
      rw [fewS, if_pos (by omega)] at h4
      obtain ⟨J, hJe⟩ : ∃ J, J = jmp f t lo a a := ⟨_, rfl⟩
      rw [← hJe] at h4 hja hJ
      have hpl : pre.length ≤ 16 := by
        have := congrArg List.length h4
        simp at this; omega
      refine VCode.lp (fun x : Nat => [(1, ints t), (2, I p), (8, .fp (encDk f t)), (9, .ptr (.loc 0) 0), (11, .gl (.loc 1) 1 (pre ++ [(a : Int)]).length), (12, I a), (13, I x)])
        (fun _ => [.flat true [DI lo, DI hi], .flat true ((pre ++ [(a : Int)]).flatMap Vm.encI)]) (fun x => lo ≤ x ∧ x ≤ a ∧ J = jmp f t lo a x) (fun x => x) a ⟨h1, Nat.le_refl _, hJe⟩ ?_ ?_
      · conv => whnf
        refine Retell.turn ⟨[0,1], 2, [], []⟩ (TurnOk.mk' _ _ [] [] (OutOk.lift _) rfl (by decide) zb trivial trivial rfl) zv zm
      · rintro x ⟨g1, g2, g3⟩
        have hx : t[x - 1]? = some t[x - 1] := List.getElem?_eq_getElem (by omega)
        have b3 := o.yr hx
        have e3 := tAt_eq hx
        generalize t[x - 1] = w at hx b3 e3
        have hne : ¬ (lo < x ∧ y - w ≤ f.G) → J = x := by
          intro hg
          rw [g3]
          cases x with
          | zero => rfl
          | succ x =>
            simp only [Nat.add_sub_cancel] at e3
            rw [jmp, if_neg (by omega)]
        have hfin2 : J = x → F = (pre ++ [(a : Int)]) ++ fewS f t lo p n x := by intro hg; rw [h4, hg, List.append_assoc]; rfl
        conv => whnf
        repeat' (first | ((first | refine zs1 ?_ | refine zs2 ?_ | refine zs3 ?_ | refine zs4 ?_ | refine zs5 ?_ | refine zs6 [] ?_); conv => whnf) | ((first | apply zi1 | apply zi2 | apply zi3 | apply zi4 | apply zi5) <;> intro _ <;> conv => whnf) | (refine VAny.ix encI_len a rfl rfl ha ?_; conv => whnf) | (refine VAny.ix encI_len (x - 1) (by omega) rfl hx ?_; conv => whnf))
        · obtain ⟨x, rfl⟩ : ∃ m, x = m + 1 := ⟨x - 1, by omega⟩
          simp only [Nat.add_sub_cancel] at e3
          rw [jmp, if_pos (by omega)] at g3
          refine LEnd.intro x ⟨by omega, by omega, g3⟩ (by omega) ?_
          conv => whnf
          refine Retell.turn ⟨[0,1], 2, [], []⟩ (TurnOk.mk' _ _ [] [] (OutOk.lift _) rfl (by decide) zb trivial trivial rfl) zv zm
        · have hJx := hne (by omega)
          refine VMem.app1 (x : Int) encI_len rfl rfl rfl rfl rfl (by simp; omega) ?_
          conv => whnf
          repeat (first | ((first | refine zs1 ?_ | refine zs2 ?_ | refine zs3 ?_ | refine zs4 ?_ | refine zs5 ?_ | refine zs6 [] ?_); conv => whnf))
          refine LEnd.intro (x, pre ++ [(a : Int)]) ⟨by omega, by omega, n, by omega, hfin2 hJx⟩ (by simp only; omega) ?_
          conv => whnf
          rw [List.length_append (bs := [(x : Int)])]
          refine Retell.turn ⟨[0,3], 4, [], []⟩ (TurnOk.mk' _ _ [] [] (OutOk.lift _) rfl (by decide) zb trivial trivial rfl) zv zm
        · have hJx := hne (by omega)
          refine VMem.app1 (x : Int) encI_len rfl rfl rfl rfl rfl (by simp; omega) ?_
          conv => whnf
          repeat (first | ((first | refine zs1 ?_ | refine zs2 ?_ | refine zs3 ?_ | refine zs4 ?_ | refine zs5 ?_ | refine zs6 [] ?_); conv => whnf))
          refine LEnd.intro (x, pre ++ [(a : Int)]) ⟨by omega, by omega, n, by omega, hfin2 hJx⟩ (by simp only; omega) ?_
          conv => whnf
          rw [List.length_append (bs := [(x : Int)])]
          refine Retell.turn ⟨[0,3], 4, [], []⟩ (TurnOk.mk' _ _ [] [] (OutOk.lift _) rfl (by decide) zb trivial trivial rfl) zv zm
    · have hF2 : F = pre ++ [(a : Int)] := by
        rw [h4]
        cases n with
        | zero => rfl
        | succ n => rw [fewS, if_neg (by omega)]
      rw [← hF2]
      refine VMem.make (n := F.length) (0 : Int) encI_len rfl rfl rfl rfl rfl rfl (by omega) ?_
      conv => whnf
      repeat (first | ((first | refine zs1 ?_ | refine zs2 ?_ | refine zs3 ?_ | refine zs4 ?_ | refine zs5 ?_ | refine zs6 [] ?_); conv => whnf))
      refine VMem.copyGl (l2 := F) encI_len rfl rfl rfl (by simp) rfl rfl ?_
      conv => whnf
      repeat (first | ((first | refine zs1 ?_ | refine zs2 ?_ | refine zs3 ?_ | refine zs4 ?_ | refine zs5 ?_ | refine zs6 [] ?_); conv => whnf))
      refine VCall.intro (vc_reverse F (.loc 2) _ rfl (by omega)) ?_
      conv => whnf
      repeat (first | ((first | refine zs1 ?_ | refine zs2 ?_ | refine zs3 ?_ | refine zs4 ?_ | refine zs5 ?_ | refine zs6 [] ?_); conv => whnf))
      rw [List.length_reverse]
      exact VOut.own2 2 3 rfl rfl
theorem vc_DatedO (Y G : Int) (l : List Int) (h : Hp) (hl : l.length ≤ 4000000) (hb : ∀ y ∈ l, -100000 ≤ y ∧ y ≤ 100000) : VC Tryz.prog 21 [I Y, I G, ints l] h (.agg [I Y, I G, .gl h.fresh 3 l.length]) (h.push (.flat true ((l.map datP).flatMap encP))) := by
  refine VC.body Tryz.func21 rfl Tryz.ntmps21 Tryz.call21 (h.grows_push _) rfl ?_
  conv => whnf
  repeat (first | ((first | refine zs1 ?_ | refine zs2 ?_ | refine zs3 ?_ | refine zs4 ?_ | refine zs5 ?_ | refine zs6 [] ?_); conv => whnf))
  refine VCode.lp (fun k : Nat => [(6, .ptr (.loc 0) 0), (7, .ptr (.loc 1) 0), (14, ints l), (15, I l.length), (16, I k)])
    (fun k => [.flat true [DI 0, DI 0, .nilslice], .cells true [I Y, I G, .gl (.loc 2) 3 k], .flat true (((l.take k).map datP).flatMap encP)]) (fun k => k ≤ l.length) (fun k => l.length - k) 0 (Nat.zero_le _) ?_ ?_
  · conv => whnf
    refine Retell.turn ⟨[0,1,2], 2, [], []⟩ (TurnOk.mk' _ _ [] [] (OutOk.lift _) rfl (by decide) zb trivial trivial rfl) zv zm
  · intro k hk
    conv => whnf
    refine VIte.dec (fun h3 => ?_) (fun h3 => ?_)
    · have hp : l[k]? = some l[k] := List.getElem?_eq_getElem (by omega)
      have hts : l.take (k + 1) = l.take k ++ [l[k]] := by rw [List.take_add_one, hp]; rfl
      have hbk := hb l[k] (List.getElem_mem (by omega))
      generalize l[k] = y at hp hts hbk
      have hlk : ((l.take k).map datP).length = k := by simp; omega
      conv => whnf
      repeat' (first | ((first | refine zs1 ?_ | refine zs2 ?_ | refine zs3 ?_ | refine zs4 ?_ | refine zs5 ?_ | refine zs6 [] ?_); conv => whnf) | ((first | apply zi1 | apply zi2 | apply zi3 | apply zi4 | apply zi5) <;> intro _ <;> conv => whnf) | (refine VAny.ix encI_len k rfl rfl hp ?_; conv => whnf))
      · rename_i hy
        have hd : datP y = ⟨1, 0 - y, 0 - y⟩ := by rw [datP, if_pos hy]; simp
        refine VMem.app1 (l := (l.take k).map datP) (⟨1, 0 - y, 0 - y⟩ : Pap) encP_len rfl rfl rfl hlk.symm rfl (by omega) ?_
        conv => whnf
        repeat (first | ((first | refine zs1 ?_ | refine zs2 ?_ | refine zs3 ?_ | refine zs4 ?_ | refine zs5 ?_ | refine zs6 [] ?_); conv => whnf))
        refine LEnd.intro (k + 1) (by omega) (by omega) ?_
        conv => whnf
        rw [hts, List.map_append, List.map_cons, List.map_nil, hd]
        refine Retell.turn ⟨[0,1,5], 6, [], []⟩ (TurnOk.mk' _ _ [] [] (OutOk.lift _) rfl (by decide) zb trivial trivial rfl) zv zm
      · rename_i hy
        have hd : datP y = ⟨0, y, y⟩ := if_neg hy
        refine VMem.app1 (l := (l.take k).map datP) (⟨0, y, y⟩ : Pap) encP_len rfl rfl rfl hlk.symm rfl (by omega) ?_
        conv => whnf
        repeat (first | ((first | refine zs1 ?_ | refine zs2 ?_ | refine zs3 ?_ | refine zs4 ?_ | refine zs5 ?_ | refine zs6 [] ?_); conv => whnf))
        refine LEnd.intro (k + 1) (by omega) (by omega) ?_
        conv => whnf
        rw [hts, List.map_append, List.map_cons, List.map_nil, hd]
        refine Retell.turn ⟨[0,1,5], 6, [], []⟩ (TurnOk.mk' _ _ [] [] (OutOk.lift _) rfl (by decide) zb trivial trivial rfl) zv zm
    · have hk2 : k = l.length := by omega
      subst hk2
      rw [List.take_of_length_le (Nat.le_refl _)]
      conv => whnf
      repeat (first | ((first | refine zs1 ?_ | refine zs2 ?_ | refine zs3 ?_ | refine zs4 ?_ | refine zs5 ?_ | refine zs6 [] ?_); conv => whnf))
      exact VOut.own3 2 3 rfl rfl
end Go.Proofs.YtdblcfkmijigbaaGreat.Sl

open Go.Vm
namespace Go.Proofs.YtdblcfkmijigbaaGreat.Sl
set_option maxRecDepth 20000
set_option maxHeartbeats 2000000

theorem encI_map : ∀ l : List Int, l.flatMap Vm.encI = (l.map fun y => S.int .i64 y).map D.s
  | [] => rfl
  | a :: l => by rw [List.flatMap_cons, encI_map l]; rfl
theorem VC.lendI {f : FuncId} {args : List V} {outer : Vm.Id → Option Blk} {loc : List Blk} {n : Nat} {l : List Int} {s : S} (ds : List D) (fz : List (Nat × List D)) (fm : List (Nat × List D × List D))
    (h0 : FzAll ⟨[], loc.length, fz, fm⟩ loc fz) (h0' : FmAll ⟨[], loc.length, fz, fm⟩ loc fm) (hv : VTos ⟨[], loc.length, fz, fm⟩ args (D.vs ds)) (hc : VC Tryz.prog f (D.vs ds) Hp.bare (.tuple [.gl (.loc 0) 1 n, .s s]) (Hp.bare.push (.flat true (l.flatMap Vm.encI)))) :
    VC Tryz.prog f args ⟨outer, loc⟩ (.tuple [.gl (.loc loc.length) 1 n, .s s]) ⟨outer, loc ++ [.flat true (l.flatMap Vm.encI)]⟩ := by
  rw [encI_map] at hc ⊢
  exact VC.lendL ds fz fm h0 h0' hv hc
def yl : List Int := [1700, 1715, 1730, 1745, 1760]
def f1 : Fil := ⟨50, 20, yl.map datP⟩
def f3 : Fil := ⟨50, 30, yl.map datP⟩
def f2 : Fil := ⟨50, 15, [⟨0, 1700, 1700⟩, ⟨0, 1715, 1715⟩, ⟨0, 1728, 1731⟩, ⟨0, 1745, 1745⟩, ⟨0, 1760, 1760⟩]⟩
def y6 : List Int := [1700, 1715, 1730, 1738, 1745, 1760]
def f4 : Fil := ⟨50, 20, [1700, 1715, 1730, -1738, 1745, 1760].map datP⟩
theorem told1 : toldE f1 yl = 0 := by decide +kernel
theorem told3 : toldE f3 yl = 0 := by decide +kernel
theorem told4 : toldE f4 y6 = 0 := by decide +kernel
theorem ar1 : arL f1 yl = [4] := by decide +kernel
theorem few1 : (few f1 yl 4).length = 5 := by decide +kernel
theorem few3 : (few f3 yl 4).length = 3 := by decide +kernel
theorem shw1 : Shw f1 yl 4 := by
  obtain ⟨q, h1, h2⟩ := show_ok (f := f1) (t := yl) (p := 4) (by decide +kernel)
  have : q = 4 := by omega
  rw [← this]; exact h2
theorem shw3 : Shw f3 yl 4 := by
  obtain ⟨q, h1, h2⟩ := show_ok (f := f3) (t := yl) (p := 4) (by decide +kernel)
  have : q = 4 := by omega
  rw [← this]; exact h2
theorem pv1 : pvE f1 yl 4 [1700, 1715, 1730] = 0 := by decide +kernel
theorem pv3 : pvE f3 yl 4 [1715] = 0 := by decide +kernel
theorem chk2 : chk f2 = 0 := by decide +kernel
theorem os2 : osG f2 = [0, 2] := by decide +kernel
theorem tru2 : truE f2 0 = 0 := by decide +kernel
theorem truG2 : truG f2 0 = yl := by decide +kernel
theorem sn2 : sinceE f2 0 = 0 ∧ (sn f2 0).lo = 1760 ∧ (sn f2 0).hi = 1760 := by decide +kernel
theorem chS4 : chS f4 y6 6 = [⟨0, 2⟩, ⟨3, 3⟩, ⟨4, 5⟩] := by decide +kernel
end Go.Proofs.YtdblcfkmijigbaaGreat.Sl

open Go.Vm
namespace Go.Proofs.YtdblcfkmijigbaaGreat.Sl
set_option maxRecDepth 20000
set_option maxHeartbeats 2000000

def dF (f : Fil) : D := .agg (encF f)
def dL (l : List Int) : D := .sl 1 l.length (l.flatMap Vm.encI)
theorem prv1 (h : Hp) : VC Tryz.prog 24 [vF f1, ints yl, I 4, ints [1700, 1715, 1730]] h (.tuple [I 5, I 0]) h := by
  have := vc_Proves_ok f1 yl 4 [1700, 1715, 1730] h (by decide) (by decide) told1 shw1
  rw [pv1] at this; exact this
theorem prv3 (h : Hp) : VC Tryz.prog 24 [vF f3, ints yl, I 4, ints [1715]] h (.tuple [I 3, I 0]) h := by
  have := vc_Proves_ok f3 yl 4 [1715] h (by decide) (by decide) told3 shw3
  rw [pv3] at this; exact this
def s4 : List Spn := [⟨0, 2⟩, ⟨3, 3⟩, ⟨4, 5⟩]
theorem ch4 (h : Hp) : VC Tryz.prog 28 [vF f4, ints y6] h (.tuple [spans s4, I 0]) h := by
  have := vc_Chains f4 y6 h (by decide) (by decide)
  rw [told4, if_pos rfl, show y6.length = 6 from rfl, chS4] at this; exact this
theorem vc_awake (h : Hp) : VC Tryz.prog 10 [] h (B true) h := by
  refine VC.bodyC 11 Tryz.func10 rfl Tryz.ntmps10 Tryz.call10 (h.grows_refl) rfl ?_; conv => whnf
  repeat (first | ((first | refine zs1 ?_ | refine zs2 ?_ | refine zs3 ?_ | refine zs4 ?_ | refine zs5 ?_ | refine zs6 [] ?_); conv => whnf))
  refine VCall.intro (VC.give (args' := [I 50, I 20, ints yl]) (loc' := [.dead]) [(0, yl.flatMap Vm.encI)] [] (OutOk.lift _) zb zf (by exact FmAll.nil) rfl zv (vc_DatedO 50 20 yl _ (by decide) (by decide))) ?_
  conv => whnf
  repeat (first | ((first | refine zs1 ?_ | refine zs2 ?_ | refine zs3 ?_ | refine zs4 ?_ | refine zs5 ?_ | refine zs6 [] ?_); conv => whnf))
  refine VCall.intro (VC.lendI [dF f1, dL yl] [(1, f1.ps.flatMap encP), (2, yl.flatMap Vm.encI)] [] zf trivial zv (vc_ArisesO f1 yl Hp.bare (by decide) (by decide) told1)) ?_
  rw [ar1]
  conv => whnf
  repeat (first | ((first | refine zs1 ?_ | refine zs2 ?_ | refine zs3 ?_ | refine zs4 ?_ | refine zs5 ?_ | refine zs6 [] ?_); conv => whnf))
  refine VCall.intro (VC.lendI [dF f1, dL yl, DI 4] [(1, f1.ps.flatMap encP), (2, yl.flatMap Vm.encI)] [] zf trivial zv (vc_FewestO f1 yl 4 Hp.bare (by decide) told1 shw1)) ?_
  have hf1 := few1
  generalize few f1 yl 4 = w1 at hf1
  rw [hf1]
  conv => whnf
  repeat (first | ((first | refine zs1 ?_ | refine zs2 ?_ | refine zs3 ?_ | refine zs4 ?_ | refine zs5 ?_ | refine zs6 [] ?_); conv => whnf))
  refine VCall.intro (VC.lendS [dF f1, dL yl, DI 4, dL [1700, 1715, 1730]] [(1, f1.ps.flatMap encP), (2, yl.flatMap Vm.encI), (6, [1700, 1715, 1730].flatMap Vm.encI)] [] zf trivial zv (prv1 Hp.bare)) ?_
  conv => whnf
  repeat (first | ((first | refine zs1 ?_ | refine zs2 ?_ | refine zs3 ?_ | refine zs4 ?_ | refine zs5 ?_ | refine zs6 [] ?_); conv => whnf))
  refine VCall.intro (VC.lend1 [dL [4], dL [4]] [(4, [4].flatMap Vm.encI), (7, [4].flatMap Vm.encI)] [] zf trivial zv (vc_equalI [4] [4] Hp.bare (by decide) (by decide))) ?_
  conv => whnf
  repeat (first | ((first | refine zs1 ?_ | refine zs2 ?_ | refine zs3 ?_ | refine zs4 ?_ | refine zs5 ?_ | refine zs6 [] ?_); conv => whnf))
  refine VCall.intro (VC.lendI [dF f3, dL yl, DI 4] [(1, f3.ps.flatMap encP), (2, yl.flatMap Vm.encI)] [] zf trivial zv (vc_FewestO f3 yl 4 Hp.bare (by decide) told3 shw3)) ?_
  have hf3 := few3
  generalize few f3 yl 4 = w3 at hf3
  rw [hf3]
  conv => whnf
  repeat (first | ((first | refine zs1 ?_ | refine zs2 ?_ | refine zs3 ?_ | refine zs4 ?_ | refine zs5 ?_ | refine zs6 [] ?_); conv => whnf))
  refine VCall.intro (VC.lendS [dF f3, dL yl, DI 4, dL [1715]] [(1, f3.ps.flatMap encP), (2, yl.flatMap Vm.encI), (9, [1715].flatMap Vm.encI)] [] zf trivial zv (prv3 Hp.bare)) ?_
  conv => whnf
  repeat (first | ((first | refine zs1 ?_ | refine zs2 ?_ | refine zs3 ?_ | refine zs4 ?_ | refine zs5 ?_ | refine zs6 [] ?_); conv => whnf))
  refine VCut.at [(1, .fp (encF f2)), (2, ints yl)] [] ?_ ?_
  · conv => whnf
    refine Retell.turn ⟨[], 10, [(1, f2.ps.flatMap encP), (2, yl.flatMap Vm.encI), (3, encF f2)], []⟩ (TurnOk.mk' _ _ [(1, f2.ps.flatMap encP), (2, yl.flatMap Vm.encI), (3, encF f2)] [] (OutOk.lift _) rfl (by decide) BTos.nil (FzAll.flat rfl (FzAll.flat rfl (FzAll.row rfl rfl (RowTo.vtos (l' := [I 50, I 15, .fs 3 5 (f2.ps.flatMap encP)]) zv) FzAll.nil))) trivial rfl) zv zm
  · conv => whnf
    repeat (first | ((first | refine zs1 ?_ | refine zs2 ?_ | refine zs3 ?_ | refine zs4 ?_ | refine zs5 ?_ | refine zs6 [] ?_); conv => whnf))
    refine VCall.intro (vc_Owners_ok f2 _ chk2) ?_
    rw [os2]
    conv => whnf
    repeat (first | ((first | refine zs1 ?_ | refine zs2 ?_ | refine zs3 ?_ | refine zs4 ?_ | refine zs5 ?_ | refine zs6 [] ?_); conv => whnf))
    refine VCall.intro (vc_Truth_ok f2 0 _ tru2) ?_
    rw [truG2]
    conv => whnf
    repeat (first | ((first | refine zs1 ?_ | refine zs2 ?_ | refine zs3 ?_ | refine zs4 ?_ | refine zs5 ?_ | refine zs6 [] ?_); conv => whnf))
    refine VCall.intro (vc_Since f2 0 _ (by decide)) ?_
    rw [show sinceR f2 0 = .tuple [.agg [I 1760, I 1760], I 0] from by unfold sinceR; rw [sn2.1, sn2.2.1, sn2.2.2]; rfl]
    conv => whnf
    repeat (first | ((first | refine zs1 ?_ | refine zs2 ?_ | refine zs3 ?_ | refine zs4 ?_ | refine zs5 ?_ | refine zs6 [] ?_); conv => whnf))
    refine VCall.intro (VC.lend1 [dL [0, 2], dL [0, 2]] [(1, [0, 2].flatMap Vm.encI)] [] zf trivial zv (vc_equalI [0, 2] [0, 2] Hp.bare (by decide) (by decide))) ?_
    conv => whnf
    repeat (first | ((first | refine zs1 ?_ | refine zs2 ?_ | refine zs3 ?_ | refine zs4 ?_ | refine zs5 ?_ | refine zs6 [] ?_); conv => whnf))
    refine VCall.intro (vc_equalI yl yl _ (by decide) (by decide)) ?_
    conv => whnf
    repeat (first | ((first | refine zs1 ?_ | refine zs2 ?_ | refine zs3 ?_ | refine zs4 ?_ | refine zs5 ?_ | refine zs6 [] ?_); conv => whnf))
    refine VAgg.intro (show _ = some (B false) from vneqS ⟨1760, 1760⟩ ⟨1760, 1760⟩) ?_
    conv => whnf
    repeat (first | ((first | refine zs1 ?_ | refine zs2 ?_ | refine zs3 ?_ | refine zs4 ?_ | refine zs5 ?_ | refine zs6 [] ?_); conv => whnf))
    refine VCall.intro (VC.give (args' := [I 50, I 20, ints [1700, 1715, 1730, -1738, 1745, 1760]]) (loc' := [.dead, .dead, .dead]) [(2, [1700, 1715, 1730, -1738, 1745, 1760].flatMap Vm.encI)] [] (OutOk.lift _) zb zf (by exact FmAll.nil) rfl zv (vc_Dated 50 20 [1700, 1715, 1730, -1738, 1745, 1760] _ (by decide) (by decide))) ?_
    conv => whnf
    repeat (first | ((first | refine zs1 ?_ | refine zs2 ?_ | refine zs3 ?_ | refine zs4 ?_ | refine zs5 ?_ | refine zs6 [] ?_); conv => whnf))
    refine VCall.intro (VC.give (args' := [vF f4, ints y6]) (loc' := [.dead, .dead, .dead, .dead]) [(3, y6.flatMap Vm.encI)] [] (OutOk.lift _) zb zf (by exact FmAll.nil) rfl zv (ch4 _)) ?_
    conv => whnf
    repeat (first | ((first | refine zs1 ?_ | refine zs2 ?_ | refine zs3 ?_ | refine zs4 ?_ | refine zs5 ?_ | refine zs6 [] ?_); conv => whnf))
    refine VCall.intro (VC.lend1 [.sl 2 3 (s4.flatMap encS), .sl 2 3 (s4.flatMap encS)] [(4, s4.flatMap encS)] [] zf trivial zv (vc_equalS s4 s4 Hp.bare (by decide) (by decide))) ?_
    conv => whnf
    repeat (first | ((first | refine zs1 ?_ | refine zs2 ?_ | refine zs3 ?_ | refine zs4 ?_ | refine zs5 ?_ | refine zs6 [] ?_); conv => whnf))
    exact VOut.same rfl
end Go.Proofs.YtdblcfkmijigbaaGreat.Sl

open Go.Vm
namespace Go.Proofs.YtdblcfkmijigbaaGreat.Sl
set_option maxRecDepth 20000
set_option maxHeartbeats 1000000

/-! A field that the river left, by silence: one paper for each year in which it is a shore's, dated by decades. -/
def gpp (o : Nat → Int) (i : Nat) : Pap := ⟨o i - 1, 10 * (i : Int), 10 * (i : Int)⟩
def gp (o : Nat → Int) : Nat → List Pap
  | 0 => []
  | i + 1 => if o i = 1 ∨ o i = 2 then gp o i ++ [gpp o i] else gp o i
def gt (o : Nat → Int) : Nat → List Int
  | 0 => []
  | i + 1 => if o i = 1 ∨ o i = 2 then gt o i ++ [10 * (i : Int)] else gt o i
theorem gt_map (o : Nat → Int) : ∀ n, gt o n = (gp o n).map fun p => p.lo
  | 0 => rfl
  | i + 1 => by
    rw [gt, gp]
    split
    · rw [List.map_append, gt_map o i]; rfl
    · exact gt_map o i
theorem gt_len (o : Nat → Int) (n : Nat) : (gt o n).length = (gp o n).length := by rw [gt_map, List.length_map]
theorem gp_len (o : Nat → Int) : ∀ n, (gp o n).length ≤ n
  | 0 => Nat.le_refl _
  | i + 1 => by
    have := gp_len o i
    rw [gp]
    split
    · rw [List.length_append]; simp; omega
    · omega
theorem gp_mem (o : Nat → Int) : ∀ n (p : Pap), p ∈ gp o n → ∃ j, j < n ∧ p = gpp o j ∧ (o j = 1 ∨ o j = 2)
  | 0, p, h => by cases h
  | i + 1, p, h => by
    rw [gp] at h
    split at h
    · rename_i ho
      rcases List.mem_append.1 h with h | h
      · obtain ⟨j, h1, h2⟩ := gp_mem o i p h
        exact ⟨j, by omega, h2⟩
      · rw [List.mem_singleton] at h
        exact ⟨i, by omega, h, ho⟩
    · obtain ⟨j, h1, h2⟩ := gp_mem o i p h
      exact ⟨j, by omega, h2⟩
theorem gp_rise (o : Nat → Int) : ∀ n, (gp o n).Pairwise fun p q => p.hi < q.lo
  | 0 => List.Pairwise.nil
  | i + 1 => by
    rw [gp]
    split
    · rw [List.pairwise_append]
      refine ⟨gp_rise o i, by simp, fun p hp q hq => ?_⟩
      rw [List.mem_singleton] at hq
      obtain ⟨j, h1, h2, _⟩ := gp_mem o i p hp
      subst hq h2
      show 10 * (j : Int) < 10 * (i : Int)
      omega
    · exact gp_rise o i
theorem chkGo_ok : ∀ (ps : List Pap) (last : Int), (∀ p ∈ ps, ¬ badPap p) → (∀ p ∈ ps, last < p.lo) → ps.Pairwise (fun p q => p.hi < q.lo) → chkGo ps last = 0
  | [], _, _, _, _ => rfl
  | p :: ps, last, h1, h2, h3 => by
    rw [List.pairwise_cons] at h3
    rw [chkGo, if_neg (h1 p List.mem_cons_self), if_neg (by have := h2 p List.mem_cons_self; omega)]
    exact chkGo_ok ps p.hi (fun q hq => h1 q (List.mem_cons_of_mem _ hq)) h3.1 h3.2
theorem gp_ok {o : Nat → Int} {n : Nat} (hn : n ≤ 16) {p : Pap} (hp : p ∈ gp o n) : ¬ badPap p := by
  obtain ⟨j, h1, h2, h3⟩ := gp_mem o n p hp
  subst h2
  unfold badPap gpp
  dsimp only
  omega
def gF (o : Nat → Int) (n : Nat) (Y : Int) : Fil := ⟨Y, 10, gp o n⟩
theorem gF_chk {o : Nat → Int} {n : Nat} {Y : Int} (hn : n ≤ 16) (hY : 1 ≤ Y ∧ Y ≤ 500) : chk (gF o n Y) = 0 := by
  unfold chk gF
  dsimp only
  have := gp_len o n
  rw [if_neg (by omega), if_neg (by omega)]
  refine chkGo_ok _ _ (fun p hp => gp_ok hn hp) (fun p hp => ?_) (gp_rise o n)
  obtain ⟨j, h1, h2, h3⟩ := gp_mem o n p hp
  subst h2
  show (-1 : Int) < 10 * (j : Int)
  omega
theorem holds_ok : ∀ ps : List Pap, (∀ p ∈ ps, p.lo ≤ p.hi) → holdsS ps (ps.map fun p => p.lo) = true
  | [], _ => rfl
  | p :: ps, h => by
    rw [List.map_cons, holdsS, holds_ok ps fun q hq => h q (List.mem_cons_of_mem _ hq), Bool.and_true]
    have := h p List.mem_cons_self
    exact decide_eq_true ⟨by omega, this⟩
theorem gF_told {o : Nat → Int} {n : Nat} {Y : Int} (hn : n ≤ 16) (hY : 1 ≤ Y ∧ Y ≤ 500) : toldE (gF o n Y) (gt o n) = 0 := by
  have h0 := gF_chk (o := o) hn hY
  have hl : (gt o n).length = (gF o n Y).ps.length := gt_len o n
  have h1 : hldE (gF o n Y) (gt o n) = 0 := by
    unfold hldE
    rw [if_neg (by simp [h0]), if_neg (by simp [hl])]
  have h2 : hldB (gF o n Y) (gt o n) = true := by
    unfold hldB
    rw [if_pos ⟨h0, hl⟩, gt_map]
    refine holds_ok _ fun p hp => ?_
    obtain ⟨j, _, h2, _⟩ := gp_mem o n p hp
    subst h2
    exact Int.le_refl _
  unfold toldE
  rw [if_neg (by simp [h2]), h1]
structure Tl (o : Nat → Int) (n b : Nat) (w : Int) : Prop where
  lt : b < n
  own : w = 1 ∨ w = 2
  same : ∀ i, b ≤ i → i < n → o i = w
  begun : b = 0 ∨ o (b - 1) ≠ w
theorem gp_tail {o : Nat → Int} {b : Nat} {w : Int} (hw : w = 1 ∨ w = 2) : ∀ k, (∀ i, b ≤ i → i < b + k → o i = w) → gp o (b + k) = gp o b ++ (List.range k).map fun j => gpp o (b + j)
  | 0, _ => by simp
  | k + 1, h => by
    rw [← Nat.add_assoc, gp, if_pos (by rw [h (b + k) (by omega) (by omega)]; exact hw), gp_tail hw k fun i h1 h2 => h i h1 (by omega), List.range_succ, List.map_append, List.append_assoc]
    rfl
theorem Tl.at {o : Nat → Int} {n b : Nat} {w : Int} (T : Tl o n b w) {k : Nat} (hk : b + k < n) : (gp o n)[(gp o b).length + k]? = some ⟨w - 1, 10 * ((b + k : Nat) : Int), 10 * ((b + k : Nat) : Int)⟩ := by
  have h := T.lt
  have e : n = b + (n - b) := by omega
  have h1 := gp_tail (o := o) (b := b) T.own (n - b) fun i h1 h2 => T.same i h1 (by omega)
  rw [← e] at h1
  rw [h1, List.getElem?_append_right (by omega), Nat.add_sub_cancel_left, List.getElem?_map, List.getElem?_range (by omega)]
  show some (gpp o (b + k)) = _
  unfold gpp
  rw [T.same (b + k) (by omega) hk]
theorem Tl.len {o : Nat → Int} {n b : Nat} {w : Int} (T : Tl o n b w) : (gp o n).length = (gp o b).length + (n - b) := by
  have h := T.lt
  have e : n = b + (n - b) := by omega
  have h1 := gp_tail (o := o) (b := b) T.own (n - b) fun i h1 h2 => T.same i h1 (by omega)
  rw [← e] at h1
  rw [h1, List.length_append, List.length_map, List.length_range]
theorem Tl.sd {o : Nat → Int} {n b : Nat} {w Y : Int} (T : Tl o n b w) {k : Nat} (hk : b + k < n) : sdAt (gF o n Y) ((gp o b).length + k) = w - 1 := sdAt_eq (f := gF o n Y) (T.at hk)
theorem Tl.tm {o : Nat → Int} {n b : Nat} {w : Int} (T : Tl o n b w) {k : Nat} (hk : b + k < n) : tAt (gt o n) ((gp o b).length + k) = 10 * ((b + k : Nat) : Int) := by
  refine tAt_eq ?_
  rw [gt_map, List.getElem?_map, T.at hk]; rfl
theorem Tl.prev {o : Nat → Int} {n b : Nat} {w : Int} (T : Tl o n b w) (hm : 0 < (gp o b).length) : ∃ p, (gp o n)[(gp o b).length - 1]? = some p ∧ ∃ j, j < b ∧ p = gpp o j := by
  have h := T.lt
  have e : n = b + (n - b) := by omega
  have h1 := gp_tail (o := o) (b := b) T.own (n - b) fun i h1 h2 => T.same i h1 (by omega)
  rw [← e] at h1
  have hp : (gp o b)[(gp o b).length - 1]? = some (gp o b)[(gp o b).length - 1] := List.getElem?_eq_getElem (by omega)
  obtain ⟨j, h2, h3, _⟩ := gp_mem o b _ (List.mem_of_getElem? hp)
  refine ⟨_, ?_, j, h2, h3⟩
  rw [h1, List.getElem?_append_left (by omega)]
  exact hp
theorem Tl.bg {o : Nat → Int} {n b : Nat} {w Y : Int} (T : Tl o n b w) : bgB (gF o n Y) (gt o n) (gp o b).length = true := by
  have hlt := T.lt
  have h1 := T.sd (Y := Y) (k := 0) (by omega)
  have h2 := T.tm (k := 0) (by omega)
  rw [Nat.add_zero] at h1 h2
  unfold bgB
  rw [h1, h2]
  rcases Nat.eq_zero_or_pos (gp o b).length with h0 | h0
  · exact decide_eq_true (.inl h0)
  · obtain ⟨p, hp, j, hj, rfl⟩ := T.prev h0
    have g1 : sdAt (gF o n Y) ((gp o b).length - 1) = o j - 1 := sdAt_eq (f := gF o n Y) hp
    have g2 : tAt (gt o n) ((gp o b).length - 1) = 10 * (j : Int) := tAt_eq (by rw [gt_map, List.getElem?_map, hp]; rfl)
    rw [g1, g2]
    refine decide_eq_true (.inr ?_)
    rcases T.begun with hb | hb
    · omega
    by_cases e : j = b - 1
    · subst e; exact .inl (by omega)
    · right
      show (10 : Int) < _
      omega
theorem Tl.nb {o : Nat → Int} {n b : Nat} {w Y : Int} (T : Tl o n b w) {k : Nat} (hk : b + (k + 1) < n) : bgB (gF o n Y) (gt o n) ((gp o b).length + (k + 1)) = false := by
  have h1 := T.sd (Y := Y) (k := k + 1) hk
  have h2 := T.tm (k := k + 1) hk
  have h3 := T.sd (Y := Y) (k := k) (by omega)
  have h4 := T.tm (k := k) (by omega)
  unfold bgB
  rw [show (gp o b).length + (k + 1) - 1 = (gp o b).length + k by omega, h1, h2, h3, h4]
  refine decide_eq_false ?_
  rintro (h | h | h)
  · omega
  · exact h rfl
  · have : (10 : Int) < 10 * ((b + (k + 1) : Nat) : Int) - 10 * ((b + k : Nat) : Int) := h
    omega
theorem Tl.fst {o : Nat → Int} {n b : Nat} {w Y : Int} (T : Tl o n b w) : ∀ k, b + k < n → fst (gF o n Y) (gt o n) ((gp o b).length + k) = (gp o b).length
  | 0, _ => by
    have h := T.bg (Y := Y)
    rw [Nat.add_zero]
    cases hm : (gp o b).length with
    | zero => rfl
    | succ m =>
      rw [hm] at h
      rw [Sl.fst, if_pos h]
  | k + 1, hk => by
    have h := T.nb (Y := Y) hk
    have ih := T.fst (Y := Y) k (by omega)
    rw [← Nat.add_assoc] at h ⊢
    rw [Sl.fst, h, ih]; rfl
theorem Tl.ar {o : Nat → Int} {n b : Nat} {w Y : Int} (T : Tl o n b w) (hY : 1 ≤ Y) {k : Nat} (hk : b + k < n) : arB (gF o n Y) (gt o n) ((gp o b).length + k) = decide ((k : Int) = (Y + 9) / 10) := by
  have h1 := T.fst (Y := Y) k hk
  have h2 := T.tm hk
  have h3 := T.tm (k := 0) (by omega)
  rw [Nat.add_zero] at h3
  unfold arB
  rw [h1, h2, h3]
  show decide (Y ≤ _ ∧ _ < Y) = _
  rw [decide_eq_decide]
  cases k with
  | zero =>
    constructor
    · intro ⟨g, _⟩; omega
    · intro g; omega
  | succ k =>
    have h4 := T.tm (k := k) (by omega)
    rw [show (gp o b).length + (k + 1) - 1 = (gp o b).length + k by omega, h4]
    omega
theorem Tl.ownS {o : Nat → Int} {n b : Nat} {w Y : Int} (T : Tl o n b w) (hY : 1 ≤ Y) {K : Nat} (hK : (K : Int) = (Y + 9) / 10) : ∀ j, b + (K + j) < n → ownS (gF o n Y) (gt o n) ((gp o b).length + (K + j) + 1) = (w - 1, 10 * ((b + K : Nat) : Int))
  | 0, hj => by
    have h1 := T.ar hY (k := K) (by omega)
    rw [decide_eq_true hK] at h1
    show Sl.ownS _ _ ((gp o b).length + K + 1) = _
    rw [Sl.ownS, if_pos h1, T.sd (by omega), T.tm (by omega)]
  | j + 1, hj => by
    have h1 := T.ar hY (k := K + (j + 1)) (by omega)
    rw [decide_eq_false (by omega)] at h1
    rw [Sl.ownS, if_neg (by rw [h1]; exact Bool.false_ne_true)]
    exact T.ownS hY hK j (by omega)
theorem Tl.own_eq {o : Nat → Int} {n b : Nat} {w Y : Int} (T : Tl o n b w) (hY : 1 ≤ Y) (hl : Y ≤ 10 * ((n : Int) - 1 - b)) : Sl.own (gF o n Y) (gt o n) = (w - 1, 10 * ((b : Int) + (Y + 9) / 10)) := by
  obtain ⟨K, hK⟩ : ∃ K : Nat, (K : Int) = (Y + 9) / 10 := ⟨((Y + 9) / 10).toNat, by omega⟩
  have hlt := T.lt
  have h := T.ownS hY hK (n - 1 - b - K) (by omega)
  unfold Sl.own
  rw [gt_len, T.len, show (gp o b).length + (n - b) = (gp o b).length + (K + (n - 1 - b - K)) + 1 by omega, h, ← hK]
  simp
/-! One truth alone. -/
theorem tru_one : ∀ (ps : List Pap) (t : List Int), (∀ p ∈ ps, p.hi = p.lo) → ps.foldl (fun ts p => ext1 p ts) [t] = [t ++ ps.map fun p => p.lo]
  | [], t, _ => by simp
  | p :: ps, t, h => by
    have hp := h p List.mem_cons_self
    have e : ext1 p [t] = [t ++ [p.lo]] := by
      unfold ext1 yrs
      rw [show (p.hi - p.lo + 1).toNat = 1 by omega]
      simp
    rw [List.foldl_cons, e, tru_one ps _ fun q hq => h q (List.mem_cons_of_mem _ hq), List.map_cons, List.append_assoc]
    rfl
theorem gF_tru (o : Nat → Int) (n : Nat) (Y : Int) : tru (gF o n Y).ps = [gt o n] := by
  unfold tru gF
  rw [tru_one _ _ fun p hp => ?_, List.nil_append, gt_map]
  obtain ⟨j, _, h2, _⟩ := gp_mem o n p hp
  subst h2; rfl
theorem Tl.sn {o : Nat → Int} {n b : Nat} {w Y : Int} (T : Tl o n b w) (hY : 1 ≤ Y) (hl : Y ≤ 10 * ((n : Int) - 1 - b)) : sn (gF o n Y) (w - 1) = ⟨true, 10 * ((b : Int) + (Y + 9) / 10), 10 * ((b : Int) + (Y + 9) / 10)⟩ := by
  unfold Sl.sn
  rw [gF_tru, List.foldl_cons, List.foldl_nil]
  unfold snF
  rw [T.own_eq hY hl, if_pos rfl]
  simp
theorem Tl.since {o : Nat → Int} {n b : Nat} {w Y : Int} (T : Tl o n b w) (hn : n ≤ 16) (hY : 1 ≤ Y ∧ Y ≤ 500) (hl : Y ≤ 10 * ((n : Int) - 1 - b)) : sinceE (gF o n Y) (w - 1) = 0 := by
  unfold sinceE
  rw [if_neg (by rw [gF_chk hn hY]; simp), if_neg (by have := T.own; omega), T.sn hY.1 hl]; rfl
/-! When a cell changed its owner last. -/
theorem lsK_tl {o : Nat → Int} : ∀ m : Nat, ∃ b : Nat, (b : Int) = max 0 (lsK o m) ∧ b ≤ m ∧ (∀ i, b ≤ i → i ≤ m → o i = o m) ∧ (b = 0 ∨ o (b - 1) ≠ o m)
  | 0 => ⟨0, by rw [lsK]; omega, Nat.le_refl _, fun i h1 h2 => by rw [show i = 0 by omega], .inl rfl⟩
  | m + 1 => by
    obtain ⟨b, h1, h2, h3, h4⟩ := lsK_tl (o := o) m
    by_cases h : o (m + 1) = o m
    · refine ⟨b, by rw [h1]; simp [lsK, h], by omega, fun i g1 g2 => ?_, ?_⟩
      · rcases Nat.lt_or_ge m i with g | g
        · rw [show i = m + 1 by omega]
        · rw [h3 i g1 g, h]
      · rw [h]; exact h4
    · refine ⟨m + 1, ?_, Nat.le_refl _, fun i g1 g2 => by rw [show i = m + 1 by omega], .inr ?_⟩
      · have : lsK o (m + 1) = ((m + 1 : Nat) : Int) := by rw [lsK, if_pos h]
        rw [this]; omega
      · rw [Nat.add_sub_cancel]; exact fun e => h e.symm
end Go.Proofs.YtdblcfkmijigbaaGreat.Sl

open Go.Vm
open Riv
namespace Go.Proofs.YtdblcfkmijigbaaGreat
set_option maxRecDepth 20000
set_option maxHeartbeats 4000000

theorem lsK_congr {f g : Nat → Int} : ∀ n, (∀ y, y ≤ n → f y = g y) → lsK f n = lsK g n
  | 0, _ => rfl
  | n + 1, h => by
    unfold lsK
    rw [lsK_congr n fun y hy => h y (by omega), h (n + 1) (Nat.le_refl _), h n (by omega)]
section
variable {W H : Nat} {L : List (List Int)}
theorem kLsG (hL : ∀ c ∈ L, MOk W H c) (hn : 1 ≤ L.length ∧ L.length ≤ 10) {slow : Int} (hs : 0 ≤ slow ∧ slow ≤ 144) {cell : Nat} (hc : cell < W * H) (h : Hp) : VC Tryz.prog 7 [yrs (mpl W H L), I slow, I cell] h (.tuple [I (lsK (fun y => at0 (owns (lawAt W L slow y) W) cell) (L.length - 1)), I 0]) h := by
  have := vc_Last (mpl W H L) slow cell h (by rw [mpl_len]; omega) (mpl_few hL)
  have o0 : MOk W H (L.getD 0 []) := by
    have e : L.getD 0 [] = L[0] := by rw [List.getD_eq_getElem?_getD, List.getElem?_eq_getElem (by omega)]; rfl
    rw [e]; exact hL _ (List.getElem_mem (by omega))
  have hr : rlE (mpl W H L) slow = 0 := by unfold rlE; rw [if_pos (mpl_chk hL hn), if_pos hs]
  have hw : lwA (mpl W H L) slow = mpl W H (lawL W L slow) := by unfold lwA; rw [if_pos hr, wOf_mpl hn.1, lawY_mpl]
  have e : Go.Proofs.YtdblcfkmijigbaaGreat.dnE (mpl W H L) slow cell = 0 := by
    unfold Go.Proofs.YtdblcfkmijigbaaGreat.dnE
    rw [if_pos hr, mpl_getD (by omega), if_pos]
    show 0 ≤ (cell : Int) ∧ (cell : Int) ≤ ((L.getD 0 []).length : Int) - 1
    rw [o0.len]
    omega
  unfold Go.Proofs.YtdblcfkmijigbaaGreat.dnL at this
  rw [e, if_pos rfl, hw, mpl_len, wOf_mpl hn.1, Int.toNat_natCast] at this
  rw [lsK_congr (g := fun y => at0 (owns (lawAt W L slow y) W) cell) _ fun y hy => by
    rw [mpl_getD (by rw [lawL_len]; omega), List.getD_eq_getElem?_getD, lawL_at (by omega)]; rfl] at this
  exact this
theorem kOG {c : List Int} (o : MOk W H c) (h : Hp) : VC Tryz.prog 8 [vM (mp W H c)] h (.tuple [ints (owns c W), I 0]) h := by
  have := vc_Owners (mp W H c) h (by have := MOk.le o; show c.length ≤ _; omega)
  have e : chkM (mp W H c) = 0 := chkM_of o
  rw [if_pos e, e] at this
  exact this
end
theorem top41 : eqTop Tryz.prog 41 = some (Sh.cons 0 1 false Sh.int (Sh.cons 1 1 false Sh.int Sh.nil)) := by kernel_rfl
theorem veqV (v w : Int) : vaggeq Tryz.prog .eql 41 (.agg [I v, I w]) (.agg [I v, I w]) = some (B true) := by
  unfold vaggeq
  simp only [top41]
  simp [veqSh, vpart, kindEq, I, B]
end Go.Proofs.YtdblcfkmijigbaaGreat

open Go.Vm
open Riv
namespace Go.Proofs.YtdblcfkmijigbaaGreat
set_option maxRecDepth 20000
set_option maxHeartbeats 8000000

def whK (o : Nat → Int) : Nat → Int
  | 0 => 0
  | i + 1 => o i
theorem vc_SilenceGrown (bs : List Int) (x1 : Int) (hx1 : 0 ≤ x1 ∧ x1 ≤ 255) (x2 : Int) (hx2 : 0 ≤ x2 ∧ x2 ≤ 255) (x3 : Int) (hx3 : 0 ≤ x3 ∧ x3 ≤ 255) (h : Hp) : VC Tryz.prog 3 [bytes bs, .s (.int .u8 x1), .s (.int .u8 x2), .s (.int .u8 x3)] h (B true) h := by
  obtain ⟨W, H, hWw, hHh, hW4, hL, hn, hdn, c1⟩ := vc_Aged bs ((0 : Nat), (9 : Int)) 7 4 8 (by decide) (by decide) (by decide) (by decide)
  have c0 := vc_Of bs
  have ht1 : x1.tmod 20 = x1 % 20 := Int.tmod_eq_emod_of_nonneg hx1.1
  have ht3 : x3.tmod 60 = x3 % 60 := Int.tmod_eq_emod_of_nonneg hx3.1
  generalize (agedX (dNx bs) ((0 : Nat), (9 : Int)) 7 4 8).2 = L at *
  generalize (agedX (dNx bs) ((0 : Nat), (9 : Int)) 7 4 8).1 = dd at *
  have hn10 : 1 ≤ L.length ∧ L.length ≤ 10 := ⟨hn.1, by omega⟩
  obtain ⟨s, hs⟩ : ∃ s, s = x1.tmod 20 := ⟨_, rfl⟩
  have hsb : 0 ≤ s ∧ s ≤ 144 := by rw [hs, ht1]; omega
  obtain ⟨Y, hY⟩ : ∃ Y, Y = 1 + x3.tmod 60 := ⟨_, rfl⟩
  have hYb : 1 ≤ Y ∧ Y ≤ 60 := by rw [hY, ht3]; omega
  have o0 : MOk W H (L.getD 0 []) := by
    have e : L.getD 0 [] = L[0] := by rw [List.getD_eq_getElem?_getD, List.getElem?_eq_getElem (by omega)]; rfl
    rw [e]; exact hL _ (List.getElem_mem (by omega))
  have wh : W * H ≤ 144 := o0.few.2.2
  have wh1 : 1 ≤ W * H := Nat.mul_pos (by omega) (by have := o0.h.1; omega)
  have l0 : (mp W H (L.getD 0 [])).c.length = W * H := o0.len
  have ht2 : x2.tmod ((W * H : Nat) : Int) = x2 % ((W * H : Nat) : Int) := Int.tmod_eq_emod_of_nonneg hx2.1
  have hcb : 0 ≤ x2.tmod ((W * H : Nat) : Int) ∧ x2.tmod ((W * H : Nat) : Int) < ((W * H : Nat) : Int) := by
    rw [ht2]; exact ⟨Int.emod_nonneg _ (by omega), Int.emod_lt_of_pos _ (by omega)⟩
  obtain ⟨cell, hcell⟩ : ∃ cell : Nat, x2.tmod ((W * H : Nat) : Int) = cell := ⟨(x2.tmod ((W * H : Nat) : Int)).toNat, by omega⟩
  have hcz : cell < W * H := by omega
  have cS := kL hL hn10 hsb
  have cLs := kLsG hL hn10 hsb hcz
  have lM : (mpl W H L).length = L.length := mpl_len
  have lA : (mpl W H (lawL W L s)).length = L.length := by rw [mpl_len, lawL_len]
  have y0M : (mpl W H L)[0]? = some (mp W H (L.getD 0 [])) := mpl_at (by omega)
  have xA : ∀ y, y < L.length → (mpl W H (lawL W L s))[y]? = some (mp W H (lawAt W L s y)) := fun y hy => by rw [List.getElem?_map, lawL_at hy]; rfl
  have cO := fun y hy => kOG (lawAt_mok hL s (y := y) hy)
  have lO : ∀ y, y < L.length → (owns (lawAt W L s y) W).length = W * H := fun y hy => by rw [owns_len]; exact (lawAt_mok hL s hy).len
  have cA := Sl.vc_awake
  have hz1 : (((mp W H (L.getD 0 [])).c.length : Int) != 0) = true := by rw [l0, bne_iff_ne]; omega
  have hz2 : decide (((mp W H (L.getD 0 [])).c.length : Int) ≠ 0) = true := by rw [l0, decide_eq_true_eq]; omega
  have hz3 : (!(((mp W H (L.getD 0 [])).c.length : Int) == 0)) = true := hz1
  refine VC.bodyC 2 Tryz.func3 rfl Tryz.ntmps3 Tryz.call3 (h.grows_refl) rfl ?_
  conv => whnf
  repeat' (first | ((first | refine zs1 ?_ | refine zs2 ?_ | refine zs3 ?_ | refine zs4 ?_ | refine zs5 ?_); conv => whnf) | ((first | apply zi1 | apply zi2 | apply zi3 | apply zi4 | apply zi5) <;> intro _ <;> conv => whnf) | (refine VCall.intro (c0 _) ?_; conv => whnf) | (refine VCall.intro (c1 (.loc 0) _ rfl) ?_; conv => whnf))
  refine VCut.at' (outer := h.lift) (marks := []) 1 [(1, .s (.int .u8 x1)), (2, .s (.int .u8 x2)), (3, .s (.int .u8 x3)), (9, yrs (mpl W H L))] [] ?_ ?_
  · conv => whnf
    refine Retell.turn ⟨[], 9, [], []⟩ (TurnOk.mk' _ _ [] [] (OutOk.lift _) rfl (by decide) zb trivial trivial rfl) zw zm
  conv => whnf
  repeat' (first | ((first | refine zs1 ?_ | refine zs2 ?_ | refine zs3 ?_ | refine zs4 ?_ | refine zs5 ?_); conv => whnf) | ((first | apply zi1 | apply zi2 | apply zi3 | apply zi4 | apply zi5) <;> intro _ <;> first | (exfalso; omega) | contradiction | (conv => whnf)))
  refine zs6 [] ?_
  conv => whnf
  repeat' (first | ((first | refine zs1 ?_ | refine zs2 ?_ | refine zs3 ?_ | refine zs4 ?_ | refine zs5 ?_); conv => whnf) | ((first | apply zi1 | apply zi2 | apply zi3 | apply zi4 | apply zi5) <;> intro _ <;> first | (exfalso; omega) | contradiction | (conv => whnf)) | (refine VAny.ix encM_len 0 rfl rfl y0M ?_; conv => whnf))
  refine VCut.at' (outer := h.lift) (marks := []) 7 [(3, .s (.int .u8 x3)), (9, yrs (mpl W H L)), (10, I s), (11, I cell)] [] ?_ ?_
  · conv => whnf
    rw [← hs, l0, hcell]
    refine Retell.turn ⟨[], 9, [], []⟩ (TurnOk.mk' _ _ [] [] (OutOk.lift _) rfl (by decide) zb trivial trivial rfl) zw zm
  clear hs ht1 ht2 hcb hcell hz1 hz2 hz3 c0 c1 hx1 hx2
  obtain ⟨o, ho⟩ : ∃ o : Nat → Int, o = fun y => at0 (owns (lawAt W L s y) W) cell := ⟨_, rfl⟩
  have hoy : ∀ y, at0 (owns (lawAt W L s y) W) cell = o y := fun y => by rw [ho]
  rw [← ho] at cLs
  have xO : ∀ y, y < L.length → (owns (lawAt W L s y) W)[cell]? = some (o y) := fun y hy => by
    rw [← hoy]; exact at0_get (by rw [lO y hy]; exact hcz)
  clear ho hoy hL
  obtain ⟨b, hb1, hb2, hb3, hb4⟩ := Sl.lsK_tl (o := o) (L.length - 1)
  have hlsb : -1 ≤ lsK o (L.length - 1) ∧ lsK o (L.length - 1) ≤ 10 := by
    have : ∀ m, -1 ≤ lsK o m ∧ lsK o m ≤ m := fun m => by
      induction m with
      | zero => rw [lsK]; omega
      | succ m ih => rw [lsK]; split <;> omega
    have := this (L.length - 1)
    omega
  generalize lsK o (L.length - 1) = la at *
  generalize mpl W H L = M at *
  generalize mpl W H (lawL W L s) = AA at *
  generalize L.getD 0 [] = m0 at *
  generalize lawAt W L s = q at *
  generalize hnn : L.length = n at *
  conv => whnf
  repeat' (first | ((first | refine zs1 ?_ | refine zs2 ?_ | refine zs3 ?_ | refine zs4 ?_ | refine zs5 ?_); conv => whnf) | ((first | apply zi1 | apply zi2 | apply zi3 | apply zi4 | apply zi5) <;> intro _ <;> first | (exfalso; omega) | contradiction | (conv => whnf)) | (refine VCall.intro (cS _) ?_; conv => whnf) | (refine VCall.intro (cLs _) ?_; conv => whnf))
  refine VCode.lpC (outer := h.lift) (marks := []) 99 (fun i : Nat => [(9, yrs M), (11, I cell), (14, I la), (16, .ptr (.loc 0) 0), (17, .gl (.loc 2) 1 (Sl.gt o i).length), (18, I (whK o i)), (72, yrs AA), (73, I n), (74, I i)]) (fun i => [.cells true [I Y, I 10, .gl (.loc 1) 3 (Sl.gp o i).length], .flat true ((Sl.gp o i).flatMap Sl.encP), .flat true ((Sl.gt o i).flatMap Vm.encI)]) (fun i => i ≤ n) (fun i => n - i) 0 (Nat.zero_le _) ?_ ?_
  · rw [← lA]
    conv => whnf
    rw [← hY]
    refine Retell.turn ⟨[0,1,2], 1, [], []⟩ (TurnOk.mk' _ _ [] [] (OutOk.lift _) rfl (by decide) zb trivial trivial rfl) zw zm
  clear cS cLs hY ht3 hx3
  rintro i hi
  rcases Nat.lt_or_ge i n with h3 | h3
  · have xA := xA i h3
    have cO := cO i h3
    have lO := lO i h3
    have xO := xO i h3
    have hp := Sl.gp_len o i
    have ht := Sl.gt_len o i
    have hsp : Sl.gp o (i + 1) = if o i = 1 ∨ o i = 2 then Sl.gp o i ++ [Sl.gpp o i] else Sl.gp o i := rfl
    have hst : Sl.gt o (i + 1) = if o i = 1 ∨ o i = 2 then Sl.gt o i ++ [10 * (i : Int)] else Sl.gt o i := rfl
    have hwh : whK o (i + 1) = o i := rfl
    generalize owns (q i) W = Ow at *
    generalize Sl.gp o i = P at *
    generalize Sl.gt o i = T at *
    by_cases hc : o i = 1 ∨ o i = 2
    · rw [if_pos hc] at hsp hst
      have hpe : Sl.gpp o i = ⟨o i - 1, 10 * (i : Int), 10 * (i : Int)⟩ := rfl
      rw [hpe] at hsp
      generalize o i = w at *
      conv => whnf
      repeat' (first | ((first | refine zs1 ?_ | refine zs2 ?_ | refine zs3 ?_ | refine zs4 ?_ | refine zs5 ?_); conv => whnf) | ((first | apply zi1 | apply zi2 | apply zi3 | apply zi4 | apply zi5) <;> intro _ <;> first | (exfalso; omega) | contradiction | (conv => whnf)) | (refine VAny.ix encM_len i rfl rfl xA ?_; conv => whnf) | (refine VAny.ix encM_len 0 rfl rfl y0M ?_; conv => whnf) | (refine VCall.intro (cO _) ?_; conv => whnf) | (refine VAny.ix Vm.encI_len cell rfl rfl xO ?_; conv => whnf) | (refine VMem.app1 (l := P) (⟨w - 1, 10 * (i : Int), 10 * (i : Int)⟩ : Sl.Pap) Sl.encP_len rfl rfl rfl rfl rfl (by omega) ?_; conv => whnf) | (refine VMem.app1 (l := T) (10 * (i : Int)) Vm.encI_len rfl rfl rfl rfl rfl (by omega) ?_; conv => whnf))
      all_goals (
        refine LEnd.intro (i + 1) (by omega) (by omega) ?_
        rw [hsp, hst, hwh, List.length_append, List.length_append, List.length_singleton, List.length_singleton]
        conv => whnf
        refine Retell.turn ⟨[0,5,7], 9, [], []⟩ (TurnOk.mk' _ _ [] [] (OutOk.lift _) rfl (by decide) zb trivial trivial rfl) zw zm)
    · rw [if_neg hc] at hsp hst
      generalize o i = w at *
      conv => whnf
      repeat' (first | ((first | refine zs1 ?_ | refine zs2 ?_ | refine zs3 ?_ | refine zs4 ?_ | refine zs5 ?_); conv => whnf) | ((first | apply zi1 | apply zi2 | apply zi3 | apply zi4 | apply zi5) <;> intro _ <;> first | (exfalso; omega) | contradiction | (conv => whnf)) | (refine VAny.ix encM_len i rfl rfl xA ?_; conv => whnf) | (refine VAny.ix encM_len 0 rfl rfl y0M ?_; conv => whnf) | (refine VCall.intro (cO _) ?_; conv => whnf) | (refine VAny.ix Vm.encI_len cell rfl rfl xO ?_; conv => whnf))
      refine LEnd.intro (i + 1) (by omega) (by omega) ?_
      rw [hsp, hst, hwh]
      conv => whnf
      refine Retell.turn ⟨[0,1,2], 9, [], []⟩ (TurnOk.mk' _ _ [] [] (OutOk.lift _) rfl (by decide) zb trivial trivial rfl) zw zm
  · obtain rfl : i = n := by omega
    have hwk : whK o i = o (i - 1) := by
      obtain ⟨m, hm⟩ : ∃ m, i = m + 1 := ⟨i - 1, by omega⟩
      rw [hm]; rfl
    rw [hwk]
    have hpl := Sl.gp_len o i
    have htl := Sl.gt_len o i
    have hOw := fun h => Sl.vc_Owner (Sl.gF o i Y) (Sl.gt o i) h (by show (Sl.gp o i).length ≤ _; omega) (by omega)
    rw [Sl.gF_told (by omega) (by omega), if_pos rfl] at hOw
    have hSn := fun (w : Int) h => Sl.vc_Since (Sl.gF o i Y) w h (by show (Sl.gp o i).length ≤ _; omega)
    have fP : ((Sl.gp o i).flatMap Sl.encP).length = (Sl.gp o i).length * 3 := flat_len Sl.encP_len _
    have fT : ((Sl.gt o i).flatMap Vm.encI).length = (Sl.gp o i).length * 1 := by rw [flat_len Vm.encI_len, htl]
    have cOw : ∀ h, VC Tryz.prog 9 [.agg [I Y, I 10, .fs 3 (Sl.gp o i).length ((Sl.gp o i).flatMap Sl.encP)], .fs 1 (Sl.gp o i).length ((Sl.gt o i).flatMap Vm.encI)] h (.tuple [I (Sl.own (Sl.gF o i Y) (Sl.gt o i)).1, I 0]) h := fun h => by
      have c := hOw h
      unfold ints at c
      rw [htl] at c
      exact c
    have cSn : ∀ w h, VC Tryz.prog 11 [.agg [I Y, I 10, .fs 3 (Sl.gp o i).length ((Sl.gp o i).flatMap Sl.encP)], I w] h (Sl.sinceR (Sl.gF o i Y) w) h := fun w h => hSn w h
    clear hOw hSn
    conv => whnf
    repeat' (first | ((first | refine zs1 ?_ | refine zs2 ?_ | refine zs3 ?_ | refine zs4 ?_ | refine zs5 ?_); conv => whnf) | ((first | apply zi1 | apply zi2 | apply zi3 | apply zi4 | apply zi5) <;> intro _ <;> first | (exfalso; omega) | contradiction | (conv => whnf)))
    rw [htl]
    refine VCut.at' (outer := h.lift) (marks := []) 99 [(9, yrs M), (14, I la), (16, .fp [DI Y, DI 10, .sl 3 (Sl.gp o i).length ((Sl.gp o i).flatMap Sl.encP)]), (17, .fs 1 (Sl.gp o i).length ((Sl.gt o i).flatMap Vm.encI)), (18, I (o (i - 1)))] [] ?_ ?_
    · conv => whnf
      refine Retell.turn ⟨[], 9, [(1, (Sl.gp o i).flatMap Sl.encP), (2, (Sl.gt o i).flatMap Vm.encI), (0, [DI Y, DI 10, .sl 3 (Sl.gp o i).length ((Sl.gp o i).flatMap Sl.encP)])], []⟩ (TurnOk.mk' _ _ [(1, (Sl.gp o i).flatMap Sl.encP), (2, (Sl.gt o i).flatMap Vm.encI), (0, [DI Y, DI 10, .sl 3 (Sl.gp o i).length ((Sl.gp o i).flatMap Sl.encP)])] [] (OutOk.lift _) rfl (by decide) zb zr trivial rfl) zw zm
    have hq : IntKind.i64.wrap ((Y + 9).tdiv 10) = (Y + 9) / 10 := by
      rw [Int.tdiv_eq_ediv_of_nonneg (by omega), wrap_i64 (by omega)]
    have hb9 : b ≤ 10 := by omega
    by_cases hw : (o (i - 1) = 1 ∨ o (i - 1) = 2) ∧ Y ≤ 10 * ((i : Int) - 1 - b)
    · obtain ⟨hw1, hl⟩ := hw
      have T : Sl.Tl o i b (o (i - 1)) := ⟨by omega, hw1, fun j g1 g2 => hb3 j g1 (by omega), hb4⟩
      rw [T.own_eq hYb.1 hl] at cOw
      have cS2 := cSn (o (i - 1) - 1)
      have hsE := T.since (Y := Y) (by omega) (by omega) hl
      have hsn := T.sn hYb.1 hl
      unfold Sl.sinceR at cS2
      rw [hsE, hsn] at cS2
      have cS3 : ∀ h, VC Tryz.prog 11 [.agg [I Y, I 10, .fs 3 (Sl.gp o i).length ((Sl.gp o i).flatMap Sl.encP)], I (o (i - 1) - 1)] h (.tuple [.agg [I (10 * ((b : Int) + (Y + 9) / 10)), I (10 * ((b : Int) + (Y + 9) / 10))], I 0]) h := cS2
      dsimp only at cOw
      clear cSn cS2 hsE hsn T hb2 hb3 hb4
      generalize o (i - 1) = w at *
      generalize Sl.gp o i = P at *
      generalize Sl.gt o i = T at *
      conv => whnf
      repeat' (first | ((first | refine zs1 ?_ | refine zs2 ?_ | refine zs3 ?_ | refine zs4 ?_ | refine zs5 ?_); conv => whnf) | ((first | apply zi1 | apply zi2 | apply zi3 | apply zi4 | apply zi5) <;> intro _ <;> first | (exfalso; omega) | contradiction | (conv => whnf)) | (refine VCall.intro (cOw _) ?_; conv => whnf) | (simp only [← hb1]; conv => whnf) | (refine VCall.intro (cS3 _) ?_; conv => whnf) | (simp only [hq]; conv => whnf) | (refine VAgg.intro (veqV _ _) ?_; conv => whnf) | (refine VCall.intro (cA _) ?_; conv => whnf))
      all_goals exact VOut.same rfl
    · clear cSn hb2 hb3 hb4
      generalize (Sl.own (Sl.gF o i Y) (Sl.gt o i)).1 = ow at *
      generalize o (i - 1) = w at *
      generalize Sl.gp o i = P at *
      generalize Sl.gt o i = T at *
      conv => whnf
      repeat' (first | ((first | refine zs1 ?_ | refine zs2 ?_ | refine zs3 ?_ | refine zs4 ?_ | refine zs5 ?_); conv => whnf) | ((first | apply zi1 | apply zi2 | apply zi3 | apply zi4 | apply zi5) <;> intro _ <;> first | (exfalso; omega) | contradiction | (conv => whnf)) | (refine VCall.intro (cOw _) ?_; conv => whnf) | (simp only [← hb1]; conv => whnf) | (refine VCall.intro (cA _) ?_; conv => whnf))
      all_goals exact VOut.same rfl
end Go.Proofs.YtdblcfkmijigbaaGreat

