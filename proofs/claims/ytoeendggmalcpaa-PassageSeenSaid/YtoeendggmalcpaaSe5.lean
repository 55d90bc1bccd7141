/- Part 5 of the proof that passageSeen: with fewer sights word goes no faster. No condition. -/
import Derived.Test.YtoeendggmalcpaaSe4
set_option linter.unusedVariables false
set_option linter.unusedSimpArgs false
open Go.Vm
open Psg
namespace Go.Proofs.Ytoeendggmalcpaa
set_option maxRecDepth 20000
set_option maxHeartbeats 8000000

def tlN (N : Clip.Nt) : Nt := ⟨(N.ps.length : Int), Sen.tlK (Clip.offL N) N.ss N.ss.length⟩
theorem vc_told (N : Clip.Nt) (h : Hp) (o : Clip.NtOk N) : VC Try.prog 60 [St.vN N] h (.tuple [vN (tlN N), B true]) h := by
  have hn := o.n
  have hm := o.m
  have c1 := fun h => St.vc_Off_ok N h o
  have hOl : (Clip.offL N).length ≤ 4000000 := by
    have : (Clip.offL N).length ≤ N.ss.length := Sen.offS_le N.ps N.ss 0
    omega
  unfold tlN
  generalize hO : Clip.offL N = O at *
  have hlen := Sen.tlK_len O N.ss
  have hS : ∀ k (s : Clip.Sg), N.ss[k]? = some s → Sen.tlK O N.ss (k + 1) = if (k : Int) ∈ O then Sen.tlK O N.ss k else Sen.tlK O N.ss k ++ [Sen.sW s] := fun k s hs => by rw [Sen.tlK, hs]
  generalize hK : Sen.tlK O N.ss = K at *
  have hK0 : K 0 = [] := by rw [← hK]; rfl
  clear hO
  refine VC.bodyC 2 Try.func60 rfl Try.ntmps60 Try.call60 (h.grows_refl) rfl ?_
  conv => whnf
  repeat' (first | ((first | refine zs1 ?_ | refine zs2 ?_ | refine zs3 ?_ | refine zs4 ?_ | refine zs5 ?_); conv => whnf) | ((first | apply zi1 | apply zi2 | apply zi3 | apply zi4 | apply zi5) <;> intro _ <;> conv => whnf) | (refine VCall.intro (c1 _) ?_; conv => whnf))
  refine VCut.at' (outer := h.lift) (marks := []) 1 [(1, .fp [.sl 2 N.ps.length (N.ps.flatMap St.encPn), .sl 6 N.ss.length (N.ss.flatMap St.encSg)]), (2, .ptr (.loc 0) 0), (4, ints O), (5, I 0)] [.cells true [I 0, .nilslice]] ?_ ?_
  · conv => whnf
    refine Retell.turn ⟨[1], 9, [(0, [.sl 2 N.ps.length (N.ps.flatMap St.encPn), .sl 6 N.ss.length (N.ss.flatMap St.encSg)])], []⟩ (TurnOk.mk' _ _ [(0, [.sl 2 N.ps.length (N.ps.flatMap St.encPn), .sl 6 N.ss.length (N.ss.flatMap St.encSg)])] [] (OutOk.lift _) rfl (by decide) zb zr trivial rfl) zw zm
  conv => whnf
  repeat' (first | ((first | refine zs1 ?_ | refine zs2 ?_ | refine zs3 ?_ | refine zs4 ?_ | refine zs5 ?_); conv => whnf) | ((first | apply zi1 | apply zi2 | apply zi3 | apply zi4 | apply zi5) <;> intro _ <;> conv => whnf))
  refine VCut.at' (outer := h.lift) (marks := []) 99 [(1, .fp [.sl 2 N.ps.length (N.ps.flatMap St.encPn), .sl 6 N.ss.length (N.ss.flatMap St.encSg)]), (2, .ptr (.loc 0) 0), (4, ints O), (5, I 0), (6, .ptr (.loc 1) 0)] [.cells true [I 0, .nilslice], .cells true [I N.ps.length, .gl (.loc 2) 8 0], .flat true []] ?_ ?_
  · conv => whnf
    refine Retell.turn ⟨[0,1,2], 2, [], []⟩ (TurnOk.mk' _ _ [] [] (OutOk.lift _) rfl (by decide) zb trivial trivial rfl) zw zm
  conv => whnf
  repeat' (first | ((first | refine zs1 ?_ | refine zs2 ?_ | refine zs3 ?_ | refine zs4 ?_ | refine zs5 ?_); conv => whnf) | ((first | apply zi1 | apply zi2 | apply zi3 | apply zi4 | apply zi5) <;> intro _ <;> conv => whnf))
  refine VCode.lpK (outer := h.lift) (marks := []) 2 (fun k : Nat => [(2, .ptr (.loc 0) 0), (4, ints O), (5, I 0), (6, .ptr (.loc 1) 0), (19, .fs 6 N.ss.length (N.ss.flatMap St.encSg)), (20, I N.ss.length), (21, I k)]) (fun k => [.cells true [I 0, .nilslice], .cells true [I N.ps.length, .gl (.loc 2) 8 (K k).length], .flat true ((K k).flatMap encWy)]) (fun k => k ≤ N.ss.length) (fun k => N.ss.length - k) 0 (Nat.zero_le _) ?_ ?_
  · rw [hK0]
    conv => whnf
    refine Retell.turn ⟨[0,1,2], 9, [], []⟩ (TurnOk.mk' _ _ [] [] (OutOk.lift _) rfl (by decide) zb trivial trivial rfl) zw zm
  intro k hk
  rcases Nat.lt_or_ge k N.ss.length with h3 | h3
  · have hs : N.ss[k]? = some N.ss[k] := List.getElem?_eq_getElem h3
    generalize N.ss[k] = s at hs
    have hSk := hS k s hs
    have hl := hlen k
    have cc := fun h => vc_ContI O k h hOl
    have cl := fun h => vc_Led s.f s.t 1 1 0 0 0 1000 h
    generalize hK1 : K (k + 1) = K1 at *
    generalize K k = ws at *
    by_cases hO2 : (k : Int) ∈ O
    · rw [if_pos hO2] at hSk
      rw [decide_eq_true hO2] at cc
      conv => whnf
      repeat' (first | ((first | refine zs1 ?_ | refine zs2 ?_ | refine zs3 ?_ | refine zs4 ?_ | refine zs5 ?_); conv => whnf) | ((first | apply zi1 | apply zi2 | apply zi3 | apply zi4 | apply zi5) <;> intro _ <;> first | (exfalso; omega) | contradiction | (conv => whnf)))
      refine VCut.block 99 ?_
      conv => whnf
      repeat' (first | ((first | refine zs1 ?_ | refine zs2 ?_ | refine zs3 ?_ | refine zs4 ?_ | refine zs5 ?_); conv => whnf) | ((first | apply zi1 | apply zi2 | apply zi3 | apply zi4 | apply zi5) <;> intro _ <;> first | (exfalso; omega) | contradiction | (conv => whnf)) | (refine VAny.ix St.encSg_len k rfl rfl hs ?_; conv => whnf) | (refine VCall.intro (cc _) ?_; conv => whnf))
      refine LEndO.intro (k + 1) (by omega) (by omega) rfl ?_
      rw [hK1, hSk]
      conv => whnf
      refine Retell.turn ⟨[0,1,2], 9, [], []⟩ (TurnOk.mk' _ _ [] [] (OutOk.lift _) rfl (by decide) zb trivial trivial rfl) zw zm
    · rw [if_neg hO2] at hSk
      rw [decide_eq_false hO2] at cc
      conv => whnf
      repeat' (first | ((first | refine zs1 ?_ | refine zs2 ?_ | refine zs3 ?_ | refine zs4 ?_ | refine zs5 ?_); conv => whnf) | ((first | apply zi1 | apply zi2 | apply zi3 | apply zi4 | apply zi5) <;> intro _ <;> first | (exfalso; omega) | contradiction | (conv => whnf)))
      refine VCut.block 99 ?_
      conv => whnf
      repeat' (first | ((first | refine zs1 ?_ | refine zs2 ?_ | refine zs3 ?_ | refine zs4 ?_ | refine zs5 ?_); conv => whnf) | ((first | apply zi1 | apply zi2 | apply zi3 | apply zi4 | apply zi5) <;> intro _ <;> first | (exfalso; omega) | contradiction | (conv => whnf)) | (refine VAny.ix St.encSg_len k rfl rfl hs ?_; conv => whnf) | (refine VCall.intro (cc _) ?_; conv => whnf) | (refine zs6 [(1, 6)] ?_; conv => whnf) | (refine VCall.intro (cl _) ?_; conv => whnf) | (refine VMem.app1 (l := ws) (Sen.sW s) encWy_len rfl rfl rfl rfl rfl (by omega) ?_; conv => whnf))
      refine LEndO.intro (k + 1) (by omega) (by omega) rfl ?_
      rw [hK1, hSk, List.length_append, List.length_singleton]
      conv => whnf
      refine Retell.turn ⟨[0,1,5], 9, [], []⟩ (TurnOk.mk' _ _ [] [] (OutOk.lift _) rfl (by decide) zb trivial trivial rfl) zw zm
  · have hke : k = N.ss.length := by omega
    subst hke
    have hwl := flat_len encWy_len (K N.ss.length)
    generalize K N.ss.length = ws at *
    conv => whnf
    repeat' (first | ((first | refine zs1 ?_ | refine zs2 ?_ | refine zs3 ?_ | refine zs4 ?_ | refine zs5 ?_); conv => whnf) | ((first | apply zi1 | apply zi2 | apply zi3 | apply zi4 | apply zi5) <;> intro _ <;> first | (exfalso; omega) | contradiction | (conv => whnf)))
    all_goals first | contradiction | skip
    refine VOut.data 9 [(2, ws.flatMap encWy)] [] rfl zf (by exact FmAll.nil) zw
end Go.Proofs.Ytoeendggmalcpaa

open Go.Vm
open Psg
namespace Go.Proofs.Ytoeendggmalcpaa
set_option maxRecDepth 20000
set_option maxHeartbeats 8000000

theorem vc_PassageSeen (ns : List Int) (w : Int) (hw : 0 ≤ w ∧ w ≤ 255) (X : Int) (hX : 0 ≤ X ∧ X ≤ 65535) (Y : Int) (hY : 0 ≤ Y ∧ Y ≤ 65535) (h : Hp) : VC Try.prog 12 [bytes ns, .s (.int .u8 w), .s (.int .u16 X), .s (.int .u16 Y)] h (B true) h := by
  have cM := fun (i : Vm.Id) (h : Hp) hd => St.vc_Made ns (0, 9) 8 16 i h (by decide) (by decide) (by decide) hd
  have mo := (St.mdN_ok ns (0, 9) (p := 8) (s := 16) (by decide) (by decide)).1
  generalize (St.mdS ns (0, 9) 8 16).1 = D1 at *
  generalize St.mdN ns (0, 9) 8 16 = N at *
  obtain ⟨o, hn2, hm2, hon⟩ := mo
  have hn := o.n
  have hm := o.m
  have hneB : ((N.ps.length : Int) != 0) = true := by rw [bne_iff_ne]; omega
  have hp := St.tmod_pos (w := w) (n := N.ps.length) hw.1 (by omega)
  generalize hpw : w.tmod (N.ps.length : Int) = p at hp
  have hat : N.ps[p.toNat]? = some (N.ps[p.toNat]'(by omega)) := List.getElem?_eq_getElem _
  generalize N.ps[p.toNat]'(by omega) = a at hat
  have x1 : 0 ≤ X.tmod 1001 ∧ X.tmod 1001 ≤ 1000 := by rw [Int.tmod_eq_emod_of_nonneg hX.1]; omega
  have y1 : 0 ≤ Y.tmod 1001 ∧ Y.tmod 1001 ≤ 1000 := by rw [Int.tmod_eq_emod_of_nonneg hY.1]; omega
  generalize hXx : X.tmod 1001 = x at x1
  generalize hYy : Y.tmod 1001 = y at y1
  have hxy : Clip.okP ⟨x, y⟩ = true := Clip.okP_iff.2 ⟨x1, y1⟩
  obtain ⟨T, hT⟩ : ∃ T, T = St.tdN N p ⟨x, y⟩ := ⟨_, rfl⟩
  have oT : Clip.NtOk T := by rw [hT]; exact St.tdN_ok o hxy
  have hTs : T.ss = N.ss := by rw [hT]; rfl
  have hTp : T.ps = N.ps.set p.toNat ⟨x, y⟩ := by rw [hT]; rfl
  have hTl : T.ps.length = N.ps.length := by rw [hTp, List.length_set]
  have hoN := St.offL_nil hon
  have c1 := fun h => St.vc_CloneNetO N h (by omega) (by omega)
  have cA := fun h => vc_told N h o
  have cB := fun h => vc_told T h oT
  -- both nets
  have hKl := Sen.tlK_len (Clip.offL T) N.ss N.ss.length
  have hfull := Sen.tlK_full N.ss
  unfold tlN at cA cB
  unfold St.vN St.pns St.sgs at cB
  rw [hoN, hfull] at cA
  rw [hTs, hTl] at cB
  have hsub : ∀ v ∈ Sen.tlK (Clip.offL T) N.ss N.ss.length, v ∈ N.ss.map Sen.sW := fun v hv => by
    have := Sen.tlK_sub hv
    rw [hfull] at this; exact this
  have hok : ∀ v ∈ N.ss.map Sen.sW, WOk N.ps.length v ∧ v.f ≠ v.t := fun v hv => by
    obtain ⟨s, hs, rfl⟩ := List.mem_map.1 hv
    exact ⟨Sen.sW_ok (o.s s hs), (o.s s hs).ne⟩
  have hWl : (N.ss.map Sen.sW).length = N.ss.length := List.length_map _
  generalize Sen.tlK (Clip.offL T) N.ss N.ss.length = VS at *
  generalize N.ss.map Sen.sW = WS at *
  have hNA : NOk N.ps.length ⟨(N.ps.length : Int), WS⟩ := ⟨rfl, hn, by dsimp only; omega, fun v hv => (hok v hv).1, fun v hv => (hok v hv).2⟩
  have hNB : NOk N.ps.length ⟨(N.ps.length : Int), VS⟩ := ⟨rfl, hn, by dsimp only; omega, fun v hv => (hok v (hsub v hv)).1, fun v hv => (hok v (hsub v hv)).2⟩
  have hx : HOk N.ps.length ⟨0, 0, 0⟩ := ⟨by dsimp only; omega, by decide, Sen.pp0⟩
  have e1 := fun h => vc_Earliest ⟨(N.ps.length : Int), WS⟩ ⟨0, 0, 0⟩ h (by dsimp only; omega)
  have e2 := fun h => vc_Earliest ⟨(N.ps.length : Int), VS⟩ ⟨0, 0, 0⟩ h (by dsimp only; omega)
  unfold eaL at e1 e2
  rw [if_pos (hNA.hrd hx), nok_nat hNA, hNA.hrd hx] at e1
  rw [if_pos (hNB.hrd hx), nok_nat hNB, hNB.hrd hx] at e2
  have hlaw := fun (k : Nat) (hk : k < N.ps.length) => Sen.less_day (p := k) hNB.ws hx hsub (bgn_lst hn.2 hNB.ws hx) (bgn_lst hn.2 hNA.ws hx) hk
  have hFA : ∀ k, k < N.ps.length → ((List.range N.ps.length).map (dyP ⟨(N.ps.length : Int), WS⟩ ⟨0, 0, 0⟩))[k]? = some (dyP ⟨(N.ps.length : Int), WS⟩ ⟨0, 0, 0⟩ k) := fun k hk => by rw [List.getElem?_map, List.getElem?_range hk]; rfl
  have hFB : ∀ k, k < N.ps.length → ((List.range N.ps.length).map (dyP ⟨(N.ps.length : Int), VS⟩ ⟨0, 0, 0⟩))[k]? = some (dyP ⟨(N.ps.length : Int), VS⟩ ⟨0, 0, 0⟩ k) := fun k hk => by rw [List.getElem?_map, List.getElem?_range hk]; rfl
  have hlA : ((List.range N.ps.length).map (dyP ⟨(N.ps.length : Int), WS⟩ ⟨0, 0, 0⟩)).length = N.ps.length := by simp
  have hlB : ((List.range N.ps.length).map (dyP ⟨(N.ps.length : Int), VS⟩ ⟨0, 0, 0⟩)).length = N.ps.length := by simp
  generalize (List.range N.ps.length).map (dyP ⟨(N.ps.length : Int), WS⟩ ⟨0, 0, 0⟩) = LA at *
  generalize (List.range N.ps.length).map (dyP ⟨(N.ps.length : Int), VS⟩ ⟨0, 0, 0⟩) = LB at *
  have hlw : ∀ k, k < N.ps.length → dyP ⟨(N.ps.length : Int), VS⟩ ⟨0, 0, 0⟩ k ≠ -1 → dyP ⟨(N.ps.length : Int), WS⟩ ⟨0, 0, 0⟩ k ≠ -1 ∧ dyP ⟨(N.ps.length : Int), WS⟩ ⟨0, 0, 0⟩ k ≤ dyP ⟨(N.ps.length : Int), VS⟩ ⟨0, 0, 0⟩ k := hlaw
  clear hlaw hNA hNB hx hsub hok hfull oT hon
  refine VC.bodyC 4 Try.func12 rfl Try.ntmps12 Try.call12 (h.grows_refl) rfl ?_
  conv => whnf
  repeat' (first | ((first | refine zs1 ?_ | refine zs2 ?_ | refine zs3 ?_ | refine zs4 ?_ | refine zs5 ?_); conv => whnf) | ((first | apply zi1 | apply zi2 | apply zi3 | apply zi4 | apply zi5) <;> intro _ <;> conv => whnf) | (refine VCall.intro (vc_Of _ _) ?_; conv => whnf) | (refine VCall.intro (cM _ _ rfl) ?_; conv => whnf) | (refine VNeed.intro hneB ?_; conv => whnf) | (refine VCall.intro (c1 _) ?_; conv => whnf))
  refine zs6 [] ?_
  conv => whnf
  repeat' (first | ((first | refine zs1 ?_ | refine zs2 ?_ | refine zs3 ?_ | refine zs4 ?_ | refine zs5 ?_); conv => whnf) | ((first | apply zi1 | apply zi2 | apply zi3 | apply zi4 | apply zi5) <;> intro _ <;> conv => whnf) | (refine VNeed.intro hneB ?_; conv => whnf) | (rw [hpw]; conv => whnf) | (rw [hXx]; conv => whnf) | (rw [hYy]; conv => whnf))
  refine VMem.set2 St.encPn_len p.toNat 0 (⟨x, a.y⟩ : Clip.Pn) (⟨x, y⟩ : Clip.Pn) rfl rfl rfl hat (by decide) rfl rfl rfl ?_
  rw [← hTp]
  have hf1 : (T.ps.flatMap St.encPn).length = N.ps.length * 2 := by rw [flat_len St.encPn_len, hTl]
  have hf2 : (N.ss.flatMap St.encSg).length = N.ss.length * 6 := flat_len St.encSg_len _
  conv => whnf
  repeat' (first | ((first | refine zs1 ?_ | refine zs2 ?_ | refine zs3 ?_ | refine zs4 ?_ | refine zs5 ?_); conv => whnf) | ((first | apply zi1 | apply zi2 | apply zi3 | apply zi4 | apply zi5) <;> intro _ <;> conv => whnf))
  refine VCut.at' (outer := h.lift) (marks := []) 2 [(9, .fp [.sl 2 N.ps.length (N.ps.flatMap St.encPn), .sl 6 N.ss.length (N.ss.flatMap St.encSg)]), (10, .fp [.sl 2 N.ps.length (T.ps.flatMap St.encPn), .sl 6 N.ss.length (N.ss.flatMap St.encSg)])] [] ?_ ?_
  · conv => whnf
    refine Retell.turn ⟨[], 9, [(2, T.ps.flatMap St.encPn), (3, N.ss.flatMap St.encSg), (4, [.sl 2 N.ps.length (T.ps.flatMap St.encPn), .sl 6 N.ss.length (N.ss.flatMap St.encSg)]), (1, [.sl 2 N.ps.length (N.ps.flatMap St.encPn), .sl 6 N.ss.length (N.ss.flatMap St.encSg)])], []⟩ (TurnOk.mk' _ _ [(2, T.ps.flatMap St.encPn), (3, N.ss.flatMap St.encSg), (4, [.sl 2 N.ps.length (T.ps.flatMap St.encPn), .sl 6 N.ss.length (N.ss.flatMap St.encSg)]), (1, [.sl 2 N.ps.length (N.ps.flatMap St.encPn), .sl 6 N.ss.length (N.ss.flatMap St.encSg)])] [] (OutOk.lift _) rfl (by decide) zb zr trivial rfl) zw zm
  clear cM c1 hT hTp hf1 hf2 hat hpw hXx hYy
  conv => whnf
  repeat' (first | ((first | refine zs1 ?_ | refine zs2 ?_ | refine zs3 ?_ | refine zs4 ?_ | refine zs5 ?_); conv => whnf) | ((first | apply zi1 | apply zi2 | apply zi3 | apply zi4 | apply zi5) <;> intro _ <;> first | (exfalso; omega) | contradiction | (conv => whnf)) | (refine VCall.intro (cA _) ?_; conv => whnf) | (refine VCall.intro (cB _) ?_; conv => whnf))
  refine VCut.at' (outer := h.lift) (marks := []) 1 [(9, .fp [.sl 2 N.ps.length (N.ps.flatMap St.encPn), .sl 6 N.ss.length (N.ss.flatMap St.encSg)]), (11, .fp [DI N.ps.length, .sl 8 WS.length (WS.flatMap encWy)]), (13, .fp [DI N.ps.length, .sl 8 VS.length (VS.flatMap encWy)]), (12, B true), (14, B true)] [] ?_ ?_
  · conv => whnf
    refine Retell.turn ⟨[], 9, [(0, [DI N.ps.length, .sl 8 WS.length (WS.flatMap encWy)]), (1, [DI N.ps.length, .sl 8 VS.length (VS.flatMap encWy)])], []⟩ (TurnOk.mk' _ _ [(0, [DI N.ps.length, .sl 8 WS.length (WS.flatMap encWy)]), (1, [DI N.ps.length, .sl 8 VS.length (VS.flatMap encWy)])] [] (OutOk.lift _) rfl (by decide) zb zf trivial rfl) zw zm
  clear cA cB
  conv => whnf
  repeat' (first | ((first | refine zs1 ?_ | refine zs2 ?_ | refine zs3 ?_ | refine zs4 ?_ | refine zs5 ?_); conv => whnf) | ((first | apply zi1 | apply zi2 | apply zi3 | apply zi4 | apply zi5) <;> intro _ <;> first | (exfalso; omega) | contradiction | (conv => whnf)))
  refine VCut.at' (outer := h.lift) (marks := []) 2 [(9, .fp [.sl 2 N.ps.length (N.ps.flatMap St.encPn), .sl 6 N.ss.length (N.ss.flatMap St.encSg)]), (11, .fp [DI N.ps.length, .sl 8 WS.length (WS.flatMap encWy)]), (13, .fp [DI N.ps.length, .sl 8 VS.length (VS.flatMap encWy)])] [] ?_ ?_
  · conv => whnf
    refine Retell.turn ⟨[], 9, [], []⟩ (TurnOk.mk' _ _ [] [] (OutOk.lift _) rfl (by decide) zb trivial trivial rfl) zw zm
  conv => whnf
  repeat' (first | ((first | refine zs1 ?_ | refine zs2 ?_ | refine zs3 ?_ | refine zs4 ?_ | refine zs5 ?_); conv => whnf) | ((first | apply zi1 | apply zi2 | apply zi3 | apply zi4 | apply zi5) <;> intro _ <;> first | (exfalso; omega) | contradiction | (conv => whnf)) | (refine VCall.intro (e1 _) ?_; conv => whnf) | (refine VCall.intro (e2 _) ?_; conv => whnf))
  refine VCut.at' (outer := h.lift) (marks := []) 1 [(9, .fp [.sl 2 N.ps.length (N.ps.flatMap St.encPn), .sl 6 N.ss.length (N.ss.flatMap St.encSg)]), (11, .fp [DI N.ps.length, .sl 8 WS.length (WS.flatMap encWy)]), (13, .fp [DI N.ps.length, .sl 8 VS.length (VS.flatMap encWy)]), (15, ints LA), (16, I 0), (17, ints LB), (18, I 0)] [] ?_ ?_
  · conv => whnf
    refine Retell.turn ⟨[], 9, [], []⟩ (TurnOk.mk' _ _ [] [] (OutOk.lift _) rfl (by decide) zb trivial trivial rfl) zw zm
  clear e1 e2
  conv => whnf
  repeat' (first | ((first | refine zs1 ?_ | refine zs2 ?_ | refine zs3 ?_ | refine zs4 ?_ | refine zs5 ?_); conv => whnf) | ((first | apply zi1 | apply zi2 | apply zi3 | apply zi4 | apply zi5) <;> intro _ <;> first | (exfalso; omega) | contradiction | (conv => whnf)))
  refine VCut.at' (outer := h.lift) (marks := []) 99 [(9, .fp [.sl 2 N.ps.length (N.ps.flatMap St.encPn), .sl 6 N.ss.length (N.ss.flatMap St.encSg)]), (11, .fp [DI N.ps.length, .sl 8 WS.length (WS.flatMap encWy)]), (13, .fp [DI N.ps.length, .sl 8 VS.length (VS.flatMap encWy)]), (15, ints LA), (17, ints LB)] [] ?_ ?_
  · conv => whnf
    refine Retell.turn ⟨[], 9, [], []⟩ (TurnOk.mk' _ _ [] [] (OutOk.lift _) rfl (by decide) zb trivial trivial rfl) zw zm
  conv => whnf
  repeat' (first | ((first | refine zs1 ?_ | refine zs2 ?_ | refine zs3 ?_ | refine zs4 ?_ | refine zs5 ?_); conv => whnf) | ((first | apply zi1 | apply zi2 | apply zi3 | apply zi4 | apply zi5) <;> intro _ <;> first | (exfalso; omega) | contradiction | (conv => whnf)))
  refine VCode.lpK (outer := h.lift) (marks := []) 2 (fun k : Nat => [(9, .fp [.sl 2 N.ps.length (N.ps.flatMap St.encPn), .sl 6 N.ss.length (N.ss.flatMap St.encSg)]), (11, .fp [DI N.ps.length, .sl 8 WS.length (WS.flatMap encWy)]), (13, .fp [DI N.ps.length, .sl 8 VS.length (VS.flatMap encWy)]), (15, ints LA), (17, ints LB), (91, I LA.length), (92, I k)]) (fun _ => []) (fun k => k ≤ N.ps.length) (fun k => N.ps.length - k) 0 (Nat.zero_le _) ?_ ?_
  · conv => whnf
    refine Retell.turn ⟨[], 9, [], []⟩ (TurnOk.mk' _ _ [] [] (OutOk.lift _) rfl (by decide) zb trivial trivial rfl) zw zm
  intro k hk
  rcases Nat.lt_or_ge k N.ps.length with h3 | h3
  · have hA := hFA k h3
    have hB := hFB k h3
    have hw1 := hlw k h3
    generalize dyP ⟨(N.ps.length : Int), WS⟩ ⟨0, 0, 0⟩ k = da at *
    generalize dyP ⟨(N.ps.length : Int), VS⟩ ⟨0, 0, 0⟩ k = db at *
    clear hFA hFB hlw
    by_cases hd : db = -1
    · conv => whnf
      repeat' (first | ((first | refine zs1 ?_ | refine zs2 ?_ | refine zs3 ?_ | refine zs4 ?_ | refine zs5 ?_); conv => whnf) | ((first | apply zi1 | apply zi2 | apply zi3 | apply zi4 | apply zi5) <;> intro _ <;> first | (exfalso; omega) | contradiction | (conv => whnf)))
      refine VCut.block 99 ?_
      conv => whnf
      repeat' (first | ((first | refine zs1 ?_ | refine zs2 ?_ | refine zs3 ?_ | refine zs4 ?_ | refine zs5 ?_); conv => whnf) | ((first | apply zi1 | apply zi2 | apply zi3 | apply zi4 | apply zi5) <;> intro _ <;> first | (exfalso; omega) | contradiction | (conv => whnf)) | (refine zs6 [] ?_; conv => whnf) | (refine VAny.ix Vm.encI_len k rfl rfl hB ?_; conv => whnf) | (refine VAny.ix Vm.encI_len k rfl rfl hA ?_; conv => whnf))
      all_goals try (exfalso; omega)
      all_goals (
        refine LEndO.intro (k + 1) (by omega) (by omega) rfl ?_
        conv => whnf
        refine Retell.turn ⟨[], 9, [], []⟩ (TurnOk.mk' _ _ [] [] (OutOk.lift _) rfl (by decide) zb trivial trivial rfl) zw zm)
    · obtain ⟨g1, g2⟩ := hw1 hd
      conv => whnf
      repeat' (first | ((first | refine zs1 ?_ | refine zs2 ?_ | refine zs3 ?_ | refine zs4 ?_ | refine zs5 ?_); conv => whnf) | ((first | apply zi1 | apply zi2 | apply zi3 | apply zi4 | apply zi5) <;> intro _ <;> first | (exfalso; omega) | contradiction | (conv => whnf)))
      refine VCut.block 99 ?_
      conv => whnf
      repeat' (first | ((first | refine zs1 ?_ | refine zs2 ?_ | refine zs3 ?_ | refine zs4 ?_ | refine zs5 ?_); conv => whnf) | ((first | apply zi1 | apply zi2 | apply zi3 | apply zi4 | apply zi5) <;> intro _ <;> first | (exfalso; omega) | contradiction | (conv => whnf)) | (refine zs6 [] ?_; conv => whnf) | (refine VAny.ix Vm.encI_len k rfl rfl hB ?_; conv => whnf) | (refine VAny.ix Vm.encI_len k rfl rfl hA ?_; conv => whnf))
      all_goals try (exfalso; omega)
      all_goals (
        refine LEndO.intro (k + 1) (by omega) (by omega) rfl ?_
        conv => whnf
        refine Retell.turn ⟨[], 9, [], []⟩ (TurnOk.mk' _ _ [] [] (OutOk.lift _) rfl (by decide) zb trivial trivial rfl) zw zm)
  · have hke : k = N.ps.length := by omega
    subst hke
    conv => whnf
    repeat' (first | ((first | refine zs1 ?_ | refine zs2 ?_ | refine zs3 ?_ | refine zs4 ?_ | refine zs5 ?_); conv => whnf) | ((first | apply zi1 | apply zi2 | apply zi3 | apply zi4 | apply zi5) <;> intro _ <;> first | (exfalso; omega) | contradiction | (conv => whnf)) | (refine VCall.intro (vc_awake _) ?_; conv => whnf))
    all_goals first | contradiction | (exfalso; omega) | exact VOut.same rfl
end Go.Proofs.Ytoeendggmalcpaa

open Go.Vm
namespace Go.Proofs.Ytoeendggmalcpaa
open Go.ChangeShapes Go.WideShapes Go.ChangeAt Go.RowKit

theorem open12p : OpenAll Try.prog Try.f12.params.toList (fun x : List Int × {n : Int // 0 ≤ n ∧ n ≤ 255} × {n : Int // 0 ≤ n ∧ n ≤ 65535} × {n : Int // 0 ≤ n ∧ n ≤ 65535} × Unit => [dU x.1, d8b x.2.1, d16b x.2.2.1, d16b x.2.2.2.1]) := by
  rw [Try.params12]
  exact OpenAll.cons openU (OpenAll.cons open8b (OpenAll.cons open16b (OpenAll.cons open16b (OpenAll.nil))))
set_option maxRecDepth 100000 in
theorem contract12 (H : Type) (enc : TypeId × Value → H) (W : World) (base : Nat) (args : Array Value) (ds gs : List (DataW H)) (before : List MemPlace)
    (hval : ∀ (j : Nat) t v, Try.f12.params[j]? = some t → args[j]? = some v → Value.okWide Try.prog W .any base t v)
    (hW : DataW.Whole enc Try.prog Try.f12.params.toList Rows.passageSeenSpec.vars false W args.toList ds gs before) :
    Calls Try.prog 12 args W fun e W' => ∃ v, e = .returned v ∧ Rows.passageSeenSpec.post enc Try.prog Try.f12 false true false false W args v W' := by
  refine contract_of_vc open12p (fun g => vc_PassageSeen g.1 g.2.1.1 g.2.1.2 g.2.2.1.1 g.2.2.1.2 g.2.2.2.1.1 g.2.2.2.1.2 Hp.bare) laidOut ?_ (tb := 4) (by kernel_rfl) Try.underlying4 rfl ?_ hval hW
  · rw [Try.params12]
    intro t ht
    simp only [List.mem_cons, List.not_mem_nil, or_false] at ht
    rcases ht with rfl | rfl | rfl | rfl
    all_goals exact ⟨by kernel_rfl, of_decide_eq_true (by kernel_rfl)⟩
  · intro H dd hl
    rw [Try.params12] at hl
    match dd, hl with
    | [d0, d1, d2, d3], _ => rfl
set_option maxRecDepth 100000 in
theorem lifted12 (os : Os) (started : os.Started) (H : Type) (enc : TypeId × Value → H) :
    ReturnsInHanded {} Try.checked os 12 .any (Rows.passageSeenSpec.pre6 enc Try.prog Try.f12 Rows.passageSeenRow.domain false) (Rows.passageSeenSpec.post enc Try.prog Try.f12 false true false false) := by
  refine returnsInHanded_of_change (C := Try.checked) ownKn started (by kernel_rfl) Try.func12
    (ChangeSpec.witness6 (enc := enc) (C := Try.checked) false ⟨#[], #[.slice none 0 0, .int .u8 0, .int .u16 0, .int .u16 0], []⟩ 8 (by kernel_rfl) (by kernel_rfl) (by kernel_rfl) (by kernel_rfl)) ?_
  intro W base args ds gs before hval hW _ _
  exact contract12 H enc W base args ds gs before hval hW
theorem passageSeen_said : Rows.PassageSeenSaid :=
  OpenClaim.holds_of_wide 12 Try.f12 rfl rfl rfl rfl rfl rfl rfl ⟨rfl, rfl, rfl, rfl, rfl⟩ rfl rfl rfl rfl rfl (by kernel_rfl) Try.func12 (by kernel_rfl)
    (of_decide_eq_true (by kernel_rfl)) (by unfold Func.isWrapper; first | (rw [if_pos (by decide +kernel)]; kernel_rfl) | (rw [if_neg (by decide +kernel)]; exact ⟨rfl, rfl⟩))
    (fun os started H enc _ => lifted12 os started H enc)
end Go.Proofs.Ytoeendggmalcpaa

