/- Part 2 of the proof that passageFerried: ferries take a herd as far as the cells are. No condition. -/
import Derived.Test.YtoeendggmalcpaaFe1
set_option linter.unusedVariables false
set_option linter.unusedSimpArgs false
open Go.Vm
open Psg
namespace Go.Proofs.Ytoeendggmalcpaa
set_option maxRecDepth 20000
set_option maxHeartbeats 4000000

def R16 : List Int := List.replicate 16 1001
theorem vc_table {n : Nat} (N : Nt) (x : Hd) (h : Hp) (hN : NOk n N) (hx : HOk n x) : VC Try.prog 82 [vN N, vHd x] h (rws (rtab n N.ws x)) h := by
  obtain ⟨E, hE⟩ : ∃ E, E = rtab n N.ws x := ⟨_, rfl⟩
  rw [← hE]
  have hp := hN.p
  have hn1 := hN.n1
  have hwl := hN.len
  refine VC.bodyC 1 Try.func82 rfl Try.ntmps82 Try.call82 (h.grows_refl) rfl ?_; conv => whnf
  refine VCut.at' (outer := h.lift) (marks := []) 99 [(2, .fp (encN N)), (3, .fp (encHd x)), (4, .nilslice)] [] ?_ ?_
  · conv => whnf
    refine Retell.turn ⟨[], 2, [(0, encN N), (1, encHd x)], []⟩ (TurnOk.mk' _ _ [(0, encN N), (1, encHd x)] [] (OutOk.lift _) rfl (by decide) zb zf trivial rfl) zw zm
  · conv => whnf
    repeat' (first | ((first | refine zs1 ?_ | refine zs2 ?_ | refine zs3 ?_ | refine zs4 ?_ | refine zs5 ?_); conv => whnf) | ((first | apply zi1 | apply zi2 | apply zi3 | apply zi4 | apply zi5) <;> intro _ <;> conv => whnf))
    refine VCode.lp (outer := h.lift) (marks := []) (fun p : Nat => [(2, .fp (encN N)), (3, .fp (encHd x)), (4, .nilslice), (5, .gl (.loc 0) 1 p), (6, I p)]) (fun p => tabB (.cells true (rowsV p)) (List.replicate p R16) []) (fun p => p ≤ n) (fun p => n - p) 0 (Nat.zero_le _) ?_ ?_
    · conv => whnf
      refine Retell.trans (b := ⟨105, Fr.set (Fr.set (Fr.set (Fr.set (Fr.set .leaf 2 (.fp (encN N))) 3 (.fp (encHd x))) 4 .nilslice) 5 (.gl (.loc 0) 1 0)) 6 (I 0), ⟨h.lift, [.flat true [], .flat true [], .flat true [], .flat true [], .flat true [], .flat true [], .flat true [], .flat true [], .flat true [], .flat true [], .flat true []]⟩, []⟩) ?_ ?_
      · conv => whnf
        refine Retell.turn ⟨[0, 1, 2, 3, 4, 5, 6, 7, 8, 9, 10], 0, [], []⟩ (TurnOk.mk' _ _ [] [] (OutOk.lift _) rfl (by decide) (BTos.new rfl (BTos.new rfl (BTos.new rfl (BTos.new rfl (BTos.new rfl (BTos.new rfl (BTos.new rfl (BTos.new rfl (BTos.new rfl (BTos.new rfl (BTos.new rfl BTos.nil))))))))))) trivial trivial rfl) zw zm
      · conv => whnf
        refine Retell.turn ⟨[0, 1, 2, 3, 4, 5, 6, 7, 8, 9, 10], 11, [], []⟩ (TurnOk.mk' _ _ [] [] (OutOk.lift _) rfl (by decide) (BTos.cells rfl rfl rfl VTos.nil (BTos.flat rfl rfl rfl (BTos.flat rfl rfl rfl (BTos.flat rfl rfl rfl (BTos.flat rfl rfl rfl (BTos.flat rfl rfl rfl (BTos.flat rfl rfl rfl (BTos.flat rfl rfl rfl (BTos.flat rfl rfl rfl (BTos.flat rfl rfl rfl (BTos.flat rfl rfl rfl BTos.nil))))))))))) trivial trivial rfl) zw zm
    · intro p hpn
      rcases Nat.lt_or_ge p n with h1 | h1
      · have h10 : p < 10 := by omega
        have hrl : (rowsV p).length = p := by simp [rowsV]
        conv => whnf
        repeat' (first | ((first | refine zs1 ?_ | refine zs2 ?_ | refine zs3 ?_ | refine zs4 ?_ | refine zs5 ?_); conv => whnf) | ((first | apply zi1 | apply zi2 | apply zi3 | apply zi4 | apply zi5) <;> intro _ <;> conv => whnf))
        all_goals try (exfalso; omega)
        refine VCode.lp (outer := h.lift) (marks := []) (fun s : Nat => [(2, .fp (encN N)), (3, .fp (encHd x)), (4, .nilslice), (5, .gl (.loc 0) 1 p), (6, I p), (7, .gl (.loc 11) 1 (List.replicate s (1001 : Int)).length), (8, I s)]) (fun s => tabB (.cells true (rowsV p)) (List.replicate p R16) [.flat true ((List.replicate s (1001 : Int)).flatMap Vm.encI)]) (fun s => s ≤ 16) (fun s => 16 - s) 0 (Nat.zero_le _) ?_ ?_
        · rw [show List.replicate 0 (1001 : Int) = [] from rfl]
          conv => whnf
          refine Retell.turn ⟨[0, 1, 2, 3, 4, 5, 6, 7, 8, 9, 10, 11], 11, [], []⟩ (TurnOk.mk' _ _ [] [] (OutOk.lift _) rfl (by decide) (BTos.tab [] (by omega) (by intro q hq; rcases ten hq with rfl | rfl | rfl | rfl | rfl | rfl | rfl | rfl | rfl | rfl <;> rfl) (by decide) rfl (BTos.new rfl BTos.nil)) trivial trivial rfl) zw zm
        · intro s hs
          have hrep : List.replicate (s + 1) (1001 : Int) = List.replicate s 1001 ++ [1001] := by rw [List.replicate_succ']
          have hlen : (List.replicate s (1001 : Int)).length = s := List.length_replicate
          conv => whnf
          repeat' (first | ((first | refine zs1 ?_ | refine zs2 ?_ | refine zs3 ?_ | refine zs4 ?_ | refine zs5 ?_); conv => whnf) | ((first | apply zi1 | apply zi2 | apply zi3 | apply zi4 | apply zi5) <;> intro _ <;> conv => whnf))
          · generalize List.replicate s (1001 : Int) = l at hrep hlen
            refine VMem.app1 (l := l) (1001 : Int) Vm.encI_len rfl rfl rfl rfl rfl (by omega) ?_
            conv => whnf
            repeat' (first | ((first | refine zs1 ?_ | refine zs2 ?_ | refine zs3 ?_ | refine zs4 ?_ | refine zs5 ?_); conv => whnf) | ((first | apply zi1 | apply zi2 | apply zi3 | apply zi4 | apply zi5) <;> intro _ <;> conv => whnf))
            refine LEnd.intro (s + 1) (by omega) (by omega) ?_
            rw [hrep, List.length_append]
            conv => whnf
            refine Retell.turn ⟨[0, 1, 2, 3, 4, 5, 6, 7, 8, 9, 10, 13], 14, [], []⟩ (TurnOk.mk' _ _ [] [] (OutOk.lift _) rfl (by decide) (BTos.tab [.dead, .flat true [DI 1001], .flat true ((l ++ [1001]).flatMap Vm.encI)] (by omega) (by intro q hq; rcases ten hq with rfl | rfl | rfl | rfl | rfl | rfl | rfl | rfl | rfl | rfl <;> rfl) (by decide) rfl (BTos.flat rfl rfl rfl BTos.nil)) trivial trivial rfl) zw zm
          · obtain rfl : s = 16 := by omega
            rw [show List.replicate 16 (1001 : Int) = R16 from rfl, show R16.length = 16 from rfl]
            repeat' (first | ((first | refine zs1 ?_ | refine zs2 ?_ | refine zs3 ?_ | refine zs4 ?_ | refine zs5 ?_); conv => whnf) | ((first | apply zi1 | apply zi2 | apply zi3 | apply zi4 | apply zi5) <;> intro _ <;> conv => whnf))
            refine VMem.appCell (l := rowsV p) (v := .gl (.loc 11) 1 16) rfl rfl rfl rfl hrl.symm rfl (by omega) ?_
            conv => whnf
            repeat' (first | ((first | refine zs1 ?_ | refine zs2 ?_ | refine zs3 ?_ | refine zs4 ?_ | refine zs5 ?_); conv => whnf) | ((first | apply zi1 | apply zi2 | apply zi3 | apply zi4 | apply zi5) <;> intro _ <;> conv => whnf))
            refine LEnd.intro (p + 1) (by omega) (by omega) ?_
            clear hrl
            rcases ten h10 with rfl | rfl | rfl | rfl | rfl | rfl | rfl | rfl | rfl | rfl
            · conv => whnf
              refine Retell.turn ⟨pmO 13 0, 14, [], []⟩ (TurnOk.mk' _ _ [] [] (OutOk.lift _) rfl (by decide) (BTos.cells rfl rfl rfl zw (BTos.flat rfl rfl rfl (BTos.flat rfl rfl rfl (BTos.flat rfl rfl rfl (BTos.flat rfl rfl rfl (BTos.flat rfl rfl rfl (BTos.flat rfl rfl rfl (BTos.flat rfl rfl rfl (BTos.flat rfl rfl rfl (BTos.flat rfl rfl rfl (BTos.flat rfl rfl rfl BTos.nil))))))))))) trivial trivial rfl) zw zm
            · conv => whnf
              refine Retell.turn ⟨pmO 13 1, 14, [], []⟩ (TurnOk.mk' _ _ [] [] (OutOk.lift _) rfl (by decide) (BTos.cells rfl rfl rfl zw (BTos.flat rfl rfl rfl (BTos.flat rfl rfl rfl (BTos.flat rfl rfl rfl (BTos.flat rfl rfl rfl (BTos.flat rfl rfl rfl (BTos.flat rfl rfl rfl (BTos.flat rfl rfl rfl (BTos.flat rfl rfl rfl (BTos.flat rfl rfl rfl (BTos.flat rfl rfl rfl BTos.nil))))))))))) trivial trivial rfl) zw zm
            · conv => whnf
              refine Retell.turn ⟨pmO 13 2, 14, [], []⟩ (TurnOk.mk' _ _ [] [] (OutOk.lift _) rfl (by decide) (BTos.cells rfl rfl rfl zw (BTos.flat rfl rfl rfl (BTos.flat rfl rfl rfl (BTos.flat rfl rfl rfl (BTos.flat rfl rfl rfl (BTos.flat rfl rfl rfl (BTos.flat rfl rfl rfl (BTos.flat rfl rfl rfl (BTos.flat rfl rfl rfl (BTos.flat rfl rfl rfl (BTos.flat rfl rfl rfl BTos.nil))))))))))) trivial trivial rfl) zw zm
            · conv => whnf
              refine Retell.turn ⟨pmO 13 3, 14, [], []⟩ (TurnOk.mk' _ _ [] [] (OutOk.lift _) rfl (by decide) (BTos.cells rfl rfl rfl zw (BTos.flat rfl rfl rfl (BTos.flat rfl rfl rfl (BTos.flat rfl rfl rfl (BTos.flat rfl rfl rfl (BTos.flat rfl rfl rfl (BTos.flat rfl rfl rfl (BTos.flat rfl rfl rfl (BTos.flat rfl rfl rfl (BTos.flat rfl rfl rfl (BTos.flat rfl rfl rfl BTos.nil))))))))))) trivial trivial rfl) zw zm
            · conv => whnf
              refine Retell.turn ⟨pmO 13 4, 14, [], []⟩ (TurnOk.mk' _ _ [] [] (OutOk.lift _) rfl (by decide) (BTos.cells rfl rfl rfl zw (BTos.flat rfl rfl rfl (BTos.flat rfl rfl rfl (BTos.flat rfl rfl rfl (BTos.flat rfl rfl rfl (BTos.flat rfl rfl rfl (BTos.flat rfl rfl rfl (BTos.flat rfl rfl rfl (BTos.flat rfl rfl rfl (BTos.flat rfl rfl rfl (BTos.flat rfl rfl rfl BTos.nil))))))))))) trivial trivial rfl) zw zm
            · conv => whnf
              refine Retell.turn ⟨pmO 13 5, 14, [], []⟩ (TurnOk.mk' _ _ [] [] (OutOk.lift _) rfl (by decide) (BTos.cells rfl rfl rfl zw (BTos.flat rfl rfl rfl (BTos.flat rfl rfl rfl (BTos.flat rfl rfl rfl (BTos.flat rfl rfl rfl (BTos.flat rfl rfl rfl (BTos.flat rfl rfl rfl (BTos.flat rfl rfl rfl (BTos.flat rfl rfl rfl (BTos.flat rfl rfl rfl (BTos.flat rfl rfl rfl BTos.nil))))))))))) trivial trivial rfl) zw zm
            · conv => whnf
              refine Retell.turn ⟨pmO 13 6, 14, [], []⟩ (TurnOk.mk' _ _ [] [] (OutOk.lift _) rfl (by decide) (BTos.cells rfl rfl rfl zw (BTos.flat rfl rfl rfl (BTos.flat rfl rfl rfl (BTos.flat rfl rfl rfl (BTos.flat rfl rfl rfl (BTos.flat rfl rfl rfl (BTos.flat rfl rfl rfl (BTos.flat rfl rfl rfl (BTos.flat rfl rfl rfl (BTos.flat rfl rfl rfl (BTos.flat rfl rfl rfl BTos.nil))))))))))) trivial trivial rfl) zw zm
            · conv => whnf
              refine Retell.turn ⟨pmO 13 7, 14, [], []⟩ (TurnOk.mk' _ _ [] [] (OutOk.lift _) rfl (by decide) (BTos.cells rfl rfl rfl zw (BTos.flat rfl rfl rfl (BTos.flat rfl rfl rfl (BTos.flat rfl rfl rfl (BTos.flat rfl rfl rfl (BTos.flat rfl rfl rfl (BTos.flat rfl rfl rfl (BTos.flat rfl rfl rfl (BTos.flat rfl rfl rfl (BTos.flat rfl rfl rfl (BTos.flat rfl rfl rfl BTos.nil))))))))))) trivial trivial rfl) zw zm
            · conv => whnf
              refine Retell.turn ⟨pmO 13 8, 14, [], []⟩ (TurnOk.mk' _ _ [] [] (OutOk.lift _) rfl (by decide) (BTos.cells rfl rfl rfl zw (BTos.flat rfl rfl rfl (BTos.flat rfl rfl rfl (BTos.flat rfl rfl rfl (BTos.flat rfl rfl rfl (BTos.flat rfl rfl rfl (BTos.flat rfl rfl rfl (BTos.flat rfl rfl rfl (BTos.flat rfl rfl rfl (BTos.flat rfl rfl rfl (BTos.flat rfl rfl rfl BTos.nil))))))))))) trivial trivial rfl) zw zm
            · conv => whnf
              refine Retell.turn ⟨pmO 13 9, 14, [], []⟩ (TurnOk.mk' _ _ [] [] (OutOk.lift _) rfl (by decide) (BTos.cells rfl rfl rfl zw (BTos.flat rfl rfl rfl (BTos.flat rfl rfl rfl (BTos.flat rfl rfl rfl (BTos.flat rfl rfl rfl (BTos.flat rfl rfl rfl (BTos.flat rfl rfl rfl (BTos.flat rfl rfl rfl (BTos.flat rfl rfl rfl (BTos.flat rfl rfl rfl (BTos.flat rfl rfl rfl BTos.nil))))))))))) trivial trivial rfl) zw zm
      · obtain rfl : p = n := by omega
        have hxp := hx.p
        have hxs := hx.s
        unfold Pp at hxs
        have hX0 := ri0 (ws := N.ws) hx
        have hrt : setR (List.replicate p R16) x.p.toNat x.s.toNat x.d = rt0 p x := rfl
        have hE0 : E = rgo p N.ws 200000 (rt0 p x) := hE
        have htot := ri_tot hX0 hn1.2
        generalize hY : rt0 p x = Y at hX0 hrt hE0 htot
        have hsz0 : Sz p (List.replicate p R16) := sz_rep p
        conv => whnf
        repeat' (first | ((first | refine zs1 ?_ | refine zs2 ?_ | refine zs3 ?_ | refine zs4 ?_ | refine zs5 ?_); conv => whnf) | ((first | apply zi1 | apply zi2 | apply zi3 | apply zi4 | apply zi5) <;> intro _ <;> conv => whnf))
        · exfalso; omega
        apply suffices_
        · intro hrest
          refine zs6 [] ?_
          rcases ten (show x.p.toNat < 10 by omega) with e | e | e | e | e | e | e | e | e | e
          all_goals (
            conv => whnf
            repeat' (first | ((first | refine zs1 ?_ | refine zs2 ?_ | refine zs3 ?_ | refine zs4 ?_ | refine zs5 ?_); conv => whnf) | ((first | apply zi1 | apply zi2 | apply zi3 | apply zi4 | apply zi5) <;> intro _ <;> conv => whnf) | ((first | refine VLd.rowP (n := p) (q := 0) rfl (by omega) (by show x.p.toNat * 1 = 0; omega) ?_ | refine VLd.rowP (n := p) (q := 1) rfl (by omega) (by show x.p.toNat * 1 = 1; omega) ?_ | refine VLd.rowP (n := p) (q := 2) rfl (by omega) (by show x.p.toNat * 1 = 2; omega) ?_ | refine VLd.rowP (n := p) (q := 3) rfl (by omega) (by show x.p.toNat * 1 = 3; omega) ?_ | refine VLd.rowP (n := p) (q := 4) rfl (by omega) (by show x.p.toNat * 1 = 4; omega) ?_ | refine VLd.rowP (n := p) (q := 5) rfl (by omega) (by show x.p.toNat * 1 = 5; omega) ?_ | refine VLd.rowP (n := p) (q := 6) rfl (by omega) (by show x.p.toNat * 1 = 6; omega) ?_ | refine VLd.rowP (n := p) (q := 7) rfl (by omega) (by show x.p.toNat * 1 = 7; omega) ?_ | refine VLd.rowP (n := p) (q := 8) rfl (by omega) (by show x.p.toNat * 1 = 8; omega) ?_ | refine VLd.rowP (n := p) (q := 9) rfl (by omega) (by show x.p.toNat * 1 = 9; omega) ?_); conv => whnf))
            refine VMem.setTab (b := .cells true (rowsV p)) (X := List.replicate p R16) (r := []) x.s.toNat rfl (lt_len hsz0 (by omega)) (by omega) (lt_row hsz0 (by omega) (by omega)) (by show x.s.toNat * 1 = x.s.toNat; omega) ?_
            have hrt2 := hrt
            rw [e] at hrt2
            rw [hrt2]
            conv => whnf
            repeat' (first | ((first | refine zs1 ?_ | refine zs2 ?_ | refine zs3 ?_ | refine zs4 ?_ | refine zs5 ?_); conv => whnf) | ((first | apply zi1 | apply zi2 | apply zi3 | apply zi4 | apply zi5) <;> intro _ <;> conv => whnf))
            refine VCode.tell (marks' := []) [(2, .fp (encN N)), (3, .fp (encHd x)), (4, .nilslice), (5, .gl (.loc 0) 1 p), (9, B true)] (tabB (.cells true (rowsV p)) Y []) ?_ hrest.out
            conv => whnf
            refine Retell.turn ⟨[0, 1, 2, 3, 4, 5, 6, 7, 8, 9, 10], 11, [], []⟩ (TurnOk.mk' _ _ [] [] (OutOk.lift _) rfl (by decide) (BTos.tab _ (by omega) (by intro q hq; rcases ten hq with rfl | rfl | rfl | rfl | rfl | rfl | rfl | rfl | rfl | rfl <;> rfl) (by decide) rfl BTos.nil) trivial trivial rfl) zw zm)
        conv => whnf
        refine VCode.lp (outer := h.lift) (marks := []) (fun y : Rw × Bool => [(2, .fp (encN N)), (3, .fp (encHd x)), (4, .nilslice), (5, .gl (.loc 0) 1 p), (9, B y.2)]) (fun y => tabB (.cells true (rowsV p)) y.1 []) (fun y => RI p N.ws x y.1 ∧ if y.2 = true then ∃ M, totR y.1 < M ∧ E = rgo p N.ws M y.1 else E = y.1) (fun y => bif y.2 then totR y.1 + 1 else 0) (Y, true) ⟨hX0, by rw [if_pos rfl]; exact ⟨_, htot, hE0⟩⟩ ?_ ?_
        · conv => whnf
          refine Retell.turn ⟨[0, 1, 2, 3, 4, 5, 6, 7, 8, 9, 10], 11, [], []⟩ (TurnOk.mk' _ _ [] [] (OutOk.lift _) rfl (by decide) (BTos.tab _ (by omega) (by intro q hq; rcases ten hq with rfl | rfl | rfl | rfl | rfl | rfl | rfl | rfl | rfl | rfl <;> rfl) (by decide) rfl BTos.nil) trivial trivial rfl) zw zm
        · rintro ⟨X, ch⟩ ⟨hI, hc⟩
          dsimp only at hI hc
          cases ch with
          | false =>
            rw [if_neg (by decide)] at hc
            subst hc
            have hel : E.length = p := hI.sz.len
            conv => whnf
            repeat' (first | ((first | refine zs1 ?_ | refine zs2 ?_ | refine zs3 ?_ | refine zs4 ?_ | refine zs5 ?_); conv => whnf) | ((first | apply zi1 | apply zi2 | apply zi3 | apply zi4 | apply zi5) <;> intro _ <;> conv => whnf))
            have := tab_out (X := E) h (by rw [hel]; exact hI.sz) (by omega)
            rw [hel] at this
            exact this
          | true =>
            rw [if_pos rfl] at hc
            obtain ⟨M, hM, hEM⟩ := hc
            have hJ := rxP_ok hN.ws hx hI
            conv => whnf
            repeat' (first | ((first | refine zs1 ?_ | refine zs2 ?_ | refine zs3 ?_ | refine zs4 ?_ | refine zs5 ?_); conv => whnf) | ((first | apply zi1 | apply zi2 | apply zi3 | apply zi4 | apply zi5) <;> intro _ <;> conv => whnf))
            refine VCode.lp (outer := h.lift) (marks := []) (fun a : Nat => [(2, .fp (encN N)), (3, .fp (encHd x)), (4, .nilslice), (5, .gl (.loc 0) 1 p), (9, B (rxP N.ws a (X, false)).2), (10, I a)]) (fun a => tabB (.cells true (rowsV p)) (rxP N.ws a (X, false)).1 []) (fun a => a ≤ p) (fun a => p - a) 0 (Nat.zero_le _) ?_ ?_
            · rw [show rxP N.ws 0 (X, false) = (X, false) from rfl]
              conv => whnf
              refine Retell.turn ⟨[0, 1, 2, 3, 4, 5, 6, 7, 8, 9, 10], 11, [], []⟩ (TurnOk.mk' _ _ [] [] (OutOk.lift _) rfl (by decide) (BTos.tab _ (by omega) (by intro q hq; rcases ten hq with rfl | rfl | rfl | rfl | rfl | rfl | rfl | rfl | rfl | rfl <;> rfl) (by decide) rfl BTos.nil) trivial trivial rfl) zw zm
            · intro a ha
              rcases Nat.lt_or_ge a p with h3 | h3
              · have hJa := hJ a (by omega)
                have hst : rxP N.ws (a + 1) (X, false) = rxS N.ws a 16 (rxP N.ws a (X, false)) := rfl
                generalize hz1 : rxP N.ws (a + 1) (X, false) = z1 at hst
                generalize rxP N.ws a (X, false) = z at hJa hst
                conv => whnf
                repeat' (first | ((first | refine zs1 ?_ | refine zs2 ?_ | refine zs3 ?_ | refine zs4 ?_ | refine zs5 ?_); conv => whnf) | ((first | apply zi1 | apply zi2 | apply zi3 | apply zi4 | apply zi5) <;> intro _ <;> conv => whnf))
                all_goals try (exfalso; omega)
                refine VCode.lp (outer := h.lift) (marks := []) (fun s : Nat => [(2, .fp (encN N)), (3, .fp (encHd x)), (4, .nilslice), (5, .gl (.loc 0) 1 p), (9, B (rxS N.ws a s z).2), (10, I a), (11, I s)]) (fun s => tabB (.cells true (rowsV p)) (rxS N.ws a s z).1 []) (fun s => s ≤ 16) (fun s => 16 - s) 0 (Nat.zero_le _) ?_ ?_
                · rw [show rxS N.ws a 0 z = z from rfl]
                  conv => whnf
                  refine Retell.turn ⟨[0, 1, 2, 3, 4, 5, 6, 7, 8, 9, 10], 11, [], []⟩ (TurnOk.mk' _ _ [] [] (OutOk.lift _) rfl (by decide) (BTos.tab _ (by omega) (by intro q hq; rcases ten hq with rfl | rfl | rfl | rfl | rfl | rfl | rfl | rfl | rfl | rfl <;> rfl) (by decide) rfl BTos.nil) trivial trivial rfl) zw zm
                · intro s hs
                  rcases Nat.lt_or_ge s 16 with h4 | h4
                  · have hJs := rxS_ok hN.ws hx h3 hJa s hs
                    have hst2 : rxS N.ws a (s + 1) z = rxs N.ws a s (rxS N.ws a s z) := rfl
                    have hkR : InR p ((a : Int), (s : Int)) := ⟨by dsimp only; omega, by unfold Pp; dsimp only; omega⟩
                    generalize hu1 : rxS N.ws a (s + 1) z = u1 at hst2
                    generalize rxS N.ws a s z = u at hJs hst2
                    conv => whnf
                    repeat' (first | ((first | refine zs1 ?_ | refine zs2 ?_ | refine zs3 ?_ | refine zs4 ?_ | refine zs5 ?_); conv => whnf) | ((first | apply zi1 | apply zi2 | apply zi3 | apply zi4 | apply zi5) <;> intro _ <;> conv => whnf))
                    all_goals try (exfalso; omega)
                    refine VCode.lpC (outer := h.lift) (marks := []) 1 (fun i : Nat => [(2, .fp (encN N)), (3, .fp (encHd x)), (4, .nilslice), (5, .gl (.loc 0) 1 p), (9, B ((N.ws.take i).foldl (rx a s) u).2), (10, I a), (11, I s), (12, I i)]) (fun i => tabB (.cells true (rowsV p)) ((N.ws.take i).foldl (rx a s) u).1 []) (fun i => i ≤ N.ws.length) (fun i => N.ws.length - i) 0 (Nat.zero_le _) ?_ ?_
                    · rw [show (N.ws.take 0).foldl (rx a s) u = u from rfl]
                      conv => whnf
                      refine Retell.turn ⟨[0, 1, 2, 3, 4, 5, 6, 7, 8, 9, 10], 11, [], []⟩ (TurnOk.mk' _ _ [] [] (OutOk.lift _) rfl (by decide) (BTos.tab _ (by omega) (by intro q hq; rcases ten hq with rfl | rfl | rfl | rfl | rfl | rfl | rfl | rfl | rfl | rfl <;> rfl) (by decide) rfl BTos.nil) trivial trivial rfl) zw zm
                    · intro i hi
                      rcases Nat.lt_or_ge i N.ws.length with h5 | h5
                      · have hJi := rxs_ok hN.ws hx hkR (N.ws.take i) u _ (fun w hw => List.mem_of_mem_take hw) hJs
                        have hw : N.ws[i]? = some N.ws[i] := List.getElem?_eq_getElem h5
                        have hwo := hN.ws N.ws[i] (List.getElem_mem h5)
                        have hst3 : (N.ws.take (i + 1)).foldl (rx a s) u = rx a s ((N.ws.take i).foldl (rx a s) u) N.ws[i] := by
                          rw [List.take_succ_eq_append_getElem h5, List.foldl_append]; rfl
                        generalize hv1 : (N.ws.take (i + 1)).foldl (rx a s) u = v1 at hst3
                        generalize (N.ws.take i).foldl (rx a s) u = v at hJi hst3
                        generalize N.ws[i] = w at hw hwo hst3
                        obtain ⟨X1, ch1⟩ := v
                        have hI1 := hJi.ri
                        dsimp only at hI1
                        have hrg := hI1.rng _ hkR
                        have hgk := atR_at hI1.sz h3 h4
                        have hxd := hx.d
                        rw [rx_if] at hst3
                        dsimp only at hrg
                        generalize atR X1 a s = dk at hrg hgk hst3
                        have cG := fun h => vc_rgone w ⟨a, dk, s⟩ h hwo (by dsimp only; omega) hkR.2
                        have hg1 := fun (hg : gnB w ⟨a, dk, s⟩ = true) => rgV_gn hg
                        have hg2 := fun (hg : gnB w ⟨a, dk, s⟩ = true) => (show gone w ⟨a, dk, s⟩ = some (gnV w ⟨a, dk, s⟩) by rw [gone_eq, hg]; rfl)
                        generalize rgV w ⟨a, dk, s⟩ = y at cG hg1
                        have cut : ∀ bb, gnB w ⟨a, dk, s⟩ = bb → (∀ h, VC Try.prog 81 [vWy w, vHd ⟨a, dk, s⟩] h (.tuple [vHd y, B bb]) h) → True := fun _ _ _ => trivial
                        clear cut
                        generalize hbb : gnB w ⟨a, dk, s⟩ = bb at cG hst3 hg1 hg2
                        conv => whnf
                        repeat' (first | ((first | refine zs1 ?_ | refine zs2 ?_ | refine zs3 ?_ | refine zs4 ?_ | refine zs5 ?_); conv => whnf) | ((first | apply zi1 | apply zi2 | apply zi3 | apply zi4 | apply zi5) <;> intro _ <;> conv => whnf))
                        all_goals try (exfalso; omega)
                        refine VCut.block 1 ?_
                        apply suffices_
                        · intro hrest
                          conv => whnf
                          refine zs6 [] ?_
                          rcases ten (show a < 10 by omega) with e | e | e | e | e | e | e | e | e | e
                          all_goals (
                            conv => whnf
                            repeat' (first | ((first | refine zs1 ?_ | refine zs2 ?_ | refine zs3 ?_ | refine zs4 ?_ | refine zs5 ?_); conv => whnf) | ((first | apply zi1 | apply zi2 | apply zi3 | apply zi4 | apply zi5) <;> intro _ <;> conv => whnf) | (refine VAny.ix encWy_len i rfl rfl hw ?_; conv => whnf) | ((first | refine VLd.rowP (n := p) (q := 0) rfl (by omega) (by show (a : Int).toNat * 1 = 0; omega) ?_ | refine VLd.rowP (n := p) (q := 1) rfl (by omega) (by show (a : Int).toNat * 1 = 1; omega) ?_ | refine VLd.rowP (n := p) (q := 2) rfl (by omega) (by show (a : Int).toNat * 1 = 2; omega) ?_ | refine VLd.rowP (n := p) (q := 3) rfl (by omega) (by show (a : Int).toNat * 1 = 3; omega) ?_ | refine VLd.rowP (n := p) (q := 4) rfl (by omega) (by show (a : Int).toNat * 1 = 4; omega) ?_ | refine VLd.rowP (n := p) (q := 5) rfl (by omega) (by show (a : Int).toNat * 1 = 5; omega) ?_ | refine VLd.rowP (n := p) (q := 6) rfl (by omega) (by show (a : Int).toNat * 1 = 6; omega) ?_ | refine VLd.rowP (n := p) (q := 7) rfl (by omega) (by show (a : Int).toNat * 1 = 7; omega) ?_ | refine VLd.rowP (n := p) (q := 8) rfl (by omega) (by show (a : Int).toNat * 1 = 8; omega) ?_ | refine VLd.rowP (n := p) (q := 9) rfl (by omega) (by show (a : Int).toNat * 1 = 9; omega) ?_); conv => whnf) | (refine VLd.tab (b := .cells true (rowsV p)) (X := X1) (r := []) s rfl (by decide) (by have hq := hgk; rw [e] at hq; exact hq) (by show (s : Int).toNat * 1 = s; omega) ?_; conv => whnf) | (refine VCall.intro (cG _) ?_; conv => whnf))
                            refine VCut.at' (outer := h.lift) (marks := []) 99 [(2, .fp (encN N)), (3, .fp (encHd x)), (4, .nilslice), (5, .gl (.loc 0) 1 p), (9, B ch1), (10, I a), (11, I s), (12, I i), (13, .ptr (.loc 11) 0), (14, B bb)] (tabB (.cells true (rowsV p)) X1 [.flat true (encHd y)]) ?_ hrest.out
                            conv => whnf
                            refine Retell.turn ⟨[0, 1, 2, 3, 4, 5, 6, 7, 8, 9, 10, 11], 12, [], []⟩ (TurnOk.mk' _ _ [] [] (OutOk.lift _) rfl (by decide) (BTos.tab _ (by omega) (by intro q hq; rcases ten hq with rfl | rfl | rfl | rfl | rfl | rfl | rfl | rfl | rfl | rfl <;> rfl) (by decide) rfl (BTos.flat rfl rfl rfl BTos.nil)) trivial trivial rfl) zw zm)
                        · cases bb with
                          | false =>
                            rw [if_neg (by decide)] at hst3
                            subst hst3
                            conv => whnf
                            refine zs6 [] ?_
                            conv => whnf
                            repeat' (first | ((first | refine zs1 ?_ | refine zs2 ?_ | refine zs3 ?_ | refine zs4 ?_ | refine zs5 ?_); conv => whnf) | ((first | apply zi1 | apply zi2 | apply zi3 | apply zi4 | apply zi5) <;> intro _ <;> conv => whnf))
                            refine LEnd.intro (i + 1) (by omega) (by omega) ?_
                            rw [hv1]
                            conv => whnf
                            refine Retell.turn ⟨[0, 1, 2, 3, 4, 5, 6, 7, 8, 9, 10], 12, [], []⟩ (TurnOk.mk' _ _ [] [] (OutOk.lift _) rfl (by decide) (BTos.tab _ (by omega) (by intro q hq; rcases ten hq with rfl | rfl | rfl | rfl | rfl | rfl | rfl | rfl | rfl | rfl <;> rfl) (by decide) rfl BTos.nil) trivial trivial rfl) zw zm
                          | true =>
                            rw [if_pos rfl] at hst3
                            have hgn := gone_ok hwo hkR.2 (hg2 rfl)
                            rw [← hg1 rfl] at hst3 hgn
                            obtain ⟨_, _, hyp, _, hyd, hyd2, hys⟩ := hgn
                            unfold Pp at hys
                            have hgy := atR_at (p := y.p.toNat) (s := y.s.toNat) hI1.sz (by omega) (by omega)
                            rw [show ((y.p.toNat : Nat) : Int) = y.p by omega, show ((y.s.toNat : Nat) : Int) = y.s by omega] at hgy
                            generalize atR X1 y.p y.s = dy at hst3 hgy
                            conv => whnf
                            refine zs6 [] ?_
                            by_cases hlt : y.d < dy
                            · rw [if_pos hlt] at hst3
                              rcases ten (show y.p.toNat < 10 by omega) with e | e | e | e | e | e | e | e | e | e
                              all_goals (
                                rw [e] at hst3 hgy
                                subst hst3
                                conv => whnf
                                repeat' (first | ((first | refine zs1 ?_ | refine zs2 ?_ | refine zs3 ?_ | refine zs4 ?_ | refine zs5 ?_); conv => whnf) | ((first | apply zi1 | apply zi2 | apply zi3 | apply zi4 | apply zi5) <;> intro _ <;> conv => whnf) | ((first | refine VLd.rowP (n := p) (q := 0) rfl (by omega) (by show y.p.toNat * 1 = 0; omega) ?_ | refine VLd.rowP (n := p) (q := 1) rfl (by omega) (by show y.p.toNat * 1 = 1; omega) ?_ | refine VLd.rowP (n := p) (q := 2) rfl (by omega) (by show y.p.toNat * 1 = 2; omega) ?_ | refine VLd.rowP (n := p) (q := 3) rfl (by omega) (by show y.p.toNat * 1 = 3; omega) ?_ | refine VLd.rowP (n := p) (q := 4) rfl (by omega) (by show y.p.toNat * 1 = 4; omega) ?_ | refine VLd.rowP (n := p) (q := 5) rfl (by omega) (by show y.p.toNat * 1 = 5; omega) ?_ | refine VLd.rowP (n := p) (q := 6) rfl (by omega) (by show y.p.toNat * 1 = 6; omega) ?_ | refine VLd.rowP (n := p) (q := 7) rfl (by omega) (by show y.p.toNat * 1 = 7; omega) ?_ | refine VLd.rowP (n := p) (q := 8) rfl (by omega) (by show y.p.toNat * 1 = 8; omega) ?_ | refine VLd.rowP (n := p) (q := 9) rfl (by omega) (by show y.p.toNat * 1 = 9; omega) ?_); conv => whnf) | (refine VLd.tab (b := .cells true (rowsV p)) (X := X1) (r := [.flat true (encHd y)]) y.s.toNat rfl (by decide) hgy (by show y.s.toNat * 1 = y.s.toNat; omega) ?_; conv => whnf))
                                all_goals try (rename_i hh; exact absurd hlt hh)
                                refine zs6 [] ?_
                                conv => whnf
                                repeat' (first | ((first | refine zs1 ?_ | refine zs2 ?_ | refine zs3 ?_ | refine zs4 ?_ | refine zs5 ?_); conv => whnf) | ((first | apply zi1 | apply zi2 | apply zi3 | apply zi4 | apply zi5) <;> intro _ <;> conv => whnf) | ((first | refine VLd.rowP (n := p) (q := 0) rfl (by omega) (by show y.p.toNat * 1 = 0; omega) ?_ | refine VLd.rowP (n := p) (q := 1) rfl (by omega) (by show y.p.toNat * 1 = 1; omega) ?_ | refine VLd.rowP (n := p) (q := 2) rfl (by omega) (by show y.p.toNat * 1 = 2; omega) ?_ | refine VLd.rowP (n := p) (q := 3) rfl (by omega) (by show y.p.toNat * 1 = 3; omega) ?_ | refine VLd.rowP (n := p) (q := 4) rfl (by omega) (by show y.p.toNat * 1 = 4; omega) ?_ | refine VLd.rowP (n := p) (q := 5) rfl (by omega) (by show y.p.toNat * 1 = 5; omega) ?_ | refine VLd.rowP (n := p) (q := 6) rfl (by omega) (by show y.p.toNat * 1 = 6; omega) ?_ | refine VLd.rowP (n := p) (q := 7) rfl (by omega) (by show y.p.toNat * 1 = 7; omega) ?_ | refine VLd.rowP (n := p) (q := 8) rfl (by omega) (by show y.p.toNat * 1 = 8; omega) ?_ | refine VLd.rowP (n := p) (q := 9) rfl (by omega) (by show y.p.toNat * 1 = 9; omega) ?_); conv => whnf))
                                refine VMem.setTab (b := .cells true (rowsV p)) (X := X1) (r := [.flat true (encHd y)]) y.s.toNat rfl (lt_len hI1.sz (by omega)) (by omega) (lt_row hI1.sz (by omega) (by omega)) (by show y.s.toNat * 1 = y.s.toNat; omega) ?_
                                conv => whnf
                                repeat' (first | ((first | refine zs1 ?_ | refine zs2 ?_ | refine zs3 ?_ | refine zs4 ?_ | refine zs5 ?_); conv => whnf) | ((first | apply zi1 | apply zi2 | apply zi3 | apply zi4 | apply zi5) <;> intro _ <;> conv => whnf))
                                refine LEnd.intro (i + 1) (by omega) (by omega) ?_
                                rw [hv1]
                                conv => whnf
                                refine Retell.turn ⟨[0, 1, 2, 3, 4, 5, 6, 7, 8, 9, 10], 12, [], []⟩ (TurnOk.mk' _ _ [] [] (OutOk.lift _) rfl (by decide) (BTos.tab _ (by omega) (by intro q hq; rcases ten hq with rfl | rfl | rfl | rfl | rfl | rfl | rfl | rfl | rfl | rfl <;> rfl) (by decide) rfl BTos.nil) trivial trivial rfl) zw zm)
                            · rw [if_neg hlt] at hst3
                              subst hst3
                              rcases ten (show y.p.toNat < 10 by omega) with e | e | e | e | e | e | e | e | e | e
                              all_goals (
                                rw [e] at hgy
                                conv => whnf
                                repeat' (first | ((first | refine zs1 ?_ | refine zs2 ?_ | refine zs3 ?_ | refine zs4 ?_ | refine zs5 ?_); conv => whnf) | ((first | apply zi1 | apply zi2 | apply zi3 | apply zi4 | apply zi5) <;> intro _ <;> conv => whnf) | ((first | refine VLd.rowP (n := p) (q := 0) rfl (by omega) (by show y.p.toNat * 1 = 0; omega) ?_ | refine VLd.rowP (n := p) (q := 1) rfl (by omega) (by show y.p.toNat * 1 = 1; omega) ?_ | refine VLd.rowP (n := p) (q := 2) rfl (by omega) (by show y.p.toNat * 1 = 2; omega) ?_ | refine VLd.rowP (n := p) (q := 3) rfl (by omega) (by show y.p.toNat * 1 = 3; omega) ?_ | refine VLd.rowP (n := p) (q := 4) rfl (by omega) (by show y.p.toNat * 1 = 4; omega) ?_ | refine VLd.rowP (n := p) (q := 5) rfl (by omega) (by show y.p.toNat * 1 = 5; omega) ?_ | refine VLd.rowP (n := p) (q := 6) rfl (by omega) (by show y.p.toNat * 1 = 6; omega) ?_ | refine VLd.rowP (n := p) (q := 7) rfl (by omega) (by show y.p.toNat * 1 = 7; omega) ?_ | refine VLd.rowP (n := p) (q := 8) rfl (by omega) (by show y.p.toNat * 1 = 8; omega) ?_ | refine VLd.rowP (n := p) (q := 9) rfl (by omega) (by show y.p.toNat * 1 = 9; omega) ?_); conv => whnf) | (refine VLd.tab (b := .cells true (rowsV p)) (X := X1) (r := [.flat true (encHd y)]) y.s.toNat rfl (by decide) hgy (by show y.s.toNat * 1 = y.s.toNat; omega) ?_; conv => whnf))
                                all_goals try (rename_i hh; exact absurd hh hlt)
                                refine LEnd.intro (i + 1) (by omega) (by omega) ?_
                                rw [hv1]
                                conv => whnf
                                refine Retell.turn ⟨[0, 1, 2, 3, 4, 5, 6, 7, 8, 9, 10], 12, [], []⟩ (TurnOk.mk' _ _ [] [] (OutOk.lift _) rfl (by decide) (BTos.tab _ (by omega) (by intro q hq; rcases ten hq with rfl | rfl | rfl | rfl | rfl | rfl | rfl | rfl | rfl | rfl <;> rfl) (by decide) rfl BTos.nil) trivial trivial rfl) zw zm)
                      · obtain rfl : i = N.ws.length := by omega
                        rw [List.take_length]
                        rw [show N.ws.foldl (rx a s) u = u1 from hst2.symm]
                        conv => whnf
                        repeat' (first | ((first | refine zs1 ?_ | refine zs2 ?_ | refine zs3 ?_ | refine zs4 ?_ | refine zs5 ?_); conv => whnf) | ((first | apply zi1 | apply zi2 | apply zi3 | apply zi4 | apply zi5) <;> intro _ <;> conv => whnf))
                        all_goals try (exfalso; omega)
                        refine LEnd.intro (s + 1) (by omega) (by omega) ?_
                        rw [hu1]
                        conv => whnf
                        refine Retell.turn ⟨[0, 1, 2, 3, 4, 5, 6, 7, 8, 9, 10], 11, [], []⟩ (TurnOk.mk' _ _ [] [] (OutOk.lift _) rfl (by decide) (BTos.tab _ (by omega) (by intro q hq; rcases ten hq with rfl | rfl | rfl | rfl | rfl | rfl | rfl | rfl | rfl | rfl <;> rfl) (by decide) rfl BTos.nil) trivial trivial rfl) zw zm
                  · obtain rfl : s = 16 := by omega
                    rw [← hst]
                    conv => whnf
                    repeat' (first | ((first | refine zs1 ?_ | refine zs2 ?_ | refine zs3 ?_ | refine zs4 ?_ | refine zs5 ?_); conv => whnf) | ((first | apply zi1 | apply zi2 | apply zi3 | apply zi4 | apply zi5) <;> intro _ <;> conv => whnf))
                    all_goals try (exfalso; omega)
                    refine LEnd.intro (a + 1) (by omega) (by omega) ?_
                    rw [hz1]
                    conv => whnf
                    refine Retell.turn ⟨[0, 1, 2, 3, 4, 5, 6, 7, 8, 9, 10], 11, [], []⟩ (TurnOk.mk' _ _ [] [] (OutOk.lift _) rfl (by decide) (BTos.tab _ (by omega) (by intro q hq; rcases ten hq with rfl | rfl | rfl | rfl | rfl | rfl | rfl | rfl | rfl | rfl <;> rfl) (by decide) rfl BTos.nil) trivial trivial rfl) zw zm
              · obtain rfl : a = p := by omega
                have hJ1 := hJ a (Nat.le_refl _)
                have hgo : E = if (rxP N.ws a (X, false)).2 then rgo a N.ws (M - 1) (rxP N.ws a (X, false)).1 else (rxP N.ws a (X, false)).1 := by
                  cases M with
                  | zero => omega
                  | succ M => exact hEM
                generalize rxP N.ws a (X, false) = z at hJ1 hgo
                conv => whnf
                repeat' (first | ((first | refine zs1 ?_ | refine zs2 ?_ | refine zs3 ?_ | refine zs4 ?_ | refine zs5 ?_); conv => whnf) | ((first | apply zi1 | apply zi2 | apply zi3 | apply zi4 | apply zi5) <;> intro _ <;> conv => whnf))
                all_goals try (exfalso; omega)
                refine LEnd.intro (Y := Rw × Bool) z ⟨hJ1.ri, ?_⟩ ?_ ?_
                · split
                  · rename_i hz
                    rw [if_pos hz] at hgo
                    exact ⟨M - 1, by have := hJ1.yes hz; omega, hgo⟩
                  · rename_i hz
                    rw [if_neg hz] at hgo
                    exact hgo
                · cases hz : z.2 with
                  | true => have := hJ1.yes hz; simp only [hz, cond_true]; omega
                  | false => simp only [hz, cond_false, cond_true]; omega
                · conv => whnf
                  refine Retell.turn ⟨[0, 1, 2, 3, 4, 5, 6, 7, 8, 9, 10], 11, [], []⟩ (TurnOk.mk' _ _ [] [] (OutOk.lift _) rfl (by decide) (BTos.tab _ (by omega) (by intro q hq; rcases ten hq with rfl | rfl | rfl | rfl | rfl | rfl | rfl | rfl | rfl | rfl <;> rfl) (by decide) rfl BTos.nil) trivial trivial rfl) zw zm
end Go.Proofs.Ytoeendggmalcpaa

open Go.Vm
namespace Go.Proofs.Ytoeendggmalcpaa
set_option maxRecDepth 20000
set_option maxHeartbeats 4000000
def bytes (l : List Int) : V := .fs 1 l.length (l.flatMap encU)
theorem VOut.ownP {h : Hp} {loc : List Blk} {ds : List D} (j L : Nat) (hL : Nat.ble loc.length L = true) (hj : loc[j]? = some (.flat true ds)) : VOut h ⟨h.lift, loc⟩ (.ptr (.loc j) 0) (.ptr h.fresh 0) (h.push (.flat true ds)) := by
  refine VOut.upd [] [.flat true ds] [j] L hL (by intro p hp; cases hp) (by simp) rfl ?_ ?_ rfl
  · intro k b hk
    cases k with
    | zero => rw [List.getElem?_cons_zero, Option.some.injEq] at hk; subst hk; exact ⟨j, rfl, hj⟩
    | succ k => simp at hk
  · intro σ x hx
    have : (V.ptr h.fresh 0).ren (backR h.loc.length [j] L) = .ptr (.loc j) 0 := by simp [V.ren, backR, Hp.fresh]
    rw [this]; exact hx
theorem vc_Of (bs : List Int) (h : Hp) : VC Try.prog 14 [bytes bs] h (.ptr h.fresh 0) (h.push (deckB bs (0, 9))) := by
  refine VC.body Try.func14 rfl Try.ntmps14 Try.call14 (h.grows_push _) rfl ?_
  conv => whnf
  repeat (first | ((first | refine zs1 ?_ | refine zs2 ?_ | refine zs3 ?_ | refine zs4 ?_ | refine zs5 ?_ | refine zs6 [] ?_); conv => whnf))
  exact VOut.ownP 0 1 rfl rfl
end Go.Proofs.Ytoeendggmalcpaa

open Go.Vm
namespace Go.Vm
theorem VCut.atO {P : Program} {ro : Option Nat} {c : Code} {n : Nat} {fr : Fr} {outer0 : Id → Option Blk} {loc0 : List Blk} {marks : List Id} {Q : X → St → Prop} (m : Nat) (slots : List (Nat × V)) (outer : Id → Option Blk) (loc : List Blk) (ho : outer0 = outer)
    (hst : frSK slots .leaf fun fr' => Retell isOut ⟨n, fr, ⟨outer, loc0⟩, marks⟩ ⟨n, fr', ⟨outer, loc⟩, marks⟩)
    (hb : frSK slots .leaf fun fr' => vcut P ro isOut m c ⟨n, fr', ⟨outer, loc⟩, marks⟩ Q) : VCut P ro isOut c ⟨n, fr, ⟨outer0, loc0⟩, marks⟩ Q := by
  subst ho
  exact VCut.at' m slots loc hst hb
end Go.Vm
namespace Go.Vm
end Go.Vm
namespace Go.Proofs.Ytoeendggmalcpaa
set_option maxRecDepth 20000
set_option maxHeartbeats 4000000
theorem Prm.mem {n : Nat} {l : List Int} (h : Prm n l) {x : Int} : x ∈ l ↔ ∃ j : Nat, j < n ∧ x = j := by
  rw [h.perm.mem_iff, List.mem_map]
  constructor
  · rintro ⟨j, hj, rfl⟩; exact ⟨j, List.mem_range.1 hj, rfl⟩
  · rintro ⟨j, hj, rfl⟩; exact ⟨j, List.mem_range.2 hj, rfl⟩
end Go.Proofs.Ytoeendggmalcpaa

open Go.Vm
open Psg
namespace Go.Proofs.Ytoeendggmalcpaa
set_option maxRecDepth 20000
set_option maxHeartbeats 4000000
theorem Prm.nd {n : Nat} {l : List Int} (h : Prm n l) : l.Nodup := by
  rw [h.perm.nodup_iff, List.nodup_iff_pairwise_ne, List.pairwise_map]
  exact List.nodup_range.imp fun h e => h (by omega)
end Go.Proofs.Ytoeendggmalcpaa

open Go.Vm
open Psg
namespace Go.Proofs.Ytoeendggmalcpaa
set_option maxRecDepth 20000
set_option maxHeartbeats 4000000
structure CtI (a b : List Int) (p : Nat) (S : List Int) : Prop where
  lt : S.Pairwise (· < ·)
  rg : ∀ q ∈ S, 0 ≤ q ∧ q < p
  src : ∀ q ∈ a, 0 ≤ q → q < p → q ∈ S
  gls : ∀ q ∈ S, q ∉ b
  len : S.length ≤ p
theorem CtI.zero (a b : List Int) : CtI a b 0 [] := ⟨List.Pairwise.nil, fun q h => absurd h (by simp), fun q _ h0 h1 => by omega, fun q h => absurd h (by simp), Nat.le_refl _⟩
end Go.Proofs.Ytoeendggmalcpaa

namespace Riv
structure Mp where
  w : Int
  h : Int
  c : List Int
  deriving DecidableEq
def Nb (W a b : Nat) : Prop := a = b + W ∨ b = a + W ∨ (a = b + 1 ∧ a % W ≠ 0) ∨ (b = a + 1 ∧ b % W ≠ 0)
instance (W a b : Nat) : Decidable (Nb W a b) := by unfold Nb; infer_instance
theorem Nb.symm {W a b : Nat} (h : Nb W a b) : Nb W b a := by
  rcases h with h | h | h | h
  · exact .inr (.inl h)
  · exact .inl h
  · exact .inr (.inr (.inr h))
  · exact .inr (.inr (.inl h))
def nbs (W L n : Nat) : List Nat := (if n < W then [] else [n - W]) ++ (if n % W = 0 then [] else [n - 1]) ++ (if n % W = W - 1 then [] else [n + 1]) ++ (if L ≤ n + W then [] else [n + W])
theorem mod_succ {W n : Nat} (hW : 2 ≤ W) : (n + 1) % W = if n % W = W - 1 then 0 else n % W + 1 := by
  have h1 := Nat.div_add_mod n W
  have h2 := Nat.mod_lt n (show 0 < W by omega)
  generalize n % W = r at *
  generalize n / W = q at *
  subst h1
  split
  · rename_i h
    subst h
    rw [show W * q + (W - 1) + 1 = W * (q + 1) by rw [Nat.mul_succ]; omega, Nat.mul_mod_right]
  · rw [Nat.add_assoc, Nat.mul_add_mod, Nat.mod_eq_of_lt (by omega)]
theorem nbs_iff {W L H n k : Nat} (hW : 2 ≤ W) (hL : L = W * H) (hn : n < L) : k ∈ nbs W L n ↔ k < L ∧ Nb W n k := by
  have hm := mod_succ (n := n) hW
  have hr := Nat.mod_lt n (show 0 < W by omega)
  have hend : n % W ≠ W - 1 → n + 1 < L := by
    intro h
    rw [if_neg h] at hm
    have : n + 1 ≠ L := fun e => by
      rw [e, hL, Nat.mul_mod_right] at hm
      omega
    omega
  unfold nbs Nb
  simp only [List.mem_append]
  constructor
  · rintro (((h | h) | h) | h)
    · split at h
      · simp at h
      · simp at h; subst h; exact ⟨by omega, .inl (by omega)⟩
    · split at h
      · simp at h
      · rename_i h2
        simp at h; subst h
        have : n ≠ 0 := fun e => h2 (by rw [e]; exact Nat.zero_mod W)
        exact ⟨by omega, .inr (.inr (.inl ⟨by omega, h2⟩))⟩
    · split at h
      · simp at h
      · rename_i h2
        simp at h; subst h
        exact ⟨hend h2, .inr (.inr (.inr ⟨rfl, by rw [hm, if_neg h2]; omega⟩))⟩
    · split at h
      · simp at h
      · simp at h; subst h; exact ⟨by omega, .inr (.inl rfl)⟩
  · rintro ⟨h0, h | h | h | h⟩
    · refine .inl (.inl (.inl ?_))
      rw [if_neg (by omega)]; simp; omega
    · refine .inr ?_
      rw [if_neg (by omega)]; simp; omega
    · refine .inl (.inl (.inr ?_))
      rw [if_neg h.2]; simp; omega
    · refine .inl (.inr ?_)
      have h2 := h.2
      rw [h.1, hm] at h2
      rw [if_neg (fun e => h2 (by rw [if_pos e]))]
      simp; omega
end Riv

namespace Riv
def at0 (l : List Int) (n : Nat) : Int := l.getD n (-1)
def Thr (c : List Int) (s : Int) (k : Nat) : Prop := at0 c k = 0 ∨ at0 c k = s
def Opn (c : List Int) (k : Nat) : Prop := at0 c k = 0 ∨ at0 c k = 3
instance (c : List Int) (s : Int) (k : Nat) : Decidable (Thr c s k) := by unfold Thr; infer_instance
instance (c : List Int) (k : Nat) : Decidable (Opn c k) := by unfold Opn; infer_instance
structure Fit (c : List Int) (W : Nat) (s : Int) (T : List Int) (n : Nat) : Prop where
  own : at0 c n = s → at0 T n = 0
  opn : at0 c n ≠ s → Opn c n → (at0 T n = -1 ∧ ∀ k, k < c.length → Nb W n k → Thr c s k → at0 T k = -1) ∨ ∃ k, k < c.length ∧ Nb W n k ∧ Thr c s k ∧ at0 T k ≠ -1 ∧ at0 T n = at0 T k + 1 ∧ ∀ j, j < c.length → Nb W n j → Thr c s j → at0 T j ≠ -1 → at0 T k ≤ at0 T j
  oth : at0 c n ≠ s → ¬ Opn c n → at0 T n = -1
structure Hld (c : List Int) (W : Nat) (s : Int) (T : List Int) : Prop where
  len : T.length = c.length
  fit : ∀ n, n < c.length → Fit c W s T n
theorem low_ex : ∀ T : List Int, ∃ B : Nat, ∀ n, -1 - (B : Int) ≤ at0 T n
  | [] => ⟨0, fun n => by simp [at0]⟩
  | x :: T => by
    obtain ⟨B, hB⟩ := low_ex T
    refine ⟨B + x.natAbs, fun n => ?_⟩
    cases n with
    | zero => simp [at0]; omega
    | succ n =>
      have := hB n
      simp only [at0, List.getD_cons_succ] at this ⊢
      omega
theorem at0_out {T : List Int} {n : Nat} (h : T.length ≤ n) : at0 T n = -1 := by
  unfold at0
  rw [List.getD_eq_getElem?_getD, List.getElem?_eq_none h]; rfl
theorem Hld.low {c : List Int} {W : Nat} {s : Int} {T : List Int} (h : Hld c W s T) (n : Nat) : -1 ≤ at0 T n := by
  obtain ⟨B, hB⟩ := low_ex T
  revert hB
  induction B with
  | zero => intro hB; have := hB n; omega
  | succ B ih =>
    intro hB
    refine ih fun m => ?_
    rcases Nat.lt_or_ge m c.length with hm | hm
    · have hf := h.fit m hm
      by_cases h1 : at0 c m = s
      · rw [hf.own h1]; omega
      · by_cases h2 : Opn c m
        · rcases hf.opn h1 h2 with h3 | ⟨k, _, _, _, _, h3, _⟩
          · rw [h3.1]; omega
          · have := hB k; omega
        · rw [hf.oth h1 h2]; omega
    · rw [at0_out (by rw [h.len]; exact hm)]; omega
theorem Hld.step {c : List Int} {W : Nat} {s : Int} {T : List Int} (h : Hld c W s T) {n : Nat} (hn : n < c.length) (k : Nat) : at0 T n = (k : Int) + 1 ↔ at0 c n ≠ s ∧ Opn c n ∧ (∃ j, j < c.length ∧ Nb W n j ∧ Thr c s j ∧ at0 T j = k) ∧ ∀ j, j < c.length → Nb W n j → Thr c s j → at0 T j ≠ -1 → (k : Int) ≤ at0 T j := by
  have hf := h.fit n hn
  constructor
  · intro h0
    have h1 : at0 c n ≠ s := fun e => by have := hf.own e; omega
    have h2 : Opn c n := Decidable.byContradiction fun e => by have := hf.oth h1 e; omega
    rcases hf.opn h1 h2 with h3 | ⟨j, a1, a2, a3, a4, a5, a6⟩
    · have := h3.1; omega
    · have e : at0 T j = k := by omega
      exact ⟨h1, h2, ⟨j, a1, a2, a3, e⟩, fun i b1 b2 b3 b4 => by have := a6 i b1 b2 b3 b4; omega⟩
  · rintro ⟨h1, h2, ⟨j, a1, a2, a3, a4⟩, h4⟩
    rcases hf.opn h1 h2 with h3 | ⟨i, b1, b2, b3, b4, b5, b6⟩
    · have := h3.2 j a1 a2 a3; omega
    · have e1 := b6 j a1 a2 a3 (by omega)
      have e2 := h4 i b1 b2 b3 b4
      omega
theorem Hld.zero {c : List Int} {W : Nat} {s : Int} {T : List Int} (h : Hld c W s T) {n : Nat} (hn : n < c.length) : at0 T n = 0 ↔ at0 c n = s := by
  have hf := h.fit n hn
  constructor
  · intro h0
    refine Decidable.byContradiction fun h1 => ?_
    by_cases h2 : Opn c n
    · rcases hf.opn h1 h2 with h3 | ⟨j, a1, a2, a3, a4, a5, a6⟩
      · have := h3.1; omega
      · have := h.low j; omega
    · have := hf.oth h1 h2; omega
  · exact hf.own
theorem Hld.same {c : List Int} {W : Nat} {s : Int} {T U : List Int} (h : Hld c W s T) (g : Hld c W s U) : ∀ (k : Nat) (n : Nat), n < c.length → (at0 T n = k ↔ at0 U n = k) := by
  intro k
  induction k using Nat.strongRecOn with
  | _ k ih =>
    intro n hn
    cases k with
    | zero => exact (h.zero hn).trans (g.zero hn).symm
    | succ k =>
      have half : ∀ {T U : List Int}, Hld c W s T → Hld c W s U → (∀ m, m < k + 1 → ∀ n, n < c.length → (at0 T n = (m : Int) ↔ at0 U n = (m : Int))) → at0 T n = (k : Int) + 1 → at0 U n = (k : Int) + 1 := by
        intro T U h g ih h0
        obtain ⟨h1, h2, ⟨j, a1, a2, a3, a4⟩, h4⟩ := (h.step hn k).1 h0
        refine (g.step hn k).2 ⟨h1, h2, ⟨j, a1, a2, a3, (ih k (by omega) j a1).1 a4⟩, fun i b1 b2 b3 b4 => ?_⟩
        rcases Int.lt_or_le (at0 U i) k with h5 | h5
        · exfalso
          have h6 := g.low i
          have h7 := (ih (at0 U i).toNat (by omega) i b1).2 (by omega)
          have := h4 i b1 b2 b3 (by omega)
          omega
        · exact h5
      rw [show ((k + 1 : Nat) : Int) = (k : Int) + 1 by omega]
      exact ⟨half h g ih, half g h fun m hm n hn => (ih m hm n hn).symm⟩
end Riv

