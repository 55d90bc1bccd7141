/- Part 0 of the proof that passageProved: a calendar that is changed proves no more. No condition. -/
import Derived.Test.YtoeendggmalcpaaBp8
set_option linter.unusedVariables false
set_option linter.unusedSimpArgs false
namespace Psg
theorem mem_at {n : Nat} {R : Rw} (hs : Sz n R) {r : List Int} (hr : r ∈ R) {x : Int} (hx : x ∈ r) : ∃ k, InR n k ∧ atR R k.1 k.2 = x := by
  obtain ⟨i, hi, hri⟩ := List.getElem_of_mem hr
  obtain ⟨j, hj, hxj⟩ := List.getElem_of_mem hx
  have h16 := hs.row r hr
  have hl := hs.len
  refine ⟨((i : Int), (j : Int)), ⟨by dsimp only; omega, by unfold Pp; dsimp only; omega⟩, ?_⟩
  unfold atR
  dsimp only
  rw [Int.toNat_natCast, Int.toNat_natCast, List.getD_eq_getElem?_getD (l := R), List.getElem?_eq_getElem hi, hri]
  show r.getD j 1001 = x
  rw [List.getD_eq_getElem?_getD, List.getElem?_eq_getElem hj, hxj]; rfl
end Psg

open Go.Vm
open Psg
namespace Go.Proofs.Ytoeendggmalcpaa
set_option maxRecDepth 20000
set_option maxHeartbeats 4000000
theorem sz_row {n : Nat} {X : Rw} {p : Nat} (h : Sz n X) (hp : p < n) : (X.getD p []).length = 16 := by
  have hl : p < X.length := by rw [h.len]; exact hp
  rw [List.getD_eq_getElem?_getD, List.getElem?_eq_getElem hl]
  exact h.row _ (List.getElem_mem hl)
theorem lt_row {n : Nat} {X : Rw} {p s : Nat} (h : Sz n X) (hp : p < n) (hs : s < 16) : s < (X.getD p []).length := by rw [sz_row h hp]; exact hs
theorem lt_len {n : Nat} {X : Rw} {p : Nat} (h : Sz n X) (hp : p < n) : p < X.length := by rw [h.len]; exact hp
end Go.Proofs.Ytoeendggmalcpaa

namespace Psg
theorem dayOf_congr {D E : Tb} {p : Int} (h : ∀ s : Int, Pp s → E p s = D p s) : dayOf E p = dayOf D p := by
  obtain ⟨s, hs, e⟩ := dayOf_ex D p
  obtain ⟨t, ht, f⟩ := dayOf_ex E p
  have a := dayOf_le (D := D) (p := p) ht
  have b := dayOf_le (D := E) (p := p) hs
  rw [h s hs] at b
  rw [h t ht] at f
  omega
end Psg

open Go.Vm
namespace Go.Proofs.Ytoeendggmalcpaa
set_option maxRecDepth 20000
set_option maxHeartbeats 4000000
def bytes (l : List Int) : V := .fs 1 l.length (l.flatMap encU)
theorem VOut.ownP {h : Hp} {loc : List Blk} {ds : List D} (j L : Nat) (hL : Nat.ble loc.length L = true) (hj : loc[j]? = some (.flat true ds)) : VOut h ⟨h.lift, loc⟩ (.ptr (.loc j) 0) (.ptr h.fresh 0) (h.push (.flat true ds)) := by
  refine VOut.upd [] [.flat true ds] [j] L hL (by intro p hp; cases hp) (by simp) rfl ?_ ?_ rfl
  · intro k b hk
    cases k with
    | zero => rw [List.getElem?_cons_zero, Option.some.injEq] at hk; subst hk; exact ⟨j, rfl, hj⟩
    | succ k => simp at hk
  · intro σ x hx
    have : (V.ptr h.fresh 0).ren (backR h.loc.length [j] L) = .ptr (.loc j) 0 := by simp [V.ren, backR, Hp.fresh]
    rw [this]; exact hx
theorem vc_Of (bs : List Int) (h : Hp) : VC Try.prog 14 [bytes bs] h (.ptr h.fresh 0) (h.push (deckB bs (0, 9))) := by
  refine VC.body Try.func14 rfl Try.ntmps14 Try.call14 (h.grows_push _) rfl ?_
  conv => whnf
  repeat (first | ((first | refine zs1 ?_ | refine zs2 ?_ | refine zs3 ?_ | refine zs4 ?_ | refine zs5 ?_ | refine zs6 [] ?_); conv => whnf))
  exact VOut.ownP 0 1 rfl rfl
end Go.Proofs.Ytoeendggmalcpaa

open Go.Vm
open Psg
namespace Go.Proofs.Ytoeendggmalcpaa
set_option maxRecDepth 20000
set_option maxHeartbeats 4000000
theorem mdN_ok (bs : List Int) (d : DS) {p w : Int} (hp : 2 ≤ p ∧ p ≤ 10) (hw : 0 ≤ w ∧ w ≤ 24) : ∃ n : Nat, NOk n (mdN bs d p w) ∧ 2 ≤ n ∧ (n : Int) ≤ p ∧ (mdS bs d p w).1.1 ≤ d.1 + 250 ∧ (mdN bs d p w).ws.length ≤ w := by
  have b1 := dNx_bd bs d (p - 2 + 1)
  rw [show dNx bs d (p - 2 + 1) = mdX bs d p from rfl] at b1
  have b2 := dNx_bd bs (mdX bs d p).2 (w + 1)
  rw [show dNx bs (mdX bs d p).2 (w + 1) = mdC bs d p w from rfl] at b2
  obtain ⟨n, hn⟩ : ∃ n : Nat, 2 + (mdX bs d p).1 = n := ⟨(2 + (mdX bs d p).1).toNat, by omega⟩
  have hI := mIt_ok (bs := bs) (n := n) (by omega) (u := ((mdC bs d p w).2, [])) (N := (mdC bs d p w).2.1) ⟨by dsimp only; omega, rfl, by simp⟩ (mdC bs d p w).1.toNat
  rw [← hn] at hI
  rw [show mIt bs (2 + (mdX bs d p).1) ((mdC bs d p w).2, []) (mdC bs d p w).1.toNat = mdS bs d p w from rfl] at hI
  have h1 := hI.dk
  have h2 := hI.len
  refine ⟨n, ⟨hn, by omega, ?_, fun v hv => (hI.ok v hv).1, fun v hv => (hI.ok v hv).2⟩, by omega, by omega, by omega, ?_⟩
  · show (mdS bs d p w).2.length ≤ 24; omega
  · show ((mdS bs d p w).2.length : Int) ≤ w; omega
end Go.Proofs.Ytoeendggmalcpaa

open Go.Vm
open Psg
namespace Go.Proofs.Ytoeendggmalcpaa
set_option maxRecDepth 20000
set_option maxHeartbeats 4000000
theorem cal_at {D : List Int} {n : Nat} {p s : Int} (hp : 0 ≤ p ∧ p < n) (hs : Pp s) : atR (calR D n) p s = atD D p s := by
  unfold Pp at hs
  unfold atR calR atD rowD ix
  rw [List.getD_eq_getElem?_getD (l := List.map _ _), List.getElem?_map, List.getElem?_range (by omega)]
  show (List.take 16 (List.drop (16 * p.toNat) D)).getD s.toNat 1001 = _
  rw [List.getD_eq_getElem?_getD, List.getElem?_take_of_lt (by omega), List.getElem?_drop, ← List.getD_eq_getElem?_getD]
  congr 1
  omega
theorem cal_val {D : List Int} (hl : D.length = 160) {n : Nat} (hn : n ≤ 10) (hc : ∀ p s : Int, (0 ≤ p ∧ p < n) → Pp s → 0 ≤ atD D p s ∧ atD D p s ≤ 1001) : valR (calR D n) = true := by
  rw [valR_iff]
  intro r hr d hd
  obtain ⟨k, hk, rfl⟩ := mem_at (cal_sz hl hn) hr hd
  rw [cal_at hk.1 hk.2]
  exact hc _ _ hk.1 hk.2
end Go.Proofs.Ytoeendggmalcpaa

open Go.Vm
open Psg
namespace Go.Proofs.Ytoeendggmalcpaa
set_option maxRecDepth 20000
set_option maxHeartbeats 4000000
/-! ### The calendar that is returned -/
structure ClO (n : Nat) (N : Nt) (x : Hd) : Prop where
  sz : Sz n (clV N x)
  val : valR (clV N x) = true
  hol : holds n N.ws x (clV N x) = true
  day : ∀ p : Nat, p < n → dayOf (atR (clV N x)) p = dayOf (atD (bgn N.ws x).D) p
theorem cl_ok {n : Nat} {N : Nt} {x : Hd} (hN : NOk n N) (hx : HOk n x) : ClO n N x := by
  have hL := bgn_lst hN.n1.2 hN.ws hx
  have hl := bgn_len hN hx
  have e : clV N x = calR (bgn N.ws x).D n := by unfold clV; rw [if_pos (hN.hrd hx), nok_nat hN]
  rw [show ClO n N x ↔ ClO n N x from Iff.rfl]
  have ha : ∀ p s : Int, (0 ≤ p ∧ p < n) → Pp s → atR (clV N x) p s = atD (bgn N.ws x).D p s := fun p s hp hs => by rw [e]; exact cal_at hp hs
  refine ⟨by rw [e]; exact cal_sz hl hN.n1.2, by rw [e]; exact cal_val hl hN.n1.2 hL.cap, ?_, fun p hp => ?_⟩
  · rw [holds_iff]
    exact hL.hol.congr hN.ws hx ha
  · exact dayOf_congr fun s hs => ha p s ⟨by omega, by omega⟩ hs
end Go.Proofs.Ytoeendggmalcpaa

open Go.Vm
open Psg
namespace Go.Proofs.Ytoeendggmalcpaa
set_option maxRecDepth 20000
set_option maxHeartbeats 4000000
structure CtI (a b : List Int) (p : Nat) (S : List Int) : Prop where
  lt : S.Pairwise (· < ·)
  rg : ∀ q ∈ S, 0 ≤ q ∧ q < p
  src : ∀ q ∈ a, 0 ≤ q → q < p → q ∈ S
  gls : ∀ q ∈ S, q ∉ b
  len : S.length ≤ p
theorem CtI.skip {a b : List Int} {p : Nat} {S : List Int} (h : CtI a b p S) (hp : (p : Int) ∉ a) : CtI a b (p + 1) S :=
  ⟨h.lt, fun q hq => by have := h.rg q hq; omega, fun q hq h0 h1 => by
    by_cases e : q = p
    · subst e; exact absurd hq hp
    · exact h.src q hq h0 (by omega), h.gls, by have := h.len; omega⟩
end Go.Proofs.Ytoeendggmalcpaa

open Go.Vm
open Psg
namespace Go.Proofs.Ytoeendggmalcpaa
set_option maxRecDepth 20000
set_option maxHeartbeats 8000000

structure HoldP (R : Prop) : Prop where
  out : R
theorem sufficesP {R G : Prop} (main : HoldP R → G) (rest : R) : G := main ⟨rest⟩
theorem vc_PassageProved (ns cs : List Int) (h : Hp) : VC Try.prog 11 [bytes ns, bytes cs] h (B true) h := by
  have cM := fun (i : Vm.Id) (h : Hp) hd => vc_Made ns (0, 9) 8 20 i h (by decide) (by decide) (by decide) hd
  obtain ⟨n, hN, hn2, hn8, hd1, _⟩ := mdN_ok ns (0, 9) (p := 8) (w := 20) (by decide) (by decide)
  generalize (mdS ns (0, 9) 8 20).1 = D1 at *
  generalize mdN ns (0, 9) 8 20 = N at *
  have hpn := hN.p
  have hn1 := hN.n1
  have hn10 : n ≤ 10 := hn1.2
  have hwl := hN.len
  have cH := fun (i : Vm.Id) (h : Hp) hd => vc_Herded ns D1 N i h (by dsimp only at hd1; omega) hd
  have hH := hrN_ok ns D1 (n := n) (by omega)
  rw [← hpn] at hH
  obtain ⟨hx, _⟩ := hH
  generalize (hrN ns D1 N.p).2 = D2 at *
  generalize (hrN ns D1 N.p).1 = x at *
  have h0 := hN.hrd hx
  have hxs := hx.s
  have hxp := hx.p
  have hxd := hx.d
  unfold Pp at hxs
  obtain ⟨a, ha⟩ : ∃ a : Nat, x.p = a := ⟨x.p.toNat, by omega⟩
  obtain ⟨b, hb⟩ : ∃ b : Nat, x.s = b := ⟨x.s.toNat, by omega⟩
  have c5 := fun h => vc_Earliest N x h (by omega)
  unfold eaL at c5
  rw [if_pos h0, nok_nat hN, h0] at c5
  have c6 := vc_CalendarL N x hN hx
  have hcl := cl_ok hN hx
  have hsz := hcl.sz
  have hval := hcl.val
  have hlaw := fun (Y : Rw) (p : Nat) (hs : Sz n Y) (hv : valR Y = true) (hp : p < n) => pv_law hN hx hs hv hp
  have hlast := pv_last hN hx hsz hval ha hb
  have hF : ∀ k, k < n → ((List.range n).map (dyP N x))[k]? = some (dyP N x k) := fun k hk => by rw [List.getElem?_map, List.getElem?_range hk]; rfl
  have hFl : ((List.range n).map (dyP N x)).length = n := by simp
  generalize (List.range n).map (dyP N x) = L at c5 hF hFl
  generalize clV N x = X at *
  have han : a < n := by omega
  have hb16 : b < 16 := by omega
  have cP := fun (o : Nat) (Y : Rw) (p : Int) outer loc (hz : Sz n Y) hc hr => vc_ProvesL (o := o) N x Y p outer loc (by omega) hz hn10 hc hr
  obtain ⟨xp, xd, xs⟩ := x
  dsimp only at ha hb hxd hlast
  subst ha
  subst hb
  clear hcl hxs hxp
  refine VC.bodyC 4 Try.func11 rfl Try.ntmps11 Try.call11 (h.grows_refl) rfl ?_
  conv => whnf
  repeat' (first | ((first | refine zs1 ?_ | refine zs2 ?_ | refine zs3 ?_ | refine zs4 ?_ | refine zs5 ?_); conv => whnf) | ((first | apply zi1 | apply zi2 | apply zi3 | apply zi4 | apply zi5) <;> intro _ <;> conv => whnf) | (refine VCall.intro (vc_Of _ _) ?_; conv => whnf) | (refine VCall.intro (cM _ _ rfl) ?_; conv => whnf) | (refine VCall.intro (cH _ _ rfl) ?_; conv => whnf))
  refine VCut.at' (outer := h.lift) (marks := []) 2 [(1, bytes cs), (6, .fp (encN N)), (7, .fp (encHd ⟨(a : Int), xd, (b : Int)⟩))] [] ?_ ?_
  · conv => whnf
    refine Retell.turn ⟨[], 9, [(1, encN N), (2, encHd ⟨(a : Int), xd, (b : Int)⟩)], []⟩ (TurnOk.mk' _ _ [(1, encN N), (2, encHd ⟨(a : Int), xd, (b : Int)⟩)] [] (OutOk.lift _) rfl (by decide) zb zf trivial rfl) zw zm
  clear cM cH hd1
  conv => whnf
  repeat' (first | ((first | refine zs1 ?_ | refine zs2 ?_ | refine zs3 ?_ | refine zs4 ?_ | refine zs5 ?_); conv => whnf) | ((first | apply zi1 | apply zi2 | apply zi3 | apply zi4 | apply zi5) <;> intro _ <;> conv => whnf) | (refine VCall.intro (vc_Of _ _) ?_; conv => whnf) | (refine VCall.intro (c5 _) ?_; conv => whnf))
  refine VCut.at' (outer := h.lift) (marks := []) 1 [(6, .fp (encN N)), (7, .fp (encHd ⟨(a : Int), xd, (b : Int)⟩)), (8, .ptr (.loc 0) 0), (9, ints L), (10, I 0)] [deckB cs (0, 9)] ?_ ?_
  · conv => whnf
    refine Retell.turn ⟨[0], 9, [], []⟩ (TurnOk.mk' _ _ [] [] (OutOk.lift _) rfl (by decide) zb trivial trivial rfl) zw zm
  conv => whnf
  repeat' (first | ((first | refine zs1 ?_ | refine zs2 ?_ | refine zs3 ?_ | refine zs4 ?_ | refine zs5 ?_); conv => whnf) | ((first | apply zi1 | apply zi2 | apply zi3 | apply zi4 | apply zi5) <;> intro _ <;> conv => whnf) | (refine VCall.intro (c6 _ _) ?_; conv => whnf))
  refine VCut.at' (outer := h.lift) (marks := []) 1 [(6, .fp (encN N)), (7, .fp (encHd ⟨(a : Int), xd, (b : Int)⟩)), (8, .ptr (.loc 0) 0), (9, ints L), (11, .gl (.loc 1) 1 n), (10, I 0), (12, I 0)] (deckB cs (0, 9) :: tabB (.cells true (rowsO 1 n)) X []) ?_ ?_
  · conv => whnf
    refine Retell.turn ⟨[0, 1, 2, 3, 4, 5, 6, 7, 8, 9, 10, 11], 40, [], []⟩ (TurnOk.mk' _ _ [] [] (OutOk.lift _) rfl (by decide) (BTos.flat rfl rfl rfl (BTos.tabO 1 hn10 (by intro q hq; rcases ten hq with rfl | rfl | rfl | rfl | rfl | rfl | rfl | rfl | rfl | rfl <;> rfl) (by decide) rfl (by intro q hq; rcases ten hq with rfl | rfl | rfl | rfl | rfl | rfl | rfl | rfl | rfl | rfl <;> rfl) BTos.nil)) trivial trivial rfl) zw zm
  clear c5 c6
  conv => whnf
  repeat' (first | ((first | refine zs1 ?_ | refine zs2 ?_ | refine zs3 ?_ | refine zs4 ?_ | refine zs5 ?_); conv => whnf) | ((first | apply zi1 | apply zi2 | apply zi3 | apply zi4 | apply zi5) <;> intro _ <;> first | (exfalso; omega) | contradiction | (conv => whnf)))
  refine VCut.at' (outer := h.lift) (marks := []) 1 [(6, .fp (encN N)), (7, .fp (encHd ⟨(a : Int), xd, (b : Int)⟩)), (8, .ptr (.loc 0) 0), (9, ints L), (11, .gl (.loc 1) 1 n)] (deckB cs (0, 9) :: tabB (.cells true (rowsO 1 n)) X []) ?_ ?_
  · conv => whnf
    refine Retell.turn ⟨[0, 1, 2, 3, 4, 5, 6, 7, 8, 9, 10, 11], 40, [], []⟩ (TurnOk.mk' _ _ [] [] (OutOk.lift _) rfl (by decide) (BTos.flat rfl rfl rfl (BTos.tabO 1 hn10 (by intro q hq; rcases ten hq with rfl | rfl | rfl | rfl | rfl | rfl | rfl | rfl | rfl | rfl <;> rfl) (by decide) rfl (by intro q hq; rcases ten hq with rfl | rfl | rfl | rfl | rfl | rfl | rfl | rfl | rfl | rfl <;> rfl) BTos.nil)) trivial trivial rfl) zw zm
  refine VCode.lpK (outer := h.lift) (marks := []) 2 (fun y : Nat × DS => [(6, .fp (encN N)), (7, .fp (encHd ⟨(a : Int), xd, (b : Int)⟩)), (8, .ptr (.loc 0) 0), (9, ints L), (11, .gl (.loc 1) 1 n), (59, I y.1)]) (fun y => deckB cs y.2 :: tabB (.cells true (rowsO 1 n)) X []) (fun y => y.1 ≤ 8 ∧ y.2.1 ≤ 100 * y.1) (fun y => 8 - y.1) (0, ((0 : Nat), (9 : Int))) ⟨by dsimp only; omega, by dsimp only; omega⟩ ?_ ?_
  · conv => whnf
    refine Retell.turn ⟨[0, 1, 2, 3, 4, 5, 6, 7, 8, 9, 10, 11], 40, [], []⟩ (TurnOk.mk' _ _ [] [] (OutOk.lift _) rfl (by decide) (BTos.flat rfl rfl rfl (BTos.tabO 1 hn10 (by intro q hq; rcases ten hq with rfl | rfl | rfl | rfl | rfl | rfl | rfl | rfl | rfl | rfl <;> rfl) (by decide) rfl (by intro q hq; rcases ten hq with rfl | rfl | rfl | rfl | rfl | rfl | rfl | rfl | rfl | rfl <;> rfl) BTos.nil)) trivial trivial rfl) zw zm
  rintro ⟨k, d⟩ ⟨hk, hd⟩
  dsimp only at hk hd ⊢
  rcases Nat.lt_or_ge k 8 with h3 | h3
  · have f1 := fun (h2 : Hp) hg => vc_between cs d 1 3 (.loc 0) h2 (by omega) (by decide) (by decide) hg
    have g1 := dNx_bd cs d (3 - 1 + 1)
    have cC := vc_cloneL X hsz hn10 (deckB cs d)
    generalize dNx cs d (3 - 1 + 1) = q at *
    obtain ⟨m, hm⟩ : ∃ m : Nat, 1 + q.1 = m := ⟨(1 + q.1).toNat, by omega⟩
    have hm3 : m ≤ 3 := by omega
    rw [hm] at f1
    conv => whnf
    repeat' (first | ((first | refine zs1 ?_ | refine zs2 ?_ | refine zs3 ?_ | refine zs4 ?_ | refine zs5 ?_); conv => whnf) | ((first | apply zi1 | apply zi2 | apply zi3 | apply zi4 | apply zi5) <;> intro _ <;> first | (exfalso; omega) | contradiction | (conv => whnf)))
    refine VCut.block 1 ?_
    conv => whnf
    repeat' (first | ((first | refine zs1 ?_ | refine zs2 ?_ | refine zs3 ?_ | refine zs4 ?_ | refine zs5 ?_); conv => whnf) | ((first | apply zi1 | apply zi2 | apply zi3 | apply zi4 | apply zi5) <;> intro _ <;> first | (exfalso; omega) | contradiction | (conv => whnf)) | (refine VCall.intro (cC _) ?_; conv => whnf))
    refine VCut.at' (outer := h.lift) (marks := []) 1 [(6, .fp (encN N)), (7, .fp (encHd ⟨(a : Int), xd, (b : Int)⟩)), (8, .ptr (.loc 0) 0), (9, ints L), (11, .gl (.loc 1) 1 n), (59, I k), (13, .gl (.loc 12) 1 n)] (deckB cs d :: tabB (.cells true (rowsO 1 n)) X (tabB (.cells true (rowsO 12 n)) X [])) ?_ ?_
    · conv => whnf
      refine Retell.turn ⟨[0, 1, 2, 3, 4, 5, 6, 7, 8, 9, 10, 11, 12, 13, 14, 15, 16, 17, 18, 19, 20, 21, 22], 40, [], []⟩ (TurnOk.mk' _ _ [] [] (OutOk.lift _) rfl (by decide) (BTos.flat rfl rfl rfl (BTos.tabO 1 hn10 (by intro q hq; rcases ten hq with rfl | rfl | rfl | rfl | rfl | rfl | rfl | rfl | rfl | rfl <;> rfl) (by decide) rfl (by intro q hq; rcases ten hq with rfl | rfl | rfl | rfl | rfl | rfl | rfl | rfl | rfl | rfl <;> rfl) (BTos.tabO 12 hn10 (by intro q hq; rcases ten hq with rfl | rfl | rfl | rfl | rfl | rfl | rfl | rfl | rfl | rfl <;> rfl) (by decide) rfl (by intro q hq; rcases ten hq with rfl | rfl | rfl | rfl | rfl | rfl | rfl | rfl | rfl | rfl <;> rfl) BTos.nil))) trivial trivial rfl) zw zm
    conv => whnf
    repeat' (first | ((first | refine zs1 ?_ | refine zs2 ?_ | refine zs3 ?_ | refine zs4 ?_ | refine zs5 ?_); conv => whnf) | ((first | apply zi1 | apply zi2 | apply zi3 | apply zi4 | apply zi5) <;> intro _ <;> first | (exfalso; omega) | contradiction | (conv => whnf)) | (refine VCall.intro (f1 _ rfl) ?_; conv => whnf))
    refine VCode.lpK (outer := h.lift) (marks := []) 2 (fun y : Nat × DS × Rw => [(6, .fp (encN N)), (7, .fp (encHd ⟨(a : Int), xd, (b : Int)⟩)), (8, .ptr (.loc 0) 0), (9, ints L), (11, .gl (.loc 1) 1 n), (59, I k), (13, .gl (.loc 12) 1 n), (64, I m), (65, I y.1)]) (fun y => deckB cs y.2.1 :: tabB (.cells true (rowsO 1 n)) X (tabB (.cells true (rowsO 12 n)) y.2.2 [])) (fun y => y.1 ≤ m ∧ y.2.1.1 ≤ 100 * k + 1 + 3 * y.1 ∧ Sz n y.2.2 ∧ valR y.2.2 = true) (fun y => m - y.1) (0, q.2, X) ⟨Nat.zero_le _, by dsimp only; omega, hsz, hval⟩ ?_ ?_
    · conv => whnf
      refine Retell.turn ⟨[0, 1, 2, 3, 4, 5, 6, 7, 8, 9, 10, 11, 12, 13, 14, 15, 16, 17, 18, 19, 20, 21, 22], 40, [], []⟩ (TurnOk.mk' _ _ [] [] (OutOk.lift _) rfl (by decide) (BTos.flat rfl rfl rfl (BTos.tabO 1 hn10 (by intro q hq; rcases ten hq with rfl | rfl | rfl | rfl | rfl | rfl | rfl | rfl | rfl | rfl <;> rfl) (by decide) rfl (by intro q hq; rcases ten hq with rfl | rfl | rfl | rfl | rfl | rfl | rfl | rfl | rfl | rfl <;> rfl) (BTos.tabO 12 hn10 (by intro q hq; rcases ten hq with rfl | rfl | rfl | rfl | rfl | rfl | rfl | rfl | rfl | rfl <;> rfl) (by decide) rfl (by intro q hq; rcases ten hq with rfl | rfl | rfl | rfl | rfl | rfl | rfl | rfl | rfl | rfl <;> rfl) BTos.nil))) trivial trivial rfl) zw zm
    clear f1 g1 cC hm
    rintro ⟨j, e, Y⟩ ⟨hj, he, hys, hyv⟩
    dsimp only at hj he hys hyv ⊢
    rcases Nat.lt_or_ge j m with h5 | h5
    · have f2 := fun (h2 : Hp) hg => vc_draw cs e N.p (.loc 0) h2 (by omega) hg
      have g2 := dNx_bd cs e N.p
      generalize dNx cs e N.p = q2 at *
      obtain ⟨p, hp⟩ : ∃ p : Nat, q2.1 = p := ⟨q2.1.toNat, by omega⟩
      have hpn2 : p < n := by omega
      rw [hp] at f2
      have f3 := fun (h2 : Hp) hg => vc_draw cs q2.2 16 (.loc 0) h2 (by omega) hg
      have g3 := dNx_bd cs q2.2 16
      generalize dNx cs q2.2 16 = q3 at *
      obtain ⟨s, hs⟩ : ∃ s : Nat, q3.1 = s := ⟨q3.1.toNat, by omega⟩
      have hs16 : s < 16 := by omega
      rw [hs] at f3
      have f4 := fun (h2 : Hp) hg => vc_draw cs q3.2 60 (.loc 0) h2 (by omega) hg
      have g4 := dNx_bd cs q3.2 60
      generalize dNx cs q3.2 60 = q4 at *
      have hrow : (Y.getD p []).length = 16 := sz_row hys hpn2
      have hYl := hys.len
      have hsp : Sz n (setR Y p s q4.1) := hys.set hpn2
      have hvp := pv_val (s := s) (v := q4.1) hys hyv hpn2 (by omega)
      obtain ⟨Y2, hY2⟩ : ∃ Y2, Y2 = setR Y p s q4.1 := ⟨_, rfl⟩
      rw [← hY2] at hsp hvp
      have hd4 : q4.2.1 ≤ 100 * k + 1 + 3 * (j + 1) := by omega
      have hv60 : 0 ≤ s ∧ s < 16 := by omega
      clear g2 g3 g4 hlaw hF hlast cP hs
      rcases eight (show p < 8 by omega) with hpe | hpe | hpe | hpe | hpe | hpe | hpe | hpe
      all_goals (
        conv => whnf
        repeat' (first | ((first | refine zs1 ?_ | refine zs2 ?_ | refine zs3 ?_ | refine zs4 ?_ | refine zs5 ?_); conv => whnf) | ((first | apply zi1 | apply zi2 | apply zi3 | apply zi4 | apply zi5) <;> intro _ <;> first | (exfalso; omega) | contradiction | (conv => whnf)))
        refine VCut.block 99 ?_
        conv => whnf
        repeat' (first | ((first | refine zs1 ?_ | refine zs2 ?_ | refine zs3 ?_ | refine zs4 ?_ | refine zs5 ?_); conv => whnf) | ((first | apply zi1 | apply zi2 | apply zi3 | apply zi4 | apply zi5) <;> intro _ <;> first | (exfalso; omega) | contradiction | (conv => whnf)) | (refine VCall.intro (f2 _ rfl) ?_; conv => whnf) | (refine VCall.intro (f3 _ rfl) ?_; conv => whnf) | (refine VCall.intro (f4 _ rfl) ?_; conv => whnf) | (refine VLd.rowO (n := n) rfl (rowL hpe hpn2) (rowE hpe) ?_; conv => whnf) | (refine VMem.setTab2' (Y2 := Y2) (d := deckB cs q4.2) (b := .cells true (rowsO 1 n)) (b2 := .cells true (rowsO 12 n)) (X := X) (Y := Y) (r := []) s rfl (lt_len hys (by omega)) (by omega) (lt_row hys (by omega) hs16) (by show (s : Int).toNat * (0 + 1) = s; omega) (by rw [hY2, hpe]; try rfl) ?_; conv => whnf))
        refine LEndO.intro (j + 1, q4.2, Y2) ⟨by dsimp only; omega, by dsimp only; omega, hsp, hvp⟩ (by dsimp only; omega) rfl ?_
        conv => whnf
        refine Retell.turn ⟨[0, 1, 2, 3, 4, 5, 6, 7, 8, 9, 10, 11, 12, 13, 14, 15, 16, 17, 18, 19, 20, 21, 22], 40, [], []⟩ (TurnOk.mk' _ _ [] [] (OutOk.lift _) rfl (by decide) (BTos.flat rfl rfl rfl (BTos.tabO 1 hn10 (by intro q hq; rcases ten hq with rfl | rfl | rfl | rfl | rfl | rfl | rfl | rfl | rfl | rfl <;> rfl) (by decide) rfl (by intro q hq; rcases ten hq with rfl | rfl | rfl | rfl | rfl | rfl | rfl | rfl | rfl | rfl <;> rfl) (BTos.tabO 12 hn10 (by intro q hq; rcases ten hq with rfl | rfl | rfl | rfl | rfl | rfl | rfl | rfl | rfl | rfl <;> rfl) (by decide) rfl (by intro q hq; rcases ten hq with rfl | rfl | rfl | rfl | rfl | rfl | rfl | rfl | rfl | rfl <;> rfl) BTos.nil))) trivial trivial rfl) zw zm)
    · obtain rfl : j = m := by omega
      conv => whnf
      repeat' (first | ((first | refine zs1 ?_ | refine zs2 ?_ | refine zs3 ?_ | refine zs4 ?_ | refine zs5 ?_); conv => whnf) | ((first | apply zi1 | apply zi2 | apply zi3 | apply zi4 | apply zi5) <;> intro _ <;> first | (exfalso; omega) | contradiction | (conv => whnf)))
      refine VCut.at' (outer := h.lift) (marks := []) 1 [(6, .fp (encN N)), (7, .fp (encHd ⟨(a : Int), xd, (b : Int)⟩)), (8, .ptr (.loc 0) 0), (9, ints L), (11, .gl (.loc 1) 1 n), (59, I k), (13, .gl (.loc 12) 1 n)] (deckB cs e :: tabB (.cells true (rowsO 1 n)) X (tabB (.cells true (rowsO 12 n)) Y [])) ?_ ?_
      · conv => whnf
        refine Retell.turn ⟨[0, 1, 2, 3, 4, 5, 6, 7, 8, 9, 10, 11, 12, 13, 14, 15, 16, 17, 18, 19, 20, 21, 22], 40, [], []⟩ (TurnOk.mk' _ _ [] [] (OutOk.lift _) rfl (by decide) (BTos.flat rfl rfl rfl (BTos.tabO 1 hn10 (by intro q hq; rcases ten hq with rfl | rfl | rfl | rfl | rfl | rfl | rfl | rfl | rfl | rfl <;> rfl) (by decide) rfl (by intro q hq; rcases ten hq with rfl | rfl | rfl | rfl | rfl | rfl | rfl | rfl | rfl | rfl <;> rfl) (BTos.tabO 12 hn10 (by intro q hq; rcases ten hq with rfl | rfl | rfl | rfl | rfl | rfl | rfl | rfl | rfl | rfl <;> rfl) (by decide) rfl (by intro q hq; rcases ten hq with rfl | rfl | rfl | rfl | rfl | rfl | rfl | rfl | rfl | rfl <;> rfl) BTos.nil))) trivial trivial rfl) zw zm
      have f2 := fun (h2 : Hp) hg => vc_draw cs e N.p (.loc 0) h2 (by omega) hg
      have g2 := dNx_bd cs e N.p
      generalize dNx cs e N.p = q2 at *
      obtain ⟨p, hp⟩ : ∃ p : Nat, q2.1 = p := ⟨q2.1.toNat, by omega⟩
      have hpn2 : p < n := by omega
      rw [hp] at f2
      conv => whnf
      repeat' (first | ((first | refine zs1 ?_ | refine zs2 ?_ | refine zs3 ?_ | refine zs4 ?_ | refine zs5 ?_); conv => whnf) | ((first | apply zi1 | apply zi2 | apply zi3 | apply zi4 | apply zi5) <;> intro _ <;> first | (exfalso; omega) | contradiction | (conv => whnf)) | (refine VCall.intro (f2 _ rfl) ?_; conv => whnf))
      refine VCut.at' (outer := h.lift) (marks := []) 1 [(6, .fp (encN N)), (7, .fp (encHd ⟨(a : Int), xd, (b : Int)⟩)), (8, .ptr (.loc 0) 0), (9, ints L), (11, .gl (.loc 1) 1 n), (59, I k), (13, .gl (.loc 12) 1 n), (15, I p)] (deckB cs q2.2 :: tabB (.cells true (rowsO 1 n)) X (tabB (.cells true (rowsO 12 n)) Y [])) ?_ ?_
      · conv => whnf
        refine Retell.turn ⟨[0, 1, 2, 3, 4, 5, 6, 7, 8, 9, 10, 11, 12, 13, 14, 15, 16, 17, 18, 19, 20, 21, 22], 40, [], []⟩ (TurnOk.mk' _ _ [] [] (OutOk.lift _) rfl (by decide) (BTos.flat rfl rfl rfl (BTos.tabO 1 hn10 (by intro q hq; rcases ten hq with rfl | rfl | rfl | rfl | rfl | rfl | rfl | rfl | rfl | rfl <;> rfl) (by decide) rfl (by intro q hq; rcases ten hq with rfl | rfl | rfl | rfl | rfl | rfl | rfl | rfl | rfl | rfl <;> rfl) (BTos.tabO 12 hn10 (by intro q hq; rcases ten hq with rfl | rfl | rfl | rfl | rfl | rfl | rfl | rfl | rfl | rfl <;> rfl) (by decide) rfl (by intro q hq; rcases ten hq with rfl | rfl | rfl | rfl | rfl | rfl | rfl | rfl | rfl | rfl <;> rfl) BTos.nil))) trivial trivial rfl) zw zm
      have cQ := cP 12 Y (p : Int) h.lift (deckB cs q2.2 :: tabB (.cells true (rowsO 1 n)) X (tabB (.cells true (rowsO 12 n)) Y [])) hys rfl (fun q hq => tab2_get _ _ _ X Y [] (by omega))
      obtain ⟨l1, l2⟩ := hlaw Y p hys hyv hpn2
      have hLp := hF p hpn2
      generalize prE N _ Y (p : Int) = E at *
      generalize prV N _ Y (p : Int) = V at *
      generalize dyP N _ p = dy at *
      conv => whnf
      repeat' (first | ((first | refine zs1 ?_ | refine zs2 ?_ | refine zs3 ?_ | refine zs4 ?_ | refine zs5 ?_); conv => whnf) | ((first | apply zi1 | apply zi2 | apply zi3 | apply zi4 | apply zi5) <;> intro _ <;> first | (exfalso; omega) | contradiction | (conv => whnf)) | (refine VCall.intro (cQ) ?_; conv => whnf))
      refine VCut.at' (outer := h.lift) (marks := []) 99 [(6, .fp (encN N)), (7, .fp (encHd ⟨(a : Int), xd, (b : Int)⟩)), (8, .ptr (.loc 0) 0), (9, ints L), (11, .gl (.loc 1) 1 n), (59, I k), (15, I p), (16, I V), (17, I E)] (deckB cs q2.2 :: tabB (.cells true (rowsO 1 n)) X []) ?_ ?_
      · conv => whnf
        refine Retell.turn ⟨[0, 1, 2, 3, 4, 5, 6, 7, 8, 9, 10, 11], 40, [], []⟩ (TurnOk.mk' _ _ [] [] (OutOk.lift _) rfl (by decide) (BTos.flat rfl rfl rfl (BTos.tabO 1 hn10 (by intro q hq; rcases ten hq with rfl | rfl | rfl | rfl | rfl | rfl | rfl | rfl | rfl | rfl <;> rfl) (by decide) rfl (by intro q hq; rcases ten hq with rfl | rfl | rfl | rfl | rfl | rfl | rfl | rfl | rfl | rfl <;> rfl) BTos.nil)) trivial trivial rfl) zw zm
      clear cQ cP f2 hlaw hF hlast
      conv => whnf
      repeat' (first | ((first | refine zs1 ?_ | refine zs2 ?_ | refine zs3 ?_ | refine zs4 ?_ | refine zs5 ?_); conv => whnf) | ((first | apply zi1 | apply zi2 | apply zi3 | apply zi4 | apply zi5) <;> intro _ <;> first | (exfalso; omega) | contradiction | (conv => whnf)) | (refine VAny.ix Vm.encI_len p rfl rfl hLp ?_; conv => whnf))
      all_goals first | contradiction | (exfalso; omega) | skip
      all_goals (
        refine LEndO.intro (k + 1, q2.2) ⟨by dsimp only; omega, by dsimp only; omega⟩ (by dsimp only; omega) rfl ?_
        conv => whnf
        refine Retell.turn ⟨[0, 1, 2, 3, 4, 5, 6, 7, 8, 9, 10, 11], 40, [], []⟩ (TurnOk.mk' _ _ [] [] (OutOk.lift _) rfl (by decide) (BTos.flat rfl rfl rfl (BTos.tabO 1 hn10 (by intro q hq; rcases ten hq with rfl | rfl | rfl | rfl | rfl | rfl | rfl | rfl | rfl | rfl <;> rfl) (by decide) rfl (by intro q hq; rcases ten hq with rfl | rfl | rfl | rfl | rfl | rfl | rfl | rfl | rfl | rfl <;> rfl) BTos.nil)) trivial trivial rfl) zw zm)
  · obtain rfl : k = 8 := by omega
    have hrow : (X.getD a []).length = 16 := sz_row hsz han
    have hXl := hsz.len
    have hs2 : Sz n (setR X a b (xd + 1)) := hsz.set han
    have cQ := cP 1 (setR X a b (xd + 1)) (a : Int) h.lift (deckB cs d :: tabB (.cells true (rowsO 1 n)) (setR X a b (xd + 1)) []) hs2 rfl (fun q hq => tab1_get _ _ _ [] (by omega))
    rw [hlast] at cQ
    generalize prV N _ (setR X a b (xd + 1)) (a : Int) = V at cQ
    obtain ⟨X2, hX2⟩ : ∃ X2, X2 = setR X a b (xd + 1) := ⟨_, rfl⟩
    rw [← hX2] at cQ
    clear hlast hs2 hlaw hF cP
    conv => whnf
    repeat' (first | ((first | refine zs1 ?_ | refine zs2 ?_ | refine zs3 ?_ | refine zs4 ?_ | refine zs5 ?_); conv => whnf) | ((first | apply zi1 | apply zi2 | apply zi3 | apply zi4 | apply zi5) <;> intro _ <;> first | (exfalso; omega) | contradiction | (conv => whnf)))
    refine VCut.at' (outer := h.lift) (marks := []) 1 [(6, .fp (encN N)), (7, .fp (encHd ⟨(a : Int), xd, (b : Int)⟩)), (8, .ptr (.loc 0) 0), (9, ints L), (11, .gl (.loc 1) 1 n)] (deckB cs d :: tabB (.cells true (rowsO 1 n)) X []) ?_ ?_
    · conv => whnf
      refine Retell.turn ⟨[0, 1, 2, 3, 4, 5, 6, 7, 8, 9, 10, 11], 40, [], []⟩ (TurnOk.mk' _ _ [] [] (OutOk.lift _) rfl (by decide) (BTos.flat rfl rfl rfl (BTos.tabO 1 hn10 (by intro q hq; rcases ten hq with rfl | rfl | rfl | rfl | rfl | rfl | rfl | rfl | rfl | rfl <;> rfl) (by decide) rfl (by intro q hq; rcases ten hq with rfl | rfl | rfl | rfl | rfl | rfl | rfl | rfl | rfl | rfl <;> rfl) BTos.nil)) trivial trivial rfl) zw zm
    apply sufficesP
    · intro hrest
      rcases eight (show a < 8 by omega) with hpe | hpe | hpe | hpe | hpe | hpe | hpe | hpe
      all_goals (
        conv => whnf
        repeat' (first | ((first | refine zs1 ?_ | refine zs2 ?_ | refine zs3 ?_ | refine zs4 ?_ | refine zs5 ?_); conv => whnf) | ((first | apply zi1 | apply zi2 | apply zi3 | apply zi4 | apply zi5) <;> intro _ <;> first | (exfalso; omega) | contradiction | (conv => whnf)) | (refine VLd.rowO (n := n) rfl (rowL hpe han) (rowE hpe) ?_; conv => whnf))
        refine VCut.at' (outer := h.lift) (marks := []) 1 [(6, .fp (encN N)), (7, .fp (encHd ⟨(a : Int), xd, (b : Int)⟩)), (8, .ptr (.loc 0) 0), (9, ints L), (11, .gl (.loc 1) 1 n)] (deckB cs d :: tabB (.cells true (rowsO 1 n)) X []) ?_ ?_
        · conv => whnf
          refine Retell.turn ⟨[0, 1, 2, 3, 4, 5, 6, 7, 8, 9, 10, 11], 40, [], []⟩ (TurnOk.mk' _ _ [] [] (OutOk.lift _) rfl (by decide) (BTos.flat rfl rfl rfl (BTos.tabO 1 hn10 (by intro q hq; rcases ten hq with rfl | rfl | rfl | rfl | rfl | rfl | rfl | rfl | rfl | rfl <;> rfl) (by decide) rfl (by intro q hq; rcases ten hq with rfl | rfl | rfl | rfl | rfl | rfl | rfl | rfl | rfl | rfl <;> rfl) BTos.nil)) trivial trivial rfl) zw zm
        conv => whnf
        refine zs6 [] ?_
        conv => whnf
        repeat' (first | ((first | refine zs1 ?_ | refine zs2 ?_ | refine zs3 ?_ | refine zs4 ?_ | refine zs5 ?_); conv => whnf) | ((first | apply zi1 | apply zi2 | apply zi3 | apply zi4 | apply zi5) <;> intro _ <;> first | (exfalso; omega) | contradiction | (conv => whnf)) | (refine VLd.rowO (n := n) rfl (rowL hpe han) (rowE hpe) ?_; conv => whnf) | (refine VMem.setTab1' (X2 := X2) (d := deckB cs d) (b := .cells true (rowsO 1 n)) (X := X) (r := []) b rfl (lt_len hsz (by omega)) (by omega) (lt_row hsz (by omega) hb16) (by show (b : Int).toNat * (0 + 1) = b; omega) (by rw [hX2, hpe]; try rfl) ?_; conv => whnf))
        refine VCut.at' (outer := h.lift) (marks := []) 1 [(6, .fp (encN N)), (7, .fp (encHd ⟨(a : Int), xd, (b : Int)⟩)), (8, .ptr (.loc 0) 0), (9, ints L), (11, .gl (.loc 1) 1 n)] (deckB cs d :: tabB (.cells true (rowsO 1 n)) X2 []) ?_ hrest.out
        conv => whnf
        refine Retell.turn ⟨[0, 1, 2, 3, 4, 5, 6, 7, 8, 9, 10, 11], 40, [], []⟩ (TurnOk.mk' _ _ [] [] (OutOk.lift _) rfl (by decide) (BTos.flat rfl rfl rfl (BTos.tabO 1 hn10 (by intro q hq; rcases ten hq with rfl | rfl | rfl | rfl | rfl | rfl | rfl | rfl | rfl | rfl <;> rfl) (by decide) rfl (by intro q hq; rcases ten hq with rfl | rfl | rfl | rfl | rfl | rfl | rfl | rfl | rfl | rfl <;> rfl) BTos.nil)) trivial trivial rfl) zw zm)
    conv => whnf
    repeat' (first | ((first | refine zs1 ?_ | refine zs2 ?_ | refine zs3 ?_ | refine zs4 ?_ | refine zs5 ?_); conv => whnf) | ((first | apply zi1 | apply zi2 | apply zi3 | apply zi4 | apply zi5) <;> intro _ <;> first | (exfalso; omega) | contradiction | (conv => whnf)) | (refine VCall.intro (cQ) ?_; conv => whnf))
    refine VCut.at' (outer := h.lift) (marks := []) 99 [(10, I 9)] [] ?_ ?_
    · conv => whnf
      refine Retell.turn ⟨[], 40, [], []⟩ (TurnOk.mk' _ _ [] [] (OutOk.lift _) rfl (by decide) zb trivial trivial rfl) zw zm
    conv => whnf
    repeat' (first | ((first | refine zs1 ?_ | refine zs2 ?_ | refine zs3 ?_ | refine zs4 ?_ | refine zs5 ?_); conv => whnf) | ((first | apply zi1 | apply zi2 | apply zi3 | apply zi4 | apply zi5) <;> intro _ <;> first | (exfalso; omega) | contradiction | (conv => whnf)) | (refine VCall.intro (vc_awake _) ?_; conv => whnf))
    all_goals first | contradiction | exact VOut.same rfl
end Go.Proofs.Ytoeendggmalcpaa

open Go.Vm
namespace Go.Proofs.Ytoeendggmalcpaa
open Go.ChangeShapes Go.WideShapes Go.ChangeAt Go.RowKit

theorem open11p : OpenAll Try.prog Try.f11.params.toList (fun x : List Int × List Int × Unit => [dU x.1, dU x.2.1]) := by
  rw [Try.params11]
  exact OpenAll.cons openU (OpenAll.cons openU (OpenAll.nil))
set_option maxRecDepth 100000 in
theorem contract11 (H : Type) (enc : TypeId × Value → H) (W : World) (base : Nat) (args : Array Value) (ds gs : List (DataW H)) (before : List MemPlace)
    (hval : ∀ (j : Nat) t v, Try.f11.params[j]? = some t → args[j]? = some v → Value.okWide Try.prog W .any base t v)
    (hW : DataW.Whole enc Try.prog Try.f11.params.toList Rows.passageProvedSpec.vars false W args.toList ds gs before) :
    Calls Try.prog 11 args W fun e W' => ∃ v, e = .returned v ∧ Rows.passageProvedSpec.post enc Try.prog Try.f11 false true false false W args v W' := by
  refine contract_of_vc open11p (fun g => vc_PassageProved g.1 g.2.1 Hp.bare) laidOut ?_ (tb := 4) (by kernel_rfl) Try.underlying4 rfl ?_ hval hW
  · rw [Try.params11]
    intro t ht
    simp only [List.mem_cons, List.not_mem_nil, or_false] at ht
    rcases ht with rfl | rfl
    all_goals exact ⟨by kernel_rfl, of_decide_eq_true (by kernel_rfl)⟩
  · intro H dd hl
    rw [Try.params11] at hl
    match dd, hl with
    | [d0, d1], _ => rfl
set_option maxRecDepth 100000 in
theorem lifted11 (os : Os) (started : os.Started) (H : Type) (enc : TypeId × Value → H) :
    ReturnsInHanded {} Try.checked os 11 .any (Rows.passageProvedSpec.pre6 enc Try.prog Try.f11 Rows.passageProvedRow.domain false) (Rows.passageProvedSpec.post enc Try.prog Try.f11 false true false false) := by
  refine returnsInHanded_of_change (C := Try.checked) ownKn started (by kernel_rfl) Try.func11
    (ChangeSpec.witness6 (enc := enc) (C := Try.checked) false ⟨#[], #[.slice none 0 0, .slice none 0 0], []⟩ 8 (by kernel_rfl) (by kernel_rfl) (by kernel_rfl) (by kernel_rfl)) ?_
  intro W base args ds gs before hval hW _ _
  exact contract11 H enc W base args ds gs before hval hW
theorem passageProved_said : Rows.PassageProvedSaid :=
  OpenClaim.holds_of_wide 11 Try.f11 rfl rfl rfl rfl rfl rfl rfl ⟨rfl, rfl, rfl, rfl, rfl⟩ rfl rfl rfl rfl rfl (by kernel_rfl) Try.func11 (by kernel_rfl)
    (of_decide_eq_true (by kernel_rfl)) (by unfold Func.isWrapper; first | (rw [if_pos (by decide +kernel)]; kernel_rfl) | (rw [if_neg (by decide +kernel)]; exact ⟨rfl, rfl⟩))
    (fun os started H enc _ => lifted11 os started H enc)
end Go.Proofs.Ytoeendggmalcpaa

