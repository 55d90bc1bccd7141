/- Part 4 of the proof that SightSmall: the examples, small nets, and sizes. No condition. -/
import Derived.Test.YtdlnjnfkbneibaaGreatSm3
set_option linter.unusedVariables false
set_option linter.unusedSimpArgs false
open Go.Vm
open Clip (Pn Sg Nt Bd Rt Sp Co Pl okP okD red beyond meetI meetS BdSz SpSz CoSz stepI goI cutI goI_at cutI_go)
namespace Go.Proofs.YtdlnjnfkbneibaaGreat
set_option maxRecDepth 20000
set_option maxHeartbeats 4000000

def dCo (l : List Co) : D := .sl 7 l.length (l.flatMap encCo)
def cos (l : List Co) : V := .fs 7 l.length (l.flatMap encCo)
theorem top72 : ∃ sh, eqTop Tryz.prog 67 = some sh ∧ ∀ x y : Sp, veqSh sh (vSp x) (vSp y) = some (decide (x = y)) := by
  refine ⟨Sh.cons 0 2 true (Sh.cons 0 1 false Sh.int (Sh.cons 1 1 false Sh.int Sh.nil)) (Sh.cons 2 2 true (Sh.cons 0 1 false Sh.int (Sh.cons 1 1 false Sh.int Sh.nil)) Sh.nil), by kernel_rfl, fun x y => ?_⟩
  have : (((x.X.N == y.X.N) && ((x.X.D == y.X.D) && true)) && (((x.Y.N == y.Y.N) && ((x.Y.D == y.Y.D) && true)) && true)) = decide (x = y) := by
    obtain ⟨⟨a, b⟩, ⟨c, d⟩⟩ := x; obtain ⟨⟨a', b'⟩, ⟨c', d'⟩⟩ := y; rw [Bool.eq_iff_iff, decide_eq_true_eq]; simp [and_assoc]
  rw [← this]
  rfl
theorem veq72 (a b : Sp) : vaggeq Tryz.prog .eql 67 (vSp a) (vSp b) = some (B (decide (a = b))) := by
  obtain ⟨sh, h1, h2⟩ := top72
  unfold vaggeq
  rw [h1]
  dsimp only
  rw [h2]
def idxS (s : Sp) : List Sp → Int → Int
  | [], _ => -1
  | x :: r, k => if s = x then k else idxS s r (k + 1)
theorem idxS_at {s x : Sp} {l : List Sp} {k : Nat} (h : l[k]? = some x) : idxS s (l.drop k) k = if s = x then (k : Int) else idxS s (l.drop (k + 1)) ((k + 1 : Nat) : Int) := by
  obtain ⟨hlt, rfl⟩ := List.getElem?_eq_some_iff.1 h
  rw [List.drop_eq_getElem_cons hlt, idxS]; rfl
theorem idxS_nn (s : Sp) : ∀ (l : List Sp) (k : Int), 0 ≤ k → (0 ≤ idxS s l k ↔ s ∈ l)
  | [], k, h => by simp [idxS]
  | x :: r, k, h => by
    rw [idxS, List.mem_cons]
    split
    · rename_i e; simp [e, h]
    · rename_i e; rw [idxS_nn s r (k + 1) (by omega)]; simp [e]
theorem vc_IndexS (l : List Sp) (s : Sp) (h : Hp) (hl : l.length ≤ 4000000) : VC Tryz.prog 133 [sps l, vSp s] h (I (idxS s l 0)) h := by
  obtain ⟨E, hE⟩ : ∃ E, E = idxS s l 0 := ⟨_, rfl⟩
  rw [← hE]
  refine VC.body Tryz.func133 rfl Tryz.ntmps133 Tryz.call133 (h.grows_refl) rfl ?_; conv => whnf
  repeat' (first | ((first | refine zs1 ?_ | refine zs2 ?_ | refine zs3 ?_ | refine zs4 ?_ | refine zs5 ?_ | refine zs6 [] ?_); conv => whnf) | ((first | apply zi1 | apply zi2 | apply zi3 | apply zi4 | apply zi5) <;> intro _ <;> conv => whnf))
  refine VCode.lp (fun k : Nat => [(0, sps l), (3, .ptr (.loc 0) 0), (4, I 0), (7, I l.length), (8, I k)]) (fun _ => [.flat true (encSp s)]) (fun k => k ≤ l.length ∧ E = idxS s (l.drop k) k) (fun k => l.length - k) 0 ⟨Nat.zero_le _, hE⟩ ?_ ?_
  · conv => whnf
    refine Retell.turn ⟨[0], 1, [], []⟩ (TurnOk.mk' _ _ [] [] (OutOk.lift _) rfl (by decide) zb trivial trivial rfl) zv zm
  · rintro k ⟨h1, h2⟩
    conv => whnf
    refine VIte.dec (fun h3 => ?_) (fun h3 => ?_)
    · have hk : l[k]? = some l[k] := List.getElem?_eq_getElem (by omega)
      rw [idxS_at hk] at h2
      generalize l[k] = x at hk h2
      conv => whnf
      repeat' (first | ((first | refine zs1 ?_ | refine zs2 ?_ | refine zs3 ?_ | refine zs4 ?_ | refine zs5 ?_ | refine zs6 [] ?_); conv => whnf) | ((first | apply zi1 | apply zi2 | apply zi3 | apply zi4 | apply zi5) <;> intro _ <;> conv => whnf) | (refine VAny.ix encSp_len k rfl rfl hk ?_; conv => whnf) | (refine VAgg.intro (veq72 _ _) ?_; conv => whnf))
      · rename_i hx
        rw [if_pos hx] at h2
        rw [h2]
        exact VOut.same rfl
      · rename_i hx
        rw [if_neg hx] at h2
        refine LEnd.intro (k + 1) ⟨by omega, h2⟩ (by omega) ?_
        conv => whnf
        refine Retell.turn ⟨[0], 1, [], []⟩ (TurnOk.mk' _ _ [] [] (OutOk.lift _) rfl (by decide) zb trivial trivial rfl) zv zm
    · rw [List.drop_of_length_le (by omega), idxS] at h2
      conv => whnf
      repeat' (first | ((first | refine zs1 ?_ | refine zs2 ?_ | refine zs3 ?_ | refine zs4 ?_ | refine zs5 ?_ | refine zs6 [] ?_); conv => whnf) | ((first | apply zi1 | apply zi2 | apply zi3 | apply zi4 | apply zi5) <;> intro _ <;> conv => whnf))
      rw [h2]
      exact VOut.same rfl
theorem vc_ContS (l : List Sp) (s : Sp) (h : Hp) (hl : l.length ≤ 4000000) : VC Tryz.prog 111 [sps l, vSp s] h (B (decide (s ∈ l))) h := by
  have e : decide (s ∈ l) = decide (0 ≤ idxS s l 0) := decide_eq_decide.2 (idxS_nn s l 0 (by omega)).symm
  rw [e]
  have c := fun h => vc_IndexS l s h hl
  generalize idxS s l 0 = E at c
  refine VC.body Tryz.func111 rfl Tryz.ntmps111 Tryz.call111 (h.grows_refl) rfl ?_; conv => whnf
  repeat' (first | ((first | refine zs1 ?_ | refine zs2 ?_ | refine zs3 ?_ | refine zs4 ?_ | refine zs5 ?_ | refine zs6 [] ?_); conv => whnf) | ((first | apply zi1 | apply zi2 | apply zi3 | apply zi4 | apply zi5) <;> intro _ <;> conv => whnf) | (refine VCall.intro (c _) ?_; conv => whnf))
  exact VOut.same rfl
/-! ### A map of the spots to the sides on which they are -/
def esM (b : Bd) (a : List Sp) : List (V × V) := a.map fun s => (vSp s, I (beyond b s))
theorem esM_fst (b : Bd) (a : List Sp) : (esM b a).map (·.1) = (a.map fun s => D.agg (encSp s)).map D.v := by simp only [esM, List.map_map]; rfl
theorem esM_snd (b : Bd) (a : List Sp) : (esM b a).map (·.2) = (a.map fun s => DI (beyond b s)).map D.v := by simp only [esM, List.map_map]; rfl
theorem BTos.esM {c : TCtx} {loc : List Blk} {pm : List Nat} {bs : List Blk} {j : Nat} {b : Bd} {a : List Sp} (hj : Nat.blt j c.L = true) (hl : loc[j]? = some (.map (esM b a))) (r : BTos c loc pm bs) : BTos c loc (j :: pm) (.map (esM b a) :: bs) :=
  BTos.map hj hl (by rw [esM_fst]; exact RowTo.dv c _) (by rw [esM_snd]; exact RowTo.dv c _) r
theorem foundM_none {sh : Sh} (hs : ∀ x y : Sp, veqSh sh (vSp x) (vSp y) = some (decide (x = y))) {b : Bd} {a : List Sp} {e : Sp} (h : e ∉ a) : Vm.Found sh (vSp e) (esM b a) none := by
  intro j p hp
  simp only [esM, List.getElem?_map, Option.map_eq_some_iff] at hp
  obtain ⟨x, hx, rfl⟩ := hp
  simp only [hs]
  have hne : ¬ e = x := fun e1 => h (by rw [e1]; exact List.mem_of_getElem? hx)
  rw [decide_eq_false hne]
theorem foundM_some {sh : Sh} (hs : ∀ x y : Sp, veqSh sh (vSp x) (vSp y) = some (decide (x = y))) {b : Bd} : ∀ {a : List Sp} {e : Sp}, e ∈ a → ∃ i, Vm.Found sh (vSp e) (esM b a) (some (i, I (beyond b e))) ∧ (esM b a)[i]? = some (vSp e, I (beyond b e))
  | [], e, h => by cases h
  | x :: a, e, h => by
    by_cases hx : x = e
    · subst hx
      exact ⟨0, ⟨vSp x, rfl, by rw [hs]; simp, fun j p hj => by omega⟩, rfl⟩
    · have h' : e ∈ a := by
        rcases List.mem_cons.1 h with h | h
        · exact absurd h.symm hx
        · exact h
      obtain ⟨i, ⟨k0, h1, h2, h3⟩, h4⟩ := foundM_some hs (b := b) h'
      refine ⟨i + 1, ⟨k0, by simpa [esM] using h1, h2, fun j p hj hp => ?_⟩, by simpa [esM] using h4⟩
      cases j with
      | zero =>
        simp only [esM, List.map_cons, List.getElem?_cons_zero, Option.some.injEq] at hp
        subst hp
        rw [hs, decide_eq_false (fun e1 => hx e1.symm)]
      | succ j => exact h3 j p (by omega) (by simpa [esM] using hp)
theorem look_M {b : Bd} {a : List Sp} {e : Sp} (h : e ∈ a) : Look Tryz.prog (tiOf Tryz.prog) 178 false (vSp e) (esM b a) (I (beyond b e)) := by
  obtain ⟨sh, h1, h2⟩ := top72
  obtain ⟨i, hi, _⟩ := foundM_some h2 (b := b) h
  exact ⟨_, 67, 3, _, sh, true, some (i, I (beyond b e)), rfl, rfl, h1, by rw [h2]; simp, hi, rfl⟩
def insM (a : List Sp) (e : Sp) : List Sp := if e ∈ a then a else a ++ [e]
theorem insM_mem {a : List Sp} {e x : Sp} : x ∈ insM a e ↔ x ∈ a ∨ x = e := by
  unfold insM
  split
  · rename_i h
    constructor
    · exact .inl
    · rintro (h1 | rfl)
      · exact h1
      · exact h
  · simp
theorem VMem.insM {b : Bd} {a : List Sp} {e : Sp} {h : Hp} {i : Vm.Id} {K : V → Hp → Prop} (hb : h.get i = some (.map (esM b a))) (hK : K .undef (h.set i (.map (esM b (insM a e))))) : VMem Tryz.prog (opMapUpdate 178) [.map i, vSp e, I (beyond b e)] h K := by
  obtain ⟨sh, h1, h2⟩ := top72
  by_cases hf : e ∈ a
  · have : Go.Proofs.YtdlnjnfkbneibaaGreat.insM a e = a := by unfold Go.Proofs.YtdlnjnfkbneibaaGreat.insM; rw [if_pos hf]
    rw [this] at hK
    obtain ⟨j, hj, hj2⟩ := foundM_some h2 (b := b) hf
    exact VMem.intro (does_mapSame (tiOf_ok _) (t := 178) (l := [e.X.N, e.X.D, e.Y.N, e.Y.D]) rfl rfl h1 (h2 e e) hj hj2 hb) hK
  · have : esM b (Go.Proofs.YtdlnjnfkbneibaaGreat.insM a e) = esM b a ++ [(vSp e, I (beyond b e))] := by unfold Go.Proofs.YtdlnjnfkbneibaaGreat.insM; rw [if_neg hf]; simp [esM]
    rw [this] at hK
    exact VMem.intro (does_mapNew (tiOf_ok _) (t := 178) rfl rfl h1 (h2 e e) (foundM_none h2 hf) hb) hK
end Go.Proofs.YtdlnjnfkbneibaaGreat

open Go.Vm
open Clip (Pn Sg Nt Bd Rt Sp Co Pl okP okD red beyond meetI meetS BdSz SpSz CoSz stepI goI cutI goI_at cutI_go Inv)
namespace Go.Proofs.YtdlnjnfkbneibaaGreat
set_option maxRecDepth 20000
set_option maxHeartbeats 4000000

theorem vc_whole (x y : Int) (b : Bd) (l : List Co) (ib il : Vm.Id) (h : Hp) (hx : 0 ≤ x ∧ x ≤ 1000) (hy : 0 ≤ y ∧ y ≤ 1000) (hne : ib ≠ il) (hb : h.get ib = some (.cells true [.gl il 7 l.length])) (hl : h.get il = some (.flat true (l.flatMap encCo))) (hn : l.length ≤ 4000000) :
    VC Tryz.prog 107 [I x, I y, vBd b, .ptr ib 0] h (.tuple []) ((h.sets [(il, .dead), (ib, .cells true [.gl h.fresh 7 (l.length + 1)])]).pushes [.flat true ((l ++ [Co.mk ⟨red x 1, red y 1⟩ b]).flatMap encCo)]) := by
  have hd : ∀ p ∈ [(il, Blk.dead), (ib, Blk.cells true [V.gl h.fresh 7 (l.length + 1)])], h.get p.1 ≠ none := by
    intro p hp
    simp only [List.mem_cons, List.not_mem_nil, or_false] at hp
    rcases hp with rfl | rfl
    · simp only; rw [hl]; simp
    · simp only; rw [hb]; simp
  have c1 := fun h => vc_ratio x 1 h (by decide) (by decide) (by omega)
  have c2 := fun h => vc_ratio y 1 h (by decide) (by decide) (by omega)
  generalize red x 1 = X at c1 ⊢
  generalize red y 1 = Y at c2 ⊢
  refine VC.body Tryz.func107 rfl Tryz.ntmps107 Tryz.call107 (Hp.grows_sets hd) rfl ?_; conv => whnf
  repeat' (first | ((first | refine zs1 ?_ | refine zs2 ?_ | refine zs3 ?_ | refine zs4 ?_ | refine zs5 ?_); conv => whnf) | ((first | apply zi1 | apply zi2 | apply zi3 | apply zi4 | apply zi5) <;> intro _ <;> conv => whnf))
  refine zs6 [(0, 2), (0, 4), (2, 6), (4, 6)] ?_
  conv => whnf
  refine VLd.cell rfl rfl (get_out hb _) rfl ?_
  conv => whnf
  repeat' (first | ((first | refine zs1 ?_ | refine zs2 ?_ | refine zs3 ?_ | refine zs4 ?_ | refine zs5 ?_); conv => whnf) | ((first | apply zi1 | apply zi2 | apply zi3 | apply zi4 | apply zi5) <;> intro _ <;> conv => whnf) | (refine VCall.intro (c1 _) ?_; conv => whnf) | (refine VCall.intro (c2 _) ?_; conv => whnf))
  refine VMem.app1 (Co.mk ⟨X, Y⟩ b) encCo_len rfl (get_out hl _) rfl rfl rfl (by omega) ?_
  conv => whnf
  refine VMem.st1 rfl rfl rfl (b := .cells true [.gl (.out il) 7 l.length]) (by show (if ib = il then some Blk.dead else h.lift ib) = _; rw [if_neg hne]; exact get_out hb []) rfl ?_
  conv => whnf
  refine VOut.upd [(il, .dead), (ib, .cells true [.gl h.fresh 7 (l.length + 1)])] [.flat true ((l ++ [Co.mk ⟨X, Y⟩ b]).flatMap encCo)] [2] 3 ?_ hd ?_ ?_ ?_ ?_ ?_
  · rfl
  · decide
  · rfl
  · intro k b hk
    cases k with
    | zero => rw [List.getElem?_cons_zero, Option.some.injEq] at hk; subst hk; exact ⟨2, rfl, rfl⟩
    | succ k => simp at hk
  · intro σ x hx; exact hx
  · have : (Blk.cells true [V.gl h.fresh 7 (l.length + 1)]).ren (backR h.loc.length [2] 3) = .cells true [.gl (.loc 2) 7 (l.length + 1)] := by simp [Blk.ren, V.ren, backR, Hp.fresh]
    simp only [List.map_cons, List.map_nil, this]
    rfl
end Go.Proofs.YtdlnjnfkbneibaaGreat

open Go.Vm
open Clip (Pn Sg Nt Bd Rt Sp Co Pl okP okD red beyond meetI meetS BdSz SpSz CoSz stepI goI cutI goI_at cutI_go Inv stepI_len Cross)
namespace Go.Proofs.YtdlnjnfkbneibaaGreat
set_option maxRecDepth 20000
set_option maxHeartbeats 4000000

def gE (b : Bd) (l : List Co) (k : Nat) : List Co := match l with
  | [] => []
  | f :: m => goI b f ((f :: m).drop k)
theorem gE_0 (b : Bd) (l : List Co) : cutI b l = gE b l 0 := by cases l <;> rfl
theorem gE_at {b : Bd} {l : List Co} {k : Nat} {c d : Co} (hc : l[k]? = some c) (hd : l[(k + 1) % l.length]? = some d) : gE b l k = stepI b c d ++ gE b l (k + 1) := by
  cases l with
  | nil => simp at hc
  | cons f m => exact goI_at (f := f) rfl hc hd
theorem gE_end (b : Bd) (l : List Co) : gE b l l.length = [] := by
  cases l with
  | nil => rfl
  | cons f m => show goI b f ((f :: m).drop (f :: m).length) = []; rw [List.drop_length, goI]
theorem VOut.setD {h : Hp} {loc : List Blk} {i : Vm.Id} {b0 : Blk} {l : List D} {rw : Bool} {r : V} {L : Nat} (hL : Nat.ble loc.length L = true) (hb : h.get i = some b0) (hr : ∀ ρ, r.ren ρ = r) : VOut h ⟨outW h.lift i (.flat rw l), loc⟩ r r (h.set i (.flat rw l)) := by
  have hd : ∀ p ∈ [(i, Blk.flat rw l)], h.get p.1 ≠ none := by
    intro p hp
    simp only [List.mem_cons, List.not_mem_nil, or_false] at hp
    subst hp; simp only; rw [hb]; simp
  have := VOut.upd (loc := loc) (r1 := r) (r := r) [(i, .flat rw l)] [] [] L hL hd (by simp) rfl (by intro k b hk; simp at hk) (fun σ x hx => by rw [hr]; exact hx) (outer := outW h.lift i (.flat rw l)) rfl
  have he : (h.sets [(i, Blk.flat rw l)]).pushes [] = h.set i (.flat rw l) := by simp [Hp.sets, Hp.pushes]
  rw [he] at this
  exact this
theorem vc_cut (b : Bd) (l : List Co) (i : Vm.Id) (h : Hp) (hi : h.get i = some (.flat true [dCo l])) (hI : Inv l) (hb : BdSz b) (hn : l.length ≤ 1000000) :
    VC Tryz.prog 108 [vBd b, .ptr i 0] h (.tuple []) (h.set i (.flat true [dCo (cutI b l)])) := by
  obtain ⟨E, hE⟩ : ∃ E, E = cutI b l := ⟨_, rfl⟩
  rw [← hE]
  rw [gE_0] at hE
  refine VC.bodyC 5 Tryz.func108 rfl Tryz.ntmps108 Tryz.call108 (h.grows_set _ _) rfl ?_; conv => whnf
  repeat' (first | ((first | refine zs1 ?_ | refine zs2 ?_ | refine zs3 ?_ | refine zs4 ?_ | refine zs5 ?_); conv => whnf) | ((first | apply zi1 | apply zi2 | apply zi3 | apply zi4 | apply zi5) <;> intro _ <;> conv => whnf) | (refine VLd.flat rfl rfl (get_out hi _) rfl ?_; conv => whnf))
  refine VCode.lp (fun y : Nat × List Sp => [(1, .ptr (.out i) 0), (2, .ptr (.loc 0) 0), (3, .map (.loc 1)), (13, cos l), (14, I l.length), (15, I y.1)]) (fun y => [.flat true (encBd b), .map (esM b y.2)]) (fun y => y.1 ≤ l.length ∧ ∀ c ∈ l.take y.1, c.s ∈ y.2) (fun y => l.length - y.1) (0, []) ⟨Nat.zero_le _, by simp⟩ ?_ ?_
  · conv => whnf
    refine Retell.turn ⟨[0, 1], 2, [], []⟩ (TurnOk.mk' _ _ [] [] (OutOk.lift _) rfl (by decide) (by exact BTos.flat rfl rfl rfl (BTos.esM (a := []) rfl rfl BTos.nil)) trivial trivial rfl) zv zm
  · rintro ⟨k, a⟩ ⟨h1, h2⟩
    dsimp only at h1 h2
    conv => whnf
    refine VIte.dec (fun h3 => ?_) (fun h3 => ?_)
    · have hk : l[k]? = some l[k] := List.getElem?_eq_getElem (by dsimp only at h3; omega)
      have hz := hI.sz l[k] (List.getElem_mem (by dsimp only at h3; omega))
      have h2' : ∀ c ∈ l.take (k + 1), c.s ∈ insM a l[k].s := by
        intro c hc
        rw [List.take_add_one, hk] at hc
        rcases List.mem_append.1 hc with hc | hc
        · exact insM_mem.2 (.inl (h2 c hc))
        · simp only [Option.toList_some, List.mem_singleton] at hc
          exact insM_mem.2 (.inr (by rw [hc]))
      generalize l[k] = c at hk hz h2'
      have cB := fun h => vc_beyond b c.s h hb hz.s
      conv => whnf
      refine VAny.ix encCo_len k rfl rfl hk ?_
      conv => whnf
      repeat' (first | ((first | refine zs1 ?_ | refine zs2 ?_ | refine zs3 ?_ | refine zs4 ?_ | refine zs5 ?_); conv => whnf) | ((first | apply zi1 | apply zi2 | apply zi3 | apply zi4 | apply zi5) <;> intro _ <;> conv => whnf))
      refine zs6 [(2, 6)] ?_
      conv => whnf
      repeat' (first | ((first | refine zs1 ?_ | refine zs2 ?_ | refine zs3 ?_ | refine zs4 ?_ | refine zs5 ?_); conv => whnf) | ((first | apply zi1 | apply zi2 | apply zi3 | apply zi4 | apply zi5) <;> intro _ <;> conv => whnf) | (refine VCall.intro (cB _) ?_; conv => whnf))
      refine VMem.insM (b := b) (a := a) (e := c.s) rfl ?_
      conv => whnf
      repeat' (first | ((first | refine zs1 ?_ | refine zs2 ?_ | refine zs3 ?_ | refine zs4 ?_ | refine zs5 ?_); conv => whnf) | ((first | apply zi1 | apply zi2 | apply zi3 | apply zi4 | apply zi5) <;> intro _ <;> conv => whnf))
      refine LEnd.intro (k + 1, insM a c.s) ⟨by dsimp only at h3 ⊢; omega, h2'⟩ (by dsimp only at h3 ⊢; omega) ?_
      conv => whnf
      refine Retell.turn ⟨[0, 1], 3, [], []⟩ (TurnOk.mk' _ _ [] [] (OutOk.lift _) rfl (by decide) (by exact BTos.flat rfl rfl rfl (BTos.esM (a := insM a c.s) rfl rfl BTos.nil)) trivial trivial rfl) zv zm
    · have hk0 : k = l.length := by dsimp only at h3; omega
      subst hk0
      rw [List.take_length] at h2
      conv => whnf
      repeat' (first | ((first | refine zs1 ?_ | refine zs2 ?_ | refine zs3 ?_ | refine zs4 ?_ | refine zs5 ?_); conv => whnf) | ((first | apply zi1 | apply zi2 | apply zi3 | apply zi4 | apply zi5) <;> intro _ <;> conv => whnf) | (refine VLd.flat rfl rfl (get_out hi _) rfl ?_; conv => whnf))
      refine VCode.lp (fun y : Nat × List Co => [(1, .ptr (.out i) 0), (2, .ptr (.loc 0) 0), (3, .map (.loc 1)), (6, .gl (.loc 2) 7 y.2.length), (27, cos l), (28, I l.length), (29, I y.1)]) (fun y => [.flat true (encBd b), .map (esM b a), .flat true (y.2.flatMap encCo)]) (fun y => y.1 ≤ l.length ∧ y.2.length ≤ 2 * y.1 ∧ E = y.2 ++ gE b l y.1) (fun y => l.length - y.1) (0, []) ⟨Nat.zero_le _, Nat.zero_le _, hE⟩ ?_ ?_
      · conv => whnf
        refine Retell.turn ⟨[0, 1, 2], 2, [], []⟩ (TurnOk.mk' _ _ [] [] (OutOk.lift _) rfl (by decide) (by exact BTos.flat rfl rfl rfl (BTos.esM (a := a) rfl rfl (BTos.new rfl BTos.nil))) trivial trivial rfl) zv zm
      · rintro ⟨k, w⟩ ⟨h4, h5, h6⟩
        dsimp only at h4 h5 h6
        conv => whnf
        refine VIte.dec (fun h7 => ?_) (fun h7 => ?_)
        · dsimp only at h7
          have hk : l[k]? = some l[k] := List.getElem?_eq_getElem (by omega)
          have hm : (k + 1) % l.length < l.length := Nat.mod_lt _ (by omega)
          have hd : l[(k + 1) % l.length]? = some l[(k + 1) % l.length] := List.getElem?_eq_getElem hm
          have hz := hI.sz l[k] (List.getElem_mem (by omega))
          have hme := fun hs => hI.meet (b := b) hk hd hs
          have hca := h2 l[k] (List.getElem_mem (by omega))
          have hda := h2 (l[(k + 1) % l.length]) (List.getElem_mem hm)
          rw [gE_at hk hd] at h6
          generalize l[k] = c at hk hz hme hca h6
          generalize l[(k + 1) % l.length] = d at hd hme hda h6
          have hnz : ((l.length : Int) != 0) = true := by rw [bne_iff_ne]; omega
          have hrem : (((k : Nat) : Int) + 1).tmod (l.length : Int) = (((k + 1) % l.length : Nat) : Int) := by rw [Int.ofNat_tmod]; rfl
          unfold stepI at h6
          unfold Cross at hme
          have lc := look_M (b := b) hca
          have ld := look_M (b := b) hda
          have cM := fun h hne => vc_meet c.al b h hz.al hb hne
          generalize beyond b c.s = x at lc hme h6
          generalize beyond b d.s = y at ld hme h6
          conv => whnf
          refine VAny.ix encCo_len k rfl rfl hk ?_
          conv => whnf
          repeat' (first | ((first | refine zs1 ?_ | refine zs2 ?_ | refine zs3 ?_ | refine zs4 ?_ | refine zs5 ?_); conv => whnf) | ((first | apply zi1 | apply zi2 | apply zi3 | apply zi4 | apply zi5) <;> intro _ <;> conv => whnf) | (refine VLd.flat rfl rfl (get_out hi _) rfl ?_; conv => whnf))
          refine zs6 [] ?_
          conv => whnf
          repeat' (first | ((first | refine zs1 ?_ | refine zs2 ?_ | refine zs3 ?_ | refine zs4 ?_ | refine zs5 ?_); conv => whnf) | ((first | apply zi1 | apply zi2 | apply zi3 | apply zi4 | apply zi5) <;> intro _ <;> conv => whnf) | (refine VLd.flat rfl rfl (get_out hi _) rfl ?_; conv => whnf) | (refine VAny.ix encCo_len ((k + 1) % l.length) hrem rfl hd ?_; conv => whnf))
          refine zs6 [] ?_
          conv => whnf
          repeat' (first | ((first | refine zs1 ?_ | refine zs2 ?_ | refine zs3 ?_ | refine zs4 ?_ | refine zs5 ?_); conv => whnf) | ((first | apply zi1 | apply zi2 | apply zi3 | apply zi4 | apply zi5) <;> intro _ <;> conv => whnf) | (refine VLook.intro (es := esM b a) rfl lc ?_; conv => whnf) | (refine VLook.intro (es := esM b a) rfl ld ?_; conv => whnf))
          all_goals try (exfalso; omega)
          · rename_i hx hy
            rw [if_pos ⟨hx, hy⟩] at h6
            refine VMem.app1 (l := w) (c : Co) encCo_len rfl rfl rfl rfl rfl (by omega) ?_
            conv => whnf
            repeat' (first | ((first | refine zs1 ?_ | refine zs2 ?_ | refine zs3 ?_ | refine zs4 ?_ | refine zs5 ?_); conv => whnf) | ((first | apply zi1 | apply zi2 | apply zi3 | apply zi4 | apply zi5) <;> intro _ <;> conv => whnf))
            rw [← List.append_assoc] at h6
            refine LEnd.intro (Y := Nat × List Co) (k + 1, w ++ [c]) ⟨by dsimp only; omega, by dsimp only; rw [List.length_append]; simp only [List.length_cons, List.length_nil]; omega, h6⟩ (by dsimp only; omega) ?_
            conv => whnf
            rw [List.length_append]
            refine Retell.turn ⟨[0, 1, 6], 7, [], []⟩ (TurnOk.mk' _ _ [] [] (OutOk.lift _) rfl (by decide) (by exact BTos.flat rfl rfl rfl (BTos.esM (a := a) rfl rfl (BTos.flat rfl rfl rfl BTos.nil))) trivial trivial rfl) zv zm
          · rename_i hx hy hz0
            rw [if_neg (by omega), if_pos hz0] at h6
            refine VMem.app1 (l := w) (⟨c.s, b⟩ : Co) encCo_len rfl rfl rfl rfl rfl (by omega) ?_
            conv => whnf
            repeat' (first | ((first | refine zs1 ?_ | refine zs2 ?_ | refine zs3 ?_ | refine zs4 ?_ | refine zs5 ?_); conv => whnf) | ((first | apply zi1 | apply zi2 | apply zi3 | apply zi4 | apply zi5) <;> intro _ <;> conv => whnf))
            rw [← List.append_assoc] at h6
            refine LEnd.intro (Y := Nat × List Co) (k + 1, w ++ [⟨c.s, b⟩]) ⟨by dsimp only; omega, by dsimp only; rw [List.length_append]; simp only [List.length_cons, List.length_nil]; omega, h6⟩ (by dsimp only; omega) ?_
            conv => whnf
            rw [List.length_append]
            refine Retell.turn ⟨[0, 1, 6], 7, [], []⟩ (TurnOk.mk' _ _ [] [] (OutOk.lift _) rfl (by decide) (by exact BTos.flat rfl rfl rfl (BTos.esM (a := a) rfl rfl (BTos.flat rfl rfl rfl BTos.nil))) trivial trivial rfl) zv zm
          · rename_i hx hy hz0 hz1
            rw [if_neg (by omega), if_neg hz0, if_pos hz1] at h6
            have hmm := hme (.inl ⟨hz1, by omega⟩)
            refine zs6 [(1, 5), (5, 6)] ?_
            conv => whnf
            repeat' (first | ((first | refine zs1 ?_ | refine zs2 ?_ | refine zs3 ?_ | refine zs4 ?_ | refine zs5 ?_); conv => whnf) | ((first | apply zi1 | apply zi2 | apply zi3 | apply zi4 | apply zi5) <;> intro _ <;> conv => whnf) | (refine VCall.intro (cM _ hmm) ?_; conv => whnf))
            refine VMem.appG (l := w) [c, ⟨meetS c.al b, b⟩] encCo_len rfl rfl rfl rfl rfl rfl (by simp only [List.length_cons, List.length_nil]; omega) ?_
            conv => whnf
            repeat' (first | ((first | refine zs1 ?_ | refine zs2 ?_ | refine zs3 ?_ | refine zs4 ?_ | refine zs5 ?_); conv => whnf) | ((first | apply zi1 | apply zi2 | apply zi3 | apply zi4 | apply zi5) <;> intro _ <;> conv => whnf))
            rw [← List.append_assoc] at h6
            refine LEnd.intro (Y := Nat × List Co) (k + 1, w ++ [c, ⟨meetS c.al b, b⟩]) ⟨by dsimp only; omega, by dsimp only; rw [List.length_append]; simp only [List.length_cons, List.length_nil]; omega, h6⟩ (by dsimp only; omega) ?_
            conv => whnf
            rw [List.length_append]
            refine Retell.turn ⟨[0, 1, 6], 7, [], []⟩ (TurnOk.mk' _ _ [] [] (OutOk.lift _) rfl (by decide) (by exact BTos.flat rfl rfl rfl (BTos.esM (a := a) rfl rfl (BTos.flat rfl rfl rfl BTos.nil))) trivial trivial rfl) zv zm
          · rename_i hx hz0 hz1 hy
            rw [if_neg (by omega), if_neg hz0, if_neg hz1, if_pos hy] at h6
            have hmm := hme (.inr ⟨by omega, hy⟩)
            refine zs6 [(4, 6)] ?_
            conv => whnf
            repeat' (first | ((first | refine zs1 ?_ | refine zs2 ?_ | refine zs3 ?_ | refine zs4 ?_ | refine zs5 ?_); conv => whnf) | ((first | apply zi1 | apply zi2 | apply zi3 | apply zi4 | apply zi5) <;> intro _ <;> conv => whnf) | (refine VCall.intro (cM _ hmm) ?_; conv => whnf))
            refine VMem.app1 (l := w) (⟨meetS c.al b, c.al⟩ : Co) encCo_len rfl rfl rfl rfl rfl (by omega) ?_
            conv => whnf
            repeat' (first | ((first | refine zs1 ?_ | refine zs2 ?_ | refine zs3 ?_ | refine zs4 ?_ | refine zs5 ?_); conv => whnf) | ((first | apply zi1 | apply zi2 | apply zi3 | apply zi4 | apply zi5) <;> intro _ <;> conv => whnf))
            rw [← List.append_assoc] at h6
            refine LEnd.intro (Y := Nat × List Co) (k + 1, w ++ [⟨meetS c.al b, c.al⟩]) ⟨by dsimp only; omega, by dsimp only; rw [List.length_append]; simp only [List.length_cons, List.length_nil]; omega, h6⟩ (by dsimp only; omega) ?_
            conv => whnf
            rw [List.length_append]
            refine Retell.turn ⟨[0, 1, 6], 7, [], []⟩ (TurnOk.mk' _ _ [] [] (OutOk.lift _) rfl (by decide) (by exact BTos.flat rfl rfl rfl (BTos.esM (a := a) rfl rfl (BTos.flat rfl rfl rfl BTos.nil))) trivial trivial rfl) zv zm
          · rename_i hx hz0 hz1 hy
            rw [if_neg (by omega), if_neg hz0, if_neg hz1, if_neg hy, List.nil_append] at h6
            refine LEnd.intro (Y := Nat × List Co) (k + 1, w) ⟨by dsimp only; omega, by dsimp only; omega, h6⟩ (by dsimp only; omega) ?_
            conv => whnf
            refine Retell.turn ⟨[0, 1, 2], 5, [], []⟩ (TurnOk.mk' _ _ [] [] (OutOk.lift _) rfl (by decide) (by exact BTos.flat rfl rfl rfl (BTos.esM (a := a) rfl rfl (BTos.flat rfl rfl rfl BTos.nil))) trivial trivial rfl) zv zm
        · have hk1 : k = l.length := by dsimp only at h7; omega
          subst hk1
          rw [gE_end, List.append_nil] at h6
          conv => whnf
          refine VCut.at' 9 [(1, .ptr (.out i) 0), (6, cos w)] [] ?_ ?_
          · conv => whnf
            refine Retell.turn ⟨[], 3, [(2, w.flatMap encCo)], []⟩ (TurnOk.mk' _ _ [(2, w.flatMap encCo)] [] (OutOk.lift _) rfl (by decide) zb zf trivial rfl) zv zm
          · conv => whnf
            refine VMem.st1 rfl rfl rfl (get_out hi _) rfl ?_
            conv => whnf
            rw [h6]
            exact VOut.setD (L := 0) rfl hi (fun _ => rfl)
end Go.Proofs.YtdlnjnfkbneibaaGreat

open Go.Vm
namespace Clip
/-! ### A cut leaves one corner more at most -/
def wB (c d : Bool) : Nat := (if c then 0 else 1) + (if c = d then 0 else 1)
def tB (f : Bool) : List Bool → Nat
  | [] => 0
  | [c] => wB c f
  | c :: d :: l => wB c d + tB f (d :: l)
def eB (c d : Bool) : Nat := if c = d then 0 else 1
theorem tB_bd (f : Bool) : ∀ (l : List Bool) (c : Bool), (chg (c :: l) = 0 → tB f (c :: l) ≤ (if c then 0 else l.length + 1) + eB c f) ∧ (chg (c :: l) = 1 → tB f (c :: l) ≤ l.length + 1 + eB (!c) f) ∧ (chg (c :: l) = 2 → tB f (c :: l) ≤ l.length + 2 + eB c f)
  | [], c => by
    refine ⟨fun _ => ?_, fun h => ?_, fun h => ?_⟩
    · simp only [tB, wB, eB, List.length_nil]; cases c <;> simp
    · simp [chg] at h
    · simp [chg] at h
  | d :: l, c => by
    obtain ⟨i1, i2, i3⟩ := tB_bd f l d
    by_cases hcd : c = d
    · subst hcd
      have e : chg (c :: c :: l) = chg (c :: l) := by simp [chg]
      have e2 : tB f (c :: c :: l) ≤ (if c then 0 else 1) + tB f (c :: l) := by rw [tB, wB]; simp
      rw [e]
      refine ⟨fun h => ?_, fun h => ?_, fun h => ?_⟩
      · have := i1 h; rw [List.length_cons]; cases c <;> simp at * <;> omega
      · have := i2 h; rw [List.length_cons]; cases c <;> simp at * <;> omega
      · have := i3 h; rw [List.length_cons]; cases c <;> simp at * <;> omega
    · have hd : d = !c := by cases c <;> cases d <;> simp at *
      subst hd
      have e : chg (c :: (!c) :: l) = 1 + chg ((!c) :: l) := by rw [chg, if_neg hcd]
      have e2 : tB f (c :: (!c) :: l) = (if c then 0 else 1) + 1 + tB f ((!c) :: l) := by rw [tB, wB, if_neg hcd]
      rw [e, e2]
      refine ⟨fun h => by omega, fun h => ?_, fun h => ?_⟩
      · have := i1 (by omega); rw [List.length_cons]; cases c <;> simp at * <;> omega
      · have := i2 (by omega); rw [List.length_cons]; cases c <;> simp at * <;> omega
theorem tB_self {c : Bool} {l : List Bool} (h : chg (c :: l) ≤ 2) : tB c (c :: l) ≤ l.length + 2 := by
  obtain ⟨h1, h2, h3⟩ := tB_bd c l c
  have e1 : eB c c = 0 := by simp [eB]
  have e2 : eB (!c) c = 1 := by cases c <;> rfl
  rw [e1] at h1 h3
  rw [e2] at h2
  rcases Nat.lt_or_ge (chg (c :: l)) 1 with h | h
  · have := h1 (by omega); split at this <;> omega
  · rcases Nat.lt_or_ge (chg (c :: l)) 2 with h' | h'
    · have := h2 (by omega); omega
    · have := h3 (by omega); omega
def outB (b : Bd) (c : Co) : Bool := decide (0 < beyond b c.s)
theorem stepI_w (b : Bd) (c d : Co) : (stepI b c d).length ≤ wB (outB b c) (outB b d) := by
  unfold stepI wB outB
  split
  · rename_i h; rw [decide_eq_false (by omega), decide_eq_false (by omega)]; simp
  · split
    · rename_i h1 h; rw [decide_eq_false (by omega)]; simp
    · split
      · rename_i h1 h2 h; rw [decide_eq_false (by omega), decide_eq_true (by omega)]; simp
      · split
        · rename_i h1 h2 h3 h; rw [decide_eq_true (by omega), decide_eq_false (by omega)]; simp
        · simp
theorem goI_len (b : Bd) (f : Co) : ∀ l : List Co, (goI b f l).length ≤ tB (outB b f) (l.map (outB b))
  | [] => Nat.le_refl _
  | [c] => stepI_w b c f
  | c :: d :: l => by
    rw [goI, List.length_append]
    have h1 := stepI_w b c d
    have h2 := goI_len b f (d :: l)
    show _ ≤ wB (outB b c) (outB b d) + tB (outB b f) ((d :: l).map (outB b))
    omega
theorem Inv.len {l : List Co} {b : Bd} (h : Inv l) : (cutI b l).length ≤ l.length + 1 := by
  rcases h.poly with rfl | ⟨ks, f, m, rfl, P⟩
  · simp [cutI]
  · have hu := P.uni b.af
    have e : ((f.cr :: m.map Co.cr).map Cr.p).map (pos b.af) = (f :: m).map (outB b) := by
      have : ∀ c ∈ f :: m, pos b.af c.cr.p = outB b c := by
        intro c hc
        have := (beyond_sign (b := b) (h.sz c hc).s.ok).1
        unfold pos outB
        exact decide_eq_decide.2 this.symm
      rw [show f.cr :: m.map Co.cr = (f :: m).map Co.cr from rfl, List.map_map, List.map_map]
      exact List.map_congr_left fun c hc => this c hc
    rw [e] at hu
    have h1 := goI_len b f (f :: m)
    have h2 := tB_self (c := outB b f) (l := m.map (outB b)) hu
    rw [List.length_map] at h2
    show (goI b f (f :: m)).length ≤ _
    rw [List.map_cons] at h1
    rw [List.length_cons]
    omega
def cutsL (bs : List Bd) (l : List Co) : List Co := bs.foldl (fun l b => cutI b l) l
theorem cutsI_foldl : ∀ (bs : List Bd) (l : List Co), cutsI bs l = cutsL bs l
  | [], l => rfl
  | b :: bs, l => by rw [cutsI, cutsI_foldl bs]; rfl
theorem cutsL_at {bs : List Bd} {k : Nat} {b : Bd} (h : bs[k]? = some b) (l : List Co) : cutsL (bs.take (k + 1)) l = cutI b (cutsL (bs.take k) l) := by
  rw [List.take_add_one, h]
  show List.foldl _ _ (_ ++ [b]) = _
  rw [List.foldl_append]; rfl
theorem cutsL_inv {bs : List Bd} (hb : ∀ b ∈ bs, BdSz b) : ∀ {l : List Co}, Inv l → Inv (cutsL bs l) ∧ (cutsL bs l).length ≤ l.length + bs.length := by
  induction bs with
  | nil => intro l h; exact ⟨h, Nat.le_refl _⟩
  | cons b bs ih =>
    intro l h
    have h1 := h.cut (hb b (by simp))
    have h2 := h.len (b := b)
    obtain ⟨h3, h4⟩ := ih (fun x hx => hb x (List.mem_cons_of_mem _ hx)) h1
    refine ⟨h3, ?_⟩
    have : cutsL (b :: bs) l = cutsL bs (cutI b l) := rfl
    rw [this, List.length_cons]; omega
end Clip

open Go.Vm
open Clip (Pn Sg Nt Bd Rt Sp Co Pl okP okD red beyond meetI meetS BdSz SpSz CoSz cmpR lessS leastB firstS turnS)
namespace Go.Proofs.YtdlnjnfkbneibaaGreat
set_option maxRecDepth 20000
set_option maxHeartbeats 4000000

/-! ### The coordinates of spots -/
def vE (g : FuncId) : V := .agg [.func (.func g) [] []]
theorem vc_east (h : Hp) : VC Tryz.prog 71 [] h (vE 116) h := by
  refine VC.body Tryz.func71 rfl Tryz.ntmps71 Tryz.call71 (h.grows_refl) rfl ?_; conv => whnf
  repeat' (first | ((first | refine zs1 ?_ | refine zs2 ?_ | refine zs3 ?_ | refine zs4 ?_ | refine zs5 ?_ | refine zs6 [] ?_); conv => whnf) | ((first | apply zi1 | apply zi2 | apply zi3 | apply zi4 | apply zi5) <;> intro _ <;> conv => whnf))
  exact VOut.same rfl
theorem vc_north (h : Hp) : VC Tryz.prog 75 [] h (vE 120) h := by
  refine VC.body Tryz.func75 rfl Tryz.ntmps75 Tryz.call75 (h.grows_refl) rfl ?_; conv => whnf
  repeat' (first | ((first | refine zs1 ?_ | refine zs2 ?_ | refine zs3 ?_ | refine zs4 ?_ | refine zs5 ?_ | refine zs6 [] ?_); conv => whnf) | ((first | apply zi1 | apply zi2 | apply zi3 | apply zi4 | apply zi5) <;> intro _ <;> conv => whnf))
  exact VOut.same rfl
theorem vc_east1 (s : Sp) (h : Hp) : VC Tryz.prog 116 [vSp s] h (vRt s.X) h := by
  refine VC.body Tryz.func116 rfl Tryz.ntmps116 Tryz.call116 (h.grows_refl) rfl ?_; conv => whnf
  repeat' (first | ((first | refine zs1 ?_ | refine zs2 ?_ | refine zs3 ?_ | refine zs4 ?_ | refine zs5 ?_ | refine zs6 [] ?_); conv => whnf) | ((first | apply zi1 | apply zi2 | apply zi3 | apply zi4 | apply zi5) <;> intro _ <;> conv => whnf))
  exact VOut.same rfl
theorem vc_north1 (s : Sp) (h : Hp) : VC Tryz.prog 120 [vSp s] h (vRt s.Y) h := by
  refine VC.body Tryz.func120 rfl Tryz.ntmps120 Tryz.call120 (h.grows_refl) rfl ?_; conv => whnf
  repeat' (first | ((first | refine zs1 ?_ | refine zs2 ?_ | refine zs3 ?_ | refine zs4 ?_ | refine zs5 ?_ | refine zs6 [] ?_); conv => whnf) | ((first | apply zi1 | apply zi2 | apply zi3 | apply zi4 | apply zi5) <;> intro _ <;> conv => whnf))
  exact VOut.same rfl
structure RtSz (r : Rt) : Prop where
  n : -10000000 ≤ r.N ∧ r.N ≤ 10000000
  d : 1 ≤ r.D ∧ r.D ≤ 5000
theorem _root_.Clip.SpSz.rx {s : Sp} (h : SpSz s) : RtSz s.X := ⟨h.xn, h.xd⟩
theorem _root_.Clip.SpSz.ry {s : Sp} (h : SpSz s) : RtSz s.Y := ⟨h.yn, h.yd⟩
theorem cmpR_sz {a b : Rt} (ha : RtSz a) (hb : RtSz b) : (-50000000000 ≤ a.N * b.D ∧ a.N * b.D ≤ 50000000000) ∧ (-50000000000 ≤ b.N * a.D ∧ b.N * a.D ≤ 50000000000) := by
  have h1 := Clip.mulb (x := a.N) (y := b.D) (A := 10000000) (B := 5000) ha.n (by have := hb.d; omega)
  have h2 := Clip.mulb (x := b.N) (y := a.D) (A := 10000000) (B := 5000) hb.n (by have := ha.d; omega)
  omega
theorem vc_cmp (g : FuncId) (f : Sp → Rt) (c : ∀ (s : Sp) (h : Hp), VC Tryz.prog g [vSp s] h (vRt (f s)) h) (a b : Sp) (h : Hp) (ha : RtSz (f a)) (hb : RtSz (f b)) : VC Tryz.prog 118 [vE g, vSp a, vSp b] h (I (cmpR (f a) (f b))) h := by
  have hz := cmpR_sz ha hb
  have ca := fun h => c a h
  have cb := fun h => c b h
  unfold cmpR
  generalize f a = X at *
  generalize f b = Y at *
  refine VC.body Tryz.func118 rfl Tryz.ntmps118 Tryz.call118 (h.grows_refl) rfl ?_; conv => whnf
  repeat' (first | ((first | refine zs1 ?_ | refine zs2 ?_ | refine zs3 ?_ | refine zs4 ?_ | refine zs5 ?_); conv => whnf) | ((first | apply zi1 | apply zi2 | apply zi3 | apply zi4 | apply zi5) <;> intro _ <;> conv => whnf))
  refine zs6 [(3, 6), (3, 7), (3, 12), (8, 12), (3, 13), (8, 13), (3, 17), (8, 17), (14, 17), (3, 18), (8, 18), (14, 18)] ?_
  conv => whnf
  repeat' (first | ((first | refine zs1 ?_ | refine zs2 ?_ | refine zs3 ?_ | refine zs4 ?_ | refine zs5 ?_); conv => whnf) | ((first | apply zi1 | apply zi2 | apply zi3 | apply zi4 | apply zi5) <;> intro _ <;> conv => whnf) | (refine VCall.intro (ca _) ?_; conv => whnf) | (refine VCall.intro (cb _) ?_; conv => whnf))
  exact VOut.same rfl
theorem vc_lessSp (o s : Sp) (h : Hp) (ho : SpSz o) (hs : SpSz s) : VC Tryz.prog 137 [vSp o, .fp (encSp s)] h (B (lessS o s)) h := by
  have c1 := fun h => vc_cmp 116 (fun s => s.X) vc_east1 o s h ho.rx hs.rx
  have c2 := fun h => vc_cmp 120 (fun s => s.Y) vc_north1 o s h ho.ry hs.ry
  unfold lessS
  generalize cmpR o.X s.X = x at *
  generalize cmpR o.Y s.Y = y at *
  refine VC.body Tryz.func137 rfl Tryz.ntmps137 Tryz.call137 (h.grows_refl) rfl ?_; conv => whnf
  repeat' (first | ((first | refine zs1 ?_ | refine zs2 ?_ | refine zs3 ?_ | refine zs4 ?_ | refine zs5 ?_); conv => whnf) | ((first | apply zi1 | apply zi2 | apply zi3 | apply zi4 | apply zi5) <;> intro _ <;> conv => whnf))
  refine zs6 [(0, 1), (0, 2)] ?_
  conv => whnf
  repeat' (first | ((first | refine zs1 ?_ | refine zs2 ?_ | refine zs3 ?_ | refine zs4 ?_ | refine zs5 ?_); conv => whnf) | ((first | apply zi1 | apply zi2 | apply zi3 | apply zi4 | apply zi5) <;> intro _ <;> conv => whnf) | (refine VCall.intro (vc_east _) ?_; conv => whnf) | (refine VCall.intro (c1 _) ?_; conv => whnf))
  refine zs6 [(6, 7), (6, 8)] ?_
  conv => whnf
  repeat' (first | ((first | refine zs1 ?_ | refine zs2 ?_ | refine zs3 ?_ | refine zs4 ?_ | refine zs5 ?_); conv => whnf) | ((first | apply zi1 | apply zi2 | apply zi3 | apply zi4 | apply zi5) <;> intro _ <;> conv => whnf) | (refine VCall.intro (vc_north _) ?_; conv => whnf) | (refine VCall.intro (c2 _) ?_; conv => whnf))
  all_goals (refine VOut.dec ?_; first | (simp only [decide_eq_true_eq]; omega) | (simp; omega) | (simp; done))
/-! ### The first of a list of spots for which something is so -/
theorem vc_IndexFS (l : List Sp) (q : Sp → Bool) (g : FuncId) (caps : List D) (hl : l.length ≤ 4000000) (hso : ∀ e ∈ l, ∀ h : Hp, VC Tryz.prog g ([vSp e] ++ D.vs caps) h (B (q e)) h) (h : Hp) :
    VC Tryz.prog 134 [sps l, .func (.func g) [] (D.vs caps)] h (I (fidx q l 0)) h := by
  obtain ⟨E, hE⟩ : ∃ E, E = fidx q l 0 := ⟨_, rfl⟩
  rw [← hE]
  refine VC.body Tryz.func134 rfl Tryz.ntmps134 Tryz.call134 (h.grows_refl) rfl ?_; conv => whnf
  rw [rens_dvs]
  refine VCode.lp (fun k : Nat => [(0, sps l), (1, .func (.func g) [] (D.vs caps)), (7, I l.length), (8, I k)]) (fun _ => []) (fun k => k ≤ l.length ∧ E = fidx q (l.drop k) k) (fun k => l.length - k) 0 ⟨Nat.zero_le _, hE⟩ ?_ ?_
  · conv => whnf
    refine Retell.turn ⟨[], 0, [], []⟩ (TurnOk.mk' _ _ [] [] (OutOk.lift _) rfl (by decide) zb trivial trivial rfl) zv zm
  · rintro k ⟨h1, h2⟩
    conv => whnf
    refine VIte.dec (fun h3 => ?_) (fun h3 => ?_)
    · have ha : l[k]? = some l[k] := List.getElem?_eq_getElem (by omega)
      have hm := hso l[k] (List.getElem_mem (by omega))
      generalize l[k] = a at ha hm
      rw [fidx_at ha] at h2
      conv => whnf
      repeat' (first | ((first | refine zs1 ?_ | refine zs2 ?_ | refine zs3 ?_ | refine zs4 ?_ | refine zs5 ?_ | refine zs6 [] ?_); conv => whnf) | ((first | apply zi1 | apply zi2 | apply zi3 | apply zi4 | apply zi5) <;> intro _ <;> conv => whnf) | (refine VAny.ix encSp_len k (by omega) rfl ha ?_; conv => whnf))
      refine VCall.intro (hm _) ?_
      conv => whnf
      cases hq : q a
      · rw [hq] at h2
        conv => whnf
        repeat (first | ((first | refine zs1 ?_ | refine zs2 ?_ | refine zs3 ?_ | refine zs4 ?_ | refine zs5 ?_ | refine zs6 [] ?_); conv => whnf))
        refine LEnd.intro (k + 1) ⟨by omega, h2⟩ (by omega) ?_
        conv => whnf
        refine Retell.turn ⟨[], 0, [], []⟩ (TurnOk.mk' _ _ [] [] (OutOk.lift _) rfl (by decide) zb trivial trivial rfl) zv zm
      · rw [hq] at h2
        rw [h2]
        conv => whnf
        repeat (first | ((first | refine zs1 ?_ | refine zs2 ?_ | refine zs3 ?_ | refine zs4 ?_ | refine zs5 ?_ | refine zs6 [] ?_); conv => whnf))
        exact VOut.same rfl
    · rw [List.drop_of_length_le (by omega), fidx] at h2
      rw [h2]
      conv => whnf
      repeat (first | ((first | refine zs1 ?_ | refine zs2 ?_ | refine zs3 ?_ | refine zs4 ?_ | refine zs5 ?_ | refine zs6 [] ?_); conv => whnf))
      exact VOut.same rfl
theorem vc_ContFS (l : List Sp) (q : Sp → Bool) (g : FuncId) (caps : List D) (hl : l.length ≤ 4000000) (hso : ∀ e ∈ l, ∀ h : Hp, VC Tryz.prog g ([vSp e] ++ D.vs caps) h (B (q e)) h) (h : Hp) :
    VC Tryz.prog 136 [sps l, .func (.func g) [] (D.vs caps)] h (B (l.any q)) h := by
  have e := fidx_nn (q := q) l 0 (Int.le_refl _)
  have c := fun h => vc_IndexFS l q g caps hl hso h
  generalize fidx q l 0 = E at e c
  refine VC.body Tryz.func136 rfl Tryz.ntmps136 Tryz.call136 (h.grows_refl) rfl ?_; conv => whnf
  rw [rens_dvs]
  repeat' (first | ((first | refine zs1 ?_ | refine zs2 ?_ | refine zs3 ?_ | refine zs4 ?_ | refine zs5 ?_ | refine zs6 [] ?_); conv => whnf) | ((first | apply zi1 | apply zi2 | apply zi3 | apply zi4 | apply zi5) <;> intro _ <;> conv => whnf) | (refine VCall.intro (c _) ?_; conv => whnf))
  refine VOut.same ?_
  show B (decide (0 ≤ E)) = _
  congr 1
  rw [Bool.eq_iff_iff, decide_eq_true_eq]
  exact e
theorem fidx_find {α : Type} {q : α → Bool} : ∀ (l : List α) (i : Int), l.any q = true → fidx q l i = i + (l.findIdx q : Nat)
  | [], i, h => by simp at h
  | a :: r, i, h => by
    rw [fidx, List.findIdx_cons]
    rw [List.any_cons] at h
    cases ha : q a
    · rw [ha, Bool.false_or] at h
      rw [cond_false, cond_false, fidx_find r (i + 1) h]; omega
    · rw [cond_true, cond_true]; simp
end Go.Proofs.YtdlnjnfkbneibaaGreat

open Go.Vm
open Clip (Pn Sg Nt Bd Rt Sp Co Pl okP okD red beyond meetI meetS BdSz SpSz CoSz cmpR lessS leastB firstS turnS)
namespace Go.Proofs.YtdlnjnfkbneibaaGreat
set_option maxRecDepth 20000
set_option maxHeartbeats 4000000

def dSps (l : List Sp) : D := .sl 4 l.length (l.flatMap encSp)
theorem vc_turn1 (l : List Sp) (s : Sp) (h : Hp) (hn : l.length ≤ 4000000) (hl : ∀ e ∈ l, SpSz e) (hs : SpSz s) : VC Tryz.prog 135 ([vSp s] ++ D.vs [.pt [dSps l]]) h (B (leastB l s)) h := by
  have c := fun h => vc_ContFS l (fun o => lessS o s) 137 [.pt (encSp s)] hn (fun o ho h => vc_lessSp o s h (hl o ho) hs) h
  have e : (!(l.any fun o => lessS o s)) = leastB l s := by
    unfold leastB
    rw [List.all_eq_not_any_not]
    simp only [Bool.not_not]
  rw [← e]
  generalize (l.any fun o => lessS o s) = E at c
  refine VC.body Tryz.func135 rfl Tryz.ntmps135 Tryz.call135 (h.grows_refl) rfl ?_; conv => whnf
  repeat' (first | ((first | refine zs1 ?_ | refine zs2 ?_ | refine zs3 ?_ | refine zs4 ?_ | refine zs5 ?_ | refine zs6 [] ?_); conv => whnf) | ((first | apply zi1 | apply zi2 | apply zi3 | apply zi4 | apply zi5) <;> intro _ <;> conv => whnf))
  refine VCall.intro (VC.give (args' := [sps l, .func (.func 137) [] [.fp (encSp s)]]) (loc' := [.dead]) [(0, encSp s)] [] (OutOk.lift _) zb zf (by exact FmAll.nil) rfl zv (c _)) ?_
  conv => whnf
  repeat' (first | ((first | refine zs1 ?_ | refine zs2 ?_ | refine zs3 ?_ | refine zs4 ?_ | refine zs5 ?_ | refine zs6 [] ?_); conv => whnf) | ((first | apply zi1 | apply zi2 | apply zi3 | apply zi4 | apply zi5) <;> intro _ <;> conv => whnf))
  exact VOut.same rfl
theorem VOut.own1 {h : Hp} {loc : List Blk} {esz n : Nat} {ds : List D} (j L : Nat) (hL : Nat.ble loc.length L = true) (hj : loc[j]? = some (.flat true ds)) : VOut h ⟨h.lift, loc⟩ (.gl (.loc j) esz n) (.gl h.fresh esz n) (h.push (.flat true ds)) := by
  refine VOut.upd [] [.flat true ds] [j] L hL (by intro p hp; cases hp) (by simp) rfl ?_ ?_ rfl
  · intro k b hk
    cases k with
    | zero => rw [List.getElem?_cons_zero, Option.some.injEq] at hk; subst hk; exact ⟨j, rfl, hj⟩
    | succ k => simp at hk
  · intro σ x hx
    have : (V.gl h.fresh esz n).ren (backR h.loc.length [j] L) = .gl (.loc j) esz n := by simp [V.ren, backR, Hp.fresh]
    rw [this]; exact hx
theorem vc_cloneS (l : List Sp) (h : Hp) (hn : l.length ≤ 4000000) (h0 : 0 < l.length) : VC Tryz.prog 138 [sps l] h (.gl h.fresh 4 l.length) (h.push (.flat true (l.flatMap encSp))) := by
  refine VC.body Tryz.func138 rfl Tryz.ntmps138 Tryz.call138 (h.grows_push _) rfl ?_; conv => whnf
  repeat' (first | ((first | refine zs1 ?_ | refine zs2 ?_ | refine zs3 ?_ | refine zs4 ?_ | refine zs5 ?_ | refine zs6 [] ?_); conv => whnf) | ((first | apply zi1 | apply zi2 | apply zi3 | apply zi4 | apply zi5) <;> intro _ <;> conv => whnf))
  refine VMem.appN (l := []) (l2 := l) encSp_len rfl rfl rfl rfl rfl (by simp only [List.length_nil]; omega) ?_
  rw [List.nil_append, Nat.zero_add]
  conv => whnf
  repeat' (first | ((first | refine zs1 ?_ | refine zs2 ?_ | refine zs3 ?_ | refine zs4 ?_ | refine zs5 ?_ | refine zs6 [] ?_); conv => whnf) | ((first | apply zi1 | apply zi2 | apply zi3 | apply zi4 | apply zi5) <;> intro _ <;> conv => whnf))
  exact VOut.own1 1 2 rfl rfl
end Go.Proofs.YtdlnjnfkbneibaaGreat

open Go.Vm
open Clip (Pn Sg Nt Bd Rt Sp Co Pl okP okD red beyond meetI meetS BdSz SpSz CoSz cmpR lessS leastB firstS turnS)
namespace Go.Proofs.YtdlnjnfkbneibaaGreat
set_option maxRecDepth 20000
set_option maxHeartbeats 4000000

theorem vc_turn (l : List Sp) (h : Hp) (hn : l.length ≤ 4000000) (hl : ∀ e ∈ l, SpSz e) : VC Tryz.prog 112 [sps l] h (sps (turnS l)) h := by
  by_cases h0 : l = []
  · subst h0
    refine VC.body Tryz.func112 rfl Tryz.ntmps112 Tryz.call112 (h.grows_refl) rfl ?_; conv => whnf
    repeat' (first | ((first | refine zs1 ?_ | refine zs2 ?_ | refine zs3 ?_ | refine zs4 ?_ | refine zs5 ?_); conv => whnf) | ((first | apply zi1 | apply zi2 | apply zi3 | apply zi4 | apply zi5) <;> intro _ <;> conv => whnf))
    refine VOut.data 1 [] [] rfl zf (by exact FmAll.nil) zv
  · have hp : 0 < l.length := List.length_pos_iff.2 h0
    have hf := Clip.firstS_lt h0 fun s hs => (hl s hs).ok
    have ha : l.any (leastB l) = true := by
      obtain ⟨s, h1, h2⟩ := Clip.least_ex h0 fun s hs => (hl s hs).ok
      exact List.any_eq_true.2 ⟨s, h1, h2⟩
    have cI := fun h => vc_IndexFS l (leastB l) 135 [.pt [dSps l]] hn (fun e he h => vc_turn1 l e h hn hl (hl e he)) h
    rw [fidx_find l 0 ha] at cI
    have e : (0 : Int) + ((l.findIdx (leastB l) : Nat) : Int) = (firstS l : Nat) := by unfold firstS; omega
    rw [e] at cI
    have et : turnS l = l.drop (firstS l) ++ l.take (firstS l) := rfl
    rw [et]
    have cC := fun h => vc_cloneS (l.drop (firstS l)) h (by rw [List.length_drop]; omega) (by rw [List.length_drop]; omega)
    generalize firstS l = f at *
    refine VC.bodyC 2 Tryz.func112 rfl Tryz.ntmps112 Tryz.call112 (h.grows_refl) rfl ?_; conv => whnf
    repeat' (first | ((first | refine zs1 ?_ | refine zs2 ?_ | refine zs3 ?_ | refine zs4 ?_ | refine zs5 ?_); conv => whnf) | ((first | apply zi1 | apply zi2 | apply zi3 | apply zi4 | apply zi5) <;> intro _ <;> conv => whnf))
    · exfalso; omega
    refine VCut.at' 99 [(1, .fp [dSps l])] [] ?_ ?_
    · conv => whnf
      refine Retell.turn ⟨[], 1, [(0, [dSps l])], []⟩ (TurnOk.mk' _ _ [(0, [dSps l])] [] (OutOk.lift _) rfl (by decide) zb zf trivial rfl) zv zm
    · conv => whnf
      repeat' (first | ((first | refine zs1 ?_ | refine zs2 ?_ | refine zs3 ?_ | refine zs4 ?_ | refine zs5 ?_); conv => whnf) | ((first | apply zi1 | apply zi2 | apply zi3 | apply zi4 | apply zi5) <;> intro _ <;> conv => whnf) | (refine VCall.intro (cI _) ?_; conv => whnf))
      refine zs6 [(3, 4)] ?_
      conv => whnf
      repeat' (first | ((first | refine zs1 ?_ | refine zs2 ?_ | refine zs3 ?_ | refine zs4 ?_ | refine zs5 ?_); conv => whnf) | ((first | apply zi1 | apply zi2 | apply zi3 | apply zi4 | apply zi5) <;> intro _ <;> conv => whnf))
      refine VAny.sub encSp_len rfl (by omega) ?_
      rw [show (l.drop (f : Int).toNat).take ((l.length : Int) - (f : Int)).toNat = l.drop f by rw [List.take_of_length_le (by rw [List.length_drop]; omega)]; rfl]
      conv => whnf
      repeat' (first | ((first | refine zs1 ?_ | refine zs2 ?_ | refine zs3 ?_ | refine zs4 ?_ | refine zs5 ?_); conv => whnf) | ((first | apply zi1 | apply zi2 | apply zi3 | apply zi4 | apply zi5) <;> intro _ <;> conv => whnf) | (refine VCall.intro (cC _) ?_; conv => whnf))
      refine VAny.sub encSp_len rfl (by omega) ?_
      rw [show (l.drop (0 : Int).toNat).take ((f : Int) - 0).toNat = l.take f by rw [show ((f : Int) - 0).toNat = f by omega]; rfl]
      conv => whnf
      repeat' (first | ((first | refine zs1 ?_ | refine zs2 ?_ | refine zs3 ?_ | refine zs4 ?_ | refine zs5 ?_); conv => whnf) | ((first | apply zi1 | apply zi2 | apply zi3 | apply zi4 | apply zi5) <;> intro _ <;> conv => whnf))
      refine VMem.appN (l := l.drop f) (l2 := l.take f) encSp_len rfl rfl rfl rfl rfl (by rw [List.length_drop, List.length_take]; omega) ?_
      conv => whnf
      repeat' (first | ((first | refine zs1 ?_ | refine zs2 ?_ | refine zs3 ?_ | refine zs4 ?_ | refine zs5 ?_); conv => whnf) | ((first | apply zi1 | apply zi2 | apply zi3 | apply zi4 | apply zi5) <;> intro _ <;> conv => whnf))
      rw [← List.length_append]
      generalize l.drop f ++ l.take f = S
      refine VOut.data 2 [(1, S.flatMap encSp)] [] rfl zf (by exact FmAll.nil) zv
end Go.Proofs.YtdlnjnfkbneibaaGreat

open Go.Vm
open Clip (Pn Sg Nt Bd Rt Sp Co Pl okP okD red beyond meetI meetS BdSz SpSz CoSz cmpR lessS leastB firstS turnS sqI cutsL cutsL_at cutsL_inv sqI_inv Inv ddS ddS_len regS regI)
namespace Go.Proofs.YtdlnjnfkbneibaaGreat
set_option maxRecDepth 20000
set_option maxHeartbeats 4000000

theorem vc_wholeE (x y : Int) (b : Bd) (l l' : List Co) (ib il : Vm.Id) (h : Hp) (hx : 0 ≤ x ∧ x ≤ 1000) (hy : 0 ≤ y ∧ y ≤ 1000) (hne : ib ≠ il) (hb : h.get ib = some (.cells true [.gl il 7 l.length])) (hl : h.get il = some (.flat true (l.flatMap encCo))) (hn : l.length ≤ 4000000) (e : l' = l ++ [Co.mk ⟨red x 1, red y 1⟩ b]) :
    VC Tryz.prog 107 [I x, I y, vBd b, .ptr ib 0] h (.tuple []) ((h.sets [(il, .dead), (ib, .cells true [.gl h.fresh 7 l'.length])]).pushes [.flat true (l'.flatMap encCo)]) := by
  have := vc_whole x y b l ib il h hx hy hne hb hl hn
  rw [← e] at this
  have e2 : l'.length = l.length + 1 := by rw [e, List.length_append]; rfl
  rw [e2]
  exact this
theorem sq1 : sqI.take 1 = [] ++ [Co.mk ⟨red 0 1, red 0 1⟩ ⟨0, -1, 0⟩] := by kernel_rfl
theorem sq2 : sqI.take 2 = sqI.take 1 ++ [Co.mk ⟨red 1000 1, red 0 1⟩ ⟨1, 0, 1000⟩] := by kernel_rfl
theorem sq3 : sqI.take 3 = sqI.take 2 ++ [Co.mk ⟨red 1000 1, red 1000 1⟩ ⟨0, 1, 1000⟩] := by kernel_rfl
theorem sq4 : sqI.take 4 = sqI.take 3 ++ [Co.mk ⟨red 0 1, red 1000 1⟩ ⟨-1, 0, 0⟩] := by kernel_rfl
theorem ddS_at {out : List Sp} {l : List Co} {k : Nat} {c : Co} (h : l[k]? = some c) : ddS out ((l.drop k).map Co.s) = ddS (if c.s ∈ out then out else out ++ [c.s]) ((l.drop (k + 1)).map Co.s) := by
  obtain ⟨hlt, rfl⟩ := List.getElem?_eq_some_iff.1 h
  rw [List.drop_eq_getElem_cons hlt, List.map_cons, ddS]
theorem vc_region (bs : List Bd) (h : Hp) (hn : bs.length ≤ 900000) (hb : ∀ b ∈ bs, BdSz b) : VC Tryz.prog 64 [bds bs] h (sps (regS bs)) h := by
  obtain ⟨E, hE⟩ : ∃ E, E = regS bs := ⟨_, rfl⟩
  rw [← hE]
  have hE : E = turnS (ddS [] ((cutsL bs sqI).map Co.s)) := by rw [hE]; unfold regS regI; rw [Clip.cutsI_foldl]
  refine VC.bodyC 2 Tryz.func64 rfl Tryz.ntmps64 Tryz.call64 (h.grows_refl) rfl ?_; conv => whnf
  repeat' (first | ((first | refine zs1 ?_ | refine zs2 ?_ | refine zs3 ?_ | refine zs4 ?_ | refine zs5 ?_); conv => whnf) | ((first | apply zi1 | apply zi2 | apply zi3 | apply zi4 | apply zi5) <;> intro _ <;> conv => whnf))
  refine VCut.at' 6 [(0, bds bs), (2, .nilslice), (3, .ptr (.loc 0) 0)] [.cells true [.gl (.loc 1) 7 0], .flat true []] ?_ ?_
  · conv => whnf
    refine Retell.turn ⟨[0, 1], 1, [], []⟩ (TurnOk.mk' _ _ [] [] (OutOk.lift _) rfl (by decide) zb trivial trivial rfl) zv zm
  · conv => whnf
    repeat' (first | ((first | refine zs1 ?_ | refine zs2 ?_ | refine zs3 ?_ | refine zs4 ?_ | refine zs5 ?_); conv => whnf) | ((first | apply zi1 | apply zi2 | apply zi3 | apply zi4 | apply zi5) <;> intro _ <;> conv => whnf))
    refine VCall.intro (vc_wholeE 0 0 ⟨0, -1, 0⟩ [] (sqI.take 1) (.loc 0) (.loc 1) _ (by decide) (by decide) (by decide) rfl rfl (by decide) sq1) ?_
    conv => whnf
    repeat' (first | ((first | refine zs1 ?_ | refine zs2 ?_ | refine zs3 ?_ | refine zs4 ?_ | refine zs5 ?_); conv => whnf) | ((first | apply zi1 | apply zi2 | apply zi3 | apply zi4 | apply zi5) <;> intro _ <;> conv => whnf))
    refine VCall.intro (vc_wholeE 1000 0 ⟨1, 0, 1000⟩ (sqI.take 1) (sqI.take 2) (.loc 0) (.loc 2) _ (by decide) (by decide) (by decide) rfl rfl (by decide) sq2) ?_
    conv => whnf
    repeat' (first | ((first | refine zs1 ?_ | refine zs2 ?_ | refine zs3 ?_ | refine zs4 ?_ | refine zs5 ?_); conv => whnf) | ((first | apply zi1 | apply zi2 | apply zi3 | apply zi4 | apply zi5) <;> intro _ <;> conv => whnf))
    refine VCall.intro (vc_wholeE 1000 1000 ⟨0, 1, 1000⟩ (sqI.take 2) (sqI.take 3) (.loc 0) (.loc 3) _ (by decide) (by decide) (by decide) rfl rfl (by decide) sq3) ?_
    conv => whnf
    repeat' (first | ((first | refine zs1 ?_ | refine zs2 ?_ | refine zs3 ?_ | refine zs4 ?_ | refine zs5 ?_); conv => whnf) | ((first | apply zi1 | apply zi2 | apply zi3 | apply zi4 | apply zi5) <;> intro _ <;> conv => whnf))
    refine VCall.intro (vc_wholeE 0 1000 ⟨-1, 0, 0⟩ (sqI.take 3) (sqI.take 4) (.loc 0) (.loc 4) _ (by decide) (by decide) (by decide) rfl rfl (by decide) sq4) ?_
    conv => whnf
    repeat' (first | ((first | refine zs1 ?_ | refine zs2 ?_ | refine zs3 ?_ | refine zs4 ?_ | refine zs5 ?_); conv => whnf) | ((first | apply zi1 | apply zi2 | apply zi3 | apply zi4 | apply zi5) <;> intro _ <;> conv => whnf))
    refine VCut.at' 99 [(0, bds bs), (2, .nilslice), (3, .ptr (.loc 0) 0), (5, .func (.func 108) [] [.ptr (.loc 0) 0])] [.flat true [dCo (sqI.take 4)]] ?_ ?_
    · conv => whnf
      refine Retell.turn ⟨[0], 6, [(5, (sqI.take 4).flatMap encCo)], []⟩ (TurnOk.mk' _ _ [(5, (sqI.take 4).flatMap encCo)] [] (OutOk.lift _) rfl (by decide) (by exact BTos.row (l := [.gl (.loc 5) 7 4]) (l' := [dCo (sqI.take 4)]) rfl rfl rfl (RowTo.vtos zv) BTos.nil) zf trivial rfl) zv zm
    · rw [show sqI.take 4 = sqI from rfl]
      conv => whnf
      repeat' (first | ((first | refine zs1 ?_ | refine zs2 ?_ | refine zs3 ?_ | refine zs4 ?_ | refine zs5 ?_); conv => whnf) | ((first | apply zi1 | apply zi2 | apply zi3 | apply zi4 | apply zi5) <;> intro _ <;> conv => whnf))
      have hi0 := cutsL_inv hb sqI_inv
      refine VCode.lp (fun k : Nat => [(0, bds bs), (2, .nilslice), (3, .ptr (.loc 0) 0), (5, .func (.func 108) [] [.ptr (.loc 0) 0]), (25, bds bs), (26, I bs.length), (27, I k)]) (fun k => [.flat true [dCo (cutsL (bs.take k) sqI)]]) (fun k => k ≤ bs.length) (fun k => bs.length - k) 0 (Nat.zero_le _) ?_ ?_
      · rw [show cutsL (bs.take 0) sqI = sqI from rfl]
        conv => whnf
        refine Retell.turn ⟨[0], 1, [], []⟩ (TurnOk.mk' _ _ [] [] (OutOk.lift _) rfl (by decide) zb trivial trivial rfl) zv zm
      · intro k hk
        conv => whnf
        refine VIte.dec (fun h3 => ?_) (fun h3 => ?_)
        · have hbk : bs[k]? = some bs[k] := List.getElem?_eq_getElem (by omega)
          have sb := hb bs[k] (List.getElem_mem (by omega))
          generalize bs[k] = b at hbk sb
          have hI := cutsL_inv (bs := bs.take k) (fun x hx => hb x (List.mem_of_mem_take hx)) sqI_inv
          have hl : (cutsL (bs.take k) sqI).length ≤ 1000000 := by
            have := hI.2
            rw [List.length_take] at this
            have e : sqI.length = 4 := rfl
            omega
          have hc := cutsL_at hbk sqI
          generalize cutsL (bs.take k) sqI = L at hI hl hc
          conv => whnf
          repeat' (first | ((first | refine zs1 ?_ | refine zs2 ?_ | refine zs3 ?_ | refine zs4 ?_ | refine zs5 ?_); conv => whnf) | ((first | apply zi1 | apply zi2 | apply zi3 | apply zi4 | apply zi5) <;> intro _ <;> conv => whnf) | (refine VAny.ix encBd_len k rfl rfl hbk ?_; conv => whnf))
          refine VCall.intro (vc_cut b L (.loc 0) _ rfl hI.1 sb hl) ?_
          rw [← hc]
          conv => whnf
          repeat' (first | ((first | refine zs1 ?_ | refine zs2 ?_ | refine zs3 ?_ | refine zs4 ?_ | refine zs5 ?_); conv => whnf) | ((first | apply zi1 | apply zi2 | apply zi3 | apply zi4 | apply zi5) <;> intro _ <;> conv => whnf))
          refine LEnd.intro (k + 1) (by omega) (by omega) ?_
          conv => whnf
          refine Retell.turn ⟨[0], 2, [], []⟩ (TurnOk.mk' _ _ [] [] (OutOk.lift _) rfl (by decide) zb trivial trivial rfl) zv zm
        · have hk2 : k = bs.length := by omega
          subst hk2
          rw [List.take_length]
          generalize cutsL bs sqI = L at hE hi0
          conv => whnf
          repeat' (first | ((first | refine zs1 ?_ | refine zs2 ?_ | refine zs3 ?_ | refine zs4 ?_ | refine zs5 ?_); conv => whnf) | ((first | apply zi1 | apply zi2 | apply zi3 | apply zi4 | apply zi5) <;> intro _ <;> conv => whnf))
          have hsz : ∀ c ∈ L, SpSz c.s := fun c hc => (hi0.1.sz c hc).s
          have hlen : L.length ≤ 1000000 := by
            have := hi0.2
            have e : sqI.length = 4 := rfl
            omega
          obtain ⟨O, hO⟩ : ∃ O, O = ddS [] (L.map Co.s) := ⟨_, rfl⟩
          rw [← hO] at hE
          refine VCode.lp (fun y : Nat × List Sp => [(2, .nilslice), (8, .gl (.loc 0) 4 y.2.length), (35, cos L), (36, I L.length), (37, I y.1)]) (fun y => [.flat true (y.2.flatMap encSp)]) (fun y => y.1 ≤ L.length ∧ y.2.length ≤ y.1 ∧ (∀ s ∈ y.2, SpSz s) ∧ O = ddS y.2 ((L.drop y.1).map Co.s)) (fun y => L.length - y.1) (0, []) ⟨Nat.zero_le _, Nat.zero_le _, fun _ h => (by cases h), hO⟩ ?_ ?_
          · conv => whnf
            refine Retell.turn ⟨[1], 1, [], []⟩ (TurnOk.mk' _ _ [] [] (OutOk.lift _) rfl (by decide) zb trivial trivial rfl) zv zm
          · clear hO
            rintro ⟨k, w⟩ ⟨h1, h2, h3, h4⟩
            dsimp only at h1 h2 h3 h4
            conv => whnf
            refine VIte.dec (fun h5 => ?_) (fun h5 => ?_)
            · dsimp only at h5
              have hck : L[k]? = some L[k] := List.getElem?_eq_getElem (by omega)
              have sc := hsz L[k] (List.getElem_mem (by omega))
              rw [ddS_at hck] at h4
              generalize L[k] = c at hck sc h4
              conv => whnf
              repeat' (first | ((first | refine zs1 ?_ | refine zs2 ?_ | refine zs3 ?_ | refine zs4 ?_ | refine zs5 ?_); conv => whnf) | ((first | apply zi1 | apply zi2 | apply zi3 | apply zi4 | apply zi5) <;> intro _ <;> conv => whnf) | (refine VAny.ix encCo_len k rfl rfl hck ?_; conv => whnf))
              refine VCall.intro (VC.lend1 [dSps w, .agg (encSp c.s)] [(0, w.flatMap encSp)] [] zf trivial zv (vc_ContS w c.s Hp.bare (by omega))) ?_
              by_cases hm : c.s ∈ w
              · rw [if_pos hm] at h4
                rw [decide_eq_true hm]
                conv => whnf
                repeat' (first | ((first | refine zs1 ?_ | refine zs2 ?_ | refine zs3 ?_ | refine zs4 ?_ | refine zs5 ?_); conv => whnf) | ((first | apply zi1 | apply zi2 | apply zi3 | apply zi4 | apply zi5) <;> intro _ <;> conv => whnf))
                refine LEnd.intro (Y := Nat × List Sp) (k + 1, w) ⟨by dsimp only; omega, by dsimp only; omega, h3, h4⟩ (by dsimp only; omega) ?_
                conv => whnf
                refine Retell.turn ⟨[0], 2, [], []⟩ (TurnOk.mk' _ _ [] [] (OutOk.lift _) rfl (by decide) zb trivial trivial rfl) zv zm
              · rw [if_neg hm] at h4
                rw [decide_eq_false hm]
                conv => whnf
                repeat' (first | ((first | refine zs1 ?_ | refine zs2 ?_ | refine zs3 ?_ | refine zs4 ?_ | refine zs5 ?_); conv => whnf) | ((first | apply zi1 | apply zi2 | apply zi3 | apply zi4 | apply zi5) <;> intro _ <;> conv => whnf))
                refine VMem.app1 (l := w) c.s encSp_len rfl rfl rfl rfl rfl (by omega) ?_
                conv => whnf
                repeat' (first | ((first | refine zs1 ?_ | refine zs2 ?_ | refine zs3 ?_ | refine zs4 ?_ | refine zs5 ?_); conv => whnf) | ((first | apply zi1 | apply zi2 | apply zi3 | apply zi4 | apply zi5) <;> intro _ <;> conv => whnf))
                refine LEnd.intro (Y := Nat × List Sp) (k + 1, w ++ [c.s]) ⟨by dsimp only; omega, by dsimp only; rw [List.length_append]; simp only [List.length_cons, List.length_nil]; omega, (fun p hp => by rcases List.mem_append.1 hp with hp | hp; exact h3 p hp; rw [List.mem_singleton.1 hp]; exact sc), h4⟩ (by dsimp only; omega) ?_
                conv => whnf
                rw [List.length_append]
                refine Retell.turn ⟨[3], 4, [], []⟩ (TurnOk.mk' _ _ [] [] (OutOk.lift _) rfl (by decide) zb trivial trivial rfl) zv zm
            · have hk3 : k = L.length := by dsimp only at h5; omega
              subst hk3
              rw [List.drop_length, List.map_nil, ddS] at h4
              subst h4
              have cT := fun h => vc_turn O h (by omega) h3
              rw [← hE] at cT
              conv => whnf
              repeat' (first | ((first | refine zs1 ?_ | refine zs2 ?_ | refine zs3 ?_ | refine zs4 ?_ | refine zs5 ?_); conv => whnf) | ((first | apply zi1 | apply zi2 | apply zi3 | apply zi4 | apply zi5) <;> intro _ <;> conv => whnf))
              refine VCall.intro (VC.give (args' := [sps O]) (loc' := [.dead]) [(0, O.flatMap encSp)] [] (OutOk.lift _) zb zf (by exact FmAll.nil) rfl zv (cT _)) ?_
              conv => whnf
              repeat' (first | ((first | refine zs1 ?_ | refine zs2 ?_ | refine zs3 ?_ | refine zs4 ?_ | refine zs5 ?_); conv => whnf) | ((first | apply zi1 | apply zi2 | apply zi3 | apply zi4 | apply zi5) <;> intro _ <;> conv => whnf))
              exact VOut.same rfl
end Go.Proofs.YtdlnjnfkbneibaaGreat

open Go.Vm
open Clip (Pn Sg Nt Bd Rt Sp Co Pl crs meetI BdSz posD alike keptB pStep ptsIn ptsGo pts)
namespace Go.Proofs.YtdlnjnfkbneibaaGreat
set_option maxRecDepth 20000
set_option maxHeartbeats 4000000

def vPl (p : Pl) : V := .agg [I p.x, I p.y, I p.d]
def pls (l : List Pl) : V := .fs 3 l.length (l.flatMap encPl)
structure PlSz (p : Pl) : Prop where
  x : -10000000 ≤ p.x ∧ p.x ≤ 10000000
  y : -10000000 ≤ p.y ∧ p.y ≤ 10000000
  d : -5000 ≤ p.d ∧ p.d ≤ 5000
theorem meetI_plsz {a b : Bd} (ha : BdSz a) (hb : BdSz b) : PlSz (meetI a b) := by
  obtain ⟨h1, h2, h3⟩ := Clip.meetI_sz ha hb
  exact ⟨h1, h2, h3⟩
theorem posD_sz {p : Pl} (h : PlSz p) : PlSz (posD p) := by
  obtain ⟨h1, h2, h3⟩ := h
  unfold posD
  split
  · exact ⟨by dsimp only; omega, by dsimp only; omega, by dsimp only; omega⟩
  · exact ⟨h1, h2, h3⟩
theorem vc_alike (p q : Pl) (h : Hp) (hp : PlSz p) (hq : PlSz q) : VC Tryz.prog 106 [vPl p, vPl q] h (B (alike p q)) h := by
  have c1 := Clip.mulb (A := 10000000) (B := 5000) hp.x hq.d
  have c2 := Clip.mulb (A := 10000000) (B := 5000) hq.x hp.d
  have c3 := Clip.mulb (A := 10000000) (B := 5000) hp.y hq.d
  have c4 := Clip.mulb (A := 10000000) (B := 5000) hq.y hp.d
  unfold alike
  refine VC.body Tryz.func106 rfl Tryz.ntmps106 Tryz.call106 (h.grows_refl) rfl ?_; conv => whnf
  repeat' (first | ((first | refine zs1 ?_ | refine zs2 ?_ | refine zs3 ?_ | refine zs4 ?_ | refine zs5 ?_ | refine zs6 [] ?_); conv => whnf) | ((first | apply zi1 | apply zi2 | apply zi3 | apply zi4 | apply zi5) <;> intro _ <;> conv => whnf))
  all_goals (refine VOut.dec ?_; first | (simp only [decide_eq_true_eq]; omega) | (simp; omega) | (simp; done))
def fst3 (l : List Bd) (p : Pl) (k : Bool) (m : Nat) : Bool := k && (l.drop m).all fun b => decide (b.val p ≤ 0)
theorem fst3_at {l : List Bd} {p : Pl} {k : Bool} {m : Nat} {b : Bd} (h : l[m]? = some b) : fst3 l p k m = fst3 l p (k && decide (b.val p ≤ 0)) (m + 1) := by
  obtain ⟨hlt, rfl⟩ := List.getElem?_eq_some_iff.1 h
  unfold fst3
  rw [List.drop_eq_getElem_cons hlt, List.all_cons, Bool.and_assoc]
theorem fst3_end {l : List Bd} {p : Pl} {k : Bool} : fst3 l p k l.length = k := by unfold fst3; simp
def snd3 (out : List Pl) (p : Pl) (k : Bool) (m : Nat) : Bool := k && (out.drop m).all fun q => !alike q p
theorem snd3_at {out : List Pl} {p : Pl} {k : Bool} {m : Nat} {q : Pl} (h : out[m]? = some q) : snd3 out p k m = snd3 out p (k && !alike q p) (m + 1) := by
  obtain ⟨hlt, rfl⟩ := List.getElem?_eq_some_iff.1 h
  unfold snd3
  rw [List.drop_eq_getElem_cons hlt, List.all_cons, Bool.and_assoc]
theorem snd3_end {out : List Pl} {p : Pl} {k : Bool} : snd3 out p k out.length = k := by unfold snd3; simp
theorem kept3 (l : List Bd) (out : List Pl) (p : Pl) : keptB l out p = snd3 out p (fst3 l p (decide (p.d ≠ 0)) 0) 0 := by
  unfold keptB snd3 fst3; rfl
theorem ptsGo_at {l : List Bd} {i : Nat} {a : Bd} {out : List Pl} (h : l[i]? = some a) : ptsGo l (l.take i) (l.drop i) out = ptsGo l (l.take (i + 1)) (l.drop (i + 1)) (ptsIn l a (l.take i) out) := by
  obtain ⟨hlt, rfl⟩ := List.getElem?_eq_some_iff.1 h
  rw [List.drop_eq_getElem_cons hlt, ptsGo, List.take_add_one, List.getElem?_eq_getElem hlt]; rfl
theorem ptsIn_at {l : List Bd} {a b : Bd} {i k : Nat} {out : List Pl} (h : l[k]? = some b) (hk : k < i) : ptsIn l a ((l.take i).drop k) out = ptsIn l a ((l.take i).drop (k + 1)) (pStep l a b out) := by
  obtain ⟨hlt, rfl⟩ := List.getElem?_eq_some_iff.1 h
  have : k < (l.take i).length := by rw [List.length_take]; omega
  rw [List.drop_eq_getElem_cons this, ptsIn, List.getElem_take]
structure Hold (R : Prop) : Prop where
  out : R
theorem suffices_ {R G : Prop} (main : Hold R → G) (rest : R) : G := main ⟨rest⟩
theorem vc_points (l : List Bd) (h : Hp) (hn : l.length ≤ 1000) (hb : ∀ b ∈ l, BdSz b) : VC Tryz.prog 63 [bds l] h (pls (pts l)) h := by
  obtain ⟨E, hE⟩ : ∃ E, E = pts l := ⟨_, rfl⟩
  rw [← hE]
  have hE : E = ptsGo l (l.take 0) (l.drop 0) [] := hE
  refine VC.body Tryz.func63 rfl Tryz.ntmps63 Tryz.call63 (h.grows_refl) rfl ?_; conv => whnf
  repeat' (first | ((first | refine zs1 ?_ | refine zs2 ?_ | refine zs3 ?_ | refine zs4 ?_ | refine zs5 ?_); conv => whnf) | ((first | apply zi1 | apply zi2 | apply zi3 | apply zi4 | apply zi5) <;> intro _ <;> conv => whnf))
  refine VCode.lp (fun y : Nat × List Pl => [(0, bds l), (2, .nilslice), (3, .gl (.loc 0) 3 y.2.length), (4, I y.1)]) (fun y => [.flat true (y.2.flatMap encPl)]) (fun y => y.1 ≤ l.length ∧ y.2.length ≤ 1000 * y.1 ∧ (∀ p ∈ y.2, PlSz p) ∧ E = ptsGo l (l.take y.1) (l.drop y.1) y.2) (fun y => l.length - y.1) (0, []) ⟨Nat.zero_le _, Nat.zero_le _, fun _ h => (by cases h), hE⟩ ?_ ?_
  · conv => whnf
    refine Retell.turn ⟨[0], 0, [], []⟩ (TurnOk.mk' _ _ [] [] (OutOk.lift _) rfl (by decide) zb trivial trivial rfl) zv zm
  · rintro ⟨i, out⟩ ⟨h1, h2, h3, h4⟩
    dsimp only at h1 h2 h3 h4
    conv => whnf
    refine VIte.dec (fun h5 => ?_) (fun h5 => ?_)
    · dsimp only at h5
      have ha : l[i]? = some l[i] := List.getElem?_eq_getElem (by omega)
      have sa := hb l[i] (List.getElem_mem (by omega))
      rw [ptsGo_at ha] at h4
      generalize l[i] = a at ha sa h4
      conv => whnf
      repeat' (first | ((first | refine zs1 ?_ | refine zs2 ?_ | refine zs3 ?_ | refine zs4 ?_ | refine zs5 ?_); conv => whnf) | ((first | apply zi1 | apply zi2 | apply zi3 | apply zi4 | apply zi5) <;> intro _ <;> conv => whnf))
      obtain ⟨O, hO⟩ : ∃ O, O = ptsIn l a (l.take i) out := ⟨_, rfl⟩
      rw [← hO] at h4
      refine VCode.lp (fun y : Nat × List Pl => [(0, bds l), (2, .nilslice), (3, .gl (.loc 0) 3 y.2.length), (4, I i), (5, I y.1)]) (fun y => [.flat true (y.2.flatMap encPl)]) (fun y => y.1 ≤ i ∧ y.2.length ≤ 1000 * i + y.1 ∧ (∀ p ∈ y.2, PlSz p) ∧ O = ptsIn l a ((l.take i).drop y.1) y.2) (fun y => i - y.1) (0, out) ⟨Nat.zero_le _, h2, h3, hO⟩ ?_ ?_
      · conv => whnf
        refine Retell.turn ⟨[0], 1, [], []⟩ (TurnOk.mk' _ _ [] [] (OutOk.lift _) rfl (by decide) zb trivial trivial rfl) zv zm
      · clear h2 h3 hO
        rintro ⟨k, w⟩ ⟨g1, g2, g3, g4⟩
        dsimp only at g1 g2 g3 g4
        conv => whnf
        refine VIte.dec (fun g5 => ?_) (fun g5 => ?_)
        · dsimp only at g5
          have hb' : l[k]? = some l[k] := List.getElem?_eq_getElem (by omega)
          have sb := hb l[k] (List.getElem_mem (by omega))
          rw [ptsIn_at hb' (by omega)] at g4
          generalize l[k] = b at hb' sb g4
          unfold pStep at g4
          have c1 := Clip.mulb (A := 100000) (B := 50) sa.c sb.b'
          have c2 := Clip.mulb (A := 100000) (B := 50) sb.c sa.b'
          have c3 := Clip.mulb (A := 50) (B := 100000) sa.a sb.c
          have c4 := Clip.mulb (A := 50) (B := 100000) sb.a sa.c
          have cc := fun h => vc_rcross a.A a.B b.A b.B h ⟨by have := sa.a; dsimp only; omega, by have := sa.b'; dsimp only; omega⟩ ⟨by have := sb.a; dsimp only; omega, by have := sb.b'; dsimp only; omega⟩
          have ep : (⟨a.C * b.B - b.C * a.B, a.A * b.C - b.A * a.C, crs ⟨a.A, a.B⟩ ⟨b.A, b.B⟩⟩ : Pl) = meetI a b := by unfold meetI crs; simp only [Int.mul_comm]
          have hsz := meetI_plsz sa sb
          have psz := posD_sz hsz
          rw [← ep] at hsz psz g4
          generalize crs ⟨a.A, a.B⟩ ⟨b.A, b.B⟩ = C at cc hsz psz g4
          obtain ⟨hx, hy, hd⟩ := hsz
          dsimp only at hx hy hd
          obtain ⟨P, hP⟩ : ∃ P, P = posD ⟨a.C * b.B - b.C * a.B, a.A * b.C - b.A * a.C, C⟩ := ⟨_, rfl⟩
          rw [← hP] at psz g4
          unfold posD at hP
          dsimp only at hP
          conv => whnf
          repeat' (first | ((first | refine zs1 ?_ | refine zs2 ?_ | refine zs3 ?_ | refine zs4 ?_ | refine zs5 ?_); conv => whnf) | ((first | apply zi1 | apply zi2 | apply zi3 | apply zi4 | apply zi5) <;> intro _ <;> conv => whnf))
          refine zs6 [(4, 66), (9, 66), (15, 66), (20, 66), (27, 66), (32, 66), (38, 66), (43, 66)] ?_
          conv => whnf
          apply suffices_
          · intro hrest
            repeat' (first | ((first | refine zs1 ?_ | refine zs2 ?_ | refine zs3 ?_ | refine zs4 ?_ | refine zs5 ?_); conv => whnf) | ((first | apply zi1 | apply zi2 | apply zi3 | apply zi4 | apply zi5) <;> intro _ <;> conv => whnf) | (refine VCall.intro (cc _) ?_; conv => whnf) | (refine VAny.ix encBd_len i rfl rfl ha ?_; conv => whnf) | (refine VAny.ix encBd_len k rfl rfl hb' ?_; conv => whnf))
            · rename_i hneg
              rw [if_pos hneg] at hP
              have e1 : encPl P = [DI (0 - (a.C * b.B - b.C * a.B)), DI (0 - (a.A * b.C - b.A * a.C)), DI (0 - C)] := by rw [hP]; unfold encPl; simp only [Int.zero_sub]
              have e2 : decide (P.d ≠ 0) = (0 - C != 0) := by rw [hP, Bool.eq_iff_iff, decide_eq_true_eq, bne_iff_ne]; dsimp only; omega
              refine VCode.tell (marks' := []) [(0, bds l), (2, .nilslice), (3, .gl (.loc 0) 3 w.length), (4, I i), (5, I k), (6, .ptr (.loc 1) 0), (7, B (decide (P.d ≠ 0))), (8, I 0)] [.flat true (w.flatMap encPl), .flat true (encPl P)] ?_ hrest.out
              rw [e1, e2]
              conv => whnf
              refine Retell.turn ⟨[0,1], 2, [], []⟩ (TurnOk.mk' _ _ [] [] (OutOk.lift _) rfl (by decide) zb trivial trivial rfl) zv zm
            · rename_i hneg
              rw [if_neg hneg] at hP
              have e1 : encPl P = [DI (a.C * b.B - b.C * a.B), DI (a.A * b.C - b.A * a.C), DI C] := by rw [hP]; rfl
              have e2 : decide (P.d ≠ 0) = (C != 0) := by rw [hP, Bool.eq_iff_iff, decide_eq_true_eq, bne_iff_ne]
              refine VCode.tell (marks' := []) [(0, bds l), (2, .nilslice), (3, .gl (.loc 0) 3 w.length), (4, I i), (5, I k), (6, .ptr (.loc 1) 0), (7, B (decide (P.d ≠ 0))), (8, I 0)] [.flat true (w.flatMap encPl), .flat true (encPl P)] ?_ hrest.out
              rw [e1, e2]
              conv => whnf
              refine Retell.turn ⟨[0,1], 2, [], []⟩ (TurnOk.mk' _ _ [] [] (OutOk.lift _) rfl (by decide) zb trivial trivial rfl) zv zm
          · conv => whnf
            rw [kept3] at g4
            clear hP cc c1 c2 c3 c4
            obtain ⟨F, hF⟩ : ∃ F, F = fst3 l P (decide (P.d ≠ 0)) 0 := ⟨_, rfl⟩
            rw [← hF] at g4
            obtain ⟨px, py, pd⟩ := psz
            generalize decide (P.d ≠ 0) = f0 at hF
            refine VCode.lp (fun y : Nat × Bool => [(0, bds l), (2, .nilslice), (3, .gl (.loc 0) 3 w.length), (4, I i), (5, I k), (6, .ptr (.loc 1) 0), (7, B y.2), (8, I y.1)]) (fun _ => [.flat true (w.flatMap encPl), .flat true (encPl P)]) (fun y => y.1 ≤ l.length ∧ F = fst3 l P y.2 y.1) (fun y => l.length - y.1) (0, f0) ⟨Nat.zero_le _, hF⟩ ?_ ?_
            · conv => whnf
              refine Retell.turn ⟨[0,1], 2, [], []⟩ (TurnOk.mk' _ _ [] [] (OutOk.lift _) rfl (by decide) zb trivial trivial rfl) zv zm
            · clear hF
              rintro ⟨m, f⟩ ⟨d1, d2⟩
              dsimp only at d1 d2
              conv => whnf
              refine VIte.dec (fun d3 => ?_) (fun d3 => ?_)
              · dsimp only at d3
                have hm : l[m]? = some l[m] := List.getElem?_eq_getElem (by omega)
                have sm := hb l[m] (List.getElem_mem (by omega))
                rw [fst3_at hm] at d2
                generalize l[m] = c at hm sm d2
                cases f with
                | false =>
                  rw [Bool.false_and] at d2
                  conv => whnf
                  repeat' (first | ((first | refine zs1 ?_ | refine zs2 ?_ | refine zs3 ?_ | refine zs4 ?_ | refine zs5 ?_); conv => whnf) | ((first | apply zi1 | apply zi2 | apply zi3 | apply zi4 | apply zi5) <;> intro _ <;> conv => whnf))
                  refine zs6 [] ?_
                  conv => whnf
                  repeat' (first | ((first | refine zs1 ?_ | refine zs2 ?_ | refine zs3 ?_ | refine zs4 ?_ | refine zs5 ?_); conv => whnf) | ((first | apply zi1 | apply zi2 | apply zi3 | apply zi4 | apply zi5) <;> intro _ <;> conv => whnf))
                  refine LEnd.intro (m + 1, false) ⟨by dsimp only; omega, d2⟩ (by dsimp only; omega) ?_
                  conv => whnf
                  refine Retell.turn ⟨[0,1], 2, [], []⟩ (TurnOk.mk' _ _ [] [] (OutOk.lift _) rfl (by decide) zb trivial trivial rfl) zv zm
                | true =>
                  rw [Bool.true_and] at d2
                  have c1 := Clip.mulb (A := 50) (B := 10000000) sm.a px
                  have c2 := Clip.mulb (A := 50) (B := 10000000) sm.b' py
                  have c3 := Clip.mulb (A := 100000) (B := 5000) sm.c pd
                  have e : decide (c.val P ≤ 0) = decide (c.A * P.x + c.B * P.y ≤ c.C * P.d) := decide_eq_decide.2 (by unfold Clip.Bd.val; omega)
                  rw [e] at d2
                  conv => whnf
                  repeat' (first | ((first | refine zs1 ?_ | refine zs2 ?_ | refine zs3 ?_ | refine zs4 ?_ | refine zs5 ?_); conv => whnf) | ((first | apply zi1 | apply zi2 | apply zi3 | apply zi4 | apply zi5) <;> intro _ <;> conv => whnf))
                  refine zs6 [] ?_
                  conv => whnf
                  repeat' (first | ((first | refine zs1 ?_ | refine zs2 ?_ | refine zs3 ?_ | refine zs4 ?_ | refine zs5 ?_); conv => whnf) | ((first | apply zi1 | apply zi2 | apply zi3 | apply zi4 | apply zi5) <;> intro _ <;> conv => whnf) | (refine VAny.ix encBd_len m rfl rfl hm ?_; conv => whnf))
                  refine LEnd.intro (m + 1, decide (c.A * P.x + c.B * P.y ≤ c.C * P.d)) ⟨by dsimp only; omega, d2⟩ (by dsimp only; omega) ?_
                  conv => whnf
                  refine Retell.turn ⟨[0,1], 2, [], []⟩ (TurnOk.mk' _ _ [] [] (OutOk.lift _) rfl (by decide) zb trivial trivial rfl) zv zm
              · have : m = l.length := by dsimp only at d3; omega
                subst this
                rw [fst3_end] at d2
                subst d2
                conv => whnf
                repeat' (first | ((first | refine zs1 ?_ | refine zs2 ?_ | refine zs3 ?_ | refine zs4 ?_ | refine zs5 ?_); conv => whnf) | ((first | apply zi1 | apply zi2 | apply zi3 | apply zi4 | apply zi5) <;> intro _ <;> conv => whnf))
                obtain ⟨G, hG⟩ : ∃ G, G = snd3 w P F 0 := ⟨_, rfl⟩
                rw [← hG] at g4
                refine VCode.lp (fun y : Nat × Bool => [(0, bds l), (2, .nilslice), (3, .gl (.loc 0) 3 w.length), (4, I i), (5, I k), (6, .ptr (.loc 1) 0), (7, B y.2), (9, I y.1)]) (fun _ => [.flat true (w.flatMap encPl), .flat true (encPl P)]) (fun y => y.1 ≤ w.length ∧ G = snd3 w P y.2 y.1) (fun y => w.length - y.1) (0, F) ⟨Nat.zero_le _, hG⟩ ?_ ?_
                · conv => whnf
                  refine Retell.turn ⟨[0,1], 2, [], []⟩ (TurnOk.mk' _ _ [] [] (OutOk.lift _) rfl (by decide) zb trivial trivial rfl) zv zm
                · clear hG
                  rintro ⟨m, f⟩ ⟨d1, d2⟩
                  dsimp only at d1 d2
                  conv => whnf
                  refine VIte.dec (fun d3 => ?_) (fun d3 => ?_)
                  · dsimp only at d3
                    have hm : w[m]? = some w[m] := List.getElem?_eq_getElem (by omega)
                    have sm := g3 w[m] (List.getElem_mem (by omega))
                    rw [snd3_at hm] at d2
                    generalize w[m] = q at hm sm d2
                    have cA := fun h => vc_alike q P h sm ⟨px, py, pd⟩
                    generalize alike q P = z at cA d2
                    cases f with
                    | false =>
                      rw [Bool.false_and] at d2
                      conv => whnf
                      repeat' (first | ((first | refine zs1 ?_ | refine zs2 ?_ | refine zs3 ?_ | refine zs4 ?_ | refine zs5 ?_); conv => whnf) | ((first | apply zi1 | apply zi2 | apply zi3 | apply zi4 | apply zi5) <;> intro _ <;> conv => whnf))
                      refine zs6 [] ?_
                      conv => whnf
                      repeat' (first | ((first | refine zs1 ?_ | refine zs2 ?_ | refine zs3 ?_ | refine zs4 ?_ | refine zs5 ?_); conv => whnf) | ((first | apply zi1 | apply zi2 | apply zi3 | apply zi4 | apply zi5) <;> intro _ <;> conv => whnf))
                      refine LEnd.intro (m + 1, false) ⟨by dsimp only; omega, d2⟩ (by dsimp only; omega) ?_
                      conv => whnf
                      refine Retell.turn ⟨[0,1], 2, [], []⟩ (TurnOk.mk' _ _ [] [] (OutOk.lift _) rfl (by decide) zb trivial trivial rfl) zv zm
                    | true =>
                      rw [Bool.true_and] at d2
                      conv => whnf
                      repeat' (first | ((first | refine zs1 ?_ | refine zs2 ?_ | refine zs3 ?_ | refine zs4 ?_ | refine zs5 ?_); conv => whnf) | ((first | apply zi1 | apply zi2 | apply zi3 | apply zi4 | apply zi5) <;> intro _ <;> conv => whnf))
                      refine zs6 [] ?_
                      conv => whnf
                      repeat' (first | ((first | refine zs1 ?_ | refine zs2 ?_ | refine zs3 ?_ | refine zs4 ?_ | refine zs5 ?_); conv => whnf) | ((first | apply zi1 | apply zi2 | apply zi3 | apply zi4 | apply zi5) <;> intro _ <;> conv => whnf) | (refine VLd.recd encPl_len m rfl rfl rfl rfl hm rfl ?_; conv => whnf) | (refine VCall.intro (cA _) ?_; conv => whnf))
                      refine LEnd.intro (m + 1, !z) ⟨by dsimp only; omega, d2⟩ (by dsimp only; omega) ?_
                      conv => whnf
                      refine Retell.turn ⟨[0,1], 2, [], []⟩ (TurnOk.mk' _ _ [] [] (OutOk.lift _) rfl (by decide) zb trivial trivial rfl) zv zm
                  · have : m = w.length := by dsimp only at d3; omega
                    subst this
                    rw [snd3_end] at d2
                    subst d2
                    cases G with
                    | false =>
                      rw [if_neg (by decide)] at g4
                      conv => whnf
                      repeat' (first | ((first | refine zs1 ?_ | refine zs2 ?_ | refine zs3 ?_ | refine zs4 ?_ | refine zs5 ?_); conv => whnf) | ((first | apply zi1 | apply zi2 | apply zi3 | apply zi4 | apply zi5) <;> intro _ <;> conv => whnf))
                      refine LEnd.intro (Y := Nat × List Pl) (k + 1, w) ⟨by dsimp only; omega, by dsimp only; omega, g3, g4⟩ (by dsimp only; omega) ?_
                      conv => whnf
                      refine Retell.turn ⟨[0], 2, [], []⟩ (TurnOk.mk' _ _ [] [] (OutOk.lift _) rfl (by decide) zb trivial trivial rfl) zv zm
                    | true =>
                      rw [if_pos rfl] at g4
                      conv => whnf
                      repeat' (first | ((first | refine zs1 ?_ | refine zs2 ?_ | refine zs3 ?_ | refine zs4 ?_ | refine zs5 ?_); conv => whnf) | ((first | apply zi1 | apply zi2 | apply zi3 | apply zi4 | apply zi5) <;> intro _ <;> conv => whnf))
                      refine VMem.app1 (l := w) P encPl_len rfl rfl rfl rfl rfl (by omega) ?_
                      conv => whnf
                      repeat' (first | ((first | refine zs1 ?_ | refine zs2 ?_ | refine zs3 ?_ | refine zs4 ?_ | refine zs5 ?_); conv => whnf) | ((first | apply zi1 | apply zi2 | apply zi3 | apply zi4 | apply zi5) <;> intro _ <;> conv => whnf))
                      refine LEnd.intro (Y := Nat × List Pl) (k + 1, w ++ [P]) ⟨by dsimp only; omega, by dsimp only; rw [List.length_append]; simp only [List.length_cons, List.length_nil]; omega, (fun p hp => by rcases List.mem_append.1 hp with hp | hp; exact g3 p hp; rw [List.mem_singleton.1 hp]; exact ⟨px, py, pd⟩), g4⟩ (by dsimp only; omega) ?_
                      conv => whnf
                      rw [List.length_append]
                      refine Retell.turn ⟨[3], 4, [], []⟩ (TurnOk.mk' _ _ [] [] (OutOk.lift _) rfl (by decide) zb trivial trivial rfl) zv zm
        · have : k = i := by dsimp only at g5; omega
          subst this
          rw [List.drop_of_length_le (by rw [List.length_take]; omega), ptsIn] at g4
          subst g4
          conv => whnf
          repeat' (first | ((first | refine zs1 ?_ | refine zs2 ?_ | refine zs3 ?_ | refine zs4 ?_ | refine zs5 ?_); conv => whnf) | ((first | apply zi1 | apply zi2 | apply zi3 | apply zi4 | apply zi5) <;> intro _ <;> conv => whnf))
          refine LEnd.intro (Y := Nat × List Pl) (k + 1, O) ⟨by dsimp only; omega, by dsimp only; omega, g3, h4⟩ (by dsimp only; omega) ?_
          conv => whnf
          refine Retell.turn ⟨[0], 1, [], []⟩ (TurnOk.mk' _ _ [] [] (OutOk.lift _) rfl (by decide) zb trivial trivial rfl) zv zm
    · have : i = l.length := by dsimp only at h5; omega
      subst this
      rw [List.drop_length, ptsGo] at h4
      subst h4
      conv => whnf
      repeat' (first | ((first | refine zs1 ?_ | refine zs2 ?_ | refine zs3 ?_ | refine zs4 ?_ | refine zs5 ?_); conv => whnf) | ((first | apply zi1 | apply zi2 | apply zi3 | apply zi4 | apply zi5) <;> intro _ <;> conv => whnf))
      refine VOut.data 1 [(0, E.flatMap encPl)] [] rfl zf (by exact FmAll.nil) zv
end Go.Proofs.YtdlnjnfkbneibaaGreat

open Go.Vm
open Clip (Pn Sg Nt Bd Rt Sp Co Pl NtOk chk chk_ok bnds bnds_sz bnds_len offL offS offS_bd offS_len allOf mvB mvS mvL mvS_len regS BdSz)
namespace Go.Proofs.YtdlnjnfkbneibaaGreat
set_option maxRecDepth 20000
set_option maxHeartbeats 4000000

/-! ### all, of numbers -/
theorem vc_IndexFI (l : List Int) (q : Int → Bool) (g : FuncId) (caps : List D) (hl : l.length ≤ 4000000) (hso : ∀ e ∈ l, ∀ h : Hp, VC Tryz.prog g ([I e] ++ D.vs caps) h (B (q e)) h) (h : Hp) :
    VC Tryz.prog 153 [ints l, .func (.func g) [] (D.vs caps)] h (I (fidx q l 0)) h := by
  obtain ⟨E, hE⟩ : ∃ E, E = fidx q l 0 := ⟨_, rfl⟩
  rw [← hE]
  refine VC.body Tryz.func153 rfl Tryz.ntmps153 Tryz.call153 (h.grows_refl) rfl ?_; conv => whnf
  rw [rens_dvs]
  refine VCode.lp (fun k : Nat => [(0, ints l), (1, .func (.func g) [] (D.vs caps)), (7, I l.length), (8, I k)]) (fun _ => []) (fun k => k ≤ l.length ∧ E = fidx q (l.drop k) k) (fun k => l.length - k) 0 ⟨Nat.zero_le _, hE⟩ ?_ ?_
  · conv => whnf
    refine Retell.turn ⟨[], 0, [], []⟩ (TurnOk.mk' _ _ [] [] (OutOk.lift _) rfl (by decide) zb trivial trivial rfl) zv zm
  · rintro k ⟨h1, h2⟩
    conv => whnf
    refine VIte.dec (fun h3 => ?_) (fun h3 => ?_)
    · have ha : l[k]? = some l[k] := List.getElem?_eq_getElem (by omega)
      have hm := hso l[k] (List.getElem_mem (by omega))
      generalize l[k] = a at ha hm
      rw [fidx_at ha] at h2
      conv => whnf
      repeat' (first | ((first | refine zs1 ?_ | refine zs2 ?_ | refine zs3 ?_ | refine zs4 ?_ | refine zs5 ?_ | refine zs6 [] ?_); conv => whnf) | ((first | apply zi1 | apply zi2 | apply zi3 | apply zi4 | apply zi5) <;> intro _ <;> conv => whnf) | (refine VAny.ix encI_len k (by omega) rfl ha ?_; conv => whnf))
      refine VCall.intro (hm _) ?_
      conv => whnf
      cases hq : q a
      · rw [hq] at h2
        conv => whnf
        repeat (first | ((first | refine zs1 ?_ | refine zs2 ?_ | refine zs3 ?_ | refine zs4 ?_ | refine zs5 ?_ | refine zs6 [] ?_); conv => whnf))
        refine LEnd.intro (k + 1) ⟨by omega, h2⟩ (by omega) ?_
        conv => whnf
        refine Retell.turn ⟨[], 0, [], []⟩ (TurnOk.mk' _ _ [] [] (OutOk.lift _) rfl (by decide) zb trivial trivial rfl) zv zm
      · rw [hq] at h2
        rw [h2]
        conv => whnf
        repeat (first | ((first | refine zs1 ?_ | refine zs2 ?_ | refine zs3 ?_ | refine zs4 ?_ | refine zs5 ?_ | refine zs6 [] ?_); conv => whnf))
        exact VOut.same rfl
    · rw [List.drop_of_length_le (by omega), fidx] at h2
      rw [h2]
      conv => whnf
      repeat (first | ((first | refine zs1 ?_ | refine zs2 ?_ | refine zs3 ?_ | refine zs4 ?_ | refine zs5 ?_ | refine zs6 [] ?_); conv => whnf))
      exact VOut.same rfl
theorem vc_ContFI (l : List Int) (q : Int → Bool) (g : FuncId) (caps : List D) (hl : l.length ≤ 4000000) (hso : ∀ e ∈ l, ∀ h : Hp, VC Tryz.prog g ([I e] ++ D.vs caps) h (B (q e)) h) (h : Hp) :
    VC Tryz.prog 131 [ints l, .func (.func g) [] (D.vs caps)] h (B (l.any q)) h := by
  have e := fidx_nn (q := q) l 0 (Int.le_refl _)
  have c := fun h => vc_IndexFI l q g caps hl hso h
  generalize fidx q l 0 = E at e c
  refine VC.body Tryz.func131 rfl Tryz.ntmps131 Tryz.call131 (h.grows_refl) rfl ?_; conv => whnf
  rw [rens_dvs]
  repeat' (first | ((first | refine zs1 ?_ | refine zs2 ?_ | refine zs3 ?_ | refine zs4 ?_ | refine zs5 ?_ | refine zs6 [] ?_); conv => whnf) | ((first | apply zi1 | apply zi2 | apply zi3 | apply zi4 | apply zi5) <;> intro _ <;> conv => whnf) | (refine VCall.intro (c _) ?_; conv => whnf))
  refine VOut.same ?_
  show B (decide (0 ≤ E)) = _
  congr 1
  rw [Bool.eq_iff_iff, decide_eq_true_eq]
  exact e
theorem vc_allI1 (q : Int → Bool) (g : FuncId) (caps : List D) (x : Int) (hso : ∀ h : Hp, VC Tryz.prog g ([I x] ++ D.vs caps) h (B (q x)) h) (h : Hp) : VC Tryz.prog 132 ([I x] ++ D.vs [.pt [.func (.func g) [] caps]]) h (B (!q x)) h := by
  have c := fun h => hso h
  refine VC.body Tryz.func132 rfl Tryz.ntmps132 Tryz.call132 (h.grows_refl) rfl ?_; conv => whnf
  repeat' (first | ((first | refine zs1 ?_ | refine zs2 ?_ | refine zs3 ?_ | refine zs4 ?_ | refine zs5 ?_ | refine zs6 [] ?_); conv => whnf) | ((first | apply zi1 | apply zi2 | apply zi3 | apply zi4 | apply zi5) <;> intro _ <;> conv => whnf) | (refine VCall.intro (c _) ?_; conv => whnf))
  exact VOut.same rfl
theorem vc_allI2 (l : List Int) (q : Int → Bool) (g : FuncId) (a b : List D) (hl : l.length ≤ 4000000) (hso : ∀ e ∈ l, ∀ h : Hp, VC Tryz.prog g ([I e] ++ D.vs [.pt a, .pt b]) h (B (q e)) h) (h : Hp) : VC Tryz.prog 101 [ints l, .func (.func g) [] (D.vs [.pt a, .pt b])] h (B (l.all q)) h := by
  have c := fun h => vc_ContFI l (fun p => !q p) 132 [.pt [.func (.func g) [] [.pt a, .pt b]]] hl (fun p hp h => vc_allI1 q g [.pt a, .pt b] p (hso p hp) h) h
  have e : (!(l.any fun p => !q p)) = l.all q := by rw [List.all_eq_not_any_not]
  rw [← e]
  generalize (l.any fun p => !q p) = E at c
  refine VC.body Tryz.func101 rfl Tryz.ntmps101 Tryz.call101 (h.grows_refl) rfl ?_; conv => whnf
  repeat' (first | ((first | refine zs1 ?_ | refine zs2 ?_ | refine zs3 ?_ | refine zs4 ?_ | refine zs5 ?_ | refine zs6 [] ?_); conv => whnf) | ((first | apply zi1 | apply zi2 | apply zi3 | apply zi4 | apply zi5) <;> intro _ <;> conv => whnf))
  refine VCall.intro (VC.give (args' := [ints l, .func (.func 132) [] [.fp [.func (.func g) [] [.pt a, .pt b]]]]) (loc' := [.dead]) [(0, [.func (.func g) [] [.pt a, .pt b]])] [] (OutOk.lift _) zb zf (by exact FmAll.nil) rfl zv (c _)) ?_
  conv => whnf
  repeat (first | ((first | refine zs1 ?_ | refine zs2 ?_ | refine zs3 ?_ | refine zs4 ?_ | refine zs5 ?_ | refine zs6 [] ?_); conv => whnf))
  exact VOut.same rfl
theorem vc_allI1c (l : List Int) (q : Int → Bool) (g : FuncId) (a : List D) (hl : l.length ≤ 4000000) (hso : ∀ e ∈ l, ∀ h : Hp, VC Tryz.prog g ([I e] ++ D.vs [.pt a]) h (B (q e)) h) (h : Hp) : VC Tryz.prog 101 [ints l, .func (.func g) [] (D.vs [.pt a])] h (B (l.all q)) h := by
  have c := fun h => vc_ContFI l (fun p => !q p) 132 [.pt [.func (.func g) [] [.pt a]]] hl (fun p hp h => vc_allI1 q g [.pt a] p (hso p hp) h) h
  have e : (!(l.any fun p => !q p)) = l.all q := by rw [List.all_eq_not_any_not]
  rw [← e]
  generalize (l.any fun p => !q p) = E at c
  refine VC.body Tryz.func101 rfl Tryz.ntmps101 Tryz.call101 (h.grows_refl) rfl ?_; conv => whnf
  repeat' (first | ((first | refine zs1 ?_ | refine zs2 ?_ | refine zs3 ?_ | refine zs4 ?_ | refine zs5 ?_ | refine zs6 [] ?_); conv => whnf) | ((first | apply zi1 | apply zi2 | apply zi3 | apply zi4 | apply zi5) <;> intro _ <;> conv => whnf))
  refine VCall.intro (VC.give (args' := [ints l, .func (.func 132) [] [.fp [.func (.func g) [] [.pt a]]]]) (loc' := [.dead]) [(0, [.func (.func g) [] [.pt a]])] [] (OutOk.lift _) zb zf (by exact FmAll.nil) rfl zv (c _)) ?_
  conv => whnf
  repeat (first | ((first | refine zs1 ?_ | refine zs2 ?_ | refine zs3 ?_ | refine zs4 ?_ | refine zs5 ?_ | refine zs6 [] ?_); conv => whnf))
  exact VOut.same rfl
theorem vc_allI0 (l : List Int) (q : Int → Bool) (g : FuncId) (hl : l.length ≤ 4000000) (hso : ∀ e ∈ l, ∀ h : Hp, VC Tryz.prog g ([I e] ++ D.vs []) h (B (q e)) h) (h : Hp) : VC Tryz.prog 101 [ints l, .func (.func g) [] (D.vs [])] h (B (l.all q)) h := by
  have c := fun h => vc_ContFI l (fun p => !q p) 132 [.pt [.func (.func g) [] []]] hl (fun p hp h => vc_allI1 q g [] p (hso p hp) h) h
  have e : (!(l.any fun p => !q p)) = l.all q := by rw [List.all_eq_not_any_not]
  rw [← e]
  generalize (l.any fun p => !q p) = E at c
  refine VC.body Tryz.func101 rfl Tryz.ntmps101 Tryz.call101 (h.grows_refl) rfl ?_; conv => whnf
  repeat' (first | ((first | refine zs1 ?_ | refine zs2 ?_ | refine zs3 ?_ | refine zs4 ?_ | refine zs5 ?_ | refine zs6 [] ?_); conv => whnf) | ((first | apply zi1 | apply zi2 | apply zi3 | apply zi4 | apply zi5) <;> intro _ <;> conv => whnf))
  refine VCall.intro (VC.give (args' := [ints l, .func (.func 132) [] [.fp [.func (.func g) [] []]]]) (loc' := [.dead]) [(0, [.func (.func g) [] []])] [] (OutOk.lift _) zb zf (by exact FmAll.nil) rfl zv (c _)) ?_
  conv => whnf
  repeat (first | ((first | refine zs1 ?_ | refine zs2 ?_ | refine zs3 ?_ | refine zs4 ?_ | refine zs5 ?_ | refine zs6 [] ?_); conv => whnf))
  exact VOut.same rfl
end Go.Proofs.YtdlnjnfkbneibaaGreat

open Go.Vm
open Clip (Pn Sg Nt Bd Rt Sp Co Pl NtOk chk chk_ok bnds bnds_sz bnds_len bnds_sq offL offS offS_bd offS_len allOf mvB mvS mvL mvS_len mvB_pts regS BdSz pts)
namespace Go.Proofs.YtdlnjnfkbneibaaGreat
set_option maxRecDepth 20000
set_option maxHeartbeats 4000000

def sgN : Sg := ⟨0, 0, ⟨0, 0⟩, ⟨0, 0⟩⟩
def ofB (N : Nt) (p i : Int) : Bool := decide ((N.ss.getD i.toNat sgN).f = p ∨ (N.ss.getD i.toNat sgN).t = p)
theorem ofB_at {N : Nt} {p i : Int} {s : Sg} (h : N.ss[i.toNat]? = some s) : ofB N p i = decide (s.f = p ∨ s.t = p) := by unfold ofB; rw [List.getD_eq_getElem?_getD, h]; rfl
theorem offL_bd {N : Nt} {i : Int} (h : i ∈ offL N) : 0 ≤ i ∧ i < N.ss.length := by
  have := offS_bd N.ps N.ss 0 i h; omega
theorem offL_len (N : Nt) : (offL N).length ≤ N.ss.length := offS_len N.ps N.ss 0
theorem vc_Mv1 (N : Nt) (p i : Int) (h : Hp) (hi : 0 ≤ i ∧ i < N.ss.length) : VC Tryz.prog 124 ([I i] ++ D.vs [.pt [.pt (encDk N p)], .pt (encN N)]) h (B (ofB N p i)) h := by
  have hk : N.ss[i.toNat]? = some (N.ss[i.toNat]'(by omega)) := List.getElem?_eq_getElem _
  rw [ofB_at hk]
  generalize N.ss[i.toNat]'(by omega) = s at hk
  have c := fun h => vc_of N p s h
  generalize decide (s.f = p ∨ s.t = p) = E at c
  refine VC.body Tryz.func124 rfl Tryz.ntmps124 Tryz.call124 (h.grows_refl) rfl ?_; conv => whnf
  repeat' (first | ((first | refine zs1 ?_ | refine zs2 ?_ | refine zs3 ?_ | refine zs4 ?_ | refine zs5 ?_); conv => whnf) | ((first | apply zi1 | apply zi2 | apply zi3 | apply zi4 | apply zi5) <;> intro _ <;> conv => whnf))
  refine zs6 [] ?_
  conv => whnf
  repeat' (first | ((first | refine zs1 ?_ | refine zs2 ?_ | refine zs3 ?_ | refine zs4 ?_ | refine zs5 ?_); conv => whnf) | ((first | apply zi1 | apply zi2 | apply zi3 | apply zi4 | apply zi5) <;> intro _ <;> conv => whnf) | (refine VAny.ix encSg_len i.toNat (by omega) rfl hk ?_; conv => whnf) | (refine VCall.intro (c _) ?_; conv => whnf))
  exact VOut.same rfl
def mvE (N : Nt) : Int := if chk N ≠ 0 then chk N else if offL N = [] then 10 else 0
theorem mvE_ok {N : Nt} : mvE N = 0 ↔ NtOk N ∧ offL N ≠ [] := by
  unfold mvE
  split
  · rename_i h; exact ⟨fun e => absurd e h, fun h2 => absurd (chk_ok.2 h2.1) h⟩
  · rename_i h
    have := chk_ok.1 (Classical.not_not.1 h)
    split
    · rename_i h2; exact ⟨fun e => by omega, fun h3 => absurd h2 h3.2⟩
    · rename_i h2; exact ⟨fun _ => ⟨this, h2⟩, fun _ => rfl⟩
theorem vc_Movers_no (N : Nt) (h : Hp) (hn : N.ps.length ≤ 4000000) (hm : N.ss.length ≤ 4000000) (h0 : mvE N ≠ 0) : VC Tryz.prog 83 [vN N] h (.tuple [.nilslice, I (mvE N)]) h := by
  by_cases hc : chk N = 0
  · have o := chk_ok.1 hc
    have c := fun h => vc_Off_ok N h o
    have he : offL N = [] := Classical.byContradiction fun e => h0 (mvE_ok.2 ⟨o, e⟩)
    have e : mvE N = 10 := by unfold mvE; rw [if_neg (by omega), if_pos he]
    rw [he] at c
    rw [e]
    refine VC.body Tryz.func83 rfl Tryz.ntmps83 Tryz.call83 (h.grows_refl) rfl ?_; conv => whnf
    repeat' (first | ((first | refine zs1 ?_ | refine zs2 ?_ | refine zs3 ?_ | refine zs4 ?_ | refine zs5 ?_ | refine zs6 [] ?_); conv => whnf) | ((first | apply zi1 | apply zi2 | apply zi3 | apply zi4 | apply zi5) <;> intro _ <;> conv => whnf) | (refine VCall.intro (c _) ?_; conv => whnf))
    · exact VOut.same rfl
  · have c := fun h => vc_Off_no N h hn hm hc
    have e : mvE N = chk N := by unfold mvE; rw [if_pos hc]
    rw [e]
    generalize chk N = E at c hc
    refine VC.body Tryz.func83 rfl Tryz.ntmps83 Tryz.call83 (h.grows_refl) rfl ?_; conv => whnf
    repeat' (first | ((first | refine zs1 ?_ | refine zs2 ?_ | refine zs3 ?_ | refine zs4 ?_ | refine zs5 ?_ | refine zs6 [] ?_); conv => whnf) | ((first | apply zi1 | apply zi2 | apply zi3 | apply zi4 | apply zi5) <;> intro _ <;> conv => whnf) | (refine VCall.intro (c _) ?_; conv => whnf))
    · exact VOut.same rfl
    · exfalso; omega
theorem mvS_at {N : Nt} {k n : Nat} (h : k < n) : mvS N k (n - k) = if mvB N k = true then (k : Int) :: mvS N ((k + 1 : Nat) : Int) (n - (k + 1)) else mvS N ((k + 1 : Nat) : Int) (n - (k + 1)) := by
  obtain ⟨m, hm⟩ : ∃ m, n - k = m + 1 := ⟨n - k - 1, by omega⟩
  have : n - (k + 1) = m := by omega
  rw [hm, this, mvS]; rfl
theorem vc_Movers_ok (N : Nt) (h : Hp) (o : NtOk N) (h0 : offL N ≠ []) : VC Tryz.prog 83 [vN N] h (.tuple [ints (mvL N), I 0]) h := by
  have hn := o.n
  have hm := o.m
  have c := fun h => vc_Off_ok N h o
  have hA := fun p h => vc_allI2 (offL N) (ofB N p) 124 [.pt (encDk N p)] (encN N) (by have := offL_len N; omega) (fun i hi h => vc_Mv1 N p i h (offL_bd hi)) h
  have hA2 : ∀ p, (offL N).all (ofB N p) = allOf N p := fun p => rfl
  simp only [hA2] at hA
  obtain ⟨M, hM⟩ : ∃ M, M = mvL N := ⟨_, rfl⟩
  rw [← hM]
  have hM : M = [] ++ mvS N (0 : Nat) (N.ps.length - 0) := hM
  have hO : 0 < (offL N).length := List.length_pos_iff.2 h0
  generalize offL N = O at *
  refine VC.body Tryz.func83 rfl Tryz.ntmps83 Tryz.call83 (h.grows_refl) rfl ?_; conv => whnf
  repeat' (first | ((first | refine zs1 ?_ | refine zs2 ?_ | refine zs3 ?_ | refine zs4 ?_ | refine zs5 ?_ | refine zs6 [] ?_); conv => whnf) | ((first | apply zi1 | apply zi2 | apply zi3 | apply zi4 | apply zi5) <;> intro _ <;> conv => whnf) | (refine VCall.intro (c _) ?_; conv => whnf))
  · exfalso; omega
  refine VCode.lp (fun y : Nat × List Int => [(1, .fp (encN N)), (2, .nilslice), (3, I 0), (4, ints O), (6, .gl (.loc 0) 1 y.2.length), (24, I N.ps.length), (25, I y.1)]) (fun y => [.flat true (y.2.flatMap encI)]) (fun y => y.1 ≤ N.ps.length ∧ y.2.length ≤ y.1 ∧ M = y.2 ++ mvS N y.1 (N.ps.length - y.1)) (fun y => N.ps.length - y.1) (0, []) ⟨Nat.zero_le _, Nat.zero_le _, hM⟩ ?_ ?_
  · conv => whnf
    refine Retell.turn ⟨[1], 1, [(0, encN N)], []⟩ (TurnOk.mk' _ _ [(0, encN N)] [] (OutOk.lift _) rfl (by decide) zb zf trivial rfl) zv zm
  · clear hM
    rintro ⟨k, w⟩ ⟨h1, h2, h3⟩
    dsimp only at h1 h2 h3
    conv => whnf
    refine VIte.dec (fun h5 => ?_) (fun h5 => ?_)
    · dsimp only at h5
      rw [mvS_at (by omega)] at h3
      have cB := fun h => vc_bounds N k h o
      have cR := fun h => vc_region (bnds N k) h (by have := bnds_len o k; omega) (bnds_sz o k)
      have cA := hA k
      have eB : mvB N k = (allOf N k && !decide (regS (bnds N k) = [])) := rfl
      rw [eB] at h3
      generalize bnds N k = bs at *
      generalize regS bs = S at *
      generalize allOf N k = A at *
      conv => whnf
      repeat' (first | ((first | refine zs1 ?_ | refine zs2 ?_ | refine zs3 ?_ | refine zs4 ?_ | refine zs5 ?_); conv => whnf) | ((first | apply zi1 | apply zi2 | apply zi3 | apply zi4 | apply zi5) <;> intro _ <;> conv => whnf))
      refine VCall.intro (VC.lend1 [dints O, .func (.func 124) [] [.pt [.pt (encDk N k)], .pt (encN N)]] [(1, encDk N k), (2, [.pt (encDk N k)])] [] zr trivial zv (cA Hp.bare)) ?_
      cases A with
      | false =>
        rw [Bool.false_and, if_neg (by decide)] at h3
        conv => whnf
        repeat' (first | ((first | refine zs1 ?_ | refine zs2 ?_ | refine zs3 ?_ | refine zs4 ?_ | refine zs5 ?_); conv => whnf) | ((first | apply zi1 | apply zi2 | apply zi3 | apply zi4 | apply zi5) <;> intro _ <;> conv => whnf))
        refine LEnd.intro (k + 1, w) ⟨by dsimp only; omega, by dsimp only; omega, h3⟩ (by dsimp only; omega) ?_
        conv => whnf
        refine Retell.turn ⟨[0], 3, [], []⟩ (TurnOk.mk' _ _ [] [] (OutOk.lift _) rfl (by decide) zb trivial trivial rfl) zv zm
      | true =>
        rw [Bool.true_and] at h3
        conv => whnf
        repeat' (first | ((first | refine zs1 ?_ | refine zs2 ?_ | refine zs3 ?_ | refine zs4 ?_ | refine zs5 ?_); conv => whnf) | ((first | apply zi1 | apply zi2 | apply zi3 | apply zi4 | apply zi5) <;> intro _ <;> conv => whnf))
        refine VCall.intro (VC.give (args' := [.fp (encDk N k)]) (loc' := [.flat true (w.flatMap encI), .dead, .dead]) [(1, encDk N k)] [] (OutOk.lift _) zb zf (by exact FmAll.nil) rfl zv (cB _)) ?_
        conv => whnf
        repeat' (first | ((first | refine zs1 ?_ | refine zs2 ?_ | refine zs3 ?_ | refine zs4 ?_ | refine zs5 ?_); conv => whnf) | ((first | apply zi1 | apply zi2 | apply zi3 | apply zi4 | apply zi5) <;> intro _ <;> conv => whnf) | (refine VCall.intro (cR _) ?_; conv => whnf))
        · rename_i hS
          have hS2 : ¬ S = [] := fun e => by subst e; dsimp only [List.length_nil] at hS; omega
          rw [decide_eq_false hS2, Bool.not_false, if_pos rfl] at h3
          refine VMem.app1 (l := w) (k : Int) encI_len rfl rfl rfl rfl rfl (by omega) ?_
          conv => whnf
          repeat' (first | ((first | refine zs1 ?_ | refine zs2 ?_ | refine zs3 ?_ | refine zs4 ?_ | refine zs5 ?_); conv => whnf) | ((first | apply zi1 | apply zi2 | apply zi3 | apply zi4 | apply zi5) <;> intro _ <;> conv => whnf))
          refine LEnd.intro (k + 1, w ++ [(k : Int)]) ⟨by dsimp only; omega, by dsimp only; rw [List.length_append]; simp only [List.length_singleton]; omega, by dsimp only; rw [h3, List.append_assoc]; rfl⟩ (by dsimp only; omega) ?_
          conv => whnf
          rw [List.length_append]
          refine Retell.turn ⟨[4], 5, [], []⟩ (TurnOk.mk' _ _ [] [] (OutOk.lift _) rfl (by decide) zb trivial trivial rfl) zv zm
        · rename_i hS
          have hS2 : S = [] := List.length_eq_zero_iff.1 (by omega)
          rw [decide_eq_true hS2, Bool.not_true, if_neg (by decide)] at h3
          refine LEnd.intro (k + 1, w) ⟨by dsimp only; omega, by dsimp only; omega, h3⟩ (by dsimp only; omega) ?_
          conv => whnf
          refine Retell.turn ⟨[0], 3, [], []⟩ (TurnOk.mk' _ _ [] [] (OutOk.lift _) rfl (by decide) zb trivial trivial rfl) zv zm
    · have : k = N.ps.length := by dsimp only at h5; omega
      subst this
      rw [Nat.sub_self, mvS, List.append_nil] at h3
      subst h3
      conv => whnf
      repeat' (first | ((first | refine zs1 ?_ | refine zs2 ?_ | refine zs3 ?_ | refine zs4 ?_ | refine zs5 ?_); conv => whnf) | ((first | apply zi1 | apply zi2 | apply zi3 | apply zi4 | apply zi5) <;> intro _ <;> conv => whnf))
      refine VOut.data 1 [(0, M.flatMap encI)] [] rfl zf (by exact FmAll.nil) zv
end Go.Proofs.YtdlnjnfkbneibaaGreat

open Go.Vm
open Clip (Pn Sg Nt Bd Rt Sp Co Pl NtOk chk chk_ok bnds bnds_sz bnds_len bnds_sq offL offS offS_bd offS_len allOf mvB mvS mvL mvS_len mvB_pts regS BdSz pts)
namespace Go.Proofs.YtdlnjnfkbneibaaGreat
set_option maxRecDepth 20000
set_option maxHeartbeats 4000000

theorem vc_rMovers_no (N : Nt) (h : Hp) (hn : N.ps.length ≤ 4000000) (hm : N.ss.length ≤ 4000000) (h0 : mvE N ≠ 0) : VC Tryz.prog 84 [vN N] h (.tuple [.nilslice, I (mvE N)]) h := by
  by_cases hc : chk N = 0
  · have o := chk_ok.1 hc
    have c := fun h => vc_rOff_ok N h o
    have he : offL N = [] := Classical.byContradiction fun e => h0 (mvE_ok.2 ⟨o, e⟩)
    have e : mvE N = 10 := by unfold mvE; rw [if_neg (by omega), if_pos he]
    rw [he] at c
    rw [e]
    refine VC.body Tryz.func84 rfl Tryz.ntmps84 Tryz.call84 (h.grows_refl) rfl ?_; conv => whnf
    repeat' (first | ((first | refine zs1 ?_ | refine zs2 ?_ | refine zs3 ?_ | refine zs4 ?_ | refine zs5 ?_ | refine zs6 [] ?_); conv => whnf) | ((first | apply zi1 | apply zi2 | apply zi3 | apply zi4 | apply zi5) <;> intro _ <;> conv => whnf) | (refine VCall.intro (c _) ?_; conv => whnf))
    · exact VOut.same rfl
  · have c := fun h => vc_rOff_no N h hn hm hc
    have e : mvE N = chk N := by unfold mvE; rw [if_pos hc]
    rw [e]
    generalize chk N = E at c hc
    refine VC.body Tryz.func84 rfl Tryz.ntmps84 Tryz.call84 (h.grows_refl) rfl ?_; conv => whnf
    repeat' (first | ((first | refine zs1 ?_ | refine zs2 ?_ | refine zs3 ?_ | refine zs4 ?_ | refine zs5 ?_ | refine zs6 [] ?_); conv => whnf) | ((first | apply zi1 | apply zi2 | apply zi3 | apply zi4 | apply zi5) <;> intro _ <;> conv => whnf) | (refine VCall.intro (c _) ?_; conv => whnf))
    · exact VOut.same rfl
    · exfalso; omega
def aoB (N : Nt) (p : Int) (k : Bool) (l : List Int) : Bool := k && l.all (ofB N p)
theorem aoB_at {N : Nt} {p : Int} {k : Bool} {l : List Int} {m : Nat} {i : Int} (h : l[m]? = some i) : aoB N p k (l.drop m) = aoB N p (k && ofB N p i) (l.drop (m + 1)) := by
  obtain ⟨hlt, rfl⟩ := List.getElem?_eq_some_iff.1 h
  unfold aoB
  rw [List.drop_eq_getElem_cons hlt, List.all_cons, Bool.and_assoc]
theorem vc_rMovers_ok (N : Nt) (h : Hp) (o : NtOk N) (h0 : offL N ≠ []) : VC Tryz.prog 84 [vN N] h (.tuple [ints (mvL N), I 0]) h := by
  have hn := o.n
  have hm := o.m
  have c := fun h => vc_rOff_ok N h o
  obtain ⟨M, hM⟩ : ∃ M, M = mvL N := ⟨_, rfl⟩
  rw [← hM]
  have hM : M = [] ++ mvS N (0 : Nat) (N.ps.length - 0) := hM
  have hO : 0 < (offL N).length := List.length_pos_iff.2 h0
  have hbd := fun i (hi : i ∈ offL N) => offL_bd hi
  have hol := offL_len N
  obtain ⟨O, eO⟩ : ∃ O, O = offL N := ⟨_, rfl⟩
  rw [← eO] at hO hbd c hol
  refine VC.body Tryz.func84 rfl Tryz.ntmps84 Tryz.call84 (h.grows_refl) rfl ?_; conv => whnf
  repeat' (first | ((first | refine zs1 ?_ | refine zs2 ?_ | refine zs3 ?_ | refine zs4 ?_ | refine zs5 ?_ | refine zs6 [] ?_); conv => whnf) | ((first | apply zi1 | apply zi2 | apply zi3 | apply zi4 | apply zi5) <;> intro _ <;> conv => whnf) | (refine VCall.intro (c _) ?_; conv => whnf))
  · exfalso; omega
  refine VCode.lp (fun y : Nat × List Int => [(1, .fp (encN N)), (2, .nilslice), (3, I 0), (4, ints O), (6, .gl (.loc 0) 1 y.2.length), (7, I y.1)]) (fun y => [.flat true (y.2.flatMap encI)]) (fun y => y.1 ≤ N.ps.length ∧ y.2.length ≤ y.1 ∧ M = y.2 ++ mvS N y.1 (N.ps.length - y.1)) (fun y => N.ps.length - y.1) (0, []) ⟨Nat.zero_le _, Nat.zero_le _, hM⟩ ?_ ?_
  · conv => whnf
    refine Retell.turn ⟨[1], 1, [(0, encN N)], []⟩ (TurnOk.mk' _ _ [(0, encN N)] [] (OutOk.lift _) rfl (by decide) zb zf trivial rfl) zv zm
  · clear hM
    rintro ⟨k, w⟩ ⟨h1, h2, h3⟩
    dsimp only at h1 h2 h3
    conv => whnf
    repeat' (first | ((first | refine zs1 ?_ | refine zs2 ?_ | refine zs3 ?_ | refine zs4 ?_ | refine zs5 ?_); conv => whnf) | ((first | apply zi1 | apply zi2 | apply zi3 | apply zi4 | apply zi5) <;> intro _ <;> conv => whnf))
    · rename_i h5
      dsimp only at h5
      rw [mvS_at (by omega)] at h3
      have cB := fun h => vc_rbounds N k (-1) h o
      rw [bndK_none] at cB
      have cR := fun h => vc_points (bnds N k) h (by have := bnds_len o k; omega) (bnds_sz o k)
      have eB := mvB_pts o k
      have eA : allOf N k = O.all (ofB N k) := by rw [eO]; rfl
      rw [eB, eA] at h3
      generalize bnds N k = bs at *
      generalize pts bs = S at *
      obtain ⟨f0, hf0⟩ : ∃ f0 : Bool, f0 = decide ((0 : Int) < (S.length : Int)) := ⟨_, rfl⟩
      have eS : (O.all (ofB N k) && !decide (S = [])) = aoB N k f0 (O.drop 0) := by
        have e1 : (!decide (S = [])) = f0 := by
          rw [hf0]
          cases S with
          | nil => rfl
          | cons a b => simp
        rw [e1, Bool.and_comm]; rfl
      rw [eS] at h3
      obtain ⟨A, hA⟩ : ∃ A, A = aoB N k f0 (O.drop 0) := ⟨_, rfl⟩
      rw [← hA] at h3
      repeat' (first | ((first | refine zs1 ?_ | refine zs2 ?_ | refine zs3 ?_ | refine zs4 ?_ | refine zs5 ?_); conv => whnf) | ((first | apply zi1 | apply zi2 | apply zi3 | apply zi4 | apply zi5) <;> intro _ <;> conv => whnf) | (refine VCall.intro (cB _) ?_; conv => whnf) | (refine VCall.intro (cR _) ?_; conv => whnf))
      rw [← hf0]
      refine VCode.lp (fun y : Nat × Bool => [(1, .fp (encN N)), (2, .nilslice), (3, I 0), (4, ints O), (6, .gl (.loc 0) 1 w.length), (7, I k), (8, B y.2), (9, I y.1)]) (fun _ => [.flat true (w.flatMap encI)]) (fun y => y.1 ≤ O.length ∧ A = aoB N k y.2 (O.drop y.1)) (fun y => O.length - y.1) (0, f0) ⟨Nat.zero_le _, hA⟩ ?_ ?_
      · conv => whnf
        refine Retell.turn ⟨[0], 1, [], []⟩ (TurnOk.mk' _ _ [] [] (OutOk.lift _) rfl (by decide) zb trivial trivial rfl) zv zm
      · clear hA
        rintro ⟨m, f⟩ ⟨d1, d2⟩
        dsimp only at d1 d2
        conv => whnf
        refine VIte.dec (fun d3 => ?_) (fun d3 => ?_)
        · dsimp only at d3
          have hm' : O[m]? = some O[m] := List.getElem?_eq_getElem (by omega)
          have hb := hbd O[m] (List.getElem_mem (by omega))
          rw [aoB_at hm'] at d2
          generalize O[m] = i at hm' hb d2
          have hk : N.ss[i.toNat]? = some (N.ss[i.toNat]'(by omega)) := List.getElem?_eq_getElem _
          rw [ofB_at hk] at d2
          generalize N.ss[i.toNat]'(by omega) = s at hk d2
          cases f with
          | false =>
            rw [Bool.false_and] at d2
            conv => whnf
            repeat' (first | ((first | refine zs1 ?_ | refine zs2 ?_ | refine zs3 ?_ | refine zs4 ?_ | refine zs5 ?_); conv => whnf) | ((first | apply zi1 | apply zi2 | apply zi3 | apply zi4 | apply zi5) <;> intro _ <;> conv => whnf))
            refine zs6 [] ?_
            conv => whnf
            repeat' (first | ((first | refine zs1 ?_ | refine zs2 ?_ | refine zs3 ?_ | refine zs4 ?_ | refine zs5 ?_); conv => whnf) | ((first | apply zi1 | apply zi2 | apply zi3 | apply zi4 | apply zi5) <;> intro _ <;> conv => whnf) | (refine VAny.ix encI_len m rfl rfl hm' ?_; conv => whnf) | (refine VAny.ix encSg_len i.toNat (by omega) rfl hk ?_; conv => whnf))
            refine LEnd.intro (m + 1, false) ⟨by dsimp only; omega, d2⟩ (by dsimp only; omega) ?_
            conv => whnf
            refine Retell.turn ⟨[0], 2, [], []⟩ (TurnOk.mk' _ _ [] [] (OutOk.lift _) rfl (by decide) zb trivial trivial rfl) zv zm
          | true =>
            rw [Bool.true_and] at d2
            conv => whnf
            repeat' (first | ((first | refine zs1 ?_ | refine zs2 ?_ | refine zs3 ?_ | refine zs4 ?_ | refine zs5 ?_); conv => whnf) | ((first | apply zi1 | apply zi2 | apply zi3 | apply zi4 | apply zi5) <;> intro _ <;> conv => whnf))
            refine zs6 [] ?_
            conv => whnf
            repeat' (first | ((first | refine zs1 ?_ | refine zs2 ?_ | refine zs3 ?_ | refine zs4 ?_ | refine zs5 ?_); conv => whnf) | ((first | apply zi1 | apply zi2 | apply zi3 | apply zi4 | apply zi5) <;> intro _ <;> conv => whnf) | (refine VAny.ix encI_len m rfl rfl hm' ?_; conv => whnf) | (refine VAny.ix encSg_len i.toNat (by omega) rfl hk ?_; conv => whnf))
            · rename_i hz
              rw [decide_eq_true (by omega)] at d2
              refine LEnd.intro (m + 1, true) ⟨by dsimp only; omega, d2⟩ (by dsimp only; omega) ?_
              conv => whnf
              refine Retell.turn ⟨[0], 2, [], []⟩ (TurnOk.mk' _ _ [] [] (OutOk.lift _) rfl (by decide) zb trivial trivial rfl) zv zm
            · rename_i hz
              refine LEnd.intro (m + 1, decide (s.t = (k : Int))) ⟨by dsimp only; omega, by rw [d2]; congr 1; exact decide_eq_decide.2 (by omega)⟩ (by dsimp only; omega) ?_
              conv => whnf
              refine Retell.turn ⟨[0], 2, [], []⟩ (TurnOk.mk' _ _ [] [] (OutOk.lift _) rfl (by decide) zb trivial trivial rfl) zv zm
        · have : m = O.length := by dsimp only at d3; omega
          subst this
          have d2 : A = f := by rw [d2]; unfold aoB; simp
          subst d2
          cases A with
          | false =>
            rw [if_neg (by decide)] at h3
            conv => whnf
            repeat' (first | ((first | refine zs1 ?_ | refine zs2 ?_ | refine zs3 ?_ | refine zs4 ?_ | refine zs5 ?_); conv => whnf) | ((first | apply zi1 | apply zi2 | apply zi3 | apply zi4 | apply zi5) <;> intro _ <;> conv => whnf))
            refine LEnd.intro (k + 1, w) ⟨by dsimp only; omega, by dsimp only; omega, h3⟩ (by dsimp only; omega) ?_
            conv => whnf
            refine Retell.turn ⟨[0], 1, [], []⟩ (TurnOk.mk' _ _ [] [] (OutOk.lift _) rfl (by decide) zb trivial trivial rfl) zv zm
          | true =>
            rw [if_pos rfl] at h3
            conv => whnf
            repeat' (first | ((first | refine zs1 ?_ | refine zs2 ?_ | refine zs3 ?_ | refine zs4 ?_ | refine zs5 ?_); conv => whnf) | ((first | apply zi1 | apply zi2 | apply zi3 | apply zi4 | apply zi5) <;> intro _ <;> conv => whnf))
            refine VMem.app1 (l := w) (k : Int) encI_len rfl rfl rfl rfl rfl (by omega) ?_
            conv => whnf
            repeat' (first | ((first | refine zs1 ?_ | refine zs2 ?_ | refine zs3 ?_ | refine zs4 ?_ | refine zs5 ?_); conv => whnf) | ((first | apply zi1 | apply zi2 | apply zi3 | apply zi4 | apply zi5) <;> intro _ <;> conv => whnf))
            refine LEnd.intro (k + 1, w ++ [(k : Int)]) ⟨by dsimp only; omega, by dsimp only; rw [List.length_append]; simp only [List.length_singleton]; omega, by dsimp only; rw [h3, List.append_assoc]; rfl⟩ (by dsimp only; omega) ?_
            conv => whnf
            rw [List.length_append]
            refine Retell.turn ⟨[2], 3, [], []⟩ (TurnOk.mk' _ _ [] [] (OutOk.lift _) rfl (by decide) zb trivial trivial rfl) zv zm
    · rename_i h5
      have : k = N.ps.length := by dsimp only at h5; omega
      subst this
      rw [Nat.sub_self, mvS, List.append_nil] at h3
      subst h3
      repeat' (first | ((first | refine zs1 ?_ | refine zs2 ?_ | refine zs3 ?_ | refine zs4 ?_ | refine zs5 ?_); conv => whnf) | ((first | apply zi1 | apply zi2 | apply zi3 | apply zi4 | apply zi5) <;> intro _ <;> conv => whnf))
      refine VOut.data 1 [(0, M.flatMap encI)] [] rfl zf (by exact FmAll.nil) zv
/-! ### Who is convicted -/
def cvE (N : Nt) : Int := if mvE N ≠ 0 then mvE N else if mvL N = [] then 7 else if 1 < (mvL N).length then 11 else 0
def cvV (N : Nt) : Int := if cvE N = 0 then (mvL N).headD 0 else 0
theorem mvL_len (N : Nt) : (mvL N).length ≤ N.ps.length := mvS_len N _ 0
theorem vc_Convict (N : Nt) (h : Hp) (hn : N.ps.length ≤ 4000000) (hm : N.ss.length ≤ 4000000) : VC Tryz.prog 47 [vN N] h (.tuple [I (cvV N), I (cvE N)]) h := by
  unfold cvV cvE
  by_cases h0 : mvE N = 0
  · have o := mvE_ok.1 h0
    have c := fun h => vc_Movers_ok N h o.1 o.2
    rw [h0]
    generalize mvL N = M at c ⊢
    cases M with
    | nil =>
      refine VC.body Tryz.func47 rfl Tryz.ntmps47 Tryz.call47 (h.grows_refl) rfl ?_; conv => whnf
      repeat' (first | ((first | refine zs1 ?_ | refine zs2 ?_ | refine zs3 ?_ | refine zs4 ?_ | refine zs5 ?_ | refine zs6 [] ?_); conv => whnf) | ((first | apply zi1 | apply zi2 | apply zi3 | apply zi4 | apply zi5) <;> intro _ <;> conv => whnf) | (refine VCall.intro (c _) ?_; conv => whnf))
      exact VOut.same rfl
    | cons a r =>
      cases r with
      | nil =>
        have ha : [a][0]? = some a := rfl
        refine VC.body Tryz.func47 rfl Tryz.ntmps47 Tryz.call47 (h.grows_refl) rfl ?_; conv => whnf
        repeat' (first | ((first | refine zs1 ?_ | refine zs2 ?_ | refine zs3 ?_ | refine zs4 ?_ | refine zs5 ?_ | refine zs6 [] ?_); conv => whnf) | ((first | apply zi1 | apply zi2 | apply zi3 | apply zi4 | apply zi5) <;> intro _ <;> conv => whnf) | (refine VCall.intro (c _) ?_; conv => whnf) | (refine VAny.ix encI_len 0 rfl rfl ha ?_; conv => whnf))
        all_goals first | (exact VOut.same rfl) | (exfalso; simp only [List.length_cons, List.length_nil] at *; omega)
      | cons b r =>
        have e : (if (0 : Int) ≠ 0 then (0 : Int) else if (a :: b :: r) = [] then 7 else if 1 < (a :: b :: r).length then 11 else 0) = 11 := by simp
        rw [e]
        refine VC.body Tryz.func47 rfl Tryz.ntmps47 Tryz.call47 (h.grows_refl) rfl ?_; conv => whnf
        repeat' (first | ((first | refine zs1 ?_ | refine zs2 ?_ | refine zs3 ?_ | refine zs4 ?_ | refine zs5 ?_ | refine zs6 [] ?_); conv => whnf) | ((first | apply zi1 | apply zi2 | apply zi3 | apply zi4 | apply zi5) <;> intro _ <;> conv => whnf) | (refine VCall.intro (c _) ?_; conv => whnf))
        all_goals first | (exact VOut.same rfl) | (exfalso; simp only [List.length_cons] at *; omega)
  · have c := fun h => vc_Movers_no N h hn hm h0
    rw [if_pos h0, if_neg h0]
    generalize mvE N = E at c h0
    refine VC.body Tryz.func47 rfl Tryz.ntmps47 Tryz.call47 (h.grows_refl) rfl ?_; conv => whnf
    repeat' (first | ((first | refine zs1 ?_ | refine zs2 ?_ | refine zs3 ?_ | refine zs4 ?_ | refine zs5 ?_ | refine zs6 [] ?_); conv => whnf) | ((first | apply zi1 | apply zi2 | apply zi3 | apply zi4 | apply zi5) <;> intro _ <;> conv => whnf) | (refine VCall.intro (c _) ?_; conv => whnf))
    · exact VOut.same rfl
    · exfalso; omega
theorem vc_rConvict (N : Nt) (h : Hp) (hn : N.ps.length ≤ 4000000) (hm : N.ss.length ≤ 4000000) : VC Tryz.prog 85 [vN N] h (.tuple [I (cvV N), I (cvE N)]) h := by
  unfold cvV cvE
  by_cases h0 : mvE N = 0
  · have o := mvE_ok.1 h0
    have c := fun h => vc_rMovers_ok N h o.1 o.2
    rw [h0]
    generalize mvL N = M at c ⊢
    cases M with
    | nil =>
      refine VC.body Tryz.func85 rfl Tryz.ntmps85 Tryz.call85 (h.grows_refl) rfl ?_; conv => whnf
      repeat' (first | ((first | refine zs1 ?_ | refine zs2 ?_ | refine zs3 ?_ | refine zs4 ?_ | refine zs5 ?_ | refine zs6 [] ?_); conv => whnf) | ((first | apply zi1 | apply zi2 | apply zi3 | apply zi4 | apply zi5) <;> intro _ <;> conv => whnf) | (refine VCall.intro (c _) ?_; conv => whnf))
      exact VOut.same rfl
    | cons a r =>
      cases r with
      | nil =>
        have ha : [a][0]? = some a := rfl
        refine VC.body Tryz.func85 rfl Tryz.ntmps85 Tryz.call85 (h.grows_refl) rfl ?_; conv => whnf
        repeat' (first | ((first | refine zs1 ?_ | refine zs2 ?_ | refine zs3 ?_ | refine zs4 ?_ | refine zs5 ?_ | refine zs6 [] ?_); conv => whnf) | ((first | apply zi1 | apply zi2 | apply zi3 | apply zi4 | apply zi5) <;> intro _ <;> conv => whnf) | (refine VCall.intro (c _) ?_; conv => whnf) | (refine VAny.ix encI_len 0 rfl rfl ha ?_; conv => whnf))
        all_goals first | (exact VOut.same rfl) | (exfalso; simp only [List.length_cons, List.length_nil] at *; omega)
      | cons b r =>
        have e : (if (0 : Int) ≠ 0 then (0 : Int) else if (a :: b :: r) = [] then 7 else if 1 < (a :: b :: r).length then 11 else 0) = 11 := by simp
        rw [e]
        refine VC.body Tryz.func85 rfl Tryz.ntmps85 Tryz.call85 (h.grows_refl) rfl ?_; conv => whnf
        repeat' (first | ((first | refine zs1 ?_ | refine zs2 ?_ | refine zs3 ?_ | refine zs4 ?_ | refine zs5 ?_ | refine zs6 [] ?_); conv => whnf) | ((first | apply zi1 | apply zi2 | apply zi3 | apply zi4 | apply zi5) <;> intro _ <;> conv => whnf) | (refine VCall.intro (c _) ?_; conv => whnf))
        all_goals first | (exact VOut.same rfl) | (exfalso; simp only [List.length_cons] at *; omega)
  · have c := fun h => vc_rMovers_no N h hn hm h0
    rw [if_pos h0, if_neg h0]
    generalize mvE N = E at c h0
    refine VC.body Tryz.func85 rfl Tryz.ntmps85 Tryz.call85 (h.grows_refl) rfl ?_; conv => whnf
    repeat' (first | ((first | refine zs1 ?_ | refine zs2 ?_ | refine zs3 ?_ | refine zs4 ?_ | refine zs5 ?_ | refine zs6 [] ?_); conv => whnf) | ((first | apply zi1 | apply zi2 | apply zi3 | apply zi4 | apply zi5) <;> intro _ <;> conv => whnf) | (refine VCall.intro (c _) ?_; conv => whnf))
    · exact VOut.same rfl
    · exfalso; omega
end Go.Proofs.YtdlnjnfkbneibaaGreat

open Go.Vm
open Clip (Pn Sg Nt Bd Rt Sp Co Pl NtOk chk chk_ok bnds bnds_sz bnds_len bnds_sq regS BdSz SpSz cmpR regS_sz)
namespace Go.Proofs.YtdlnjnfkbneibaaGreat
set_option maxRecDepth 20000
set_option maxHeartbeats 4000000

def crE (N : Nt) (p : Int) : Int := if brE N p ≠ 0 then brE N p else if regS (bnds N p) = [] then 8 else 0
def crS (N : Nt) (p : Int) : List Sp := if crE N p = 0 then regS (bnds N p) else []
theorem crE_ok {N : Nt} {p : Int} : crE N p = 0 ↔ brE N p = 0 ∧ regS (bnds N p) ≠ [] := by
  unfold crE
  split
  · rename_i h; exact ⟨fun e => absurd e h, fun e => absurd e.1 h⟩
  · rename_i h
    split
    · rename_i h2; exact ⟨fun e => by omega, fun e => absurd h2 e.2⟩
    · rename_i h2; exact ⟨fun _ => ⟨Classical.not_not.1 h, h2⟩, fun _ => rfl⟩
theorem vc_Corners (N : Nt) (p : Int) (h : Hp) (hn : N.ps.length ≤ 4000000) (hm : N.ss.length ≤ 4000000) : VC Tryz.prog 23 [vN N, I p] h (.tuple [sps (crS N p), I (crE N p)]) h := by
  have c := fun h => vc_begun N p h hn hm
  unfold crS crE
  by_cases h0 : brE N p = 0
  · have o := (brE_ok.1 h0).1
    have cB := fun h => vc_bounds N p h o
    have cR := fun h => vc_region (bnds N p) h (by have := bnds_len o p; omega) (bnds_sz o p)
    rw [h0] at c ⊢
    generalize bnds N p = bs at *
    generalize regS bs = S at *
    by_cases hS : S = []
    · subst hS
      refine VC.body Tryz.func23 rfl Tryz.ntmps23 Tryz.call23 (h.grows_refl) rfl ?_; conv => whnf
      repeat' (first | ((first | refine zs1 ?_ | refine zs2 ?_ | refine zs3 ?_ | refine zs4 ?_ | refine zs5 ?_ | refine zs6 [] ?_); conv => whnf) | ((first | apply zi1 | apply zi2 | apply zi3 | apply zi4 | apply zi5) <;> intro _ <;> conv => whnf) | (refine VCall.intro (c _) ?_; conv => whnf) | (refine VCall.intro (cB _) ?_; conv => whnf) | (refine VCall.intro (cR _) ?_; conv => whnf))
      all_goals first | (refine VOut.data 1 [] [] rfl zf (by exact FmAll.nil) zv
                         done) | (exfalso; simp only [List.length_nil] at *; omega)
    · have hl := List.length_pos_iff.2 hS
      have e : (if (0 : Int) ≠ 0 then (0 : Int) else if S = [] then 8 else 0) = 0 := by rw [if_neg (by decide), if_neg hS]
      rw [e, if_pos rfl]
      refine VC.body Tryz.func23 rfl Tryz.ntmps23 Tryz.call23 (h.grows_refl) rfl ?_; conv => whnf
      repeat' (first | ((first | refine zs1 ?_ | refine zs2 ?_ | refine zs3 ?_ | refine zs4 ?_ | refine zs5 ?_ | refine zs6 [] ?_); conv => whnf) | ((first | apply zi1 | apply zi2 | apply zi3 | apply zi4 | apply zi5) <;> intro _ <;> conv => whnf) | (refine VCall.intro (c _) ?_; conv => whnf) | (refine VCall.intro (cB _) ?_; conv => whnf) | (refine VCall.intro (cR _) ?_; conv => whnf))
      all_goals first | (exact VOut.same rfl) | (exfalso; omega)
  · rw [if_pos h0, if_neg h0]
    generalize brE N p = E at c h0
    refine VC.body Tryz.func23 rfl Tryz.ntmps23 Tryz.call23 (h.grows_refl) rfl ?_; conv => whnf
    repeat' (first | ((first | refine zs1 ?_ | refine zs2 ?_ | refine zs3 ?_ | refine zs4 ?_ | refine zs5 ?_ | refine zs6 [] ?_); conv => whnf) | ((first | apply zi1 | apply zi2 | apply zi3 | apply zi4 | apply zi5) <;> intro _ <;> conv => whnf) | (refine VCall.intro (c _) ?_; conv => whnf))
    all_goals first | (exfalso; omega) | (refine VOut.data 1 [] [] rfl zf (by exact FmAll.nil) zv
                                          done)
/-! ### The least and the greatest -/
def mnS (f : Sp → Rt) : Sp → List Sp → Sp
  | m, [] => m
  | m, s :: r => mnS f (if cmpR (f s) (f m) < 0 then s else m) r
def mxS (f : Sp → Rt) : Sp → List Sp → Sp
  | m, [] => m
  | m, s :: r => mxS f (if 0 < cmpR (f s) (f m) then s else m) r
theorem mnS_at {f : Sp → Rt} {m : Sp} {l : List Sp} {k : Nat} {s : Sp} (h : l[k]? = some s) : mnS f m (l.drop k) = mnS f (if cmpR (f s) (f m) < 0 then s else m) (l.drop (k + 1)) := by
  obtain ⟨hlt, rfl⟩ := List.getElem?_eq_some_iff.1 h
  rw [List.drop_eq_getElem_cons hlt, mnS]
theorem mxS_at {f : Sp → Rt} {m : Sp} {l : List Sp} {k : Nat} {s : Sp} (h : l[k]? = some s) : mxS f m (l.drop k) = mxS f (if 0 < cmpR (f s) (f m) then s else m) (l.drop (k + 1)) := by
  obtain ⟨hlt, rfl⟩ := List.getElem?_eq_some_iff.1 h
  rw [List.drop_eq_getElem_cons hlt, mxS]
theorem mnS_mem {f : Sp → Rt} : ∀ {l : List Sp} {m : Sp}, mnS f m l ∈ m :: l
  | [], m => by simp [mnS]
  | s :: r, m => by
    rw [mnS]
    have := mnS_mem (f := f) (l := r) (m := if cmpR (f s) (f m) < 0 then s else m)
    rcases List.mem_cons.1 this with h | h
    · rw [h]; split <;> simp
    · exact List.mem_cons_of_mem _ (List.mem_cons_of_mem _ h)
theorem mxS_mem {f : Sp → Rt} : ∀ {l : List Sp} {m : Sp}, mxS f m l ∈ m :: l
  | [], m => by simp [mxS]
  | s :: r, m => by
    rw [mxS]
    have := mxS_mem (f := f) (l := r) (m := if 0 < cmpR (f s) (f m) then s else m)
    rcases List.mem_cons.1 this with h | h
    · rw [h]; split <;> simp
    · exact List.mem_cons_of_mem _ (List.mem_cons_of_mem _ h)
theorem vc_MinF (g : FuncId) (f : Sp → Rt) (c : ∀ (s : Sp) (h : Hp), VC Tryz.prog g [vSp s] h (vRt (f s)) h) (s0 : Sp) (l : List Sp) (h : Hp) (hn : l.length ≤ 4000000) (hz : ∀ s ∈ s0 :: l, RtSz (f s)) : VC Tryz.prog 117 [sps (s0 :: l), .func (.func 118) [vE g] []] h (vSp (mnS f s0 l)) h := by
  obtain ⟨E, hE⟩ : ∃ E, E = mnS f s0 l := ⟨_, rfl⟩
  rw [← hE]
  have hE : E = mnS f s0 ((s0 :: l).drop 1) := hE
  obtain ⟨L, hL⟩ : ∃ L, L = s0 :: l := ⟨_, rfl⟩
  have h0 : L[0]? = some s0 := by rw [hL]; rfl
  have hs0 : s0 ∈ L := by rw [hL]; simp
  have hlen : L.length ≤ 5000000 ∧ 0 < L.length := by rw [hL, List.length_cons]; omega
  rw [← hL] at hz hE ⊢
  clear hL
  refine VC.body Tryz.func117 rfl Tryz.ntmps117 Tryz.call117 (h.grows_refl) rfl ?_; conv => whnf
  repeat' (first | ((first | refine zs1 ?_ | refine zs2 ?_ | refine zs3 ?_ | refine zs4 ?_ | refine zs5 ?_); conv => whnf) | ((first | apply zi1 | apply zi2 | apply zi3 | apply zi4 | apply zi5) <;> intro _ <;> conv => whnf) | (refine VAny.ix encSp_len 0 rfl rfl h0 ?_; conv => whnf))
  · exfalso; omega
  refine VCode.lp (fun y : Nat × Sp => [(0, sps L), (1, .func (.func 118) [vE g] []), (4, .ptr (.loc 0) 0), (5, .ptr (.loc 1) 0), (6, I y.1)]) (fun y => [.flat true [DI 0, DI 0, DI 0, DI 0], .flat true (encSp y.2)]) (fun y => (1 ≤ y.1 ∧ y.1 ≤ L.length) ∧ y.2 ∈ L ∧ E = mnS f y.2 (L.drop y.1)) (fun y => L.length - y.1) (1, s0) ⟨⟨Nat.le_refl _, hlen.2⟩, hs0, hE⟩ ?_ ?_
  · conv => whnf
    refine Retell.turn ⟨[0,1], 2, [], []⟩ (TurnOk.mk' _ _ [] [] (OutOk.lift _) rfl (by decide) zb trivial trivial rfl) zv zm
  · clear hE
    rintro ⟨k, m⟩ ⟨h1, h2, h3⟩
    dsimp only at h1 h2 h3
    conv => whnf
    refine VIte.dec (fun h5 => ?_) (fun h5 => ?_)
    · dsimp only at h5
      have hk : L[k]? = some L[k] := List.getElem?_eq_getElem (by omega)
      have hm := List.getElem_mem (l := L) (n := k) (by omega)
      rw [mnS_at hk] at h3
      generalize L[k] = s at hk hm h3
      have cc := fun h => vc_cmp g f c s m h (hz s hm) (hz m h2)
      generalize cmpR (f s) (f m) = C at cc h3
      conv => whnf
      repeat' (first | ((first | refine zs1 ?_ | refine zs2 ?_ | refine zs3 ?_ | refine zs4 ?_ | refine zs5 ?_); conv => whnf) | ((first | apply zi1 | apply zi2 | apply zi3 | apply zi4 | apply zi5) <;> intro _ <;> conv => whnf))
      refine zs6 [] ?_
      conv => whnf
      repeat' (first | ((first | refine zs1 ?_ | refine zs2 ?_ | refine zs3 ?_ | refine zs4 ?_ | refine zs5 ?_); conv => whnf) | ((first | apply zi1 | apply zi2 | apply zi3 | apply zi4 | apply zi5) <;> intro _ <;> conv => whnf) | (refine VAny.ix encSp_len k rfl rfl hk ?_; conv => whnf) | (refine VCall.intro (cc _) ?_; conv => whnf))
      · rename_i hc
        rw [if_pos hc] at h3
        refine LEnd.intro (k + 1, s) ⟨by dsimp only; omega, hm, h3⟩ (by dsimp only; omega) ?_
        conv => whnf
        refine Retell.turn ⟨[0,1], 2, [], []⟩ (TurnOk.mk' _ _ [] [] (OutOk.lift _) rfl (by decide) zb trivial trivial rfl) zv zm
      · rename_i hc
        rw [if_neg hc] at h3
        refine LEnd.intro (k + 1, m) ⟨by dsimp only; omega, h2, h3⟩ (by dsimp only; omega) ?_
        conv => whnf
        refine Retell.turn ⟨[0,1], 2, [], []⟩ (TurnOk.mk' _ _ [] [] (OutOk.lift _) rfl (by decide) zb trivial trivial rfl) zv zm
    · rw [List.drop_of_length_le (by dsimp only at h5; omega), mnS] at h3
      subst h3
      conv => whnf
      repeat' (first | ((first | refine zs1 ?_ | refine zs2 ?_ | refine zs3 ?_ | refine zs4 ?_ | refine zs5 ?_); conv => whnf) | ((first | apply zi1 | apply zi2 | apply zi3 | apply zi4 | apply zi5) <;> intro _ <;> conv => whnf))
      exact VOut.same rfl
theorem vc_MaxF (g : FuncId) (f : Sp → Rt) (c : ∀ (s : Sp) (h : Hp), VC Tryz.prog g [vSp s] h (vRt (f s)) h) (s0 : Sp) (l : List Sp) (h : Hp) (hn : l.length ≤ 4000000) (hz : ∀ s ∈ s0 :: l, RtSz (f s)) : VC Tryz.prog 119 [sps (s0 :: l), .func (.func 118) [vE g] []] h (vSp (mxS f s0 l)) h := by
  obtain ⟨E, hE⟩ : ∃ E, E = mxS f s0 l := ⟨_, rfl⟩
  rw [← hE]
  have hE : E = mxS f s0 ((s0 :: l).drop 1) := hE
  obtain ⟨L, hL⟩ : ∃ L, L = s0 :: l := ⟨_, rfl⟩
  have h0 : L[0]? = some s0 := by rw [hL]; rfl
  have hs0 : s0 ∈ L := by rw [hL]; simp
  have hlen : L.length ≤ 5000000 ∧ 0 < L.length := by rw [hL, List.length_cons]; omega
  rw [← hL] at hz hE ⊢
  clear hL
  refine VC.body Tryz.func119 rfl Tryz.ntmps119 Tryz.call119 (h.grows_refl) rfl ?_; conv => whnf
  repeat' (first | ((first | refine zs1 ?_ | refine zs2 ?_ | refine zs3 ?_ | refine zs4 ?_ | refine zs5 ?_); conv => whnf) | ((first | apply zi1 | apply zi2 | apply zi3 | apply zi4 | apply zi5) <;> intro _ <;> conv => whnf) | (refine VAny.ix encSp_len 0 rfl rfl h0 ?_; conv => whnf))
  · exfalso; omega
  refine VCode.lp (fun y : Nat × Sp => [(0, sps L), (1, .func (.func 118) [vE g] []), (4, .ptr (.loc 0) 0), (5, .ptr (.loc 1) 0), (6, I y.1)]) (fun y => [.flat true [DI 0, DI 0, DI 0, DI 0], .flat true (encSp y.2)]) (fun y => (1 ≤ y.1 ∧ y.1 ≤ L.length) ∧ y.2 ∈ L ∧ E = mxS f y.2 (L.drop y.1)) (fun y => L.length - y.1) (1, s0) ⟨⟨Nat.le_refl _, hlen.2⟩, hs0, hE⟩ ?_ ?_
  · conv => whnf
    refine Retell.turn ⟨[0,1], 2, [], []⟩ (TurnOk.mk' _ _ [] [] (OutOk.lift _) rfl (by decide) zb trivial trivial rfl) zv zm
  · clear hE
    rintro ⟨k, m⟩ ⟨h1, h2, h3⟩
    dsimp only at h1 h2 h3
    conv => whnf
    refine VIte.dec (fun h5 => ?_) (fun h5 => ?_)
    · dsimp only at h5
      have hk : L[k]? = some L[k] := List.getElem?_eq_getElem (by omega)
      have hm := List.getElem_mem (l := L) (n := k) (by omega)
      rw [mxS_at hk] at h3
      generalize L[k] = s at hk hm h3
      have cc := fun h => vc_cmp g f c s m h (hz s hm) (hz m h2)
      generalize cmpR (f s) (f m) = C at cc h3
      conv => whnf
      repeat' (first | ((first | refine zs1 ?_ | refine zs2 ?_ | refine zs3 ?_ | refine zs4 ?_ | refine zs5 ?_); conv => whnf) | ((first | apply zi1 | apply zi2 | apply zi3 | apply zi4 | apply zi5) <;> intro _ <;> conv => whnf))
      refine zs6 [] ?_
      conv => whnf
      repeat' (first | ((first | refine zs1 ?_ | refine zs2 ?_ | refine zs3 ?_ | refine zs4 ?_ | refine zs5 ?_); conv => whnf) | ((first | apply zi1 | apply zi2 | apply zi3 | apply zi4 | apply zi5) <;> intro _ <;> conv => whnf) | (refine VAny.ix encSp_len k rfl rfl hk ?_; conv => whnf) | (refine VCall.intro (cc _) ?_; conv => whnf))
      · rename_i hc
        rw [if_pos hc] at h3
        refine LEnd.intro (k + 1, s) ⟨by dsimp only; omega, hm, h3⟩ (by dsimp only; omega) ?_
        conv => whnf
        refine Retell.turn ⟨[0,1], 2, [], []⟩ (TurnOk.mk' _ _ [] [] (OutOk.lift _) rfl (by decide) zb trivial trivial rfl) zv zm
      · rename_i hc
        rw [if_neg hc] at h3
        refine LEnd.intro (k + 1, m) ⟨by dsimp only; omega, h2, h3⟩ (by dsimp only; omega) ?_
        conv => whnf
        refine Retell.turn ⟨[0,1], 2, [], []⟩ (TurnOk.mk' _ _ [] [] (OutOk.lift _) rfl (by decide) zb trivial trivial rfl) zv zm
    · rw [List.drop_of_length_le (by dsimp only at h5; omega), mxS] at h3
      subst h3
      conv => whnf
      repeat' (first | ((first | refine zs1 ?_ | refine zs2 ?_ | refine zs3 ?_ | refine zs4 ?_ | refine zs5 ?_); conv => whnf) | ((first | apply zi1 | apply zi2 | apply zi3 | apply zi4 | apply zi5) <;> intro _ <;> conv => whnf))
      exact VOut.same rfl
theorem vc_least (g : FuncId) (f : Sp → Rt) (c : ∀ (s : Sp) (h : Hp), VC Tryz.prog g [vSp s] h (vRt (f s)) h) (s0 : Sp) (l : List Sp) (h : Hp) (hn : l.length ≤ 4000000) (hz : ∀ s ∈ s0 :: l, RtSz (f s)) : VC Tryz.prog 72 [vE g, sps (s0 :: l)] h (vSp (mnS f s0 l)) h := by
  have cc := fun h => vc_MinF g f c s0 l h hn hz
  generalize mnS f s0 l = E at cc
  refine VC.body Tryz.func72 rfl Tryz.ntmps72 Tryz.call72 (h.grows_refl) rfl ?_; conv => whnf
  repeat' (first | ((first | refine zs1 ?_ | refine zs2 ?_ | refine zs3 ?_ | refine zs4 ?_ | refine zs5 ?_); conv => whnf) | ((first | apply zi1 | apply zi2 | apply zi3 | apply zi4 | apply zi5) <;> intro _ <;> conv => whnf) | (refine VCall.intro (cc _) ?_; conv => whnf))
  exact VOut.same rfl
theorem vc_greatest (g : FuncId) (f : Sp → Rt) (c : ∀ (s : Sp) (h : Hp), VC Tryz.prog g [vSp s] h (vRt (f s)) h) (s0 : Sp) (l : List Sp) (h : Hp) (hn : l.length ≤ 4000000) (hz : ∀ s ∈ s0 :: l, RtSz (f s)) : VC Tryz.prog 74 [vE g, sps (s0 :: l)] h (vSp (mxS f s0 l)) h := by
  have cc := fun h => vc_MaxF g f c s0 l h hn hz
  generalize mxS f s0 l = E at cc
  refine VC.body Tryz.func74 rfl Tryz.ntmps74 Tryz.call74 (h.grows_refl) rfl ?_; conv => whnf
  repeat' (first | ((first | refine zs1 ?_ | refine zs2 ?_ | refine zs3 ?_ | refine zs4 ?_ | refine zs5 ?_); conv => whnf) | ((first | apply zi1 | apply zi2 | apply zi3 | apply zi4 | apply zi5) <;> intro _ <;> conv => whnf) | (refine VCall.intro (cc _) ?_; conv => whnf))
  exact VOut.same rfl
def dnR (r : Rt) : Int := r.N.tdiv r.D
def upR (r : Rt) : Int := (r.N + r.D - 1).tdiv r.D
theorem vc_down (r : Rt) (h : Hp) (hr : RtSz r) : VC Tryz.prog 70 [vRt r] h (I (dnR r)) h := by
  obtain ⟨h1, h2⟩ := hr
  have w : IntKind.i64.wrap (r.N.tdiv r.D) = r.N.tdiv r.D := wrap_i64 (by have := Int.natAbs_tdiv_le_natAbs r.N r.D; omega)
  refine VC.body Tryz.func70 rfl Tryz.ntmps70 Tryz.call70 (h.grows_refl) rfl ?_; conv => whnf
  repeat' (first | ((first | refine zs1 ?_ | refine zs2 ?_ | refine zs3 ?_ | refine zs4 ?_ | refine zs5 ?_ | refine zs6 [] ?_); conv => whnf) | ((first | apply zi1 | apply zi2 | apply zi3 | apply zi4 | apply zi5) <;> intro _ <;> conv => whnf))
  all_goals first | (exfalso; omega) | (refine VOut.same ?_; show I (IntKind.i64.wrap _) = _; rw [w]; rfl)
theorem vc_up (r : Rt) (h : Hp) (hr : RtSz r) : VC Tryz.prog 73 [vRt r] h (I (upR r)) h := by
  obtain ⟨h1, h2⟩ := hr
  have w : IntKind.i64.wrap ((r.N + r.D - 1).tdiv r.D) = (r.N + r.D - 1).tdiv r.D := wrap_i64 (by have := Int.natAbs_tdiv_le_natAbs (r.N + r.D - 1) r.D; omega)
  refine VC.body Tryz.func73 rfl Tryz.ntmps73 Tryz.call73 (h.grows_refl) rfl ?_; conv => whnf
  repeat' (first | ((first | refine zs1 ?_ | refine zs2 ?_ | refine zs3 ?_ | refine zs4 ?_ | refine zs5 ?_ | refine zs6 [] ?_); conv => whnf) | ((first | apply zi1 | apply zi2 | apply zi3 | apply zi4 | apply zi5) <;> intro _ <;> conv => whnf))
  all_goals first | (exfalso; omega) | (refine VOut.same ?_; show I (IntKind.i64.wrap _) = _; rw [w]; rfl)
end Go.Proofs.YtdlnjnfkbneibaaGreat

open Go.Vm
open Clip (Pn Sg Nt Bd Rt Sp Co Pl NtOk chk chk_ok bnds bnds_sz bnds_len bnds_sq regS BdSz SpSz cmpR regS_sz)
namespace Go.Proofs.YtdlnjnfkbneibaaGreat
set_option maxRecDepth 20000
set_option maxHeartbeats 4000000

def vSpan (a : Int × Int) : V := .agg [I a.1, I a.2]
def bxV (f : Sp → Rt) : List Sp → Int × Int
  | [] => (0, 0)
  | s :: r => (dnR (f (mnS f s r)), upR (f (mxS f s r)))
theorem crS_ne {N : Nt} {p : Int} (h : crE N p ≠ 0) : crS N p = [] := by unfold crS; rw [if_neg h]
theorem crS_eq {N : Nt} {p : Int} (h : crE N p = 0) : crS N p = regS (bnds N p) ∧ regS (bnds N p) ≠ [] ∧ NtOk N := by
  refine ⟨by unfold crS; rw [if_pos h], (crE_ok.1 h).2, (brE_ok.1 (crE_ok.1 h).1).1⟩
theorem crS_sz {N : Nt} {p : Int} : ∀ s ∈ crS N p, SpSz s := by
  intro s hs
  unfold crS at hs
  split at hs
  · rename_i h
    exact regS_sz (bnds_sz (crS_eq h).2.2 p) hs
  · cases hs
theorem regS_len {N : Nt} {p : Int} (o : NtOk N) : (regS (bnds N p)).length ≤ 48 := by
  have h1 := Clip.cutsL_inv (bnds_sz o p) Clip.sqI_inv
  have h2 := bnds_len o p
  have e : regS (bnds N p) = Clip.turnS (Clip.ddS [] ((Clip.cutsL (bnds N p) Clip.sqI).map Co.s)) := by unfold regS Clip.regI; rw [Clip.cutsI_foldl]
  rw [e, Clip.turnS_len]
  have := Clip.ddS_len ((Clip.cutsL (bnds N p) Clip.sqI).map Co.s) []
  rw [List.length_map, List.length_nil] at this
  have e4 : Clip.sqI.length = 4 := rfl
  omega
theorem vc_Box (N : Nt) (p : Int) (h : Hp) (hn : N.ps.length ≤ 4000000) (hm : N.ss.length ≤ 4000000) : VC Tryz.prog 25 [vN N, I p] h (.tuple [vSpan (bxV Sp.X (crS N p)), vSpan (bxV Sp.Y (crS N p)), I (crE N p)]) h := by
  have c := fun h => vc_Corners N p h hn hm
  by_cases h0 : crE N p = 0
  · obtain ⟨e1, e2, o⟩ := crS_eq h0
    have hz := crS_sz (N := N) (p := p)
    have hl := regS_len (p := p) o
    rw [← e1] at e2 hl
    rw [h0] at c ⊢
    generalize crS N p = S at *
    cases S with
    | nil => exact absurd rfl e2
    | cons s r =>
      have zx : ∀ x ∈ s :: r, RtSz x.X := fun x hx => (hz x hx).rx
      have zy : ∀ x ∈ s :: r, RtSz x.Y := fun x hx => (hz x hx).ry
      have hr : r.length ≤ 4000000 := by rw [List.length_cons] at hl; omega
      have l1 := fun h => vc_least 116 Sp.X vc_east1 s r h hr zx
      have l2 := fun h => vc_greatest 116 Sp.X vc_east1 s r h hr zx
      have l3 := fun h => vc_least 120 Sp.Y vc_north1 s r h hr zy
      have l4 := fun h => vc_greatest 120 Sp.Y vc_north1 s r h hr zy
      have d1 := fun h => vc_down (mnS Sp.X s r).X h (zx _ mnS_mem)
      have d2 := fun h => vc_up (mxS Sp.X s r).X h (zx _ mxS_mem)
      have d3 := fun h => vc_down (mnS Sp.Y s r).Y h (zy _ mnS_mem)
      have d4 := fun h => vc_up (mxS Sp.Y s r).Y h (zy _ mxS_mem)
      unfold bxV
      dsimp only
      generalize mnS Sp.X s r = a1 at *
      generalize mxS Sp.X s r = a2 at *
      generalize mnS Sp.Y s r = a3 at *
      generalize mxS Sp.Y s r = a4 at *
      generalize dnR a1.X = b1 at *
      generalize upR a2.X = b2 at *
      generalize dnR a3.Y = b3 at *
      generalize upR a4.Y = b4 at *
      generalize s :: r = S at *
      refine VC.body Tryz.func25 rfl Tryz.ntmps25 Tryz.call25 (h.grows_refl) rfl ?_; conv => whnf
      repeat' (first | ((first | refine zs1 ?_ | refine zs2 ?_ | refine zs3 ?_ | refine zs4 ?_ | refine zs5 ?_); conv => whnf) | ((first | apply zi1 | apply zi2 | apply zi3 | apply zi4 | apply zi5) <;> intro _ <;> conv => whnf) | (refine VCall.intro (c _) ?_; conv => whnf) | (refine VCall.intro (vc_east _) ?_; conv => whnf) | (refine VCall.intro (vc_north _) ?_; conv => whnf) | (refine VCall.intro (l1 _) ?_; conv => whnf) | (refine VCall.intro (l2 _) ?_; conv => whnf) | (refine VCall.intro (l3 _) ?_; conv => whnf) | (refine VCall.intro (l4 _) ?_; conv => whnf) | (refine VCall.intro (d1 _) ?_; conv => whnf) | (refine VCall.intro (d2 _) ?_; conv => whnf) | (refine VCall.intro (d3 _) ?_; conv => whnf) | (refine VCall.intro (d4 _) ?_; conv => whnf))
      refine zs6 [(1, 2)] ?_
      conv => whnf
      repeat' (first | ((first | refine zs1 ?_ | refine zs2 ?_ | refine zs3 ?_ | refine zs4 ?_ | refine zs5 ?_); conv => whnf) | ((first | apply zi1 | apply zi2 | apply zi3 | apply zi4 | apply zi5) <;> intro _ <;> conv => whnf))
      exact VOut.same rfl
  · rw [crS_ne h0] at c ⊢
    generalize crE N p = E at c h0
    refine VC.body Tryz.func25 rfl Tryz.ntmps25 Tryz.call25 (h.grows_refl) rfl ?_; conv => whnf
    repeat' (first | ((first | refine zs1 ?_ | refine zs2 ?_ | refine zs3 ?_ | refine zs4 ?_ | refine zs5 ?_); conv => whnf) | ((first | apply zi1 | apply zi2 | apply zi3 | apply zi4 | apply zi5) <;> intro _ <;> conv => whnf) | (refine VCall.intro (c _) ?_; conv => whnf))
    · refine zs6 [(1, 3)] ?_
      conv => whnf
      repeat' (first | ((first | refine zs1 ?_ | refine zs2 ?_ | refine zs3 ?_ | refine zs4 ?_ | refine zs5 ?_); conv => whnf) | ((first | apply zi1 | apply zi2 | apply zi3 | apply zi4 | apply zi5) <;> intro _ <;> conv => whnf))
      exact VOut.same rfl
    · exfalso; omega
end Go.Proofs.YtdlnjnfkbneibaaGreat

open Go.Vm
open Clip (Pn Sg Nt Bd Rt Sp Co Pl NtOk chk chk_ok bnds bnds_sz bnds_len bnds_sq regS BdSz SpSz cmpR regS_sz okD okD_iff farS' farR rcStep rcS red)
namespace Go.Proofs.YtdlnjnfkbneibaaGreat
set_option maxRecDepth 20000
set_option maxHeartbeats 4000000

/-! ### How far a region reaches -/
structure FrSz (r : Rt) : Prop where
  n : -1000000000 ≤ r.N ∧ r.N ≤ 1000000000
  d : 1 ≤ r.D ∧ r.D ≤ 5000
theorem far_sz {bs : List Bd} {to : Pn} (hsq : ∀ b ∈ Clip.bsq, b ∈ bs) (hr : ∀ b ∈ bs, BdSz b) (ht : okD to = true) {s : Sp} (hs : s ∈ regS bs) : FrSz (farR to s) := by
  obtain ⟨_, a, ha, b, hb, hd, z1, z2⟩ := Clip.reg_corner hsq hr hs
  have ht := okD_iff.1 ht
  have hdet : Clip.det a.af b.af ≠ 0 := fun h => hd (Clip.det_zero.1 h)
  have e1 := Clip.meetP_uniq hdet z1 z2
  rw [← Clip.meetI_pt] at e1
  have hso := (regS_sz hr hs).ok
  have q1 := (Clip.farR_q (to := to) hso).1
  rw [e1] at q1
  have sz := Clip.meetI_sz (hr a ha) (hr b hb)
  have hx := Clip.mulb (x := to.x) (y := (Clip.meetI a b).x) (A := 50) (B := 10000000) ht.2.1 sz.1
  have hy := Clip.mulb (x := to.y) (y := (Clip.meetI a b).y) (A := 50) (B := 10000000) ht.2.2 sz.2.1
  generalize Clip.meetI a b = m at *
  have hd2 : s.X.D * s.Y.D ≠ 0 := Int.ne_of_gt (Int.mul_pos hso.x hso.y)
  have q2 : (red (to.x * m.x + to.y * m.y) m.d).q = (Clip.dirAf to).ev m.pt := by
    rw [Clip.red_q hd]
    have n1 := Clip.ne_cast hd
    unfold Clip.dirAf Clip.Af.ev Clip.Pl.pt
    simp only [Rat.intCast_add, Rat.intCast_mul]
    have h1 := Rat.div_mul_cancel (a := (m.x : Rat)) n1
    have h2 := Rat.div_mul_cancel (a := (m.y : Rat)) n1
    have h3 := Rat.div_mul_cancel (a := (to.x : Rat) * m.x + to.y * m.y) n1
    generalize (m.x : Rat) / m.d = P at *
    generalize (m.y : Rat) / m.d = Q at *
    generalize ((to.x : Rat) * m.x + to.y * m.y) / m.d = R at *
    have e : (R - (to.x * P + to.y * Q + 0)) * m.d = 0 := by grind
    rcases Rat.mul_eq_zero.1 e with h4 | h4
    · grind
    · exact absurd h4 n1
  have e : farR to s = red (to.x * m.x + to.y * m.y) m.d := by
    unfold farR at q1 ⊢
    exact Clip.red_uniq hd2 hd (q1.trans q2.symm)
  have := Clip.red_sz (n := to.x * m.x + to.y * m.y) (d := m.d) (N := 1000000000) (D := 5000) hd (by omega) (by omega)
  rw [e]
  exact ⟨this.1, this.2⟩
theorem far_bd {to : Pn} {s : Sp} (ht : okD to = true) (hs : SpSz s) : (-500000000 ≤ to.x * s.X.N ∧ to.x * s.X.N ≤ 500000000) ∧ (-500000000 ≤ to.y * s.Y.N ∧ to.y * s.Y.N ≤ 500000000) ∧ (-2500000000000 ≤ to.x * s.X.N * s.Y.D ∧ to.x * s.X.N * s.Y.D ≤ 2500000000000) ∧ (-2500000000000 ≤ to.y * s.Y.N * s.X.D ∧ to.y * s.Y.N * s.X.D ≤ 2500000000000) ∧ (-25000000 ≤ s.X.D * s.Y.D ∧ s.X.D * s.Y.D ≤ 25000000) ∧ s.X.D * s.Y.D ≠ 0 := by
  have ht := okD_iff.1 ht
  have xd := hs.xd
  have yd := hs.yd
  have h1 := Clip.mulb (x := to.x) (y := s.X.N) (A := 50) (B := 10000000) ht.2.1 hs.xn
  have h2 := Clip.mulb (x := to.y) (y := s.Y.N) (A := 50) (B := 10000000) ht.2.2 hs.yn
  have h3 := Clip.mulb (x := to.x * s.X.N) (y := s.Y.D) (A := 500000000) (B := 5000) (by omega) (by omega)
  have h4 := Clip.mulb (x := to.y * s.Y.N) (y := s.X.D) (A := 500000000) (B := 5000) (by omega) (by omega)
  have h5 := Clip.mulb (x := s.X.D) (y := s.Y.D) (A := 5000) (B := 5000) (by omega) (by omega)
  have h6 := Int.mul_pos (show 0 < s.X.D by omega) (show 0 < s.Y.D by omega)
  refine ⟨by omega, by omega, by omega, by omega, by omega, by omega⟩
def asE (N : Nt) (p : Int) (to : Pn) : Int := if brE N p ≠ 0 then brE N p else if okD to = true then (if regS (bnds N p) = [] then 8 else 0) else 4
theorem asE_ok {N : Nt} {p : Int} {to : Pn} : asE N p to = 0 ↔ brE N p = 0 ∧ okD to = true ∧ regS (bnds N p) ≠ [] := by
  unfold asE
  split
  · rename_i h; exact ⟨fun e => absurd e h, fun e => absurd e.1 h⟩
  · rename_i h
    split
    · rename_i ht
      split
      · rename_i h2; exact ⟨fun e => by omega, fun e => absurd h2 e.2.2⟩
      · rename_i h2; exact ⟨fun _ => ⟨Classical.not_not.1 h, ht, h2⟩, fun _ => rfl⟩
    · rename_i ht; exact ⟨fun e => by omega, fun e => absurd e.2.1 ht⟩
theorem vc_asked_ok (N : Nt) (p : Int) (to : Pn) (h : Hp) (h0 : asE N p to = 0) : VC Tryz.prog 76 [vN N, I p, vPn to] h (.tuple [.fp (encDk N p), bds (bnds N p), I 0]) h := by
  obtain ⟨b0, ht, hS⟩ := asE_ok.1 h0
  have o := (brE_ok.1 b0).1
  have hn := o.n
  have hm := o.m
  have c := fun h => vc_begun N p h (by omega) (by omega)
  have cT := fun h => vc_turned to h
  have cB := fun h => vc_bounds N p h o
  have cR := fun h => vc_region (bnds N p) h (by have := bnds_len o p; omega) (bnds_sz o p)
  have hl := List.length_pos_iff.2 hS
  rw [b0] at c
  rw [ht] at cT
  generalize bnds N p = bs at *
  generalize regS bs = S at *
  refine VC.body Tryz.func76 rfl Tryz.ntmps76 Tryz.call76 (h.grows_refl) rfl ?_; conv => whnf
  repeat' (first | ((first | refine zs1 ?_ | refine zs2 ?_ | refine zs3 ?_ | refine zs4 ?_ | refine zs5 ?_ | refine zs6 [] ?_); conv => whnf) | ((first | apply zi1 | apply zi2 | apply zi3 | apply zi4 | apply zi5) <;> intro _ <;> conv => whnf) | (refine VCall.intro (c _) ?_; conv => whnf) | (refine VCall.intro (cB _) ?_; conv => whnf) | (refine VCall.intro (cR _) ?_; conv => whnf) | (refine VCall.intro (cT _) ?_; conv => whnf))
  all_goals first | (exact VOut.same rfl) | (exfalso; omega)
theorem vc_asked_no (N : Nt) (p : Int) (to : Pn) (h : Hp) (hn : N.ps.length ≤ 4000000) (hm : N.ss.length ≤ 4000000) (h0 : asE N p to ≠ 0) : VC Tryz.prog 76 [vN N, I p, vPn to] h (.tuple [.nilptr, .nilslice, I (asE N p to)]) h := by
  have c := fun h => vc_begun N p h hn hm
  have cT := fun h => vc_turned to h
  by_cases b0 : brE N p = 0
  · have o := (brE_ok.1 b0).1
    rw [b0] at c
    cases ht : okD to
    · have e : asE N p to = 4 := by unfold asE; rw [if_neg (by omega), if_neg (by rw [ht]; decide)]
      rw [e]
      rw [ht] at cT
      refine VC.body Tryz.func76 rfl Tryz.ntmps76 Tryz.call76 (h.grows_refl) rfl ?_; conv => whnf
      repeat' (first | ((first | refine zs1 ?_ | refine zs2 ?_ | refine zs3 ?_ | refine zs4 ?_ | refine zs5 ?_ | refine zs6 [] ?_); conv => whnf) | ((first | apply zi1 | apply zi2 | apply zi3 | apply zi4 | apply zi5) <;> intro _ <;> conv => whnf) | (refine VCall.intro (c _) ?_; conv => whnf) | (refine VCall.intro (cT _) ?_; conv => whnf))
      all_goals first | (exact VOut.same rfl) | (exfalso; omega)
    · have hS : regS (bnds N p) = [] := Classical.byContradiction fun hS => h0 (asE_ok.2 ⟨b0, ht, hS⟩)
      have e : asE N p to = 8 := by unfold asE; rw [if_neg (by omega), if_pos ht, if_pos hS]
      have cB := fun h => vc_bounds N p h o
      have cR := fun h => vc_region (bnds N p) h (by have := bnds_len o p; omega) (bnds_sz o p)
      rw [hS] at cR
      rw [ht] at cT
      rw [e]
      generalize bnds N p = bs at *
      refine VC.body Tryz.func76 rfl Tryz.ntmps76 Tryz.call76 (h.grows_refl) rfl ?_; conv => whnf
      repeat' (first | ((first | refine zs1 ?_ | refine zs2 ?_ | refine zs3 ?_ | refine zs4 ?_ | refine zs5 ?_ | refine zs6 [] ?_); conv => whnf) | ((first | apply zi1 | apply zi2 | apply zi3 | apply zi4 | apply zi5) <;> intro _ <;> conv => whnf) | (refine VCall.intro (c _) ?_; conv => whnf) | (refine VCall.intro (cB _) ?_; conv => whnf) | (refine VCall.intro (cR _) ?_; conv => whnf) | (refine VCall.intro (cT _) ?_; conv => whnf))
      all_goals first | (exact VOut.same rfl) | (exfalso; omega)
  · have e : asE N p to = brE N p := by unfold asE; rw [if_pos b0]
    rw [e]
    generalize brE N p = E at *
    refine VC.body Tryz.func76 rfl Tryz.ntmps76 Tryz.call76 (h.grows_refl) rfl ?_; conv => whnf
    repeat' (first | ((first | refine zs1 ?_ | refine zs2 ?_ | refine zs3 ?_ | refine zs4 ?_ | refine zs5 ?_ | refine zs6 [] ?_); conv => whnf) | ((first | apply zi1 | apply zi2 | apply zi3 | apply zi4 | apply zi5) <;> intro _ <;> conv => whnf) | (refine VCall.intro (c _) ?_; conv => whnf))
    all_goals first | (exact VOut.same rfl) | (exfalso; omega)
def rcV (N : Nt) (p : Int) (to : Pn) : Rt := if asE N p to = 0 then rcS to ⟨0, 0⟩ (regS (bnds N p)) else ⟨0, 0⟩
theorem rcS_at {to : Pn} {r : Rt} {l : List Sp} {k : Nat} {s : Sp} (h : l[k]? = some s) : rcS to r (l.drop k) = rcS to (rcStep to r s) (l.drop (k + 1)) := by
  obtain ⟨hlt, rfl⟩ := List.getElem?_eq_some_iff.1 h
  rw [List.drop_eq_getElem_cons hlt, rcS]
theorem vc_Reach (N : Nt) (p : Int) (to : Pn) (h : Hp) (hn : N.ps.length ≤ 4000000) (hm : N.ss.length ≤ 4000000) : VC Tryz.prog 27 [vN N, I p, vPn to] h (.tuple [vRt (rcV N p to), I (asE N p to)]) h := by
  unfold rcV
  by_cases h0 : asE N p to = 0
  · obtain ⟨b0, ht, hS⟩ := asE_ok.1 h0
    have o := (brE_ok.1 b0).1
    have c := fun h => vc_asked_ok N p to h h0
    have cR := fun h => vc_region (bnds N p) h (by have := bnds_len o p; omega) (bnds_sz o p)
    have hl := regS_len (p := p) o
    have hz : ∀ s ∈ regS (bnds N p), SpSz s := fun s hs => regS_sz (bnds_sz o p) hs
    have hf : ∀ s ∈ regS (bnds N p), FrSz (farR to s) := fun s hs => far_sz (bnds_sq N p) (bnds_sz o p) ht hs
    rw [if_pos h0, h0]
    obtain ⟨E, hE⟩ : ∃ E, E = rcS to ⟨0, 0⟩ (regS (bnds N p)) := ⟨_, rfl⟩
    rw [← hE]
    generalize bnds N p = bs at *
    generalize regS bs = S at *
    have hE : E = rcS to ⟨0, 0⟩ (S.drop 0) := hE
    refine VC.body Tryz.func27 rfl Tryz.ntmps27 Tryz.call27 (h.grows_refl) rfl ?_; conv => whnf
    repeat' (first | ((first | refine zs1 ?_ | refine zs2 ?_ | refine zs3 ?_ | refine zs4 ?_ | refine zs5 ?_ | refine zs6 [] ?_); conv => whnf) | ((first | apply zi1 | apply zi2 | apply zi3 | apply zi4 | apply zi5) <;> intro _ <;> conv => whnf) | (refine VCall.intro (c _) ?_; conv => whnf) | (refine VCall.intro (cR _) ?_; conv => whnf))
    refine VCode.lp (fun y : Nat × Rt => [(5, .fp (encPn to)), (6, .ptr (.loc 0) 0), (7, I 0), (11, .ptr (.loc 1) 0), (28, sps S), (29, I S.length), (30, I y.1)]) (fun y => [.flat true [DI 0, DI 0], .flat true [DI y.2.N, DI y.2.D]]) (fun y => y.1 ≤ S.length ∧ ((-1000000000 ≤ y.2.N ∧ y.2.N ≤ 1000000000) ∧ (0 ≤ y.2.D ∧ y.2.D ≤ 5000)) ∧ E = rcS to y.2 (S.drop y.1)) (fun y => S.length - y.1) (0, ⟨0, 0⟩) ⟨Nat.zero_le _, by dsimp only; omega, hE⟩ ?_ ?_
    · conv => whnf
      refine Retell.turn ⟨[2,3], 4, [(1, encPn to)], []⟩ (TurnOk.mk' _ _ [(1, encPn to)] [] (OutOk.lift _) rfl (by decide) zb zf trivial rfl) zv zm
    · clear hE
      rintro ⟨k, r⟩ ⟨h1, h2, h3⟩
      dsimp only at h1 h2 h3
      conv => whnf
      refine VIte.dec (fun h5 => ?_) (fun h5 => ?_)
      · dsimp only at h5
        have hk : S[k]? = some S[k] := List.getElem?_eq_getElem (by omega)
        have sz := hz S[k] (List.getElem_mem (by omega))
        have sf := hf S[k] (List.getElem_mem (by omega))
        rw [rcS_at hk] at h3
        generalize S[k] = s at hk sz sf h3
        obtain ⟨z1, z2, z3, z4, z5, z6⟩ := far_bd ht sz
        have cQ := fun h => vc_ratio (farS' to s) (s.X.D * s.Y.D) h z6 (by omega) (by unfold farS'; omega)
        have eF : red (farS' to s) (s.X.D * s.Y.D) = farR to s := rfl
        rw [eF] at cQ
        unfold farS' at cQ
        unfold rcStep at h3
        generalize farR to s = f at *
        have m1 := Clip.mulb (x := f.N) (y := r.D) (A := 1000000000) (B := 5000) sf.n (by omega)
        have m2 := Clip.mulb (x := r.N) (y := f.D) (A := 1000000000) (B := 5000) h2.1 (by have := sf.d; omega)
        have sfn := sf.n
        have sfd := sf.d
        conv => whnf
        repeat' (first | ((first | refine zs1 ?_ | refine zs2 ?_ | refine zs3 ?_ | refine zs4 ?_ | refine zs5 ?_ | refine zs6 [] ?_); conv => whnf) | ((first | apply zi1 | apply zi2 | apply zi3 | apply zi4 | apply zi5) <;> intro _ <;> conv => whnf) | (refine VAny.ix encSp_len k rfl rfl hk ?_; conv => whnf) | (refine VCall.intro (cQ _) ?_; conv => whnf))
        · rename_i hD
          dsimp only at hD
          rw [if_pos (.inl hD)] at h3
          refine LEnd.intro (k + 1, f) ⟨by dsimp only; omega, by dsimp only; omega, h3⟩ (by dsimp only; omega) ?_
          conv => whnf
          refine Retell.turn ⟨[0,1], 4, [], []⟩ (TurnOk.mk' _ _ [] [] (OutOk.lift _) rfl (by decide) zb trivial trivial rfl) zv zm
        · rename_i hD hC
          dsimp only at hD hC
          rw [if_pos (.inr hC)] at h3
          refine LEnd.intro (k + 1, f) ⟨by dsimp only; omega, by dsimp only; omega, h3⟩ (by dsimp only; omega) ?_
          conv => whnf
          refine Retell.turn ⟨[0,1], 4, [], []⟩ (TurnOk.mk' _ _ [] [] (OutOk.lift _) rfl (by decide) zb trivial trivial rfl) zv zm
        · rename_i hD hC
          dsimp only at hD hC
          rw [if_neg (by omega)] at h3
          refine LEnd.intro (k + 1, r) ⟨by dsimp only; omega, by dsimp only; omega, h3⟩ (by dsimp only; omega) ?_
          conv => whnf
          refine Retell.turn ⟨[0,1], 4, [], []⟩ (TurnOk.mk' _ _ [] [] (OutOk.lift _) rfl (by decide) zb trivial trivial rfl) zv zm
      · rw [List.drop_of_length_le (by dsimp only at h5; omega), rcS] at h3
        subst h3
        conv => whnf
        repeat' (first | ((first | refine zs1 ?_ | refine zs2 ?_ | refine zs3 ?_ | refine zs4 ?_ | refine zs5 ?_ | refine zs6 [] ?_); conv => whnf) | ((first | apply zi1 | apply zi2 | apply zi3 | apply zi4 | apply zi5) <;> intro _ <;> conv => whnf))
        exact VOut.same rfl
  · have c := fun h => vc_asked_no N p to h hn hm h0
    rw [if_neg h0]
    generalize asE N p to = E at *
    refine VC.body Tryz.func27 rfl Tryz.ntmps27 Tryz.call27 (h.grows_refl) rfl ?_; conv => whnf
    repeat' (first | ((first | refine zs1 ?_ | refine zs2 ?_ | refine zs3 ?_ | refine zs4 ?_ | refine zs5 ?_ | refine zs6 [] ?_); conv => whnf) | ((first | apply zi1 | apply zi2 | apply zi3 | apply zi4 | apply zi5) <;> intro _ <;> conv => whnf) | (refine VCall.intro (c _) ?_; conv => whnf))
    all_goals first | (exact VOut.same rfl) | (exfalso; omega)
end Go.Proofs.YtdlnjnfkbneibaaGreat

open Go.Vm
open Clip (Pn Sg Nt Bd Rt Sp Co Pl NtOk chk chk_ok bnds bnds_sz bnds_len bnds_sq regS BdSz SpSz okD okD_iff red)
namespace Go.Proofs.YtdlnjnfkbneibaaGreat
set_option maxRecDepth 20000
set_option maxHeartbeats 4000000

/-! ### Proofs -/
structure Pf where
  bs : List Int
  ws : List Int
  t : Int
def encPf (p : Pf) : List D := [dints p.bs, dints p.ws, DI p.t]
def vPf (p : Pf) : V := .agg [ints p.bs, ints p.ws, I p.t]
def dBds (l : List Bd) : D := .sl 3 l.length (l.flatMap encBd)
def sumG : Bd → List Int → List Bd → Bd
  | s, w :: ws, b :: bs => sumG ⟨s.A + w * b.A, s.B + w * b.B, s.C + w * b.C⟩ ws bs
  | s, _, _ => s
theorem sumG_at {s : Bd} {ws : List Int} {bs : List Bd} {k : Nat} {w : Int} {b : Bd} (hw : ws[k]? = some w) (hb : bs[k]? = some b) : sumG s (ws.drop k) (bs.drop k) = sumG ⟨s.A + w * b.A, s.B + w * b.B, s.C + w * b.C⟩ (ws.drop (k + 1)) (bs.drop (k + 1)) := by
  obtain ⟨h1, rfl⟩ := List.getElem?_eq_some_iff.1 hw
  obtain ⟨h2, rfl⟩ := List.getElem?_eq_some_iff.1 hb
  rw [List.drop_eq_getElem_cons h1, List.drop_eq_getElem_cons h2, sumG]
theorem vc_sum (ws : List Int) (bs : List Bd) (h : Hp) (hl : ws.length = bs.length) (hn : bs.length ≤ 1000) (hw : ∀ w ∈ ws, -1000000 ≤ w ∧ w ≤ 1000000) (hb : ∀ b ∈ bs, BdSz b) : VC Tryz.prog 103 [ints ws, bds bs] h (vBd (sumG ⟨0, 0, 0⟩ ws bs)) h := by
  obtain ⟨E, hE⟩ : ∃ E, E = sumG ⟨0, 0, 0⟩ ws bs := ⟨_, rfl⟩
  rw [← hE]
  have hE : E = sumG ⟨0, 0, 0⟩ (ws.drop 0) (bs.drop 0) := hE
  refine VC.body Tryz.func103 rfl Tryz.ntmps103 Tryz.call103 (h.grows_refl) rfl ?_; conv => whnf
  repeat' (first | ((first | refine zs1 ?_ | refine zs2 ?_ | refine zs3 ?_ | refine zs4 ?_ | refine zs5 ?_ | refine zs6 [] ?_); conv => whnf) | ((first | apply zi1 | apply zi2 | apply zi3 | apply zi4 | apply zi5) <;> intro _ <;> conv => whnf))
  refine VCode.lp (fun y : Nat × Bd => [(0, ints ws), (4, .ptr (.loc 0) 0), (5, .ptr (.loc 1) 0), (9, bds bs), (10, I bs.length), (11, I y.1)]) (fun y => [.flat true [DI 0, DI 0, DI 0], .flat true (encBd y.2)]) (fun y => y.1 ≤ bs.length ∧ ((-100000000 * (y.1 : Int) ≤ y.2.A ∧ y.2.A ≤ 100000000 * (y.1 : Int)) ∧ (-100000000 * (y.1 : Int) ≤ y.2.B ∧ y.2.B ≤ 100000000 * (y.1 : Int)) ∧ (-100000000000 * (y.1 : Int) ≤ y.2.C ∧ y.2.C ≤ 100000000000 * (y.1 : Int))) ∧ E = sumG y.2 (ws.drop y.1) (bs.drop y.1)) (fun y => bs.length - y.1) (0, ⟨0, 0, 0⟩) ⟨Nat.zero_le _, by dsimp only; omega, hE⟩ ?_ ?_
  · conv => whnf
    refine Retell.turn ⟨[0,1], 2, [], []⟩ (TurnOk.mk' _ _ [] [] (OutOk.lift _) rfl (by decide) zb trivial trivial rfl) zv zm
  · clear hE
    rintro ⟨k, s⟩ ⟨h1, h2, h3⟩
    dsimp only at h1 h2 h3
    conv => whnf
    refine VIte.dec (fun h5 => ?_) (fun h5 => ?_)
    · dsimp only at h5
      have hk : bs[k]? = some bs[k] := List.getElem?_eq_getElem (by omega)
      have hv : ws[k]? = some (ws[k]'(by omega)) := List.getElem?_eq_getElem _
      have sb := hb bs[k] (List.getElem_mem (by omega))
      have sw := hw (ws[k]'(by omega)) (List.getElem_mem (by omega))
      rw [sumG_at hv hk] at h3
      generalize bs[k] = b at *
      generalize ws[k]'(by omega) = w at *
      have m1 := Clip.mulb (x := w) (y := b.A) (A := 1000000) (B := 50) sw sb.a
      have m2 := Clip.mulb (x := w) (y := b.B) (A := 1000000) (B := 50) sw sb.b'
      have m3 := Clip.mulb (x := w) (y := b.C) (A := 1000000) (B := 100000) sw sb.c
      conv => whnf
      repeat' (first | ((first | refine zs1 ?_ | refine zs2 ?_ | refine zs3 ?_ | refine zs4 ?_ | refine zs5 ?_ | refine zs6 [] ?_); conv => whnf) | ((first | apply zi1 | apply zi2 | apply zi3 | apply zi4 | apply zi5) <;> intro _ <;> conv => whnf) | (refine VAny.ix encBd_len k rfl rfl hk ?_; conv => whnf) | (refine VAny.ix encI_len k rfl rfl hv ?_; conv => whnf))
      refine LEnd.intro (k + 1, (⟨s.A + w * b.A, s.B + w * b.B, s.C + w * b.C⟩ : Bd)) ⟨by dsimp only; omega, by dsimp only; omega, h3⟩ (by dsimp only; omega) ?_
      conv => whnf
      refine Retell.turn ⟨[0,1], 3, [], []⟩ (TurnOk.mk' _ _ [] [] (OutOk.lift _) rfl (by decide) zb trivial trivial rfl) zv zm
    · rw [List.drop_of_length_le (by dsimp only at h5; omega), List.drop_of_length_le (by dsimp only at h5; omega), show sumG s [] [] = s from rfl] at h3
      subst h3
      conv => whnf
      repeat' (first | ((first | refine zs1 ?_ | refine zs2 ?_ | refine zs3 ?_ | refine zs4 ?_ | refine zs5 ?_ | refine zs6 [] ?_); conv => whnf) | ((first | apply zi1 | apply zi2 | apply zi3 | apply zi4 | apply zi5) <;> intro _ <;> conv => whnf))
      exact VOut.same rfl
def bAt (l : List Bd) (i : Int) : Bd := l.getD i.toNat ⟨0, 0, 0⟩
def totB (l : List Bd) (p : Pf) : Bd := sumG ⟨0, 0, 0⟩ p.ws (p.bs.map (bAt l))
def w01 (n : Int) : Bool := decide (0 ≤ n ∧ n ≤ 1000000)
def incB : List Int → Bool
  | a :: b :: r => decide (a < b) && incB (b :: r)
  | _ => true
theorem incB_at {l : List Int} {k : Nat} {a b : Int} (ha : l[k]? = some a) (hb : l[k + 1]? = some b) : incB (l.drop k) = (decide (a < b) && incB (l.drop (k + 1))) := by
  obtain ⟨h1, rfl⟩ := List.getElem?_eq_some_iff.1 ha
  obtain ⟨h2, rfl⟩ := List.getElem?_eq_some_iff.1 hb
  rw [List.drop_eq_getElem_cons h1, List.drop_eq_getElem_cons h2, incB]
theorem incB_end {l : List Int} {k : Nat} (h : l.length ≤ k + 1) : incB (l.drop k) = true := by
  rcases Nat.lt_or_ge k l.length with h1 | h1
  · rw [List.drop_eq_getElem_cons h1, List.drop_of_length_le h, incB]; simp
  · rw [List.drop_of_length_le h1, incB]; simp
def rgE (p : Pf) (n : Int) : Int := if ¬ (1 ≤ p.bs.length ∧ p.bs.length ≤ 3) ∨ p.ws.length ≠ p.bs.length then 3 else if p.bs.all (fun i => decide (0 ≤ i ∧ i ≤ n - 1)) = true then (if incB p.bs = true then (if p.ws.all w01 = true ∧ w01 p.t = true then 0 else 4) else 5) else 2
structure RgOk (p : Pf) (n : Int) : Prop where
  l : 1 ≤ p.bs.length ∧ p.bs.length ≤ 3
  m : p.ws.length = p.bs.length
  i : ∀ i ∈ p.bs, 0 ≤ i ∧ i ≤ n - 1
  o : incB p.bs = true
  w : ∀ w ∈ p.ws, 0 ≤ w ∧ w ≤ 1000000
  t : 0 ≤ p.t ∧ p.t ≤ 1000000
theorem rgE_ok {p : Pf} {n : Int} : rgE p n = 0 ↔ RgOk p n := by
  unfold rgE
  constructor
  · intro h
    split at h
    · omega
    · rename_i h1
      split at h
      · rename_i h2
        split at h
        · rename_i h3
          split at h
          · rename_i h4
            refine ⟨by omega, by omega, fun i hi => ?_, h3, fun w hw => ?_, ?_⟩
            · have := List.all_eq_true.1 h2 i hi; rwa [decide_eq_true_eq] at this
            · have := List.all_eq_true.1 h4.1 w hw; unfold w01 at this; rwa [decide_eq_true_eq] at this
            · have := h4.2; unfold w01 at this; rwa [decide_eq_true_eq] at this
          · omega
        · omega
      · omega
  · rintro ⟨a, b, c, d, e, f⟩
    rw [if_neg (by omega), if_pos (List.all_eq_true.2 fun i hi => by rw [decide_eq_true_eq]; exact c i hi), if_pos d, if_pos ⟨List.all_eq_true.2 fun w hw => by unfold w01; rw [decide_eq_true_eq]; exact e w hw, by unfold w01; rw [decide_eq_true_eq]; exact f⟩]
theorem map_at {l : List Int} {bs : List Bd} {k : Nat} {i : Int} (h : l[k]? = some i) : (l.take (k + 1)).map (bAt bs) = (l.take k).map (bAt bs) ++ [bAt bs i] := by
  rw [List.take_add_one, h, List.map_append]; rfl
theorem bAt_get {bs : List Bd} {i : Int} {b : Bd} (h : bs[i.toNat]? = some b) : bAt bs i = b := by unfold bAt; rw [List.getD_eq_getElem?_getD, h]; rfl
theorem vc_total (p : Pf) (l : List Bd) (h : Hp) (hp : RgOk p l.length) (hb : ∀ b ∈ l, BdSz b) : VC Tryz.prog 54 [vPf p, bds l] h (vBd (totB l p)) h := by
  have hs := fun h => vc_sum p.ws (p.bs.map (bAt l)) h (by rw [List.length_map]; exact hp.m) (by rw [List.length_map]; have := hp.l; omega) (fun w hw => by have := hp.w w hw; omega) (fun b hb' => by
    obtain ⟨i, hi, rfl⟩ := List.mem_map.1 hb'
    have := hp.i i hi
    have hk : l[i.toNat]? = some (l[i.toNat]'(by omega)) := List.getElem?_eq_getElem _
    rw [bAt_get hk]; exact hb _ (List.getElem_mem _))
  obtain ⟨E, hE⟩ : ∃ E, E = totB l p := ⟨_, rfl⟩
  have e : sumG ⟨0, 0, 0⟩ p.ws (p.bs.map (bAt l)) = E := hE.symm
  rw [← hE]
  rw [e] at hs
  have hpl := hp.l
  refine VC.body Tryz.func54 rfl Tryz.ntmps54 Tryz.call54 (h.grows_refl) rfl ?_; conv => whnf
  repeat' (first | ((first | refine zs1 ?_ | refine zs2 ?_ | refine zs3 ?_ | refine zs4 ?_ | refine zs5 ?_ | refine zs6 [] ?_); conv => whnf) | ((first | apply zi1 | apply zi2 | apply zi3 | apply zi4 | apply zi5) <;> intro _ <;> conv => whnf))
  refine VCode.lp (fun y : Nat => [(1, bds l), (2, .fp (encPf p)), (4, .ptr (.loc 0) 0), (5, .gl (.loc 1) 3 ((p.bs.take y).map (bAt l)).length), (9, ints p.bs), (10, I p.bs.length), (11, I y)]) (fun y => [.flat true [DI 0, DI 0, DI 0], .flat true (((p.bs.take y).map (bAt l)).flatMap encBd)]) (fun y => y ≤ p.bs.length) (fun y => p.bs.length - y) 0 (Nat.zero_le _) ?_ ?_
  · conv => whnf
    refine Retell.turn ⟨[1,2], 2, [(0, encPf p)], []⟩ (TurnOk.mk' _ _ [(0, encPf p)] [] (OutOk.lift _) rfl (by decide) zb zf trivial rfl) zv zm
  · intro k h1
    conv => whnf
    refine VIte.dec (fun h5 => ?_) (fun h5 => ?_)
    · have hk : p.bs[k]? = some p.bs[k] := List.getElem?_eq_getElem (by omega)
      have hi := hp.i p.bs[k] (List.getElem_mem (by omega))
      have hm := map_at (bs := l) hk
      generalize p.bs[k] = i at hk hi hm
      have hbk : l[i.toNat]? = some (l[i.toNat]'(by omega)) := List.getElem?_eq_getElem _
      rw [bAt_get hbk] at hm
      generalize l[i.toNat]'(by omega) = b at hbk hm
      have hlen : ((p.bs.take k).map (bAt l)).length = k := by rw [List.length_map, List.length_take]; omega
      generalize (p.bs.take k).map (bAt l) = W at hm hlen
      conv => whnf
      repeat' (first | ((first | refine zs1 ?_ | refine zs2 ?_ | refine zs3 ?_ | refine zs4 ?_ | refine zs5 ?_ | refine zs6 [] ?_); conv => whnf) | ((first | apply zi1 | apply zi2 | apply zi3 | apply zi4 | apply zi5) <;> intro _ <;> conv => whnf) | (refine VAny.ix encI_len k rfl rfl hk ?_; conv => whnf) | (refine VAny.ix encBd_len i.toNat (by omega) rfl hbk ?_; conv => whnf))
      refine VMem.app1 (l := W) b encBd_len rfl rfl rfl rfl rfl (by omega) ?_
      conv => whnf
      repeat' (first | ((first | refine zs1 ?_ | refine zs2 ?_ | refine zs3 ?_ | refine zs4 ?_ | refine zs5 ?_ | refine zs6 [] ?_); conv => whnf) | ((first | apply zi1 | apply zi2 | apply zi3 | apply zi4 | apply zi5) <;> intro _ <;> conv => whnf))
      refine LEnd.intro (k + 1) (by omega) (by omega) ?_
      rw [hm]
      conv => whnf
      rw [List.length_append]
      refine Retell.turn ⟨[0,3], 4, [], []⟩ (TurnOk.mk' _ _ [] [] (OutOk.lift _) rfl (by decide) zb trivial trivial rfl) zv zm
    · have hk2 : k = p.bs.length := by omega
      subst hk2
      rw [List.take_length]
      conv => whnf
      repeat' (first | ((first | refine zs1 ?_ | refine zs2 ?_ | refine zs3 ?_ | refine zs4 ?_ | refine zs5 ?_ | refine zs6 [] ?_); conv => whnf) | ((first | apply zi1 | apply zi2 | apply zi3 | apply zi4 | apply zi5) <;> intro _ <;> conv => whnf))
      generalize p.bs.map (bAt l) = W at hs
      refine VCall.intro (VC.give (args' := [ints p.ws, bds W]) (loc' := [.flat true [DI 0, DI 0, DI 0], .dead]) [(1, W.flatMap encBd)] [] (OutOk.lift _) zb zf (by exact FmAll.nil) rfl zv (hs _)) ?_
      conv => whnf
      repeat' (first | ((first | refine zs1 ?_ | refine zs2 ?_ | refine zs3 ?_ | refine zs4 ?_ | refine zs5 ?_ | refine zs6 [] ?_); conv => whnf) | ((first | apply zi1 | apply zi2 | apply zi3 | apply zi4 | apply zi5) <;> intro _ <;> conv => whnf))
      exact VOut.same rfl
theorem vc_rg1 (n : Int) (h : Hp) : VC Tryz.prog 100 ([I n] ++ D.vs []) h (B (w01 n)) h := by
  have c := fun h => vc_from n 0 1000000 h
  refine VC.body Tryz.func100 rfl Tryz.ntmps100 Tryz.call100 (h.grows_refl) rfl ?_; conv => whnf
  repeat' (first | ((first | refine zs1 ?_ | refine zs2 ?_ | refine zs3 ?_ | refine zs4 ?_ | refine zs5 ?_ | refine zs6 [] ?_); conv => whnf) | ((first | apply zi1 | apply zi2 | apply zi3 | apply zi4 | apply zi5) <;> intro _ <;> conv => whnf) | (refine VCall.intro (c _) ?_; conv => whnf))
  exact VOut.same rfl
theorem vc_rg2 (n : Int) (l : List Bd) (h : Hp) (hn : l.length ≤ 4000000) : VC Tryz.prog 102 ([I n] ++ D.vs [.pt [dBds l]]) h (B (decide (0 ≤ n ∧ n ≤ (l.length : Int) - 1))) h := by
  have c := fun h => vc_from n 0 ((l.length : Int) - 1) h
  refine VC.body Tryz.func102 rfl Tryz.ntmps102 Tryz.call102 (h.grows_refl) rfl ?_; conv => whnf
  repeat' (first | ((first | refine zs1 ?_ | refine zs2 ?_ | refine zs3 ?_ | refine zs4 ?_ | refine zs5 ?_ | refine zs6 [] ?_); conv => whnf) | ((first | apply zi1 | apply zi2 | apply zi3 | apply zi4 | apply zi5) <;> intro _ <;> conv => whnf) | (refine VCall.intro (c _) ?_; conv => whnf))
  exact VOut.same rfl
theorem vc_right (p : Pf) (l : List Bd) (h : Hp) (hn : l.length ≤ 4000000) (hb : p.bs.length ≤ 4000000) (hw : p.ws.length ≤ 4000000) : VC Tryz.prog 53 [vPf p, bds l] h (I (rgE p l.length)) h := by
  have cI := fun h => vc_allI1c p.bs (fun i => decide (0 ≤ i ∧ i ≤ (l.length : Int) - 1)) 102 [dBds l] hb (fun e he h => vc_rg2 e l h hn) h
  have cW := fun h => vc_allI0 p.ws w01 100 hw (fun e he h => vc_rg1 e h) h
  have cT := fun h => vc_rg1 p.t h
  obtain ⟨E, hE⟩ : ∃ E, E = rgE p l.length := ⟨_, rfl⟩
  rw [← hE]
  unfold rgE at hE
  generalize p.bs.all (fun i => decide (0 ≤ i ∧ i ≤ (l.length : Int) - 1)) = A at *
  generalize p.ws.all w01 = W at *
  generalize w01 p.t = T at *
  obtain ⟨O, hO⟩ : ∃ O, O = incB p.bs := ⟨_, rfl⟩
  rw [← hO] at hE
  have hO : O = incB (p.bs.drop 0) := hO
  have cF := fun h => vc_from (p.bs.length : Int) 1 3 h
  refine VC.bodyC 2 Tryz.func53 rfl Tryz.ntmps53 Tryz.call53 (h.grows_refl) rfl ?_; conv => whnf
  repeat' (first | ((first | refine zs1 ?_ | refine zs2 ?_ | refine zs3 ?_ | refine zs4 ?_ | refine zs5 ?_); conv => whnf) | ((first | apply zi1 | apply zi2 | apply zi3 | apply zi4 | apply zi5) <;> intro _ <;> conv => whnf))
  refine VCut.at' 99 [(2, .fp (encPf p)), (3, .fp [dBds l]), (4, I 0), (5, .func (.func 100) [] [])] [] ?_ ?_
  · conv => whnf
    refine Retell.turn ⟨[], 2, [(0, encPf p), (1, [dBds l])], []⟩ (TurnOk.mk' _ _ [(0, encPf p), (1, [dBds l])] [] (OutOk.lift _) rfl (by decide) zb zf trivial rfl) zv zm
  conv => whnf
  repeat' (first | ((first | refine zs1 ?_ | refine zs2 ?_ | refine zs3 ?_ | refine zs4 ?_ | refine zs5 ?_); conv => whnf) | ((first | apply zi1 | apply zi2 | apply zi3 | apply zi4 | apply zi5) <;> intro _ <;> conv => whnf) | (refine VCall.intro (cF _) ?_; conv => whnf) | (refine VCall.intro (cI _) ?_; conv => whnf))
  · rw [if_pos (by omega)] at hE
    rw [hE]
    exact VOut.same rfl
  · rw [if_pos (by omega)] at hE
    rw [hE]
    exact VOut.same rfl
  · rename_i hA
    rw [if_neg (by omega), if_neg (by cases A <;> simp at *)] at hE
    rw [hE]
    exact VOut.same rfl
  · rename_i hA
    rw [if_neg (by omega), if_pos (by cases A <;> simp at *)] at hE
    refine VCode.lp (fun j : Nat => [(2, .fp (encPf p)), (3, .fp [dBds l]), (4, I 0), (5, .func (.func 100) [] []), (6, I ((j : Int) + 1))]) (fun _ => []) (fun j => j + 1 ≤ p.bs.length ∧ O = incB (p.bs.drop j)) (fun j => p.bs.length - j) 0 ⟨by omega, hO⟩ ?_ ?_
    · conv => whnf
      refine Retell.turn ⟨[], 0, [], []⟩ (TurnOk.mk' _ _ [] [] (OutOk.lift _) rfl (by decide) zb trivial trivial rfl) zv zm
    · clear hO
      rintro k ⟨h1, hO⟩
      conv => whnf
      repeat' (first | ((first | refine zs1 ?_ | refine zs2 ?_ | refine zs3 ?_ | refine zs4 ?_ | refine zs5 ?_); conv => whnf) | ((first | apply zi1 | apply zi2 | apply zi3 | apply zi4 | apply zi5) <;> intro _ <;> conv => whnf))
      · rename_i h5
        have ha : p.bs[k]? = some p.bs[k] := List.getElem?_eq_getElem (by omega)
        have hb' : p.bs[k + 1]? = some (p.bs[k + 1]'(by omega)) := List.getElem?_eq_getElem _
        rw [incB_at ha hb'] at hO
        generalize p.bs[k] = a at ha hO
        generalize p.bs[k + 1]'(by omega) = b at hb' hO
        conv => whnf
        repeat' (first | ((first | refine zs1 ?_ | refine zs2 ?_ | refine zs3 ?_ | refine zs4 ?_ | refine zs5 ?_); conv => whnf) | ((first | apply zi1 | apply zi2 | apply zi3 | apply zi4 | apply zi5) <;> intro _ <;> conv => whnf))
        refine zs6 [] ?_
        conv => whnf
        repeat' (first | ((first | refine zs1 ?_ | refine zs2 ?_ | refine zs3 ?_ | refine zs4 ?_ | refine zs5 ?_); conv => whnf) | ((first | apply zi1 | apply zi2 | apply zi3 | apply zi4 | apply zi5) <;> intro _ <;> conv => whnf) | (refine VAny.ix encI_len (k + 1) (by omega) rfl hb' ?_; conv => whnf) | (refine VAny.ix encI_len k (by omega) rfl ha ?_; conv => whnf))
        · rename_i hc
          rw [decide_eq_false (show ¬ a < b by omega), Bool.false_and] at hO
          subst hO
          simp only [Bool.false_eq_true, if_false] at hE
          rw [hE]
          exact VOut.same rfl
        · rename_i hc
          rw [decide_eq_true (show a < b by omega), Bool.true_and] at hO
          refine LEnd.intro (k + 1) ⟨by omega, hO⟩ (by omega) ?_
          conv => whnf
          refine Retell.turn ⟨[], 0, [], []⟩ (TurnOk.mk' _ _ [] [] (OutOk.lift _) rfl (by decide) zb trivial trivial rfl) zv zm
      · rename_i h5
        rw [incB_end (by omega)] at hO
        subst hO
        rw [if_pos rfl] at hE
        conv => whnf
        repeat' (first | ((first | refine zs1 ?_ | refine zs2 ?_ | refine zs3 ?_ | refine zs4 ?_ | refine zs5 ?_); conv => whnf) | ((first | apply zi1 | apply zi2 | apply zi3 | apply zi4 | apply zi5) <;> intro _ <;> conv => whnf) | (refine VCall.intro (cW _) ?_; conv => whnf) | (refine VCall.intro (cT _) ?_; conv => whnf))
        all_goals (subst hE; cases W <;> cases T <;> first | (exact VOut.same rfl) | (exfalso; simp at *; done))
end Go.Proofs.YtdlnjnfkbneibaaGreat

open Go.Vm
open Clip (Pn Sg Nt Bd Rt Sp Co Pl NtOk chk chk_ok bnds bnds_sz bnds_len bnds_sq regS BdSz SpSz okD okD_iff red)
namespace Go.Proofs.YtdlnjnfkbneibaaGreat
set_option maxRecDepth 20000
set_option maxHeartbeats 4000000

theorem vne49 (a b c d e f : Int) : vaggeq Tryz.prog .neq 100 (.agg [I a, I b, I c]) (.agg [I d, I e, I f]) = some (B (decide (¬ (a = d ∧ b = e ∧ c = f)))) := by
  have : (!((a == d) && ((b == e) && ((c == f) && true)))) = decide (¬ (a = d ∧ b = e ∧ c = f)) := by
    rw [Bool.eq_iff_iff, decide_eq_true_eq]; simp [-not_and]; omega
  rw [← this]
  unfold vaggeq
  rw [show eqTop Tryz.prog 100 = some (Sh.cons 0 1 false Sh.int (Sh.cons 1 1 false Sh.int (Sh.cons 2 1 false Sh.int Sh.nil))) by kernel_rfl]
  rfl
theorem totB_sz {l : List Bd} {p : Pf} (hp : RgOk p l.length) (hb : ∀ b ∈ l, BdSz b) : (-1000000000 ≤ (totB l p).A ∧ (totB l p).A ≤ 1000000000) ∧ (-1000000000 ≤ (totB l p).B ∧ (totB l p).B ≤ 1000000000) ∧ (-1000000000000 ≤ (totB l p).C ∧ (totB l p).C ≤ 1000000000000) := by
  have key : ∀ (ws : List Int) (bs : List Bd) (s : Bd) (k : Int), (∀ w ∈ ws, -1000000 ≤ w ∧ w ≤ 1000000) → (∀ b ∈ bs, BdSz b) → ((-100000000 * k ≤ s.A ∧ s.A ≤ 100000000 * k) ∧ (-100000000 * k ≤ s.B ∧ s.B ≤ 100000000 * k) ∧ (-100000000000 * k ≤ s.C ∧ s.C ≤ 100000000000 * k)) → 0 ≤ k →
      (-100000000 * (k + bs.length) ≤ (sumG s ws bs).A ∧ (sumG s ws bs).A ≤ 100000000 * (k + bs.length)) ∧ (-100000000 * (k + bs.length) ≤ (sumG s ws bs).B ∧ (sumG s ws bs).B ≤ 100000000 * (k + bs.length)) ∧ (-100000000000 * (k + bs.length) ≤ (sumG s ws bs).C ∧ (sumG s ws bs).C ≤ 100000000000 * (k + bs.length)) := by
    intro ws
    induction ws with
    | nil => intro bs s k _ _ h hk; have e : sumG s [] bs = s := by cases bs <;> rfl
             rw [e]; omega
    | cons w ws ih =>
      intro bs s k hw hbs h hk
      cases bs with
      | nil => have e : sumG s (w :: ws) [] = s := rfl
               rw [e]; simp only [List.length_nil]; omega
      | cons b bs =>
        have sw := hw w (by simp)
        have sb := hbs b (by simp)
        have m1 := Clip.mulb (x := w) (y := b.A) (A := 1000000) (B := 50) sw sb.a
        have m2 := Clip.mulb (x := w) (y := b.B) (A := 1000000) (B := 50) sw sb.b'
        have m3 := Clip.mulb (x := w) (y := b.C) (A := 1000000) (B := 100000) sw sb.c
        have := ih bs ⟨s.A + w * b.A, s.B + w * b.B, s.C + w * b.C⟩ (k + 1) (fun w hw' => hw w (List.mem_cons_of_mem _ hw')) (fun b hb' => hbs b (List.mem_cons_of_mem _ hb')) (by dsimp only; omega) (by omega)
        rw [sumG, List.length_cons]
        have e : (k : Int) + 1 + (bs.length : Int) = k + ((bs.length + 1 : Nat) : Int) := by omega
        rw [e] at this
        exact this
  have := key p.ws (p.bs.map (bAt l)) ⟨0, 0, 0⟩ 0 (fun w hw => by have := hp.w w hw; omega) (fun b hb' => by
    obtain ⟨i, hi, rfl⟩ := List.mem_map.1 hb'
    have := hp.i i hi
    have hk : l[i.toNat]? = some (l[i.toNat]'(by omega)) := List.getElem?_eq_getElem _
    rw [bAt_get hk]; exact hb _ (List.getElem_mem _)) (by dsimp only; omega) (by omega)
  rw [List.length_map] at this
  have hl := hp.l
  unfold totB
  omega
def prE (N : Nt) (p : Int) (to : Pn) (f : Pf) : Int := if brE N p ≠ 0 then brE N p else if okD to = true then (if rgE f (bnds N p).length ≠ 0 then rgE f (bnds N p).length else if f.t < 1 ∨ ¬ ((totB (bnds N p) f).A = f.t * to.x ∧ (totB (bnds N p) f).B = f.t * to.y) then 9 else 0) else 4
def prV (N : Nt) (p : Int) (to : Pn) (f : Pf) : Rt := if prE N p to f = 0 then red (totB (bnds N p) f).C f.t else ⟨0, 0⟩
theorem vc_Proves (N : Nt) (p : Int) (to : Pn) (f : Pf) (h : Hp) (hn : N.ps.length ≤ 4000000) (hm : N.ss.length ≤ 4000000) (h1 : f.bs.length ≤ 4000000) (h2 : f.ws.length ≤ 4000000) : VC Tryz.prog 12 [vN N, I p, vPn to, vPf f] h (.tuple [vRt (prV N p to f), I (prE N p to f)]) h := by
  have c := fun h => vc_begun N p h hn hm
  have cT := fun h => vc_turned to h
  obtain ⟨E, hE⟩ : ∃ E, E = prE N p to f := ⟨_, rfl⟩
  obtain ⟨R, hR⟩ : ∃ R, R = prV N p to f := ⟨_, rfl⟩
  rw [← hE, ← hR]
  unfold prV at hR
  rw [← hE] at hR
  unfold prE at hE
  by_cases b0 : brE N p = 0
  · have o := (brE_ok.1 b0).1
    rw [b0] at c
    rw [if_neg (by omega)] at hE
    cases ht : okD to
    · rw [ht] at cT hE
      rw [if_neg (by decide)] at hE
      subst hE
      rw [if_neg (by decide)] at hR
      subst hR
      refine VC.body Tryz.func12 rfl Tryz.ntmps12 Tryz.call12 (h.grows_refl) rfl ?_; conv => whnf
      repeat' (first | ((first | refine zs1 ?_ | refine zs2 ?_ | refine zs3 ?_ | refine zs4 ?_ | refine zs5 ?_ | refine zs6 [] ?_); conv => whnf) | ((first | apply zi1 | apply zi2 | apply zi3 | apply zi4 | apply zi5) <;> intro _ <;> conv => whnf) | (refine VCall.intro (c _) ?_; conv => whnf) | (refine VCall.intro (cT _) ?_; conv => whnf))
      all_goals first | (exact VOut.same rfl) | (exfalso; omega)
    · rw [ht] at cT hE
      rw [if_pos rfl] at hE
      have cB := fun h => vc_bounds N p h o
      have hz := bnds_sz o p
      have hln := bnds_len o p
      have cG := fun h => vc_right f (bnds N p) h (by omega) h1 h2
      generalize bnds N p = bs at *
      by_cases g0 : rgE f bs.length = 0
      · have go := rgE_ok.1 g0
        have cS := fun h => vc_total f bs h go hz
        have tz := totB_sz go hz
        have t0 := okD_iff.1 ht
        have ft := go.t
        have m1 := Clip.mulb (x := f.t) (y := to.x) (A := 1000000) (B := 50) (by omega) t0.2.1
        have m2 := Clip.mulb (x := f.t) (y := to.y) (A := 1000000) (B := 50) (by omega) t0.2.2
        rw [g0] at cG
        rw [if_neg (by omega)] at hE
        generalize totB bs f = s at *
        by_cases hbad : f.t < 1 ∨ ¬ (s.A = f.t * to.x ∧ s.B = f.t * to.y)
        · rw [if_pos hbad] at hE
          subst hE
          rw [if_neg (by decide)] at hR
          subst hR
          refine VC.body Tryz.func12 rfl Tryz.ntmps12 Tryz.call12 (h.grows_refl) rfl ?_; conv => whnf
          repeat' (first | ((first | refine zs1 ?_ | refine zs2 ?_ | refine zs3 ?_ | refine zs4 ?_ | refine zs5 ?_ | refine zs6 [] ?_); conv => whnf) | ((first | apply zi1 | apply zi2 | apply zi3 | apply zi4 | apply zi5) <;> intro _ <;> conv => whnf) | (refine VCall.intro (c _) ?_; conv => whnf) | (refine VCall.intro (cT _) ?_; conv => whnf) | (refine VCall.intro (cB _) ?_; conv => whnf) | (refine VCall.intro (cG _) ?_; conv => whnf) | (refine VCall.intro (cS _) ?_; conv => whnf) | (refine VAgg.intro (vne49 _ _ _ _ _ _) ?_; conv => whnf))
          all_goals first | (exact VOut.same rfl) | (exfalso; omega)
        · rw [if_neg hbad] at hE
          subst hE
          rw [if_pos rfl] at hR
          subst hR
          have cQ := fun h => vc_ratio s.C f.t h (by omega) (by omega) (by omega)
          generalize red s.C f.t = Q at *
          refine VC.body Tryz.func12 rfl Tryz.ntmps12 Tryz.call12 (h.grows_refl) rfl ?_; conv => whnf
          repeat' (first | ((first | refine zs1 ?_ | refine zs2 ?_ | refine zs3 ?_ | refine zs4 ?_ | refine zs5 ?_ | refine zs6 [] ?_); conv => whnf) | ((first | apply zi1 | apply zi2 | apply zi3 | apply zi4 | apply zi5) <;> intro _ <;> conv => whnf) | (refine VCall.intro (c _) ?_; conv => whnf) | (refine VCall.intro (cT _) ?_; conv => whnf) | (refine VCall.intro (cB _) ?_; conv => whnf) | (refine VCall.intro (cG _) ?_; conv => whnf) | (refine VCall.intro (cS _) ?_; conv => whnf) | (refine VCall.intro (cQ _) ?_; conv => whnf) | (refine VAgg.intro (vne49 _ _ _ _ _ _) ?_; conv => whnf))
          all_goals first | (exact VOut.same rfl) | (exfalso; omega)
      · rw [if_pos g0] at hE
        subst hE
        rw [if_neg g0] at hR
        subst hR
        generalize rgE f bs.length = G at *
        refine VC.body Tryz.func12 rfl Tryz.ntmps12 Tryz.call12 (h.grows_refl) rfl ?_; conv => whnf
        repeat' (first | ((first | refine zs1 ?_ | refine zs2 ?_ | refine zs3 ?_ | refine zs4 ?_ | refine zs5 ?_ | refine zs6 [] ?_); conv => whnf) | ((first | apply zi1 | apply zi2 | apply zi3 | apply zi4 | apply zi5) <;> intro _ <;> conv => whnf) | (refine VCall.intro (c _) ?_; conv => whnf) | (refine VCall.intro (cT _) ?_; conv => whnf) | (refine VCall.intro (cB _) ?_; conv => whnf) | (refine VCall.intro (cG _) ?_; conv => whnf))
        all_goals first | (exact VOut.same rfl) | (exfalso; omega)
  · rw [if_pos b0] at hE
    rw [hE, if_neg b0] at hR
    subst hR
    subst hE
    generalize brE N p = E at *
    refine VC.body Tryz.func12 rfl Tryz.ntmps12 Tryz.call12 (h.grows_refl) rfl ?_; conv => whnf
    repeat' (first | ((first | refine zs1 ?_ | refine zs2 ?_ | refine zs3 ?_ | refine zs4 ?_ | refine zs5 ?_ | refine zs6 [] ?_); conv => whnf) | ((first | apply zi1 | apply zi2 | apply zi3 | apply zi4 | apply zi5) <;> intro _ <;> conv => whnf) | (refine VCall.intro (c _) ?_; conv => whnf))
    all_goals first | (exact VOut.same rfl) | (exfalso; omega)
def rfE (N : Nt) (p : Int) (f : Pf) : Int := if brE N p ≠ 0 then brE N p else rgE f (bnds N p).length
def rfB (N : Nt) (p : Int) (f : Pf) : Bool := if rfE N p f = 0 then decide (f.t = 0 ∧ (totB (bnds N p) f).A = 0 ∧ (totB (bnds N p) f).B = 0 ∧ (totB (bnds N p) f).C < 0) else false
theorem vc_Refutes (N : Nt) (p : Int) (f : Pf) (h : Hp) (hn : N.ps.length ≤ 4000000) (hm : N.ss.length ≤ 4000000) (h1 : f.bs.length ≤ 4000000) (h2 : f.ws.length ≤ 4000000) : VC Tryz.prog 15 [vN N, I p, vPf f] h (.tuple [B (rfB N p f), I (rfE N p f)]) h := by
  have c := fun h => vc_begun N p h hn hm
  obtain ⟨E, hE⟩ : ∃ E, E = rfE N p f := ⟨_, rfl⟩
  obtain ⟨R, hR⟩ : ∃ R, R = rfB N p f := ⟨_, rfl⟩
  rw [← hE, ← hR]
  unfold rfB at hR
  rw [← hE] at hR
  unfold rfE at hE
  by_cases b0 : brE N p = 0
  · have o := (brE_ok.1 b0).1
    rw [b0] at c
    rw [if_neg (by omega)] at hE
    have cB := fun h => vc_bounds N p h o
    have hz := bnds_sz o p
    have hln := bnds_len o p
    have cG := fun h => vc_right f (bnds N p) h (by omega) h1 h2
    generalize bnds N p = bs at *
    by_cases g0 : rgE f bs.length = 0
    · have go := rgE_ok.1 g0
      have cS := fun h => vc_total f bs h go hz
      rw [g0] at cG hE
      rw [hE, if_pos rfl] at hR
      subst hE
      generalize totB bs f = s at *
      subst hR
      refine VC.body Tryz.func15 rfl Tryz.ntmps15 Tryz.call15 (h.grows_refl) rfl ?_; conv => whnf
      repeat' (first | ((first | refine zs1 ?_ | refine zs2 ?_ | refine zs3 ?_ | refine zs4 ?_ | refine zs5 ?_ | refine zs6 [] ?_); conv => whnf) | ((first | apply zi1 | apply zi2 | apply zi3 | apply zi4 | apply zi5) <;> intro _ <;> conv => whnf) | (refine VCall.intro (c _) ?_; conv => whnf) | (refine VCall.intro (cB _) ?_; conv => whnf) | (refine VCall.intro (cG _) ?_; conv => whnf) | (refine VCall.intro (cS _) ?_; conv => whnf))
      · rw [show decide (f.t = 0 ∧ s.A = 0 ∧ s.B = 0 ∧ s.C < 0) = decide (s.C < 0) from decide_eq_decide.2 (by omega)]
        exact VOut.same rfl
      all_goals (rw [decide_eq_false (show ¬ (f.t = 0 ∧ s.A = 0 ∧ s.B = 0 ∧ s.C < 0) by omega)]
                 exact VOut.same rfl)
    · rw [hE, if_neg g0] at hR
      subst hR
      subst hE
      generalize rgE f bs.length = G at *
      refine VC.body Tryz.func15 rfl Tryz.ntmps15 Tryz.call15 (h.grows_refl) rfl ?_; conv => whnf
      repeat' (first | ((first | refine zs1 ?_ | refine zs2 ?_ | refine zs3 ?_ | refine zs4 ?_ | refine zs5 ?_ | refine zs6 [] ?_); conv => whnf) | ((first | apply zi1 | apply zi2 | apply zi3 | apply zi4 | apply zi5) <;> intro _ <;> conv => whnf) | (refine VCall.intro (c _) ?_; conv => whnf) | (refine VCall.intro (cB _) ?_; conv => whnf) | (refine VCall.intro (cG _) ?_; conv => whnf))
      all_goals first | (exact VOut.same rfl) | (exfalso; omega)
  · rw [if_pos b0] at hE
    rw [hE, if_neg b0] at hR
    subst hR
    subst hE
    generalize brE N p = E at *
    refine VC.body Tryz.func15 rfl Tryz.ntmps15 Tryz.call15 (h.grows_refl) rfl ?_; conv => whnf
    repeat' (first | ((first | refine zs1 ?_ | refine zs2 ?_ | refine zs3 ?_ | refine zs4 ?_ | refine zs5 ?_ | refine zs6 [] ?_); conv => whnf) | ((first | apply zi1 | apply zi2 | apply zi3 | apply zi4 | apply zi5) <;> intro _ <;> conv => whnf) | (refine VCall.intro (c _) ?_; conv => whnf))
    all_goals first | (exact VOut.same rfl) | (exfalso; omega)
end Go.Proofs.YtdlnjnfkbneibaaGreat

open Go.Vm
namespace Go.Vm
theorem flat_del {α : Type} {enc : α → List D} {m : Nat} (hm : ∀ a, (enc a).length = m) (l : List α) (k : Nat) (hk : k < l.length) :
    ((l.flatMap enc).take (0 + k * m) ++ ((l.flatMap enc).drop ((k + 1) * m)).take ((l.length - (k + 1)) * m) ++ (l.flatMap enc).drop (0 + k * m + (l.length - (k + 1)) * m)).take (0 + (l.length - 1) * m) = (l.eraseIdx k).flatMap enc := by
  rw [Nat.zero_add, Nat.zero_add, flat_takeD hm, flat_dropD hm, flat_takeD hm, ← List.flatMap_append]
  have e : l.take k ++ (l.drop (k + 1)).take (l.length - (k + 1)) = l.eraseIdx k := by
    rw [List.take_of_length_le (l := l.drop (k + 1)) (by rw [List.length_drop]; exact Nat.le_refl _), List.eraseIdx_eq_take_drop_succ]
  rw [e]
  have hl : ((l.eraseIdx k).flatMap enc).length = (l.length - 1) * m := by rw [flat_len hm, List.length_eraseIdx_of_lt hk]
  rw [List.take_append_of_le_length (by omega), List.take_of_length_le (by omega)]
end Go.Vm
open Clip (Pn Sg Nt Bd Rt Sp Co Pl NtOk SgOk chk chk_ok bnds bnds_sz bnds_len bnds_sq regS BdSz SpSz)
namespace Go.Proofs.YtdlnjnfkbneibaaGreat
set_option maxRecDepth 20000
set_option maxHeartbeats 4000000

theorem VOut.setSl {h : Hp} {loc : List Blk} {i : Vm.Id} {b0 : Blk} {l : List D} {rw : Bool} {o e n : Nat} {m : Option Nat} {L : Nat} (hL : Nat.ble loc.length L = true) (hb : h.get i = some b0) : VOut h ⟨outW h.lift i (.flat rw l), loc⟩ (.slice (.out i) o e n m) (.slice i o e n m) (h.set i (.flat rw l)) := by
  have hd : ∀ p ∈ [(i, Blk.flat rw l)], h.get p.1 ≠ none := by
    intro p hp
    simp only [List.mem_cons, List.not_mem_nil, or_false] at hp
    subst hp; simp only; rw [hb]; simp
  have := VOut.upd (loc := loc) (r1 := .slice (.out i) o e n m) (r := .slice i o e n m) [(i, .flat rw l)] [] [] L hL hd (by simp) rfl (by intro k b hk; simp at hk) (fun σ x hx => by
    have hρ : backR h.loc.length [] L i = .out i := by
      cases i with
      | out i => rfl
      | loc k =>
        have hk : k < h.loc.length := (List.getElem?_eq_some_iff.1 (show h.loc[k]? = some b0 from hb)).1
        simp [backR, hk]
    simp only [V.ren, hρ]; exact hx) (outer := outW h.lift i (.flat rw l)) rfl
  have he : (h.sets [(i, Blk.flat rw l)]).pushes [] = h.set i (.flat rw l) := by simp [Hp.sets, Hp.pushes]
  rw [he] at this
  exact this
theorem vc_DelS (l : List Sg) (k c : Nat) (i : Vm.Id) (h : Hp) (hb : h.get i = some (.flat true (l.flatMap encSg))) (hk : k < l.length) (hc : l.length ≤ c) (hl : l.length ≤ 4000000) :
    VC Tryz.prog 42 [.slice i 0 6 l.length (some c), I k, I ((k : Int) + 1)] h (.slice i 0 6 (l.eraseIdx k).length (some c)) (h.set i (.flat true ((l.eraseIdx k).flatMap encSg))) := by
  rw [List.length_eraseIdx_of_lt hk]
  refine VC.body Tryz.func42 rfl Tryz.ntmps42 Tryz.call42 (h.grows_set _ _) rfl ?_
  conv => whnf
  repeat' (first | ((first | refine zs1 ?_ | refine zs2 ?_ | refine zs3 ?_ | refine zs4 ?_ | refine zs5 ?_); conv => whnf) | ((first | apply zi1 | apply zi2 | apply zi3 | apply zi4 | apply zi5) <;> intro _ <;> conv => whnf))
  · exfalso; omega
  · refine VDraw.go [] (by kernel_rfl) (by kernel_rfl) ?_
    conv => whnf
    repeat' (first | ((first | refine zs1 ?_ | refine zs2 ?_ | refine zs3 ?_ | refine zs4 ?_ | refine zs5 ?_); conv => whnf) | ((first | apply zi1 | apply zi2 | apply zi3 | apply zi4 | apply zi5) <;> intro _ <;> conv => whnf))
    have e1 : ((k : Int) - 0).toNat = k := by omega
    have e2 : ((k : Int) + 1).toNat = k + 1 := by omega
    have e3 : ((l.length : Int) - ((k : Int) + 1)).toNat = l.length - (k + 1) := by omega
    have e4 : k + (l.length - (k + 1)) = l.length - 1 := by omega
    have e5 : 0 + (k + 1) * (5 + 1) = (k + 1) * 6 := by omega
    rw [e1, e2, e3, e5]
    have hfl := flat_len encSg_len l
    refine VMem.appRoom (esz := 6) (off := 0) (off2 := (k + 1) * 6) (len := k) (n := l.length - (k + 1)) (c0 := c) rfl (get_out hb _) (by rw [hfl]; omega) (by rw [hfl]; omega) (by omega) (by omega) ?_
    rw [e4]
    have hR := flat_del encSg_len l k hk
    have hRl : ((l.flatMap encSg).take (0 + k * 6) ++ ((l.flatMap encSg).drop ((k + 1) * 6)).take ((l.length - (k + 1)) * 6) ++ (l.flatMap encSg).drop (0 + k * 6 + (l.length - (k + 1)) * 6)).length = l.length * 6 := by
      simp only [List.length_append, List.length_take, List.length_drop, hfl]; omega
    generalize (l.flatMap encSg).take (0 + k * 6) ++ ((l.flatMap encSg).drop ((k + 1) * 6)).take ((l.length - (k + 1)) * 6) ++ (l.flatMap encSg).drop (0 + k * 6 + (l.length - (k + 1)) * 6) = R at hR hRl ⊢
    conv => whnf
    repeat' (first | ((first | refine zs1 ?_ | refine zs2 ?_ | refine zs3 ?_ | refine zs4 ?_ | refine zs5 ?_); conv => whnf) | ((first | apply zi1 | apply zi2 | apply zi3 | apply zi4 | apply zi5) <;> intro _ <;> conv => whnf))
    have e8 : 0 + ((l.length - 1 : Nat) : Int).toNat * (5 + 1) = 0 + (l.length - 1) * 6 := by omega
    refine VMem.clearTail (esz := 6) rfl (outW_get _ _ _ _) ?_ ?_
    · have e9 : ((l.length : Int) - ((l.length - 1 : Nat) : Int)).toNat = 1 := by omega
      rw [hRl, e8, e9]; omega
    rw [e8, hR]
    conv => whnf
    repeat' (first | ((first | refine zs1 ?_ | refine zs2 ?_ | refine zs3 ?_ | refine zs4 ?_ | refine zs5 ?_); conv => whnf) | ((first | apply zi1 | apply zi2 | apply zi3 | apply zi4 | apply zi5) <;> intro _ <;> conv => whnf))
    refine (show VOut h ⟨outW (outW h.lift i (.flat true R)) i (.flat true ((l.eraseIdx k).flatMap encSg)), []⟩ _ _ _ from ?_)
    rw [outW_same]
    exact VOut.setSl (L := 0) rfl hb
end Go.Proofs.YtdlnjnfkbneibaaGreat

open Go.Vm
open Clip (Pn Sg Nt Bd Rt Sp Co Pl NtOk SgOk chk chk_ok bnds bnds_sz bnds_len bnds_sq regS BdSz SpSz)
namespace Go.Proofs.YtdlnjnfkbneibaaGreat
set_option maxRecDepth 20000
set_option maxHeartbeats 4000000

def erN (N : Nt) (k : Nat) : Nt := ⟨N.ps, N.ss.eraseIdx k⟩
theorem erN_ok {N : Nt} (o : NtOk N) (k : Nat) : NtOk (erN N k) := by
  refine ⟨o.n, ?_, o.p, fun s hs => o.s s (List.mem_of_mem_eraseIdx hs)⟩
  have := o.m
  have h2 := List.length_eraseIdx_le N.ss k
  show (N.ss.eraseIdx k).length ≤ 20
  omega
theorem vc_without (N : Nt) (p : Int) (k : Nat) (h : Hp) (o : NtOk N) (hk : k < N.ss.length) : VC Tryz.prog 66 [.fp (encDk N p), I k] h (.fp (encDk (erN N k) p)) h := by
  have hm := o.m
  have cD := fun (o : Vm.Id → Option Blk) => VC.glSl (P := Tryz.prog) (f := 42) (i := .loc 0) (rest := [I k, I ((k : Int) + 1)]) (h := ⟨o, [.flat true (N.ss.flatMap encSg)]⟩) (by omega) (by simp [Hp.get]) (fun c hc => vc_DelS N.ss k c (.loc 0) ⟨o, [.flat true (N.ss.flatMap encSg)]⟩ rfl hk hc (by omega))
  refine VC.body Tryz.func66 rfl Tryz.ntmps66 Tryz.call66 (h.grows_refl) rfl ?_; conv => whnf
  repeat' (first | ((first | refine zs1 ?_ | refine zs2 ?_ | refine zs3 ?_ | refine zs4 ?_ | refine zs5 ?_); conv => whnf) | ((first | apply zi1 | apply zi2 | apply zi3 | apply zi4 | apply zi5) <;> intro _ <;> conv => whnf))
  refine VMem.make (⟨0, 0, ⟨0, 0⟩, ⟨0, 0⟩⟩ : Sg) encSg_len rfl rfl rfl rfl rfl rfl (by omega) ?_
  conv => whnf
  repeat' (first | ((first | refine zs1 ?_ | refine zs2 ?_ | refine zs3 ?_ | refine zs4 ?_ | refine zs5 ?_); conv => whnf) | ((first | apply zi1 | apply zi2 | apply zi3 | apply zi4 | apply zi5) <;> intro _ <;> conv => whnf))
  refine VMem.copyFs encSg_len rfl rfl (by simp) rfl rfl ?_
  conv => whnf
  repeat' (first | ((first | refine zs1 ?_ | refine zs2 ?_ | refine zs3 ?_ | refine zs4 ?_ | refine zs5 ?_); conv => whnf) | ((first | apply zi1 | apply zi2 | apply zi3 | apply zi4 | apply zi5) <;> intro _ <;> conv => whnf))
  refine zs6 [(4, 9), (9, 14)] ?_
  conv => whnf
  repeat' (first | ((first | refine zs1 ?_ | refine zs2 ?_ | refine zs3 ?_ | refine zs4 ?_ | refine zs5 ?_); conv => whnf) | ((first | apply zi1 | apply zi2 | apply zi3 | apply zi4 | apply zi5) <;> intro _ <;> conv => whnf))
  refine VCall.intro (cD _) ?_
  conv => whnf
  repeat' (first | ((first | refine zs1 ?_ | refine zs2 ?_ | refine zs3 ?_ | refine zs4 ?_ | refine zs5 ?_); conv => whnf) | ((first | apply zi1 | apply zi2 | apply zi3 | apply zi4 | apply zi5) <;> intro _ <;> conv => whnf))
  rw [show (N.ss.eraseIdx k) = (erN N k).ss from rfl]
  refine VOut.data 2 [(0, (erN N k).ss.flatMap encSg), (1, encDk (erN N k) p)] [] rfl zr (by exact FmAll.nil) zv
def ofS (p : Int) (s : Sg) : Bool := decide (s.f = p ∨ s.t = p)
def looS (N : Nt) (p : Int) : Nat → List Sg → List Int
  | _, [] => []
  | k, s :: r => if (ofS p s && !decide (regS (bnds (erN N k) p) = [])) = true then (k : Int) :: looS N p (k + 1) r else looS N p (k + 1) r
theorem looS_at {N : Nt} {p : Int} {l : List Sg} {k : Nat} {s : Sg} (h : l[k]? = some s) : looS N p k (l.drop k) = if (ofS p s && !decide (regS (bnds (erN N k) p) = [])) = true then (k : Int) :: looS N p (k + 1) (l.drop (k + 1)) else looS N p (k + 1) (l.drop (k + 1)) := by
  obtain ⟨hlt, rfl⟩ := List.getElem?_eq_some_iff.1 h
  rw [List.drop_eq_getElem_cons hlt, looS]
theorem looS_len (N : Nt) (p : Int) : ∀ (l : List Sg) (k : Nat), (looS N p k l).length ≤ l.length
  | [], k => Nat.le_refl _
  | s :: r, k => by
    have := looS_len N p r (k + 1)
    rw [looS]
    split <;> (try simp only [List.length_cons]) <;> omega
def loE (N : Nt) (p : Int) : Int := if brE N p ≠ 0 then brE N p else if regS (bnds N p) = [] then 0 else 10
def loL (N : Nt) (p : Int) : List Int := if loE N p = 0 then looS N p 0 N.ss else []
theorem loE_ok {N : Nt} {p : Int} : loE N p = 0 ↔ brE N p = 0 ∧ regS (bnds N p) = [] := by
  unfold loE
  split
  · rename_i h; exact ⟨fun e => absurd e h, fun e => absurd e.1 h⟩
  · rename_i h
    split
    · rename_i h2; exact ⟨fun _ => ⟨Classical.not_not.1 h, h2⟩, fun _ => rfl⟩
    · rename_i h2; exact ⟨fun e => by omega, fun e => absurd e.2 h2⟩
theorem vc_Loose (N : Nt) (p : Int) (h : Hp) (hn : N.ps.length ≤ 4000000) (hm : N.ss.length ≤ 4000000) : VC Tryz.prog 19 [vN N, I p] h (.tuple [ints (loL N p), I (loE N p)]) h := by
  have c := fun h => vc_begun N p h hn hm
  unfold loL
  by_cases h0 : loE N p = 0
  · obtain ⟨b0, hS⟩ := loE_ok.1 h0
    have o := (brE_ok.1 b0).1
    have om := o.m
    have cB := fun h => vc_bounds N p h o
    have cR := fun h => vc_region (bnds N p) h (by have := bnds_len o p; omega) (bnds_sz o p)
    rw [hS] at cR
    rw [b0] at c
    rw [if_pos h0, h0]
    obtain ⟨M, hM⟩ : ∃ M, M = looS N p 0 N.ss := ⟨_, rfl⟩
    rw [← hM]
    have hM : M = [] ++ looS N p 0 (N.ss.drop 0) := hM
    generalize bnds N p = bs at *
    refine VC.body Tryz.func19 rfl Tryz.ntmps19 Tryz.call19 (h.grows_refl) rfl ?_; conv => whnf
    repeat' (first | ((first | refine zs1 ?_ | refine zs2 ?_ | refine zs3 ?_ | refine zs4 ?_ | refine zs5 ?_ | refine zs6 [] ?_); conv => whnf) | ((first | apply zi1 | apply zi2 | apply zi3 | apply zi4 | apply zi5) <;> intro _ <;> conv => whnf) | (refine VCall.intro (c _) ?_; conv => whnf) | (refine VCall.intro (cB _) ?_; conv => whnf) | (refine VCall.intro (cR _) ?_; conv => whnf))
    refine VCode.lp (fun y : Nat × List Int => [(2, .fp (encN N)), (4, .nilslice), (5, I 0), (6, .fp (encDk N p)), (8, .gl (.loc 0) 1 y.2.length), (28, sgs N.ss), (29, I N.ss.length), (30, I y.1)]) (fun y => [.flat true (y.2.flatMap encI)]) (fun y => y.1 ≤ N.ss.length ∧ y.2.length ≤ y.1 ∧ M = y.2 ++ looS N p y.1 (N.ss.drop y.1)) (fun y => N.ss.length - y.1) (0, []) ⟨Nat.zero_le _, Nat.zero_le _, hM⟩ ?_ ?_
    · conv => whnf
      refine Retell.turn ⟨[1], 1, [(0, encN N)], []⟩ (TurnOk.mk' _ _ [(0, encN N)] [] (OutOk.lift _) rfl (by decide) zb zf trivial rfl) zv zm
    · clear hM
      rintro ⟨k, w⟩ ⟨h1, h2, h3⟩
      dsimp only at h1 h2 h3
      conv => whnf
      refine VIte.dec (fun h5 => ?_) (fun h5 => ?_)
      · dsimp only at h5
        have hk : N.ss[k]? = some N.ss[k] := List.getElem?_eq_getElem (by omega)
        rw [looS_at hk] at h3
        generalize N.ss[k] = s at hk h3
        have cO := fun h => vc_of N p s h
        have cW := fun h => vc_without N p k h o (by omega)
        have oe := erN_ok o k
        have cB2 := fun h => vc_bounds (erN N k) p h oe
        have cR2 := fun h => vc_region (bnds (erN N k) p) h (by have := bnds_len oe p; omega) (bnds_sz oe p)
        have eo : decide (s.f = p ∨ s.t = p) = ofS p s := rfl
        rw [eo] at cO
        generalize bnds (erN N k) p = bs2 at *
        generalize regS bs2 = S at *
        cases hof : ofS p s with
        | false =>
          rw [hof] at cO h3
          rw [Bool.false_and, if_neg (by decide)] at h3
          conv => whnf
          repeat' (first | ((first | refine zs1 ?_ | refine zs2 ?_ | refine zs3 ?_ | refine zs4 ?_ | refine zs5 ?_ | refine zs6 [] ?_); conv => whnf) | ((first | apply zi1 | apply zi2 | apply zi3 | apply zi4 | apply zi5) <;> intro _ <;> conv => whnf) | (refine VAny.ix encSg_len k rfl rfl hk ?_; conv => whnf) | (refine VCall.intro (cO _) ?_; conv => whnf))
          refine LEnd.intro (k + 1, w) ⟨by dsimp only; omega, by dsimp only; omega, h3⟩ (by dsimp only; omega) ?_
          conv => whnf
          refine Retell.turn ⟨[0], 2, [], []⟩ (TurnOk.mk' _ _ [] [] (OutOk.lift _) rfl (by decide) zb trivial trivial rfl) zv zm
        | true =>
          rw [hof] at cO h3
          rw [Bool.true_and] at h3
          conv => whnf
          repeat' (first | ((first | refine zs1 ?_ | refine zs2 ?_ | refine zs3 ?_ | refine zs4 ?_ | refine zs5 ?_ | refine zs6 [] ?_); conv => whnf) | ((first | apply zi1 | apply zi2 | apply zi3 | apply zi4 | apply zi5) <;> intro _ <;> conv => whnf) | (refine VAny.ix encSg_len k rfl rfl hk ?_; conv => whnf) | (refine VCall.intro (cO _) ?_; conv => whnf) | (refine VCall.intro (cW _) ?_; conv => whnf) | (refine VCall.intro (cB2 _) ?_; conv => whnf) | (refine VCall.intro (cR2 _) ?_; conv => whnf))
          · rename_i hS
            have hS2 : ¬ S = [] := fun e => by subst e; dsimp only [List.length_nil] at hS; omega
            rw [decide_eq_false hS2, Bool.not_false, if_pos rfl] at h3
            refine VMem.app1 (l := w) (k : Int) encI_len rfl rfl rfl rfl rfl (by omega) ?_
            conv => whnf
            repeat' (first | ((first | refine zs1 ?_ | refine zs2 ?_ | refine zs3 ?_ | refine zs4 ?_ | refine zs5 ?_ | refine zs6 [] ?_); conv => whnf) | ((first | apply zi1 | apply zi2 | apply zi3 | apply zi4 | apply zi5) <;> intro _ <;> conv => whnf))
            refine LEnd.intro (k + 1, w ++ [(k : Int)]) ⟨by dsimp only; omega, by dsimp only; rw [List.length_append]; simp only [List.length_singleton]; omega, by dsimp only; rw [h3, List.append_assoc]; rfl⟩ (by dsimp only; omega) ?_
            conv => whnf
            rw [List.length_append]
            refine Retell.turn ⟨[3], 4, [], []⟩ (TurnOk.mk' _ _ [] [] (OutOk.lift _) rfl (by decide) zb trivial trivial rfl) zv zm
          · rename_i hS
            have hS2 : S = [] := List.length_eq_zero_iff.1 (by omega)
            rw [decide_eq_true hS2, Bool.not_true, if_neg (by decide)] at h3
            refine LEnd.intro (k + 1, w) ⟨by dsimp only; omega, by dsimp only; omega, h3⟩ (by dsimp only; omega) ?_
            conv => whnf
            refine Retell.turn ⟨[0], 2, [], []⟩ (TurnOk.mk' _ _ [] [] (OutOk.lift _) rfl (by decide) zb trivial trivial rfl) zv zm
      · have hk3 : k = N.ss.length := by dsimp only at h5; omega
        subst hk3
        rw [List.drop_length, looS, List.append_nil] at h3
        subst h3
        conv => whnf
        repeat' (first | ((first | refine zs1 ?_ | refine zs2 ?_ | refine zs3 ?_ | refine zs4 ?_ | refine zs5 ?_ | refine zs6 [] ?_); conv => whnf) | ((first | apply zi1 | apply zi2 | apply zi3 | apply zi4 | apply zi5) <;> intro _ <;> conv => whnf))
        refine VOut.data 1 [(0, M.flatMap encI)] [] rfl zf (by exact FmAll.nil) zv
  · rw [if_neg h0]
    by_cases b0 : brE N p = 0
    · have o := (brE_ok.1 b0).1
      have hS : regS (bnds N p) ≠ [] := fun e => h0 (loE_ok.2 ⟨b0, e⟩)
      have e : loE N p = 10 := by unfold loE; rw [if_neg (by omega), if_neg hS]
      have cB := fun h => vc_bounds N p h o
      have cR := fun h => vc_region (bnds N p) h (by have := bnds_len o p; omega) (bnds_sz o p)
      have hl := List.length_pos_iff.2 hS
      rw [b0] at c
      rw [e]
      generalize bnds N p = bs at *
      generalize regS bs = S at *
      refine VC.body Tryz.func19 rfl Tryz.ntmps19 Tryz.call19 (h.grows_refl) rfl ?_; conv => whnf
      repeat' (first | ((first | refine zs1 ?_ | refine zs2 ?_ | refine zs3 ?_ | refine zs4 ?_ | refine zs5 ?_ | refine zs6 [] ?_); conv => whnf) | ((first | apply zi1 | apply zi2 | apply zi3 | apply zi4 | apply zi5) <;> intro _ <;> conv => whnf) | (refine VCall.intro (c _) ?_; conv => whnf) | (refine VCall.intro (cB _) ?_; conv => whnf) | (refine VCall.intro (cR _) ?_; conv => whnf))
      all_goals first | (refine VOut.data 1 [] [] rfl zf (by exact FmAll.nil) zv
                         done) | (exfalso; omega)
    · have e : loE N p = brE N p := by unfold loE; rw [if_pos b0]
      rw [e]
      generalize brE N p = E at *
      refine VC.body Tryz.func19 rfl Tryz.ntmps19 Tryz.call19 (h.grows_refl) rfl ?_; conv => whnf
      repeat' (first | ((first | refine zs1 ?_ | refine zs2 ?_ | refine zs3 ?_ | refine zs4 ?_ | refine zs5 ?_ | refine zs6 [] ?_); conv => whnf) | ((first | apply zi1 | apply zi2 | apply zi3 | apply zi4 | apply zi5) <;> intro _ <;> conv => whnf) | (refine VCall.intro (c _) ?_; conv => whnf))
      all_goals first | (exfalso; omega) | (refine VOut.data 1 [] [] rfl zf (by exact FmAll.nil) zv
                                            done)
end Go.Proofs.YtdlnjnfkbneibaaGreat

open Go.Vm
open Clip (Pn Sg Nt Bd Rt Sp Co Pl NtOk SgOk chk chk_ok bnds bnds_sz bnds_len bnds_sq regS BdSz SpSz)
namespace Go.Proofs.YtdlnjnfkbneibaaGreat
set_option maxRecDepth 20000
set_option maxHeartbeats 4000000

theorem drop_eq_dec {α : Type} [DecidableEq α] {a b : List α} {k : Nat} {x y : α} (hx : a[k]? = some x) (hy : b[k]? = some y) : decide (a.drop k = b.drop k) = (decide (x = y) && decide (a.drop (k + 1) = b.drop (k + 1))) := by
  obtain ⟨h1, rfl⟩ := List.getElem?_eq_some_iff.1 hx
  obtain ⟨h2, rfl⟩ := List.getElem?_eq_some_iff.1 hy
  rw [List.drop_eq_getElem_cons h1, List.drop_eq_getElem_cons h2, Bool.eq_iff_iff, Bool.and_eq_true, decide_eq_true_eq, decide_eq_true_eq, decide_eq_true_eq, List.cons.injEq]
theorem ne_I {x y : Int} (h : ¬ x = y) : ¬ x = y := h
theorem eq_I {x y : Int} (h : x = y) : x = y := h
theorem ne_X {α : Type} {x y : α} (h : ¬ x = y) : ¬ x = y := h
theorem eq_X {α : Type} [DecidableEq α] {x y : α} (h : ¬ ¬ x = y) : x = y := Decidable.not_not.1 h
theorem vneqP (x y : Pn) : vaggeq Tryz.prog .neq 27 (vPn x) (vPn y) = some (B (decide (¬ x = y))) := by
  have := vne60 x.x x.y y.x y.y
  have e : decide (¬ (x.x = y.x ∧ x.y = y.y)) = decide (¬ x = y) := decide_eq_decide.2 (by cases x; cases y; simp)
  rw [e] at this
  exact this
theorem vneqSp (x y : Sp) : vaggeq Tryz.prog .neq 67 (vSp x) (vSp y) = some (B (decide (¬ x = y))) := by
  obtain ⟨sh, h1, h2⟩ := top72
  unfold vaggeq
  rw [h1]
  dsimp only
  rw [h2]
  rw [decide_not]
theorem top85 : eqTop Tryz.prog 80 = some (Sh.cons 0 1 false Sh.int (Sh.cons 1 1 false Sh.int (Sh.cons 2 2 true (Sh.cons 0 1 false Sh.int (Sh.cons 1 1 false Sh.int Sh.nil)) (Sh.cons 4 2 true (Sh.cons 0 1 false Sh.int (Sh.cons 1 1 false Sh.int Sh.nil)) Sh.nil)))) := by kernel_rfl
theorem vneqSg (x y : Sg) : vaggeq Tryz.prog .neq 80 (vSg x) (vSg y) = some (B (decide (¬ x = y))) := by
  have : (!((x.f == y.f) && ((x.t == y.t) && (((x.r.x == y.r.x) && ((x.r.y == y.r.y) && true)) && (((x.l.x == y.l.x) && ((x.l.y == y.l.y) && true)) && true))))) = decide (¬ x = y) := by
    obtain ⟨f, t, ⟨a, b⟩, ⟨c, d⟩⟩ := x; obtain ⟨f', t', ⟨a', b'⟩, ⟨c', d'⟩⟩ := y
    rw [Bool.eq_iff_iff, decide_eq_true_eq]; simp [-not_and, and_assoc]; omega
  rw [← this]
  unfold vaggeq
  rw [top85]
  rfl
theorem vc_equalI (a b : List Int) (h : Hp) (ha : a.length ≤ 4000000) (hb : b.length ≤ 4000000) : VC Tryz.prog 21 [ints a, ints b] h (B (decide (a = b))) h := by
  obtain ⟨E, hE⟩ : ∃ E, E = decide (a = b) := ⟨_, rfl⟩
  rw [← hE]
  refine VC.body Tryz.func21 rfl Tryz.ntmps21 Tryz.call21 (h.grows_refl) rfl ?_; conv => whnf
  refine VCode.lp (fun k : Nat => [(0, ints a), (1, ints b), (4, B false), (7, I a.length), (8, I k)]) (fun _ => []) (fun k => k ≤ a.length ∧ k ≤ b.length ∧ E = decide (a.drop k = b.drop k)) (fun k => a.length - k) 0 ⟨Nat.zero_le _, Nat.zero_le _, hE⟩ ?_ ?_
  · conv => whnf
    refine Retell.turn ⟨[], 0, [], []⟩ (TurnOk.mk' _ _ [] [] (OutOk.lift _) rfl (by decide) zb trivial trivial rfl) zv zm
  · rintro k ⟨h1, h2, h3⟩
    conv => whnf
    refine VIte.dec (fun h4 => ?_) (fun h4 => ?_)
    · have hx : a[k]? = some a[k] := List.getElem?_eq_getElem (by omega)
      rcases Nat.eq_or_lt_of_le h2 with h5 | h5
      · have hF : E = false := by
          rw [h3, decide_eq_false_iff_not]
          intro hh
          have := congrArg List.length hh
          simp at this; omega
        rw [hF]
        conv => whnf
        repeat' (first | ((first | refine zs1 ?_ | refine zs2 ?_ | refine zs3 ?_ | refine zs4 ?_ | refine zs5 ?_ | refine zs6 [] ?_); conv => whnf) | ((first | apply zi1 | apply zi2 | apply zi3 | apply zi4 | apply zi5) <;> intro _ <;> conv => whnf))
        · exact VOut.same rfl
        all_goals omega
      · have hy : b[k]? = some b[k] := List.getElem?_eq_getElem h5
        rw [drop_eq_dec hx hy] at h3
        generalize a[k] = x at hx h3
        generalize b[k] = y at hy h3
        conv => whnf
        repeat' (first | ((first | refine zs1 ?_ | refine zs2 ?_ | refine zs3 ?_ | refine zs4 ?_ | refine zs5 ?_ | refine zs6 [] ?_); conv => whnf) | ((first | apply zi1 | apply zi2 | apply zi3 | apply zi4 | apply zi5) <;> intro _ <;> conv => whnf) | (refine VAny.ix encI_len k rfl rfl hx ?_; conv => whnf) | (refine VAny.ix encI_len k rfl rfl hy ?_; conv => whnf))
        all_goals (try omega)
        all_goals first
          | (rw [decide_eq_false (ne_I (by first | assumption | omega)), Bool.false_and] at h3; rw [h3]; exact VOut.same rfl)
          | (rw [decide_eq_true (eq_I (by first | assumption | omega)), Bool.true_and] at h3
             refine LEnd.intro (k + 1) ⟨by omega, by omega, h3⟩ (by omega) ?_
             conv => whnf
             refine Retell.turn ⟨[], 0, [], []⟩ (TurnOk.mk' _ _ [] [] (OutOk.lift _) rfl (by decide) zb trivial trivial rfl) zv zm)
    · have hk : k = a.length := by omega
      rw [h3, hk, List.drop_length]
      conv => whnf
      repeat' (first | ((first | refine zs1 ?_ | refine zs2 ?_ | refine zs3 ?_ | refine zs4 ?_ | refine zs5 ?_ | refine zs6 [] ?_); conv => whnf) | ((first | apply zi1 | apply zi2 | apply zi3 | apply zi4 | apply zi5) <;> intro _ <;> conv => whnf))
      refine VOut.same ?_
      have : ((a.length : Int) == b.length) = decide ([] = b.drop a.length) := by
        rw [Bool.eq_iff_iff, decide_eq_true_eq, beq_iff_eq]
        constructor
        · intro hh; rw [List.drop_of_length_le (by omega)]
        · intro hh
          have := congrArg List.length hh
          simp at this; omega
      simp only [V.ren, this]
theorem vc_equalSp (a b : List Sp) (h : Hp) (ha : a.length ≤ 4000000) (hb : b.length ≤ 4000000) : VC Tryz.prog 44 [sps a, sps b] h (B (decide (a = b))) h := by
  obtain ⟨E, hE⟩ : ∃ E, E = decide (a = b) := ⟨_, rfl⟩
  rw [← hE]
  refine VC.body Tryz.func44 rfl Tryz.ntmps44 Tryz.call44 (h.grows_refl) rfl ?_; conv => whnf
  refine VCode.lp (fun k : Nat => [(0, sps a), (1, sps b), (4, B false), (7, I a.length), (8, I k)]) (fun _ => []) (fun k => k ≤ a.length ∧ k ≤ b.length ∧ E = decide (a.drop k = b.drop k)) (fun k => a.length - k) 0 ⟨Nat.zero_le _, Nat.zero_le _, hE⟩ ?_ ?_
  · conv => whnf
    refine Retell.turn ⟨[], 0, [], []⟩ (TurnOk.mk' _ _ [] [] (OutOk.lift _) rfl (by decide) zb trivial trivial rfl) zv zm
  · rintro k ⟨h1, h2, h3⟩
    conv => whnf
    refine VIte.dec (fun h4 => ?_) (fun h4 => ?_)
    · have hx : a[k]? = some a[k] := List.getElem?_eq_getElem (by omega)
      rcases Nat.eq_or_lt_of_le h2 with h5 | h5
      · have hF : E = false := by
          rw [h3, decide_eq_false_iff_not]
          intro hh
          have := congrArg List.length hh
          simp at this; omega
        rw [hF]
        conv => whnf
        repeat' (first | ((first | refine zs1 ?_ | refine zs2 ?_ | refine zs3 ?_ | refine zs4 ?_ | refine zs5 ?_ | refine zs6 [] ?_); conv => whnf) | ((first | apply zi1 | apply zi2 | apply zi3 | apply zi4 | apply zi5) <;> intro _ <;> conv => whnf))
        · exact VOut.same rfl
        all_goals omega
      · have hy : b[k]? = some b[k] := List.getElem?_eq_getElem h5
        rw [drop_eq_dec hx hy] at h3
        generalize a[k] = x at hx h3
        generalize b[k] = y at hy h3
        conv => whnf
        repeat' (first | ((first | refine zs1 ?_ | refine zs2 ?_ | refine zs3 ?_ | refine zs4 ?_ | refine zs5 ?_ | refine zs6 [] ?_); conv => whnf) | ((first | apply zi1 | apply zi2 | apply zi3 | apply zi4 | apply zi5) <;> intro _ <;> conv => whnf) | (refine VAny.ix encSp_len k rfl rfl hx ?_; conv => whnf) | (refine VAny.ix encSp_len k rfl rfl hy ?_; conv => whnf) | (refine VAgg.intro (vneqSp _ _) ?_; conv => whnf))
        all_goals (try omega)
        all_goals first
          | (rw [decide_eq_false (ne_X (by first | assumption | omega)), Bool.false_and] at h3; rw [h3]; exact VOut.same rfl)
          | (rw [decide_eq_true (eq_X (by first | assumption | omega)), Bool.true_and] at h3
             refine LEnd.intro (k + 1) ⟨by omega, by omega, h3⟩ (by omega) ?_
             conv => whnf
             refine Retell.turn ⟨[], 0, [], []⟩ (TurnOk.mk' _ _ [] [] (OutOk.lift _) rfl (by decide) zb trivial trivial rfl) zv zm)
    · have hk : k = a.length := by omega
      rw [h3, hk, List.drop_length]
      conv => whnf
      repeat' (first | ((first | refine zs1 ?_ | refine zs2 ?_ | refine zs3 ?_ | refine zs4 ?_ | refine zs5 ?_ | refine zs6 [] ?_); conv => whnf) | ((first | apply zi1 | apply zi2 | apply zi3 | apply zi4 | apply zi5) <;> intro _ <;> conv => whnf))
      refine VOut.same ?_
      have : ((a.length : Int) == b.length) = decide ([] = b.drop a.length) := by
        rw [Bool.eq_iff_iff, decide_eq_true_eq, beq_iff_eq]
        constructor
        · intro hh; rw [List.drop_of_length_le (by omega)]
        · intro hh
          have := congrArg List.length hh
          simp at this; omega
      simp only [V.ren, this]
theorem vc_equalP (a b : List Pn) (h : Hp) (ha : a.length ≤ 4000000) (hb : b.length ≤ 4000000) : VC Tryz.prog 67 [pns a, pns b] h (B (decide (a = b))) h := by
  obtain ⟨E, hE⟩ : ∃ E, E = decide (a = b) := ⟨_, rfl⟩
  rw [← hE]
  refine VC.body Tryz.func67 rfl Tryz.ntmps67 Tryz.call67 (h.grows_refl) rfl ?_; conv => whnf
  refine VCode.lp (fun k : Nat => [(0, pns a), (1, pns b), (4, B false), (7, I a.length), (8, I k)]) (fun _ => []) (fun k => k ≤ a.length ∧ k ≤ b.length ∧ E = decide (a.drop k = b.drop k)) (fun k => a.length - k) 0 ⟨Nat.zero_le _, Nat.zero_le _, hE⟩ ?_ ?_
  · conv => whnf
    refine Retell.turn ⟨[], 0, [], []⟩ (TurnOk.mk' _ _ [] [] (OutOk.lift _) rfl (by decide) zb trivial trivial rfl) zv zm
  · rintro k ⟨h1, h2, h3⟩
    conv => whnf
    refine VIte.dec (fun h4 => ?_) (fun h4 => ?_)
    · have hx : a[k]? = some a[k] := List.getElem?_eq_getElem (by omega)
      rcases Nat.eq_or_lt_of_le h2 with h5 | h5
      · have hF : E = false := by
          rw [h3, decide_eq_false_iff_not]
          intro hh
          have := congrArg List.length hh
          simp at this; omega
        rw [hF]
        conv => whnf
        repeat' (first | ((first | refine zs1 ?_ | refine zs2 ?_ | refine zs3 ?_ | refine zs4 ?_ | refine zs5 ?_ | refine zs6 [] ?_); conv => whnf) | ((first | apply zi1 | apply zi2 | apply zi3 | apply zi4 | apply zi5) <;> intro _ <;> conv => whnf))
        · exact VOut.same rfl
        all_goals omega
      · have hy : b[k]? = some b[k] := List.getElem?_eq_getElem h5
        rw [drop_eq_dec hx hy] at h3
        generalize a[k] = x at hx h3
        generalize b[k] = y at hy h3
        conv => whnf
        repeat' (first | ((first | refine zs1 ?_ | refine zs2 ?_ | refine zs3 ?_ | refine zs4 ?_ | refine zs5 ?_ | refine zs6 [] ?_); conv => whnf) | ((first | apply zi1 | apply zi2 | apply zi3 | apply zi4 | apply zi5) <;> intro _ <;> conv => whnf) | (refine VAny.ix encPn_len k rfl rfl hx ?_; conv => whnf) | (refine VAny.ix encPn_len k rfl rfl hy ?_; conv => whnf) | (refine VAgg.intro (vneqP _ _) ?_; conv => whnf))
        all_goals (try omega)
        all_goals first
          | (rw [decide_eq_false (ne_X (by first | assumption | omega)), Bool.false_and] at h3; rw [h3]; exact VOut.same rfl)
          | (rw [decide_eq_true (eq_X (by first | assumption | omega)), Bool.true_and] at h3
             refine LEnd.intro (k + 1) ⟨by omega, by omega, h3⟩ (by omega) ?_
             conv => whnf
             refine Retell.turn ⟨[], 0, [], []⟩ (TurnOk.mk' _ _ [] [] (OutOk.lift _) rfl (by decide) zb trivial trivial rfl) zv zm)
    · have hk : k = a.length := by omega
      rw [h3, hk, List.drop_length]
      conv => whnf
      repeat' (first | ((first | refine zs1 ?_ | refine zs2 ?_ | refine zs3 ?_ | refine zs4 ?_ | refine zs5 ?_ | refine zs6 [] ?_); conv => whnf) | ((first | apply zi1 | apply zi2 | apply zi3 | apply zi4 | apply zi5) <;> intro _ <;> conv => whnf))
      refine VOut.same ?_
      have : ((a.length : Int) == b.length) = decide ([] = b.drop a.length) := by
        rw [Bool.eq_iff_iff, decide_eq_true_eq, beq_iff_eq]
        constructor
        · intro hh; rw [List.drop_of_length_le (by omega)]
        · intro hh
          have := congrArg List.length hh
          simp at this; omega
      simp only [V.ren, this]
theorem vc_equalSg (a b : List Sg) (h : Hp) (ha : a.length ≤ 4000000) (hb : b.length ≤ 4000000) : VC Tryz.prog 68 [sgs a, sgs b] h (B (decide (a = b))) h := by
  obtain ⟨E, hE⟩ : ∃ E, E = decide (a = b) := ⟨_, rfl⟩
  rw [← hE]
  refine VC.body Tryz.func68 rfl Tryz.ntmps68 Tryz.call68 (h.grows_refl) rfl ?_; conv => whnf
  refine VCode.lp (fun k : Nat => [(0, sgs a), (1, sgs b), (4, B false), (7, I a.length), (8, I k)]) (fun _ => []) (fun k => k ≤ a.length ∧ k ≤ b.length ∧ E = decide (a.drop k = b.drop k)) (fun k => a.length - k) 0 ⟨Nat.zero_le _, Nat.zero_le _, hE⟩ ?_ ?_
  · conv => whnf
    refine Retell.turn ⟨[], 0, [], []⟩ (TurnOk.mk' _ _ [] [] (OutOk.lift _) rfl (by decide) zb trivial trivial rfl) zv zm
  · rintro k ⟨h1, h2, h3⟩
    conv => whnf
    refine VIte.dec (fun h4 => ?_) (fun h4 => ?_)
    · have hx : a[k]? = some a[k] := List.getElem?_eq_getElem (by omega)
      rcases Nat.eq_or_lt_of_le h2 with h5 | h5
      · have hF : E = false := by
          rw [h3, decide_eq_false_iff_not]
          intro hh
          have := congrArg List.length hh
          simp at this; omega
        rw [hF]
        conv => whnf
        repeat' (first | ((first | refine zs1 ?_ | refine zs2 ?_ | refine zs3 ?_ | refine zs4 ?_ | refine zs5 ?_ | refine zs6 [] ?_); conv => whnf) | ((first | apply zi1 | apply zi2 | apply zi3 | apply zi4 | apply zi5) <;> intro _ <;> conv => whnf))
        · exact VOut.same rfl
        all_goals omega
      · have hy : b[k]? = some b[k] := List.getElem?_eq_getElem h5
        rw [drop_eq_dec hx hy] at h3
        generalize a[k] = x at hx h3
        generalize b[k] = y at hy h3
        conv => whnf
        repeat' (first | ((first | refine zs1 ?_ | refine zs2 ?_ | refine zs3 ?_ | refine zs4 ?_ | refine zs5 ?_ | refine zs6 [] ?_); conv => whnf) | ((first | apply zi1 | apply zi2 | apply zi3 | apply zi4 | apply zi5) <;> intro _ <;> conv => whnf) | (refine VAny.ix encSg_len k rfl rfl hx ?_; conv => whnf) | (refine VAny.ix encSg_len k rfl rfl hy ?_; conv => whnf) | (refine VAgg.intro (vneqSg _ _) ?_; conv => whnf))
        all_goals (try omega)
        all_goals first
          | (rw [decide_eq_false (ne_X (by first | assumption | omega)), Bool.false_and] at h3; rw [h3]; exact VOut.same rfl)
          | (rw [decide_eq_true (eq_X (by first | assumption | omega)), Bool.true_and] at h3
             refine LEnd.intro (k + 1) ⟨by omega, by omega, h3⟩ (by omega) ?_
             conv => whnf
             refine Retell.turn ⟨[], 0, [], []⟩ (TurnOk.mk' _ _ [] [] (OutOk.lift _) rfl (by decide) zb trivial trivial rfl) zv zm)
    · have hk : k = a.length := by omega
      rw [h3, hk, List.drop_length]
      conv => whnf
      repeat' (first | ((first | refine zs1 ?_ | refine zs2 ?_ | refine zs3 ?_ | refine zs4 ?_ | refine zs5 ?_ | refine zs6 [] ?_); conv => whnf) | ((first | apply zi1 | apply zi2 | apply zi3 | apply zi4 | apply zi5) <;> intro _ <;> conv => whnf))
      refine VOut.same ?_
      have : ((a.length : Int) == b.length) = decide ([] = b.drop a.length) := by
        rw [Bool.eq_iff_iff, decide_eq_true_eq, beq_iff_eq]
        constructor
        · intro hh; rw [List.drop_of_length_le (by omega)]
        · intro hh
          have := congrArg List.length hh
          simp at this; omega
      simp only [V.ren, this]
theorem vc_cloneP (l : List Pn) (h : Hp) (hl : l.length ≤ 4000000) : VC Tryz.prog 48 [pns l] h (pns l) h := by
  refine VC.body Tryz.func48 rfl Tryz.ntmps48 Tryz.call48 (h.grows_refl) rfl ?_; conv => whnf
  repeat (first | ((first | refine zs1 ?_ | refine zs2 ?_ | refine zs3 ?_ | refine zs4 ?_ | refine zs5 ?_ | refine zs6 [] ?_); conv => whnf))
  refine VMem.appNil encPn_len rfl rfl rfl (by omega) ?_
  conv => whnf
  repeat (first | ((first | refine zs1 ?_ | refine zs2 ?_ | refine zs3 ?_ | refine zs4 ?_ | refine zs5 ?_ | refine zs6 [] ?_); conv => whnf))
  refine VOut.data 1 [(0, l.flatMap encPn)] [] rfl (FzAll.flat rfl FzAll.nil) trivial (VTo.fsGl rfl (flat_len encPn_len _))
theorem vc_cloneSg (l : List Sg) (h : Hp) (hl : l.length ≤ 4000000) : VC Tryz.prog 49 [sgs l] h (sgs l) h := by
  refine VC.body Tryz.func49 rfl Tryz.ntmps49 Tryz.call49 (h.grows_refl) rfl ?_; conv => whnf
  repeat (first | ((first | refine zs1 ?_ | refine zs2 ?_ | refine zs3 ?_ | refine zs4 ?_ | refine zs5 ?_ | refine zs6 [] ?_); conv => whnf))
  refine VMem.appNil encSg_len rfl rfl rfl (by omega) ?_
  conv => whnf
  repeat (first | ((first | refine zs1 ?_ | refine zs2 ?_ | refine zs3 ?_ | refine zs4 ?_ | refine zs5 ?_ | refine zs6 [] ?_); conv => whnf))
  refine VOut.data 1 [(0, l.flatMap encSg)] [] rfl (FzAll.flat rfl FzAll.nil) trivial (VTo.fsGl rfl (flat_len encSg_len _))
theorem vc_CloneNet (N : Nt) (h : Hp) (hn : N.ps.length ≤ 4000000) (hm : N.ss.length ≤ 4000000) : VC Tryz.prog 9 [vN N] h (vN N) h := by
  refine VC.body Tryz.func9 rfl Tryz.ntmps9 Tryz.call9 (h.grows_refl) rfl ?_; conv => whnf
  repeat' (first | ((first | refine zs1 ?_ | refine zs2 ?_ | refine zs3 ?_ | refine zs4 ?_ | refine zs5 ?_ | refine zs6 [(2, 4)] ?_); conv => whnf) | ((first | apply zi1 | apply zi2 | apply zi3 | apply zi4 | apply zi5) <;> intro _ <;> conv => whnf) | (refine VCall.intro (vc_cloneP N.ps _ hn) ?_; conv => whnf) | (refine VCall.intro (vc_cloneSg N.ss _ hm) ?_; conv => whnf))
  exact VOut.same rfl
theorem vc_equal (a b : Nt) (h : Hp) (h1 : a.ps.length ≤ 4000000) (h2 : a.ss.length ≤ 4000000) (h3 : b.ps.length ≤ 4000000) (h4 : b.ss.length ≤ 4000000) : VC Tryz.prog 22 [vN a, vN b] h (B (decide (a.ps = b.ps) && decide (a.ss = b.ss))) h := by
  have c1 := fun h => vc_equalP a.ps b.ps h h1 h3
  have c2 := fun h => vc_equalSg a.ss b.ss h h2 h4
  generalize decide (a.ps = b.ps) = x at *
  generalize decide (a.ss = b.ss) = y at *
  cases x <;> cases y <;> (
    refine VC.body Tryz.func22 rfl Tryz.ntmps22 Tryz.call22 (h.grows_refl) rfl ?_; conv => whnf
    repeat' (first | ((first | refine zs1 ?_ | refine zs2 ?_ | refine zs3 ?_ | refine zs4 ?_ | refine zs5 ?_ | refine zs6 [] ?_); conv => whnf) | ((first | apply zi1 | apply zi2 | apply zi3 | apply zi4 | apply zi5) <;> intro _ <;> conv => whnf) | (refine VCall.intro (c1 _) ?_; conv => whnf) | (refine VCall.intro (c2 _) ?_; conv => whnf))
    exact VOut.same rfl)
end Go.Proofs.YtdlnjnfkbneibaaGreat

open Go.Vm
open Clip (Pn Sg Nt Bd Rt Sp Co Pl NtOk SgOk chk chk_ok bnds bnds_sz bnds_len bnds_sq regS BdSz SpSz)
namespace Go.Proofs.YtdlnjnfkbneibaaGreat
set_option maxRecDepth 20000
set_option maxHeartbeats 4000000

theorem vc_Net (N : Nt) (h : Hp) (hn : N.ps.length ≤ 4000000) (hm : N.ss.length ≤ 4000000) : VC Tryz.prog 11 [vN N] h (vN N) h := by
  refine VC.body Tryz.func11 rfl Tryz.ntmps11 Tryz.call11 (h.grows_refl) rfl ?_; conv => whnf
  repeat' (first | ((first | refine zs1 ?_ | refine zs2 ?_ | refine zs3 ?_ | refine zs4 ?_ | refine zs5 ?_ | refine zs6 [] ?_); conv => whnf) | ((first | apply zi1 | apply zi2 | apply zi3 | apply zi4 | apply zi5) <;> intro _ <;> conv => whnf) | (refine VCall.intro (vc_cloneP N.ps _ hn) ?_; conv => whnf))
  refine VCode.lp (fun x : Nat × List Sg => [(2, .ptr (.loc 0) 0), (3, .ptr (.loc 1) 0), (11, sgs N.ss), (12, I N.ss.length), (13, I x.1)])
    (fun x => [.flat true [.nilslice, .nilslice], .cells true [pns N.ps, .gl (.loc 2) 6 x.2.length], .flat true (x.2.flatMap encSg)]) (fun x => x.1 ≤ N.ss.length ∧ x.2 = N.ss.take x.1) (fun x => N.ss.length - x.1) (0, []) ⟨Nat.zero_le _, rfl⟩ ?_ ?_
  · conv => whnf
    refine Retell.turn ⟨[1,2,3], 3, [], []⟩ (TurnOk.mk' _ _ [] [] (OutOk.lift _) rfl (by decide) zb trivial trivial rfl) zv zm
  · rintro ⟨k, w⟩ ⟨hk, hw⟩
    dsimp only at hk hw
    have hwl : w.length ≤ N.ss.length := by rw [hw, List.length_take]; omega
    conv => whnf
    refine VIte.dec (fun h3 => ?_) (fun h3 => ?_)
    · have hp : N.ss[k]? = some N.ss[k] := List.getElem?_eq_getElem (by omega)
      have hts : N.ss.take (k + 1) = w ++ [N.ss[k]] := by rw [List.take_add_one, hp, hw]; rfl
      generalize N.ss[k] = p at hp hts
      conv => whnf
      repeat' (first | ((first | refine zs1 ?_ | refine zs2 ?_ | refine zs3 ?_ | refine zs4 ?_ | refine zs5 ?_ | refine zs6 [] ?_); conv => whnf) | ((first | apply zi1 | apply zi2 | apply zi3 | apply zi4 | apply zi5) <;> intro _ <;> conv => whnf) | (refine VAny.ix encSg_len k rfl rfl hp ?_; conv => whnf))
      refine VMem.app1 (l := w) p encSg_len rfl rfl rfl rfl rfl (by omega) ?_
      conv => whnf
      repeat (first | ((first | refine zs1 ?_ | refine zs2 ?_ | refine zs3 ?_ | refine zs4 ?_ | refine zs5 ?_ | refine zs6 [] ?_); conv => whnf))
      refine LEnd.intro (k + 1, w ++ [p]) ⟨by dsimp only; omega, hts.symm⟩ (by dsimp only; omega) ?_
      conv => whnf
      rw [List.length_append]
      refine Retell.turn ⟨[0,1,5], 6, [], []⟩ (TurnOk.mk' _ _ [] [] (OutOk.lift _) rfl (by decide) zb trivial trivial rfl) zv zm
    · have hk2 : k = N.ss.length := by dsimp only at h3; omega
      subst hk2
      rw [List.take_of_length_le (Nat.le_refl _)] at hw
      subst hw
      conv => whnf
      repeat (first | ((first | refine zs1 ?_ | refine zs2 ?_ | refine zs3 ?_ | refine zs4 ?_ | refine zs5 ?_ | refine zs6 [] ?_); conv => whnf))
      refine VOut.data 3 [(2, N.ss.flatMap encSg)] [] rfl zf (by exact FmAll.nil) zv
theorem vc_point (x y : Int) (h : Hp) : VC Tryz.prog 31 [I x, I y] h (vPn ⟨x, y⟩) h := by
  refine VC.body Tryz.func31 rfl Tryz.ntmps31 Tryz.call31 (h.grows_refl) rfl ?_; conv => whnf
  repeat' (first | ((first | refine zs1 ?_ | refine zs2 ?_ | refine zs3 ?_ | refine zs4 ?_ | refine zs5 ?_ | refine zs6 [] ?_); conv => whnf) | ((first | apply zi1 | apply zi2 | apply zi3 | apply zi4 | apply zi5) <;> intro _ <;> conv => whnf))
  exact VOut.same rfl
theorem vc_Seen (f t a b c d : Int) (h : Hp) : VC Tryz.prog 33 [I f, I t, I a, I b, I c, I d] h (vSg ⟨f, t, ⟨a, b⟩, ⟨c, d⟩⟩) h := by
  have c1 := fun h => vc_point a b h
  have c2 := fun h => vc_point c d h
  refine VC.body Tryz.func33 rfl Tryz.ntmps33 Tryz.call33 (h.grows_refl) rfl ?_; conv => whnf
  repeat' (first | ((first | refine zs1 ?_ | refine zs2 ?_ | refine zs3 ?_ | refine zs4 ?_ | refine zs5 ?_ | refine zs6 [] ?_); conv => whnf) | ((first | apply zi1 | apply zi2 | apply zi3 | apply zi4 | apply zi5) <;> intro _ <;> conv => whnf) | (refine VCall.intro (c1 _) ?_; conv => whnf) | (refine VCall.intro (c2 _) ?_; conv => whnf))
  exact VOut.same rfl
def threeP : List Pn := [⟨0, 0⟩, ⟨100, 0⟩, ⟨60, 60⟩]
def threeS : List Sg := [⟨0, 2, ⟨2, 1⟩, ⟨1, 2⟩⟩, ⟨1, 2, ⟨-1, 2⟩, ⟨-2, 1⟩⟩]
def threeN : Nt := ⟨threeP, threeS⟩
def fourP : List Pn := threeP ++ [⟨60, 0⟩]
def fourS2 : List Sg := [⟨0, 2, ⟨2, 1⟩, ⟨1, 2⟩⟩, ⟨1, 2, ⟨1, 0⟩, ⟨1, 1⟩⟩]
def fourS : List Sg := fourS2 ++ [⟨3, 2, ⟨1, 10⟩, ⟨-1, 10⟩⟩]
def fourN : Nt := ⟨fourP, fourS⟩
theorem VOut.ownN {h : Hp} {loc : List Blk} {n m : Nat} {ds es : List D} (j k L : Nat) (hL : Nat.ble loc.length L = true) (hjk : j < k) (hj : loc[j]? = some (.flat true ds)) (hk : loc[k]? = some (.flat true es)) : VOut h ⟨h.lift, loc⟩ (.agg [.gl (.loc j) 2 n, .gl (.loc k) 6 m]) (.agg [.gl (.loc h.loc.length) 2 n, .gl (.loc (h.loc.length + 1)) 6 m]) (h.pushes [.flat true ds, .flat true es]) := by
  refine VOut.upd [] [.flat true ds, .flat true es] [j, k] L hL (by intro p hp; cases hp) (by simp; omega) rfl ?_ ?_ rfl
  · intro i b hi
    cases i with
    | zero => rw [List.getElem?_cons_zero, Option.some.injEq] at hi; subst hi; exact ⟨j, rfl, hj⟩
    | succ i =>
      cases i with
      | zero => rw [List.getElem?_cons_succ, List.getElem?_cons_zero, Option.some.injEq] at hi; subst hi; exact ⟨k, rfl, hk⟩
      | succ i => simp at hi
  · intro σ x hx
    have : (V.agg [.gl (.loc h.loc.length) 2 n, .gl (.loc (h.loc.length + 1)) 6 m]).ren (backR h.loc.length [j, k] L) = .agg [.gl (.loc j) 2 n, .gl (.loc k) 6 m] := by simp [V.ren, V.rens, backR]
    rw [this]; exact hx
theorem vc_Three (h : Hp) : VC Tryz.prog 32 [] h (vN threeN) h := by
  have p1 := fun h => vc_point 0 0 h
  have p2 := fun h => vc_point 100 0 h
  have p3 := fun h => vc_point 60 60 h
  have s1 := fun h => vc_Seen 0 2 2 1 1 2 h
  have s2 := fun h => vc_Seen 1 2 (-1) 2 (-2) 1 h
  refine VC.body Tryz.func32 rfl Tryz.ntmps32 Tryz.call32 (h.grows_refl) rfl ?_; conv => whnf
  repeat' (first | ((first | refine zs1 ?_ | refine zs2 ?_ | refine zs3 ?_ | refine zs4 ?_ | refine zs5 ?_ | refine zs6 [] ?_); conv => whnf) | ((first | apply zi1 | apply zi2 | apply zi3 | apply zi4 | apply zi5) <;> intro _ <;> conv => whnf) | (refine VCall.intro (p1 _) ?_; conv => whnf) | (refine VCall.intro (p2 _) ?_; conv => whnf) | (refine VCall.intro (p3 _) ?_; conv => whnf) | (refine VCall.intro (s1 _) ?_; conv => whnf) | (refine VCall.intro (s2 _) ?_; conv => whnf))
  refine VOut.data 3 [(1, threeP.flatMap encPn), (2, threeS.flatMap encSg)] [] rfl zf (by exact FmAll.nil) zv
theorem vc_ThreeO (h : Hp) : VC Tryz.prog 32 [] h (.agg [.gl (.loc h.loc.length) 2 3, .gl (.loc (h.loc.length + 1)) 6 2]) (h.pushes [.flat true (threeP.flatMap encPn), .flat true (threeS.flatMap encSg)]) := by
  have p1 := fun h => vc_point 0 0 h
  have p2 := fun h => vc_point 100 0 h
  have p3 := fun h => vc_point 60 60 h
  have s1 := fun h => vc_Seen 0 2 2 1 1 2 h
  have s2 := fun h => vc_Seen 1 2 (-1) 2 (-2) 1 h
  refine VC.body Tryz.func32 rfl Tryz.ntmps32 Tryz.call32 (Hp.grows_sets (h := h) (upd := []) (by intro p hp; cases hp)) rfl ?_; conv => whnf
  repeat' (first | ((first | refine zs1 ?_ | refine zs2 ?_ | refine zs3 ?_ | refine zs4 ?_ | refine zs5 ?_ | refine zs6 [] ?_); conv => whnf) | ((first | apply zi1 | apply zi2 | apply zi3 | apply zi4 | apply zi5) <;> intro _ <;> conv => whnf) | (refine VCall.intro (p1 _) ?_; conv => whnf) | (refine VCall.intro (p2 _) ?_; conv => whnf) | (refine VCall.intro (p3 _) ?_; conv => whnf) | (refine VCall.intro (s1 _) ?_; conv => whnf) | (refine VCall.intro (s2 _) ?_; conv => whnf))
  exact VOut.ownN 1 2 3 rfl (by decide) rfl rfl
theorem vc_Four (h : Hp) : VC Tryz.prog 30 [] h (vN fourN) h := by
  have p1 := fun h => vc_point 60 0 h
  have s1 := fun h => vc_Seen 1 2 1 0 1 1 h
  have s2 := fun h => vc_Seen 3 2 1 10 (-1) 10 h
  refine VC.body Tryz.func30 rfl Tryz.ntmps30 Tryz.call30 (h.grows_refl) rfl ?_; conv => whnf
  repeat' (first | ((first | refine zs1 ?_ | refine zs2 ?_ | refine zs3 ?_ | refine zs4 ?_ | refine zs5 ?_); conv => whnf) | ((first | apply zi1 | apply zi2 | apply zi3 | apply zi4 | apply zi5) <;> intro _ <;> conv => whnf) | (refine VCall.intro (vc_ThreeO _) ?_; conv => whnf))
  refine zs6 [(1, 2)] ?_
  conv => whnf
  repeat' (first | ((first | refine zs1 ?_ | refine zs2 ?_ | refine zs3 ?_ | refine zs4 ?_ | refine zs5 ?_); conv => whnf) | ((first | apply zi1 | apply zi2 | apply zi3 | apply zi4 | apply zi5) <;> intro _ <;> conv => whnf) | (refine VCall.intro (s1 _) ?_; conv => whnf))
  refine zs6 [(1, 2), (2, 6), (4, 6), (6, 7)] ?_
  conv => whnf
  repeat' (first | ((first | refine zs1 ?_ | refine zs2 ?_ | refine zs3 ?_ | refine zs4 ?_ | refine zs5 ?_); conv => whnf) | ((first | apply zi1 | apply zi2 | apply zi3 | apply zi4 | apply zi5) <;> intro _ <;> conv => whnf) | (refine VCall.intro (p1 _) ?_; conv => whnf))
  refine VMem.app1 (l := threeP) (⟨60, 0⟩ : Pn) encPn_len rfl rfl rfl rfl rfl (by decide) ?_
  conv => whnf
  repeat' (first | ((first | refine zs1 ?_ | refine zs2 ?_ | refine zs3 ?_ | refine zs4 ?_ | refine zs5 ?_); conv => whnf) | ((first | apply zi1 | apply zi2 | apply zi3 | apply zi4 | apply zi5) <;> intro _ <;> conv => whnf) | (refine VCall.intro (s2 _) ?_; conv => whnf))
  refine VMem.app1 (l := fourS2) (⟨3, 2, ⟨1, 10⟩, ⟨-1, 10⟩⟩ : Sg) encSg_len rfl rfl rfl rfl rfl (by decide) ?_
  conv => whnf
  repeat' (first | ((first | refine zs1 ?_ | refine zs2 ?_ | refine zs3 ?_ | refine zs4 ?_ | refine zs5 ?_); conv => whnf) | ((first | apply zi1 | apply zi2 | apply zi3 | apply zi4 | apply zi5) <;> intro _ <;> conv => whnf))
  refine VOut.data 8 [(5, fourP.flatMap encPn), (7, fourS.flatMap encSg)] [] rfl zf (by exact FmAll.nil) zv
theorem vc_FourO (h : Hp) : VC Tryz.prog 30 [] h (.agg [.gl (.loc h.loc.length) 2 4, .gl (.loc (h.loc.length + 1)) 6 3]) (h.pushes [.flat true (fourP.flatMap encPn), .flat true (fourS.flatMap encSg)]) := by
  have p1 := fun h => vc_point 60 0 h
  have s1 := fun h => vc_Seen 1 2 1 0 1 1 h
  have s2 := fun h => vc_Seen 3 2 1 10 (-1) 10 h
  refine VC.body Tryz.func30 rfl Tryz.ntmps30 Tryz.call30 (Hp.grows_sets (h := h) (upd := []) (by intro p hp; cases hp)) rfl ?_; conv => whnf
  repeat' (first | ((first | refine zs1 ?_ | refine zs2 ?_ | refine zs3 ?_ | refine zs4 ?_ | refine zs5 ?_); conv => whnf) | ((first | apply zi1 | apply zi2 | apply zi3 | apply zi4 | apply zi5) <;> intro _ <;> conv => whnf) | (refine VCall.intro (vc_ThreeO _) ?_; conv => whnf))
  refine zs6 [(1, 2)] ?_
  conv => whnf
  repeat' (first | ((first | refine zs1 ?_ | refine zs2 ?_ | refine zs3 ?_ | refine zs4 ?_ | refine zs5 ?_); conv => whnf) | ((first | apply zi1 | apply zi2 | apply zi3 | apply zi4 | apply zi5) <;> intro _ <;> conv => whnf) | (refine VCall.intro (s1 _) ?_; conv => whnf))
  refine zs6 [(1, 2), (2, 6), (4, 6), (6, 7)] ?_
  conv => whnf
  repeat' (first | ((first | refine zs1 ?_ | refine zs2 ?_ | refine zs3 ?_ | refine zs4 ?_ | refine zs5 ?_); conv => whnf) | ((first | apply zi1 | apply zi2 | apply zi3 | apply zi4 | apply zi5) <;> intro _ <;> conv => whnf) | (refine VCall.intro (p1 _) ?_; conv => whnf))
  refine VMem.app1 (l := threeP) (⟨60, 0⟩ : Pn) encPn_len rfl rfl rfl rfl rfl (by decide) ?_
  conv => whnf
  repeat' (first | ((first | refine zs1 ?_ | refine zs2 ?_ | refine zs3 ?_ | refine zs4 ?_ | refine zs5 ?_); conv => whnf) | ((first | apply zi1 | apply zi2 | apply zi3 | apply zi4 | apply zi5) <;> intro _ <;> conv => whnf) | (refine VCall.intro (s2 _) ?_; conv => whnf))
  refine VMem.app1 (l := fourS2) (⟨3, 2, ⟨1, 10⟩, ⟨-1, 10⟩⟩ : Sg) encSg_len rfl rfl rfl rfl rfl (by decide) ?_
  conv => whnf
  repeat' (first | ((first | refine zs1 ?_ | refine zs2 ?_ | refine zs3 ?_ | refine zs4 ?_ | refine zs5 ?_); conv => whnf) | ((first | apply zi1 | apply zi2 | apply zi3 | apply zi4 | apply zi5) <;> intro _ <;> conv => whnf))
  exact VOut.ownN 5 7 8 rfl (by decide) rfl rfl
end Go.Proofs.YtdlnjnfkbneibaaGreat

open Go.Vm
open Clip (Pn Sg Nt Bd Rt Sp Co Pl NtOk SgOk chk chk_ok bnds bnds_sz bnds_len bnds_sq regS BdSz SpSz offL)
namespace Go.Proofs.YtdlnjnfkbneibaaGreat
set_option maxRecDepth 20000
set_option maxHeartbeats 4000000

def spL : List Int → List Sp
  | a :: b :: r => ⟨⟨a, 1⟩, ⟨b, 1⟩⟩ :: spL r
  | _ => []
theorem spL_at {l : List Int} {k : Nat} {a b : Int} (ha : l[k]? = some a) (hb : l[k + 1]? = some b) : spL (l.drop k) = ⟨⟨a, 1⟩, ⟨b, 1⟩⟩ :: spL (l.drop (k + 2)) := by
  obtain ⟨h1, rfl⟩ := List.getElem?_eq_some_iff.1 ha
  obtain ⟨h2, rfl⟩ := List.getElem?_eq_some_iff.1 hb
  rw [List.drop_eq_getElem_cons h1, List.drop_eq_getElem_cons h2, spL]
theorem spL_end {l : List Int} {k : Nat} (h : l.length ≤ k + 1) : spL (l.drop k) = [] := by
  rcases Nat.lt_or_ge k l.length with h1 | h1
  · rw [List.drop_eq_getElem_cons h1, List.drop_of_length_le h, spL]; intros; simp at *
  · rw [List.drop_of_length_le h1, spL]; intros; contradiction
theorem vc_spots (l : List Int) (h : Hp) (hn : l.length ≤ 4000000) : VC Tryz.prog 45 [ints l] h (sps (spL l)) h := by
  obtain ⟨E, hE⟩ : ∃ E, E = spL l := ⟨_, rfl⟩
  rw [← hE]
  have hE : E = [] ++ spL (l.drop (2 * 0)) := hE
  refine VC.body Tryz.func45 rfl Tryz.ntmps45 Tryz.call45 (h.grows_refl) rfl ?_; conv => whnf
  repeat' (first | ((first | refine zs1 ?_ | refine zs2 ?_ | refine zs3 ?_ | refine zs4 ?_ | refine zs5 ?_); conv => whnf) | ((first | apply zi1 | apply zi2 | apply zi3 | apply zi4 | apply zi5) <;> intro _ <;> conv => whnf))
  refine VCode.lp (fun y : Nat × List Sp => [(0, ints l), (2, .nilslice), (3, .gl (.loc 0) 4 y.2.length), (4, I ((2 * y.1 : Nat) : Int))]) (fun y => [.flat true (y.2.flatMap encSp)]) (fun y => 2 * y.1 ≤ l.length ∧ y.2.length ≤ y.1 ∧ E = y.2 ++ spL (l.drop (2 * y.1))) (fun y => l.length - y.1) (0, []) ⟨Nat.zero_le _, Nat.zero_le _, hE⟩ ?_ ?_
  · conv => whnf
    refine Retell.turn ⟨[0], 0, [], []⟩ (TurnOk.mk' _ _ [] [] (OutOk.lift _) rfl (by decide) zb trivial trivial rfl) zv zm
  · clear hE
    rintro ⟨k, w⟩ ⟨h1, h2, h3⟩
    dsimp only at h1 h2 h3
    conv => whnf
    repeat' (first | ((first | refine zs1 ?_ | refine zs2 ?_ | refine zs3 ?_ | refine zs4 ?_ | refine zs5 ?_); conv => whnf) | ((first | apply zi1 | apply zi2 | apply zi3 | apply zi4 | apply zi5) <;> intro _ <;> conv => whnf))
    · rename_i h5
      dsimp only at h5
      have ha : l[2 * k]? = some (l[2 * k]'(by omega)) := List.getElem?_eq_getElem _
      have hb : l[2 * k + 1]? = some (l[2 * k + 1]'(by omega)) := List.getElem?_eq_getElem _
      rw [spL_at ha hb] at h3
      generalize l[2 * k]'(by omega) = a at *
      generalize l[2 * k + 1]'(by omega) = b at *
      refine zs6 [] ?_
      conv => whnf
      repeat' (first | ((first | refine zs1 ?_ | refine zs2 ?_ | refine zs3 ?_ | refine zs4 ?_ | refine zs5 ?_); conv => whnf) | ((first | apply zi1 | apply zi2 | apply zi3 | apply zi4 | apply zi5) <;> intro _ <;> conv => whnf) | (refine VAny.ix encI_len (2 * k) rfl rfl ha ?_; conv => whnf) | (refine VAny.ix encI_len (2 * k + 1) (by dsimp only; omega) rfl hb ?_; conv => whnf))
      refine VMem.app1 (l := w) (⟨⟨a, 1⟩, ⟨b, 1⟩⟩ : Sp) encSp_len rfl rfl rfl rfl rfl (by omega) ?_
      conv => whnf
      repeat' (first | ((first | refine zs1 ?_ | refine zs2 ?_ | refine zs3 ?_ | refine zs4 ?_ | refine zs5 ?_); conv => whnf) | ((first | apply zi1 | apply zi2 | apply zi3 | apply zi4 | apply zi5) <;> intro _ <;> conv => whnf))
      refine LEnd.intro (k + 1, w ++ [(⟨⟨a, 1⟩, ⟨b, 1⟩⟩ : Sp)]) ⟨by dsimp only; omega, by dsimp only; rw [List.length_append]; simp only [List.length_singleton]; omega, by dsimp only; rw [h3, List.append_assoc]; rfl⟩ (by dsimp only; omega) ?_
      conv => whnf
      rw [List.length_append]
      refine Retell.turn ⟨[2], 3, [], []⟩ (TurnOk.mk' _ _ [] [] (OutOk.lift _) rfl (by decide) zb trivial trivial rfl) zv zm
    · rename_i h5
      rw [spL_end (by dsimp only at h5; omega), List.append_nil] at h3
      subst h3
      repeat' (first | ((first | refine zs1 ?_ | refine zs2 ?_ | refine zs3 ?_ | refine zs4 ?_ | refine zs5 ?_); conv => whnf) | ((first | apply zi1 | apply zi2 | apply zi3 | apply zi4 | apply zi5) <;> intro _ <;> conv => whnf))
      refine VOut.data 1 [(0, E.flatMap encSp)] [] rfl zf (by exact FmAll.nil) zv
/-! ### Closed facts -/
theorem a01 : brE threeN 2 = 0 := by kernel_rfl
theorem a02 : (bnds threeN 2)[2]? = some ⟨2, 1, 200⟩ := by kernel_rfl
theorem a03 : (bnds threeN 2).length = 8 := by kernel_rfl
theorem a04 : crE threeN 2 = 0 := by kernel_rfl
theorem a05 : crS threeN 2 = spL [20, 40, 50, 25, 80, 40, 50, 100] := by kernel_rfl
theorem a06 : bxV Sp.X (crS threeN 2) = (20, 80) := by kernel_rfl
theorem a07 : bxV Sp.Y (crS threeN 2) = (25, 100) := by kernel_rfl
theorem a08 : asE threeN 2 ⟨1, 0⟩ = 0 := by kernel_rfl
theorem a09 : rcV threeN 2 ⟨1, 0⟩ = ⟨80, 1⟩ := by kernel_rfl
theorem a10 : prE threeN 2 ⟨0, 1⟩ ⟨[1, 2], [1, 1], 2⟩ = 0 := by kernel_rfl
theorem a11 : prV threeN 2 ⟨0, 1⟩ ⟨[1, 2], [1, 1], 2⟩ = ⟨100, 1⟩ := by kernel_rfl
theorem a12 : chk fourN = 0 := by kernel_rfl
theorem a13 : offL fourN = [1] := by kernel_rfl
theorem a14 : cvE fourN = 0 := by kernel_rfl
theorem a15 : cvV fourN = 1 := by kernel_rfl
theorem a16 : loE fourN 2 = 0 := by kernel_rfl
theorem a17 : loL fourN 2 = [1, 2] := by kernel_rfl
theorem a18 : rfE fourN 2 ⟨[2, 3, 4], [9, 10, 1], 0⟩ = 0 := by kernel_rfl
theorem a19 : rfB fourN 2 ⟨[2, 3, 4], [9, 10, 1], 0⟩ = true := by kernel_rfl
theorem a20 : crE fourN 1 = 0 := by kernel_rfl
theorem a21 : crS fourN 1 = spL [0, 0, 60, 60, 0, 60] := by kernel_rfl
end Go.Proofs.YtdlnjnfkbneibaaGreat

open Go.Vm
open Clip (Pn Sg Nt Bd Rt Sp Co Pl NtOk SgOk chk chk_ok bnds bnds_sz bnds_len bnds_sq regS BdSz SpSz offL)
namespace Go.Proofs.YtdlnjnfkbneibaaGreat
set_option maxRecDepth 20000
set_option maxHeartbeats 4000000

theorem vne65 (a b c d : Int) : vaggeq Tryz.prog .neq 69 (.agg [I a, I b]) (.agg [I c, I d]) = some (B (decide (¬ (a = c ∧ b = d)))) := by
  have : (!((a == c) && ((b == d) && true))) = decide (¬ (a = c ∧ b = d)) := by
    rw [Bool.eq_iff_iff, decide_eq_true_eq]; simp [-not_and]; omega
  rw [← this]
  unfold vaggeq
  rw [show eqTop Tryz.prog 69 = some (Sh.cons 0 1 false Sh.int (Sh.cons 1 1 false Sh.int Sh.nil)) by kernel_rfl]
  rfl
theorem vne70 (a b c d : Int) : vaggeq Tryz.prog .neq 40 (.agg [I a, I b]) (.agg [I c, I d]) = some (B (decide (¬ (a = c ∧ b = d)))) := by
  have : (!((a == c) && ((b == d) && true))) = decide (¬ (a = c ∧ b = d)) := by
    rw [Bool.eq_iff_iff, decide_eq_true_eq]; simp [-not_and]; omega
  rw [← this]
  unfold vaggeq
  rw [show eqTop Tryz.prog 40 = some (Sh.cons 0 1 false Sh.int (Sh.cons 1 1 false Sh.int Sh.nil)) by kernel_rfl]
  rfl
theorem vc_awake (h : Hp) : VC Tryz.prog 8 [] h (B true) h := by
  have c1 := fun h => vc_Bounds_ok threeN 2 h a01
  have c2 := fun h => vc_Corners threeN 2 h (by decide) (by decide)
  have c3 := fun h => vc_Box threeN 2 h (by decide) (by decide)
  have c4 := fun h => vc_Reach threeN 2 ⟨1, 0⟩ h (by decide) (by decide)
  have c5 := fun h => vc_Proves threeN 2 ⟨0, 1⟩ ⟨[1, 2], [1, 1], 2⟩ h (by decide) (by decide) (by decide) (by decide)
  have c6 := fun h => vc_Off_ok fourN h (chk_ok.1 a12)
  have c7 := fun h => vc_Convict fourN h (by decide) (by decide)
  have c8 := fun h => vc_Loose fourN 2 h (by decide) (by decide)
  have c9 := fun h => vc_Refutes fourN 2 ⟨[2, 3, 4], [9, 10, 1], 0⟩ h (by decide) (by decide) (by decide) (by decide)
  have c10 := fun h => vc_Corners fourN 1 h (by decide) (by decide)
  have p1 := fun h => vc_point 1 0 h
  have p2 := fun h => vc_point 0 1 h
  have s1 := fun h => vc_spots [20, 40, 50, 25, 80, 40, 50, 100] h (by decide)
  have s2 := fun h => vc_spots [0, 0, 60, 60, 0, 60] h (by decide)
  have hb := a02
  have hl := a03
  rw [a06, a07] at c3
  rw [a04, a05] at c2
  rw [a04] at c3
  rw [a08, a09] at c4
  rw [a10, a11] at c5
  rw [a13] at c6
  rw [a14, a15] at c7
  rw [a16, a17] at c8
  rw [a18, a19] at c9
  rw [a20, a21] at c10
  have q1 := fun h => vc_equalSp (spL [20, 40, 50, 25, 80, 40, 50, 100]) (spL [20, 40, 50, 25, 80, 40, 50, 100]) h (by decide) (by decide)
  have q2 := fun h => vc_equalSp (spL [0, 0, 60, 60, 0, 60]) (spL [0, 0, 60, 60, 0, 60]) h (by decide) (by decide)
  rw [decide_eq_true rfl] at q1 q2
  have q3 := vc_equalI [1] [1] Hp.bare (by decide) (by decide)
  have q4 := vc_equalI [1, 2] [1, 2] Hp.bare (by decide) (by decide)
  rw [decide_eq_true rfl] at q3 q4
  obtain ⟨cs, hcs⟩ : ∃ cs, cs = (bnds threeN 2).flatMap encBd := ⟨_, rfl⟩
  have eb : bds (bnds threeN 2) = .fs 3 8 cs := by rw [hcs]; unfold bds; rw [a03]
  have hix : ∀ K : V → Prop, K (.fp (encBd ⟨2, 1, 200⟩)) → VAny (IdxP 3 8 cs 2) K := fun K hK => by rw [hcs]; exact VAny.ix encBd_len 2 rfl a03.symm a02 hK
  rw [eb] at c1
  generalize spL [20, 40, 50, 25, 80, 40, 50, 100] = sA at *
  generalize spL [0, 0, 60, 60, 0, 60] = sB at *
  refine VC.bodyC 5 Tryz.func8 rfl Tryz.ntmps8 Tryz.call8 (h.grows_refl) rfl ?_; conv => whnf
  repeat' (first | ((first | refine zs1 ?_ | refine zs2 ?_ | refine zs3 ?_ | refine zs4 ?_ | refine zs5 ?_); conv => whnf) | ((first | apply zi1 | apply zi2 | apply zi3 | apply zi4 | apply zi5) <;> intro _ <;> conv => whnf) | (refine VCall.intro (vc_Three _) ?_; conv => whnf) | (refine VCall.intro (c1 _) ?_; conv => whnf) | (refine VCall.intro (c2 _) ?_; conv => whnf) | (refine VCall.intro (c3 _) ?_; conv => whnf) | (refine VCall.intro (c4 _) ?_; conv => whnf) | (refine VCall.intro (p1 _) ?_; conv => whnf) | (refine VCall.intro (p2 _) ?_; conv => whnf))
  refine VCut.at' (outer := h.lift) (marks := []) 1 [(1, .fs 3 8 cs), (2, I 0), (3, sps sA), (4, I 0), (5, .fp [DI 20, DI 80]), (6, .fp [DI 25, DI 100]), (7, I 0), (8, .fp [DI 80, DI 1]), (9, I 0)] [] ?_ ?_
  · conv => whnf
    refine Retell.turn ⟨[], 3, [(0, [DI 20, DI 80]), (1, [DI 25, DI 100]), (2, [DI 80, DI 1])], []⟩ (TurnOk.mk' _ _ [(0, [DI 20, DI 80]), (1, [DI 25, DI 100]), (2, [DI 80, DI 1])] [] (OutOk.lift _) rfl (by decide) zb zf trivial rfl) zv zm
  conv => whnf
  repeat' (first | ((first | refine zs1 ?_ | refine zs2 ?_ | refine zs3 ?_ | refine zs4 ?_ | refine zs5 ?_); conv => whnf) | ((first | apply zi1 | apply zi2 | apply zi3 | apply zi4 | apply zi5) <;> intro _ <;> conv => whnf) | (refine VCall.intro (vc_Three _) ?_; conv => whnf) | (refine VCall.intro (p2 _) ?_; conv => whnf))
  refine VCall.intro (VC.give (args' := [vN threeN, I 2, vPn ⟨0, 1⟩, vPf ⟨[1, 2], [1, 1], 2⟩]) (loc' := [.dead, .dead]) [(0, [DI 1, DI 2]), (1, [DI 1, DI 1])] [] (OutOk.lift _) zb zf (by exact FmAll.nil) rfl zv (c5 _)) ?_
  conv => whnf
  repeat' (first | ((first | refine zs1 ?_ | refine zs2 ?_ | refine zs3 ?_ | refine zs4 ?_ | refine zs5 ?_); conv => whnf) | ((first | apply zi1 | apply zi2 | apply zi3 | apply zi4 | apply zi5) <;> intro _ <;> conv => whnf))
  refine VCut.at' (outer := h.lift) (marks := []) 1 [(1, .fs 3 8 cs), (2, I 0), (3, sps sA), (4, I 0), (5, .fp [DI 20, DI 80]), (6, .fp [DI 25, DI 100]), (7, I 0), (8, .fp [DI 80, DI 1]), (9, I 0), (10, .fp [DI 100, DI 1]), (11, I 0)] [] ?_ ?_
  · conv => whnf
    refine Retell.turn ⟨[], 3, [(2, [DI 100, DI 1])], []⟩ (TurnOk.mk' _ _ [(2, [DI 100, DI 1])] [] (OutOk.lift _) rfl (by decide) zb zf trivial rfl) zv zm
  conv => whnf
  repeat' (first | ((first | refine zs1 ?_ | refine zs2 ?_ | refine zs3 ?_ | refine zs4 ?_ | refine zs5 ?_); conv => whnf) | ((first | apply zi1 | apply zi2 | apply zi3 | apply zi4 | apply zi5) <;> intro _ <;> conv => whnf) | (refine hix _ ?_; conv => whnf) | (refine VAgg.intro (vne49 _ _ _ _ _ _) ?_; conv => whnf))
  refine VCall.intro (VC.give (args' := [ints [20, 40, 50, 25, 80, 40, 50, 100]]) (loc' := [.dead]) [(0, [DI 20, DI 40, DI 50, DI 25, DI 80, DI 40, DI 50, DI 100])] [] (OutOk.lift _) zb zf (by exact FmAll.nil) rfl zv (s1 _)) ?_
  conv => whnf
  repeat' (first | ((first | refine zs1 ?_ | refine zs2 ?_ | refine zs3 ?_ | refine zs4 ?_ | refine zs5 ?_); conv => whnf) | ((first | apply zi1 | apply zi2 | apply zi3 | apply zi4 | apply zi5) <;> intro _ <;> conv => whnf) | (refine VCall.intro (q1 _) ?_; conv => whnf) | (refine VAgg.intro (vne65 _ _ _ _) ?_; conv => whnf) | (refine VAgg.intro (vne70 _ _ _ _) ?_; conv => whnf))
  refine VCut.at' (outer := h.lift) (marks := []) 3 [] [] ?_ ?_
  · conv => whnf
    refine Retell.turn ⟨[], 1, [], []⟩ (TurnOk.mk' _ _ [] [] (OutOk.lift _) rfl (by decide) zb trivial trivial rfl) zv zm
  conv => whnf
  repeat' (first | ((first | refine zs1 ?_ | refine zs2 ?_ | refine zs3 ?_ | refine zs4 ?_ | refine zs5 ?_); conv => whnf) | ((first | apply zi1 | apply zi2 | apply zi3 | apply zi4 | apply zi5) <;> intro _ <;> conv => whnf) | (refine VCall.intro (vc_Four _) ?_; conv => whnf) | (refine VCall.intro (c6 _) ?_; conv => whnf) | (refine VCall.intro (c7 _) ?_; conv => whnf) | (refine VCall.intro (c8 _) ?_; conv => whnf))
  refine VCut.at' (outer := h.lift) (marks := []) 1 [(2, I 0), (4, I 0), (7, I 0), (12, ints [1]), (13, I 1), (14, ints [1, 2])] [] ?_ ?_
  · conv => whnf
    refine Retell.turn ⟨[], 0, [], []⟩ (TurnOk.mk' _ _ [] [] (OutOk.lift _) rfl (by decide) zb trivial trivial rfl) zv zm
  conv => whnf
  repeat' (first | ((first | refine zs1 ?_ | refine zs2 ?_ | refine zs3 ?_ | refine zs4 ?_ | refine zs5 ?_); conv => whnf) | ((first | apply zi1 | apply zi2 | apply zi3 | apply zi4 | apply zi5) <;> intro _ <;> conv => whnf) | (refine VCall.intro (vc_Four _) ?_; conv => whnf))
  refine VCall.intro (VC.give (args' := [vN fourN, I 2, vPf ⟨[2, 3, 4], [9, 10, 1], 0⟩]) (loc' := [.dead, .dead]) [(0, [DI 2, DI 3, DI 4]), (1, [DI 9, DI 10, DI 1])] [] (OutOk.lift _) zb zf (by exact FmAll.nil) rfl zv (c9 _)) ?_
  conv => whnf
  repeat' (first | ((first | refine zs1 ?_ | refine zs2 ?_ | refine zs3 ?_ | refine zs4 ?_ | refine zs5 ?_); conv => whnf) | ((first | apply zi1 | apply zi2 | apply zi3 | apply zi4 | apply zi5) <;> intro _ <;> conv => whnf))
  refine VCut.at' (outer := h.lift) (marks := []) 1 [(2, I 0), (4, I 0), (7, I 0), (9, I 0), (12, ints [1]), (13, I 1), (14, ints [1, 2]), (15, B true)] [] ?_ ?_
  · conv => whnf
    refine Retell.turn ⟨[], 2, [], []⟩ (TurnOk.mk' _ _ [] [] (OutOk.lift _) rfl (by decide) zb trivial trivial rfl) zv zm
  conv => whnf
  repeat' (first | ((first | refine zs1 ?_ | refine zs2 ?_ | refine zs3 ?_ | refine zs4 ?_ | refine zs5 ?_); conv => whnf) | ((first | apply zi1 | apply zi2 | apply zi3 | apply zi4 | apply zi5) <;> intro _ <;> conv => whnf) | (refine VCall.intro (vc_Four _) ?_; conv => whnf) | (refine VCall.intro (c10 _) ?_; conv => whnf))
  refine VCut.at' (outer := h.lift) (marks := []) 99 [(2, I 0), (3, sps sB), (4, I 0), (7, I 0), (9, I 0), (11, I 0), (12, ints [1]), (13, I 1), (14, ints [1, 2]), (15, B true)] [] ?_ ?_
  · conv => whnf
    refine Retell.turn ⟨[], 0, [], []⟩ (TurnOk.mk' _ _ [] [] (OutOk.lift _) rfl (by decide) zb trivial trivial rfl) zv zm
  conv => whnf
  repeat' (first | ((first | refine zs1 ?_ | refine zs2 ?_ | refine zs3 ?_ | refine zs4 ?_ | refine zs5 ?_); conv => whnf) | ((first | apply zi1 | apply zi2 | apply zi3 | apply zi4 | apply zi5) <;> intro _ <;> conv => whnf))
  refine VCall.intro (VC.lend1 [dints [1], dints [1]] [(0, [DI 1])] [] zf trivial zv q3) ?_
  conv => whnf
  repeat' (first | ((first | refine zs1 ?_ | refine zs2 ?_ | refine zs3 ?_ | refine zs4 ?_ | refine zs5 ?_); conv => whnf) | ((first | apply zi1 | apply zi2 | apply zi3 | apply zi4 | apply zi5) <;> intro _ <;> conv => whnf))
  refine VCall.intro (VC.lend1 [dints [1, 2], dints [1, 2]] [(1, [DI 1, DI 2])] [] zf trivial zv q4) ?_
  conv => whnf
  repeat' (first | ((first | refine zs1 ?_ | refine zs2 ?_ | refine zs3 ?_ | refine zs4 ?_ | refine zs5 ?_); conv => whnf) | ((first | apply zi1 | apply zi2 | apply zi3 | apply zi4 | apply zi5) <;> intro _ <;> conv => whnf))
  refine VCall.intro (VC.give (args' := [ints [0, 0, 60, 60, 0, 60]]) (loc' := [.flat true [DI 1], .flat true [DI 1, DI 2], .dead]) [(2, [DI 0, DI 0, DI 60, DI 60, DI 0, DI 60])] [] (OutOk.lift _) zb zf (by exact FmAll.nil) rfl zv (s2 _)) ?_
  conv => whnf
  repeat' (first | ((first | refine zs1 ?_ | refine zs2 ?_ | refine zs3 ?_ | refine zs4 ?_ | refine zs5 ?_); conv => whnf) | ((first | apply zi1 | apply zi2 | apply zi3 | apply zi4 | apply zi5) <;> intro _ <;> conv => whnf) | (refine VCall.intro (q2 _) ?_; conv => whnf))
  exact VOut.same rfl
end Go.Proofs.YtdlnjnfkbneibaaGreat

open Go.Vm
open Clip (Pn Sg Nt Bd Rt Sp Co Pl NtOk SgOk chk chk_ok bnds bnds_sz bnds_len bnds_sq regS BdSz SpSz offL mvL)
namespace Go.Proofs.YtdlnjnfkbneibaaGreat
set_option maxRecDepth 20000
set_option maxHeartbeats 4000000

/-! ### What is answered, errors and all -/
def ofL (N : Nt) : List Int := if chk N = 0 then offL N else []
def bdL (N : Nt) (p : Int) : List Bd := if brE N p = 0 then bnds N p else []
def mvA (N : Nt) : List Int := if mvE N = 0 then mvL N else []
theorem vc_OffU (N : Nt) (h : Hp) (hn : N.ps.length ≤ 4000000) (hm : N.ss.length ≤ 4000000) : VC Tryz.prog 46 [vN N] h (.tuple [ints (ofL N), I (chk N)]) h := by
  unfold ofL
  by_cases h0 : chk N = 0
  · rw [if_pos h0, h0]; exact vc_Off_ok N h (chk_ok.1 h0)
  · rw [if_neg h0]
    have c := fun h => vc_check N h hn hm
    generalize chk N = E at c h0
    refine VC.body Tryz.func46 rfl Tryz.ntmps46 Tryz.call46 (h.grows_refl) rfl ?_; conv => whnf
    repeat' (first | ((first | refine zs1 ?_ | refine zs2 ?_ | refine zs3 ?_ | refine zs4 ?_ | refine zs5 ?_ | refine zs6 [] ?_); conv => whnf) | ((first | apply zi1 | apply zi2 | apply zi3 | apply zi4 | apply zi5) <;> intro _ <;> conv => whnf) | (refine VCall.intro (c _) ?_; conv => whnf))
    · refine VOut.data 1 [] [] rfl zf (by exact FmAll.nil) zv
    · exfalso; omega
theorem vc_rOffU (N : Nt) (h : Hp) (hn : N.ps.length ≤ 4000000) (hm : N.ss.length ≤ 4000000) : VC Tryz.prog 81 [vN N] h (.tuple [ints (ofL N), I (chk N)]) h := by
  unfold ofL
  by_cases h0 : chk N = 0
  · rw [if_pos h0, h0]; exact vc_rOff_ok N h (chk_ok.1 h0)
  · rw [if_neg h0]
    have c := fun h => vc_rcheck N h hn hm
    generalize chk N = E at c h0
    refine VC.body Tryz.func81 rfl Tryz.ntmps81 Tryz.call81 (h.grows_refl) rfl ?_; conv => whnf
    repeat' (first | ((first | refine zs1 ?_ | refine zs2 ?_ | refine zs3 ?_ | refine zs4 ?_ | refine zs5 ?_ | refine zs6 [] ?_); conv => whnf) | ((first | apply zi1 | apply zi2 | apply zi3 | apply zi4 | apply zi5) <;> intro _ <;> conv => whnf) | (refine VCall.intro (c _) ?_; conv => whnf))
    · refine VOut.data 1 [] [] rfl zf (by exact FmAll.nil) zv
    · exfalso; omega
theorem vc_BoundsU (N : Nt) (p : Int) (h : Hp) (hn : N.ps.length ≤ 4000000) (hm : N.ss.length ≤ 4000000) : VC Tryz.prog 39 [vN N, I p] h (.tuple [bds (bdL N p), I (brE N p)]) h := by
  unfold bdL
  by_cases h0 : brE N p = 0
  · rw [if_pos h0, h0]; exact vc_Bounds_ok N p h h0
  · rw [if_neg h0]
    have c := fun h => vc_begun N p h hn hm
    generalize brE N p = E at c h0
    refine VC.body Tryz.func39 rfl Tryz.ntmps39 Tryz.call39 (h.grows_refl) rfl ?_; conv => whnf
    repeat' (first | ((first | refine zs1 ?_ | refine zs2 ?_ | refine zs3 ?_ | refine zs4 ?_ | refine zs5 ?_ | refine zs6 [] ?_); conv => whnf) | ((first | apply zi1 | apply zi2 | apply zi3 | apply zi4 | apply zi5) <;> intro _ <;> conv => whnf) | (refine VCall.intro (c _) ?_; conv => whnf))
    · refine VOut.data 1 [] [] rfl zf (by exact FmAll.nil) zv
    · exfalso; omega
theorem vc_rBoundsU (N : Nt) (p : Int) (h : Hp) (hn : N.ps.length ≤ 4000000) (hm : N.ss.length ≤ 4000000) : VC Tryz.prog 82 [vN N, I p] h (.tuple [bds (bdL N p), I (brE N p)]) h := by
  unfold bdL
  by_cases h0 : brE N p = 0
  · rw [if_pos h0, h0]; exact vc_rBounds_ok N p h h0
  · rw [if_neg h0]
    have c := fun h => vc_rPillar N p h hn hm
    generalize brE N p = E at c h0
    refine VC.body Tryz.func82 rfl Tryz.ntmps82 Tryz.call82 (h.grows_refl) rfl ?_; conv => whnf
    repeat' (first | ((first | refine zs1 ?_ | refine zs2 ?_ | refine zs3 ?_ | refine zs4 ?_ | refine zs5 ?_ | refine zs6 [] ?_); conv => whnf) | ((first | apply zi1 | apply zi2 | apply zi3 | apply zi4 | apply zi5) <;> intro _ <;> conv => whnf) | (refine VCall.intro (c _) ?_; conv => whnf))
    · refine VOut.data 1 [] [] rfl zf (by exact FmAll.nil) zv
    · exfalso; omega
theorem vc_MoversU (N : Nt) (h : Hp) (hn : N.ps.length ≤ 4000000) (hm : N.ss.length ≤ 4000000) : VC Tryz.prog 83 [vN N] h (.tuple [ints (mvA N), I (mvE N)]) h := by
  unfold mvA
  by_cases h0 : mvE N = 0
  · rw [if_pos h0, h0]; exact vc_Movers_ok N h (mvE_ok.1 h0).1 (mvE_ok.1 h0).2
  · rw [if_neg h0]
    by_cases hc : chk N = 0
    · have o := chk_ok.1 hc
      have c := fun h => vc_Off_ok N h o
      have he : offL N = [] := Classical.byContradiction fun e => h0 (mvE_ok.2 ⟨o, e⟩)
      have e : mvE N = 10 := by unfold mvE; rw [if_neg (by omega), if_pos he]
      rw [he] at c
      rw [e]
      refine VC.body Tryz.func83 rfl Tryz.ntmps83 Tryz.call83 (h.grows_refl) rfl ?_; conv => whnf
      repeat' (first | ((first | refine zs1 ?_ | refine zs2 ?_ | refine zs3 ?_ | refine zs4 ?_ | refine zs5 ?_ | refine zs6 [] ?_); conv => whnf) | ((first | apply zi1 | apply zi2 | apply zi3 | apply zi4 | apply zi5) <;> intro _ <;> conv => whnf) | (refine VCall.intro (c _) ?_; conv => whnf))
      · refine VOut.data 1 [] [] rfl zf (by exact FmAll.nil) zv
    · have c := fun h => vc_Off_no N h hn hm hc
      have e : mvE N = chk N := by unfold mvE; rw [if_pos hc]
      rw [e]
      generalize chk N = E at c hc
      refine VC.body Tryz.func83 rfl Tryz.ntmps83 Tryz.call83 (h.grows_refl) rfl ?_; conv => whnf
      repeat' (first | ((first | refine zs1 ?_ | refine zs2 ?_ | refine zs3 ?_ | refine zs4 ?_ | refine zs5 ?_ | refine zs6 [] ?_); conv => whnf) | ((first | apply zi1 | apply zi2 | apply zi3 | apply zi4 | apply zi5) <;> intro _ <;> conv => whnf) | (refine VCall.intro (c _) ?_; conv => whnf))
      · refine VOut.data 1 [] [] rfl zf (by exact FmAll.nil) zv
      · exfalso; omega
theorem vc_rMoversU (N : Nt) (h : Hp) (hn : N.ps.length ≤ 4000000) (hm : N.ss.length ≤ 4000000) : VC Tryz.prog 84 [vN N] h (.tuple [ints (mvA N), I (mvE N)]) h := by
  unfold mvA
  by_cases h0 : mvE N = 0
  · rw [if_pos h0, h0]; exact vc_rMovers_ok N h (mvE_ok.1 h0).1 (mvE_ok.1 h0).2
  · rw [if_neg h0]
    by_cases hc : chk N = 0
    · have o := chk_ok.1 hc
      have c := fun h => vc_rOff_ok N h o
      have he : offL N = [] := Classical.byContradiction fun e => h0 (mvE_ok.2 ⟨o, e⟩)
      have e : mvE N = 10 := by unfold mvE; rw [if_neg (by omega), if_pos he]
      rw [he] at c
      rw [e]
      refine VC.body Tryz.func84 rfl Tryz.ntmps84 Tryz.call84 (h.grows_refl) rfl ?_; conv => whnf
      repeat' (first | ((first | refine zs1 ?_ | refine zs2 ?_ | refine zs3 ?_ | refine zs4 ?_ | refine zs5 ?_ | refine zs6 [] ?_); conv => whnf) | ((first | apply zi1 | apply zi2 | apply zi3 | apply zi4 | apply zi5) <;> intro _ <;> conv => whnf) | (refine VCall.intro (c _) ?_; conv => whnf))
      · refine VOut.data 1 [] [] rfl zf (by exact FmAll.nil) zv
    · have c := fun h => vc_rOff_no N h hn hm hc
      have e : mvE N = chk N := by unfold mvE; rw [if_pos hc]
      rw [e]
      generalize chk N = E at c hc
      refine VC.body Tryz.func84 rfl Tryz.ntmps84 Tryz.call84 (h.grows_refl) rfl ?_; conv => whnf
      repeat' (first | ((first | refine zs1 ?_ | refine zs2 ?_ | refine zs3 ?_ | refine zs4 ?_ | refine zs5 ?_ | refine zs6 [] ?_); conv => whnf) | ((first | apply zi1 | apply zi2 | apply zi3 | apply zi4 | apply zi5) <;> intro _ <;> conv => whnf) | (refine VCall.intro (c _) ?_; conv => whnf))
      · refine VOut.data 1 [] [] rfl zf (by exact FmAll.nil) zv
      · exfalso; omega
def longB (N : Nt) : Bool := decide (13 < N.ps.length ∨ (10 < N.ss.length ∧ N.ss.length ≤ 20) ∨ 23 < N.ss.length)
theorem vc_long (N : Nt) (h : Hp) : VC Tryz.prog 7 [vN N] h (B (longB N)) h := by
  unfold longB
  refine VC.body Tryz.func7 rfl Tryz.ntmps7 Tryz.call7 (h.grows_refl) rfl ?_; conv => whnf
  repeat' (first | ((first | refine zs1 ?_ | refine zs2 ?_ | refine zs3 ?_ | refine zs4 ?_ | refine zs5 ?_ | refine zs6 [] ?_); conv => whnf) | ((first | apply zi1 | apply zi2 | apply zi3 | apply zi4 | apply zi5) <;> intro _ <;> conv => whnf))
  all_goals (refine VOut.dec ?_; first | (simp only [decide_eq_true_eq]; omega) | (simp; omega) | (simp; done))
theorem vc_SightBounds (N : Nt) (p : Int) (h : Hp) : VC Tryz.prog 34 [vN N, I p] h (B true) h := by
  have cL := fun h => vc_long N h
  obtain ⟨b, hb⟩ : ∃ b, b = longB N := ⟨_, rfl⟩
  rw [← hb] at cL
  cases b with
  | true =>
    refine VC.body Tryz.func34 rfl Tryz.ntmps34 Tryz.call34 (h.grows_refl) rfl ?_; conv => whnf
    repeat' (first | ((first | refine zs1 ?_ | refine zs2 ?_ | refine zs3 ?_ | refine zs4 ?_ | refine zs5 ?_); conv => whnf) | ((first | apply zi1 | apply zi2 | apply zi3 | apply zi4 | apply zi5) <;> intro _ <;> conv => whnf) | (refine VCall.intro (cL _) ?_; conv => whnf) | (refine VCall.intro (vc_awake _) ?_; conv => whnf))
    exact VOut.same rfl
  | false =>
    unfold longB at hb
    have hl : N.ps.length ≤ 13 ∧ N.ss.length ≤ 23 := by
      have := of_decide_eq_false hb.symm; omega
    have c1 := fun h => vc_CloneNet N h (by omega) (by omega)
    have c2 := fun h => vc_Net N h (by omega) (by omega)
    have c3 := fun h => vc_check N h (by omega) (by omega)
    have c4 := fun h => vc_rcheck N h (by omega) (by omega)
    have c5 := fun h => vc_OffU N h (by omega) (by omega)
    have c6 := fun h => vc_rOffU N h (by omega) (by omega)
    have c7 := fun h => vc_BoundsU N p h (by omega) (by omega)
    have c8 := fun h => vc_rBoundsU N p h (by omega) (by omega)
    have c9 := fun h => vc_MoversU N h (by omega) (by omega)
    have c10 := fun h => vc_rMoversU N h (by omega) (by omega)
    have c11 := fun h => vc_Convict N h (by omega) (by omega)
    have c12 := fun h => vc_rConvict N h (by omega) (by omega)
    have c13 := fun h => vc_equal N N h (by omega) (by omega) (by omega) (by omega)
    rw [decide_eq_true rfl, decide_eq_true rfl] at c13
    have l1 : (ofL N).length ≤ 4000000 := by
      have := offL_len N
      unfold ofL; split
      · omega
      · simp
    have l2 : (mvA N).length ≤ 4000000 := by
      have := mvL_len N
      unfold mvA; split
      · omega
      · simp
    have l3 : (bdL N p).length ≤ 4000000 := by
      unfold bdL; split
      · rename_i h0
        have := bnds_len (brE_ok.1 h0).1 p; omega
      · simp
    have e1 := fun h => vc_equalI (ofL N) (ofL N) h l1 l1
    have e2 := fun h => vc_equalI (mvA N) (mvA N) h l2 l2
    rw [decide_eq_true rfl] at e1 e2
    generalize ofL N = O at *
    generalize mvA N = M at *
    generalize bdL N p = bs at *
    generalize chk N = E1 at *
    generalize brE N p = E2 at *
    generalize mvE N = E3 at *
    generalize cvE N = E4 at *
    generalize cvV N = V4 at *
    refine VC.bodyC 2 Tryz.func34 rfl Tryz.ntmps34 Tryz.call34 (h.grows_refl) rfl ?_; conv => whnf
    repeat' (first | ((first | refine zs1 ?_ | refine zs2 ?_ | refine zs3 ?_ | refine zs4 ?_ | refine zs5 ?_); conv => whnf) | ((first | apply zi1 | apply zi2 | apply zi3 | apply zi4 | apply zi5) <;> intro _ <;> conv => whnf) | (refine VCall.intro (cL _) ?_; conv => whnf))
    refine VCut.go 1 ?_
    conv => whnf
    refine zs6 [(1, 2)] ?_
    conv => whnf
    repeat' (first | ((first | refine zs1 ?_ | refine zs2 ?_ | refine zs3 ?_ | refine zs4 ?_ | refine zs5 ?_); conv => whnf) | ((first | apply zi1 | apply zi2 | apply zi3 | apply zi4 | apply zi5) <;> intro _ <;> conv => whnf) | (refine VCall.intro (c1 _) ?_; conv => whnf) | (refine VCall.intro (c2 _) ?_; conv => whnf))
    refine VCut.at' (outer := h.lift) (marks := []) 99 [(1, I p), (2, .fp (encN N)), (4, B false), (5, .fp (encN N)), (6, .fp (encN N))] [] ?_ ?_
    · conv => whnf
      refine Retell.turn ⟨[], 3, [(0, encN N), (1, encN N), (2, encN N)], []⟩ (TurnOk.mk' _ _ [(0, encN N), (1, encN N), (2, encN N)] [] (OutOk.lift _) rfl (by decide) zb zf trivial rfl) zv zm
    conv => whnf
    refine zs6 [(1, 2)] ?_
    conv => whnf
    repeat' (first | ((first | refine zs1 ?_ | refine zs2 ?_ | refine zs3 ?_ | refine zs4 ?_ | refine zs5 ?_); conv => whnf) | ((first | apply zi1 | apply zi2 | apply zi3 | apply zi4 | apply zi5) <;> intro _ <;> conv => whnf) | (refine VCall.intro (c3 _) ?_; conv => whnf) | (refine VCall.intro (c4 _) ?_; conv => whnf) | (refine VCall.intro (c5 _) ?_; conv => whnf) | (refine VCall.intro (c6 _) ?_; conv => whnf) | (refine VCall.intro (c7 _) ?_; conv => whnf) | (refine VCall.intro (c8 _) ?_; conv => whnf) | (refine VCall.intro (e1 _) ?_; conv => whnf))
    all_goals try (exfalso; omega)
    refine VCode.lp (fun k : Nat => [(1, I p), (2, .fp (encN N)), (4, B false), (5, .fp (encN N)), (6, .fp (encN N)), (11, bds bs), (12, bds bs), (70, I bs.length), (71, I k)]) (fun _ => []) (fun k => k ≤ bs.length) (fun k => bs.length - k) 0 (Nat.zero_le _) ?_ ?_
    · conv => whnf
      refine Retell.turn ⟨[], 0, [], []⟩ (TurnOk.mk' _ _ [] [] (OutOk.lift _) rfl (by decide) zb trivial trivial rfl) zv zm
    · intro k hk
      conv => whnf
      refine VIte.dec (fun h3 => ?_) (fun h3 => ?_)
      · have hbk : bs[k]? = some bs[k] := List.getElem?_eq_getElem (by omega)
        generalize bs[k] = b at hbk
        conv => whnf
        repeat' (first | ((first | refine zs1 ?_ | refine zs2 ?_ | refine zs3 ?_ | refine zs4 ?_ | refine zs5 ?_); conv => whnf) | ((first | apply zi1 | apply zi2 | apply zi3 | apply zi4 | apply zi5) <;> intro _ <;> conv => whnf))
        refine zs6 [] ?_
        conv => whnf
        repeat' (first | ((first | refine zs1 ?_ | refine zs2 ?_ | refine zs3 ?_ | refine zs4 ?_ | refine zs5 ?_); conv => whnf) | ((first | apply zi1 | apply zi2 | apply zi3 | apply zi4 | apply zi5) <;> intro _ <;> conv => whnf) | (refine VAny.ix encBd_len k rfl rfl hbk ?_; conv => whnf) | (refine VAgg.intro (vne49 _ _ _ _ _ _) ?_; conv => whnf))
        · rename_i hz; exact absurd ⟨rfl, rfl, rfl⟩ hz
        refine LEnd.intro (k + 1) (by omega) (by omega) ?_
        conv => whnf
        refine Retell.turn ⟨[], 0, [], []⟩ (TurnOk.mk' _ _ [] [] (OutOk.lift _) rfl (by decide) zb trivial trivial rfl) zv zm
      · conv => whnf
        repeat' (first | ((first | refine zs1 ?_ | refine zs2 ?_ | refine zs3 ?_ | refine zs4 ?_ | refine zs5 ?_); conv => whnf) | ((first | apply zi1 | apply zi2 | apply zi3 | apply zi4 | apply zi5) <;> intro _ <;> conv => whnf) | (refine VCall.intro (c9 _) ?_; conv => whnf) | (refine VCall.intro (c10 _) ?_; conv => whnf) | (refine VCall.intro (c11 _) ?_; conv => whnf) | (refine VCall.intro (c12 _) ?_; conv => whnf) | (refine VCall.intro (c13 _) ?_; conv => whnf) | (refine VCall.intro (e2 _) ?_; conv => whnf) | (refine VCall.intro (vc_awake _) ?_; conv => whnf))
        all_goals first | (exfalso; omega) | (exact VOut.same rfl)
end Go.Proofs.YtdlnjnfkbneibaaGreat

namespace Clip
theorem unit_t {a b c t : Rat} (e : c = a + t * (b - a)) (h : (a ≤ c ∧ c ≤ b) ∨ (c ≤ a ∧ b ≤ c)) (hab : a ≠ b) : 0 ≤ t ∧ t ≤ 1 := by
  rcases h with ⟨h1, h2⟩ | ⟨h1, h2⟩
  · have hp : 0 < b - a := by grind
    constructor
    · refine Rat.not_lt.1 fun ht => ?_
      have := Rat.mul_pos (show 0 < -t by grind) hp
      grind
    · refine Rat.not_lt.1 fun ht => ?_
      have := Rat.mul_pos (show 0 < t - 1 by grind) hp
      grind
  · have hp : 0 < a - b := by grind
    constructor
    · refine Rat.not_lt.1 fun ht => ?_
      have := Rat.mul_pos (show 0 < -t by grind) hp
      grind
    · refine Rat.not_lt.1 fun ht => ?_
      have := Rat.mul_pos (show 0 < t - 1 by grind) hp
      grind
theorem frac_le {x d y e : Int} (hd : 0 < d) (he : 0 < e) : x * e ≤ y * d ↔ (x : Rat) / d ≤ (y : Rat) / e := by
  have nd := ne_cast (show d ≠ 0 by omega)
  have ne := ne_cast (show e ≠ 0 by omega)
  have px := Rat.div_mul_cancel (a := (x : Rat)) nd
  have py := Rat.div_mul_cancel (a := (y : Rat)) ne
  have pd := cast_pos.2 hd
  have pe := cast_pos.2 he
  generalize (x : Rat) / d = X at px
  generalize (y : Rat) / e = Y at py
  have e1 : ((x * e - y * d : Int) : Rat) = (X - Y) * (d * e) := by
    simp only [Rat.intCast_sub, Rat.intCast_mul]
    rw [← px, ← py]; grind
  obtain ⟨m1, m2, m3⟩ := mul_pos_iff' (a := X - Y) (Rat.mul_pos pd pe)
  rw [← e1, cast_pos] at m1
  constructor
  · intro h
    refine Rat.not_lt.1 fun h2 => ?_
    have := m1.2 (by grind); omega
  · intro h
    refine Int.not_lt.1 fun h2 => ?_
    have := m1.1 (by omega); grind
theorem betw_no {bs : List Bd} (hsq : ∀ b ∈ bsq, b ∈ bs) (hr : ∀ b ∈ bs, BdSz b) {a b c : Pl} (ha : a ∈ pts bs) (hb : b ∈ pts bs) (hc : c ∈ pts bs) (h1 : alike a c = false) (h2 : alike b c = false) : betwB a b c = false := by
  have oa := pts_ok bs a ha
  have ob := pts_ok bs b hb
  have oc := pts_ok bs c hc
  have n1 : a.pt ≠ c.pt := fun e => by rw [(alike_pt oa.d oc.d).2 e] at h1; cases h1
  have n2 : b.pt ≠ c.pt := fun e => by rw [(alike_pt ob.d oc.d).2 e] at h2; cases h2
  cases hbt : betwB a b c
  · rfl
  · exfalso
    unfold betwB at hbt
    rw [Bool.and_eq_true, Bool.and_eq_true, decide_eq_true_eq] at hbt
    obtain ⟨z, wx, wy⟩ := hbt
    unfold wthB at wx wy
    rw [decide_eq_true_eq] at wx wy
    rw [frac_le oa.d oc.d, frac_le oc.d ob.d, frac_le oc.d oa.d, frac_le ob.d oc.d] at wx wy
    have z' := (side_sign oa.d ob.d oc.d).2.1 z
    have hx : ∀ p : Pl, p.pt.x = (p.x : Rat) / p.d := fun _ => rfl
    have hy : ∀ p : Pl, p.pt.y = (p.y : Rat) / p.d := fun _ => rfl
    rw [← hx, ← hx, ← hx] at wx
    rw [← hy, ← hy, ← hy] at wy
    by_cases hab : a.pt = b.pt
    · rw [hab] at wx wy
      apply n2
      exact pt_ext (by rcases wx with ⟨u, v⟩ | ⟨u, v⟩ <;> exact Rat.le_antisymm (by assumption) (by assumption)) (by rcases wy with ⟨u, v⟩ | ⟨u, v⟩ <;> exact Rat.le_antisymm (by assumption) (by assumption))
    · obtain ⟨t, ex, ey⟩ := on_ray z' hab
      have ht : 0 ≤ t ∧ t ≤ 1 := by
        by_cases hxx : a.pt.x = b.pt.x
        · exact unit_t ey wy fun e => hab (pt_ext hxx e)
        · exact unit_t ex wx hxx
      have t0 : t ≠ 0 := fun e => n1 (pt_ext (by rw [ex, e]; grind) (by rw [ey, e]; grind))
      have t1 : t ≠ 1 := fun e => n2 (pt_ext (by rw [ex, e]; grind) (by rw [ey, e]; grind))
      obtain ⟨s, hs, es⟩ := (pts_reg hsq hr).1 c hc
      rw [← es] at ex ey
      have := ext_pt hsq hr hs oa.feas ob.feas (t := t) (by grind) (by grind) ex ey
      exact n1 (by rw [← es]; exact this.1)
theorem apart_idx {l : List Pl} (h : Apart l) {i k : Nat} {p q : Pl} (hi : l[i]? = some p) (hk : l[k]? = some q) (hne : i < k) : alike p q = false := by
  obtain ⟨h1, rfl⟩ := List.getElem?_eq_some_iff.1 hi
  obtain ⟨h2, rfl⟩ := List.getElem?_eq_some_iff.1 hk
  exact List.pairwise_iff_getElem.1 h i k h1 h2 hne
theorem alike_comm (a b : Pl) : alike a b = alike b a := by
  unfold alike
  exact decide_eq_decide.2 ⟨fun ⟨u, v⟩ => ⟨u.symm, v.symm⟩, fun ⟨u, v⟩ => ⟨u.symm, v.symm⟩⟩
theorem apart_ne {l : List Pl} (h : Apart l) {i k : Nat} {p q : Pl} (hi : l[i]? = some p) (hk : l[k]? = some q) (hne : i ≠ k) : alike p q = false := by
  rcases Nat.lt_or_gt_of_ne hne with h1 | h1
  · exact apart_idx h hi hk h1
  · rw [alike_comm]; exact apart_idx h hk hi h1
theorem own_all {bs : List Bd} (hsq : ∀ b ∈ bsq, b ∈ bs) (hr : ∀ b ∈ bs, BdSz b) {i a b : Nat} {p q r : Pl} (hi : (pts bs)[i]? = some r) (ha : (pts bs)[a]? = some p) (hb : (pts bs)[b]? = some q) (h1 : a ≠ i) (h2 : b ≠ i) : betwB p q r = false :=
  betw_no hsq hr (List.mem_of_getElem? ha) (List.mem_of_getElem? hb) (List.mem_of_getElem? hi) (apart_ne (pts_apart bs) ha hi h1) (apart_ne (pts_apart bs) hb hi h2)
/-! ### The first point -/
def stF : Pl → List Pl → Pl
  | now, [] => now
  | now, q :: r => stF (if aheadB q now = true then q else now) r
theorem stF_at {p : Pl} {l : List Pl} {k : Nat} {q : Pl} (h : l[k]? = some q) : stF p (l.drop k) = stF (if aheadB q p = true then q else p) (l.drop (k + 1)) := by
  obtain ⟨hlt, rfl⟩ := List.getElem?_eq_some_iff.1 h
  rw [List.drop_eq_getElem_cons hlt, stF]
theorem frac_eq {x d y e : Int} (hd : 0 < d) (he : 0 < e) : x * e = y * d ↔ (x : Rat) / d = (y : Rat) / e := by
  have h1 := frac_le (x := x) (y := y) hd he
  have h2 := frac_le (x := y) (y := x) he hd
  constructor
  · intro h; exact Rat.le_antisymm (h1.1 (by omega)) (h2.1 (by omega))
  · intro h
    have := h1.2 (by rw [h]; exact Rat.le_refl)
    have := h2.2 (by rw [h]; exact Rat.le_refl)
    omega
theorem frac_lt {x d y e : Int} (hd : 0 < d) (he : 0 < e) : x * e < y * d ↔ (x : Rat) / d < (y : Rat) / e := by
  rw [← Int.not_le, ← Rat.not_le, frac_le he hd]
theorem ahead_less {a b : Pl} (ha : 0 < a.d) (hb : 0 < b.d) : aheadB a b = lessS (spotOf a) (spotOf b) := by
  obtain ⟨o1, _, e1⟩ := spotOf_ok ha
  obtain ⟨o2, _, e2⟩ := spotOf_ok hb
  have x1 : (spotOf a).X.q = (a.x : Rat) / a.d := congrArg Pt.x e1
  have y1 : (spotOf a).Y.q = (a.y : Rat) / a.d := congrArg Pt.y e1
  have x2 : (spotOf b).X.q = (b.x : Rat) / b.d := congrArg Pt.x e2
  have y2 : (spotOf b).Y.q = (b.y : Rat) / b.d := congrArg Pt.y e2
  rw [Bool.eq_iff_iff, lessS_iff o1 o2, x1, y1, x2, y2, ← frac_lt ha hb, ← frac_lt ha hb, ← frac_eq ha hb]
  unfold aheadB
  split
  · rw [decide_eq_true_eq]; omega
  · rw [decide_eq_true_eq]; omega
theorem stF_ok {l : List Pl} (hd : ∀ p ∈ l, 0 < p.d) : ∀ {r m : List Pl} {now : Pl}, (∀ p ∈ r, p ∈ l) → (∀ p ∈ m, p ∈ l) → now ∈ l → (∀ p ∈ m, lessS (spotOf p) (spotOf now) = false) → stF now r ∈ l ∧ ∀ p, p ∈ m ∨ p ∈ r → lessS (spotOf p) (spotOf (stF now r)) = false
  | [], m, now, _, _, hn, hm => ⟨hn, fun p hp => by rcases hp with hp | hp; exact hm p hp; cases hp⟩
  | q :: r, m, now, hr, hml, hn, hm => by
    rw [stF]
    have hq := hr q (by simp)
    have oq := (spotOf_ok (hd q hq)).1
    have on := (spotOf_ok (hd now hn)).1
    rw [ahead_less (hd q hq) (hd now hn)]
    cases hl : lessS (spotOf q) (spotOf now)
    · rw [if_neg (by simp)]
      have := stF_ok hd (r := r) (m := q :: m) (now := now) (fun p hp => hr p (List.mem_cons_of_mem _ hp)) (fun p hp => by rcases List.mem_cons.1 hp with rfl | hp; exact hq; exact hml p hp) hn (fun p hp => by rcases List.mem_cons.1 hp with rfl | hp; exact hl; exact hm p hp)
      refine ⟨this.1, fun p hp => this.2 p ?_⟩
      simp only [List.mem_cons] at hp ⊢
      grind
    · rw [if_pos rfl]
      have := stF_ok hd (r := r) (m := q :: m) (now := q) (fun p hp => hr p (List.mem_cons_of_mem _ hp)) (fun p hp => by rcases List.mem_cons.1 hp with rfl | hp; exact hq; exact hml p hp) hq (fun p hp => by
        rcases List.mem_cons.1 hp with rfl | hp
        · exact lessS_irr oq
        · cases h2 : lessS (spotOf p) (spotOf q)
          · rfl
          · have := lessS_trans (spotOf_ok (hd p (hml p hp))).1 oq on h2 hl
            rw [hm p hp] at this; cases this)
      refine ⟨this.1, fun p hp => this.2 p ?_⟩
      simp only [List.mem_cons] at hp ⊢
      grind
theorem corners_eq {bs : List Bd} (hsq : ∀ b ∈ bsq, b ∈ bs) (hr : ∀ b ∈ bs, BdSz b) {p0 : Pl} {r : List Pl} (hp : pts bs = p0 :: r) : outS (pts bs) (pts bs).length (stF p0 r) = regS bs := by
  have hd : ∀ p ∈ pts bs, 0 < p.d := fun p h => (pts_ok bs p h).d
  have h0 : p0 ∈ pts bs := by rw [hp]; simp
  obtain ⟨h1, h2⟩ := stF_ok hd (r := r) (m := [p0]) (now := p0) (fun p h => by rw [hp]; exact List.mem_cons_of_mem _ h) (fun p h => by rw [List.mem_singleton.1 h]; exact h0) h0 (fun p h => by rw [List.mem_singleton.1 h]; exact lessS_irr (spotOf_ok (hd p0 h0)).1)
  have hl : ∀ s ∈ regS bs, lessS s (spotOf (stF p0 r)) = false := fun s hs => by
    obtain ⟨p, hp1, e⟩ := (pts_reg hsq hr).2 s hs
    have e2 := pts_spot hsq hr hp1
    have : spotOf p = s := regS_uniq hr e2.1 hs (e2.2.trans e)
    rw [← this]
    refine h2 p ?_
    rw [hp] at hp1
    rcases List.mem_cons.1 hp1 with rfl | h
    · exact .inl (by simp)
    · exact .inr h
  generalize stF p0 r = now at h1 hl
  have hlen := pts_len hsq hr
  have hpos : 0 < (regS bs).length := by rw [← hlen, hp]; simp
  have hh : (regS bs)[0]? = some ((regS bs)[0]'hpos) := List.getElem?_eq_getElem _
  have hle := (regS_round hsq hr).2.2 _ hh
  have hm : (regS bs)[0]'hpos ∈ regS bs := List.getElem_mem _
  generalize (regS bs)[0]'hpos = s at hh hle hm
  have hs := pts_spot hsq hr h1
  have : spotOf now = s := by
    have u1 := hl s hm
    unfold leastB at hle
    have u2 := List.all_eq_true.1 hle _ hs.1
    have o1 := (regS_sz hr hs.1).ok
    have o2 := (regS_sz hr hm).ok
    refine regS_uniq hr hs.1 hm ?_
    have v1 := lessS_iff o2 o1
    have v2 := lessS_iff o1 o2
    rw [u1] at v1
    have u3 : lessS (spotOf now) s = false := by simpa using u2
    rw [u3] at v2
    refine pt_ext ?_ ?_
    · show (spotOf now).X.q = s.X.q
      grind
    · show (spotOf now).Y.q = s.Y.q
      grind
  have := outS_eq hsq hr (pts bs).length 0 now h1 (by rw [this]; exact hh) (by omega)
  rw [this, List.drop_zero]
end Clip

open Go.Vm
open Clip (Pn Sg Nt crs okD okD_iff)
namespace Go.Proofs.YtdlnjnfkbneibaaGreat
set_option maxRecDepth 20000
set_option maxHeartbeats 4000000
structure P38 (p : Pn) : Prop where
  x : -38 ≤ p.x ∧ p.x ≤ 38
  y : -38 ≤ p.y ∧ p.y ≤ 38
theorem P38.b {p : Pn} (h : P38 p) : PnB p := ⟨by have := h.x; omega, by have := h.y; omega⟩
end Go.Proofs.YtdlnjnfkbneibaaGreat

open Go.Vm
open Clip (Pn Sg Nt Bd Sp Rt NtOk SgOk beyond BdSz SpSz SpOk Sound regS bnds bnds_sq bnds_sz bS bsq offB offS offL pAt pAt_ok cmpR cmpR_q atP at_feas Feas rcS dirAf chk_ok okD)
namespace Go.Proofs.YtdlnjnfkbneibaaGreat
set_option maxRecDepth 20000
set_option maxHeartbeats 4000000
/-! ### Least and greatest -/
theorem mnS_le {f : Sp → Rt} : ∀ {l : List Sp} {m : Sp}, (∀ s ∈ m :: l, 0 < (f s).D) → ∀ s ∈ m :: l, (f (mnS f m l)).q ≤ (f s).q
  | [], m, _, s, hs => by
    rw [List.mem_singleton.1 hs]; exact Rat.le_refl
  | x :: r, m, hz, s, hs => by
    rw [mnS]
    have zm := hz m (by simp)
    have zx := hz x (by simp)
    have key := (cmpR_q zx zm).1
    by_cases hc : cmpR (f x) (f m) < 0
    · rw [if_pos hc]
      have ih := mnS_le (f := f) (l := r) (m := x) (fun s hs => hz s (List.mem_cons_of_mem _ hs))
      rcases List.mem_cons.1 hs with rfl | hs
      · exact Rat.le_trans (ih x (by simp)) (Rat.le_of_lt (key.1 hc))
      · exact ih s hs
    · rw [if_neg hc]
      have ih := mnS_le (f := f) (l := r) (m := m) (fun s hs => hz s (by
        rcases List.mem_cons.1 hs with rfl | hs
        · simp
        · exact List.mem_cons_of_mem _ (List.mem_cons_of_mem _ hs)))
      rcases List.mem_cons.1 hs with rfl | hs
      · exact ih s (by simp)
      · rcases List.mem_cons.1 hs with rfl | hs
        · exact Rat.le_trans (ih m (by simp)) (Rat.not_lt.1 fun h => hc (key.2 h))
        · exact ih s (List.mem_cons_of_mem _ hs)
theorem mxS_ge {f : Sp → Rt} : ∀ {l : List Sp} {m : Sp}, (∀ s ∈ m :: l, 0 < (f s).D) → ∀ s ∈ m :: l, (f s).q ≤ (f (mxS f m l)).q
  | [], m, _, s, hs => by
    rw [List.mem_singleton.1 hs]; exact Rat.le_refl
  | x :: r, m, hz, s, hs => by
    rw [mxS]
    have zm := hz m (by simp)
    have zx := hz x (by simp)
    have key := (cmpR_q zm zx).1
    have e : 0 < cmpR (f x) (f m) ↔ cmpR (f m) (f x) < 0 := by unfold cmpR; omega
    by_cases hc : 0 < cmpR (f x) (f m)
    · rw [if_pos hc]
      have ih := mxS_ge (f := f) (l := r) (m := x) (fun s hs => hz s (List.mem_cons_of_mem _ hs))
      rcases List.mem_cons.1 hs with rfl | hs
      · exact Rat.le_trans (Rat.le_of_lt (key.1 (e.1 hc))) (ih x (by simp))
      · exact ih s hs
    · rw [if_neg hc]
      have ih := mxS_ge (f := f) (l := r) (m := m) (fun s hs => hz s (by
        rcases List.mem_cons.1 hs with rfl | hs
        · simp
        · exact List.mem_cons_of_mem _ (List.mem_cons_of_mem _ hs)))
      rcases List.mem_cons.1 hs with rfl | hs
      · exact ih s (by simp)
      · rcases List.mem_cons.1 hs with rfl | hs
        · exact Rat.le_trans (Rat.not_lt.1 fun h => hc (e.2 (key.2 h))) (ih m (by simp))
        · exact ih s (List.mem_cons_of_mem _ hs)
/-! ### Rounded outwards -/
theorem q_le_int {r : Rt} (hd : 0 < r.D) (n : Int) : (r.q ≤ n ↔ r.N ≤ n * r.D) ∧ ((n : Rat) ≤ r.q ↔ n * r.D ≤ r.N) := by
  have e : ((n : Int) : Rat) = (n : Rat) / (1 : Int) := by
    have := Rat.div_mul_cancel (a := (n : Rat)) (show ((1 : Int) : Rat) ≠ 0 by decide)
    have h1 : ((1 : Int) : Rat) = 1 := rfl
    rw [h1] at this ⊢
    grind
  have h1 := Clip.frac_le (x := r.N) (y := n) hd (show (0 : Int) < 1 by omega)
  have h2 := Clip.frac_le (x := n) (y := r.N) (show (0 : Int) < 1 by omega) hd
  rw [Int.mul_one] at h1 h2
  rw [e]
  exact ⟨h1.symm, h2.symm⟩
end Go.Proofs.YtdlnjnfkbneibaaGreat

open Go.Vm
open Clip (Pn Sg Nt Bd Sp Rt Pt NtOk SgOk offB offL bS bnds bnds_sq bnds_sz bsq regS pAt pAt_ok pAt_get okP okP_iff okD okD_iff atP Feas crs rcS dirAf cmpR Sound)
namespace Go.Proofs.YtdlnjnfkbneibaaGreat
set_option maxRecDepth 20000
set_option maxHeartbeats 4000000

/-! ### Fewer places: no wider a box, no farther a reach -/
theorem dn_mono {a b : Rt} (ha : 0 < a.D) (hb : 0 < b.D) (na : 0 ≤ a.N) (nb : 0 ≤ b.N) (h : a.q ≤ b.q) : dnR a ≤ dnR b := by
  have h1 : dnR a * a.D ≤ a.N := by
    unfold dnR
    rw [Int.tdiv_eq_ediv_of_nonneg na]
    exact Int.ediv_mul_le _ (by omega)
  have h2 := Rat.le_trans ((q_le_int ha (dnR a)).2.2 h1) h
  have h3 := (q_le_int hb (dnR a)).2.1 h2
  have e : dnR b = b.N / b.D := by unfold dnR; rw [Int.tdiv_eq_ediv_of_nonneg nb]
  rw [e]
  exact (Int.le_ediv_iff_mul_le hb).2 h3
theorem up_mono {a b : Rt} (ha : 0 < a.D) (hb : 0 < b.D) (na : 0 ≤ a.N) (nb : 0 ≤ b.N) (h : a.q ≤ b.q) : upR a ≤ upR b := by
  have h1 : b.N ≤ upR b * b.D := by
    unfold upR
    rw [Int.tdiv_eq_ediv_of_nonneg (by omega)]
    have := Int.lt_mul_ediv_self_add (x := b.N + b.D - 1) hb
    rw [Int.mul_comm] at this
    omega
  have h2 := Rat.le_trans h ((q_le_int hb (upR b)).1.2 h1)
  have h3 := (q_le_int ha (upR b)).1.1 h2
  have e : upR a = (a.N + a.D - 1) / a.D := by unfold upR; rw [Int.tdiv_eq_ediv_of_nonneg (by omega)]
  rw [e]
  exact Int.le_of_lt_add_one (Int.ediv_lt_of_lt_mul ha (by rw [Int.add_mul]; omega))
end Go.Proofs.YtdlnjnfkbneibaaGreat

