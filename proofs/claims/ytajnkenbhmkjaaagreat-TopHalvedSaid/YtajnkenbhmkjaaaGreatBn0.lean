/- Part 0 of the proof that two base points leave no enclaves. No condition. -/
import Derived.RangeFuncOwn
import Derived.RangeFuncLeaves
import Derived.Laws.AppendOwn
import Derived.Laws.Cells
import Derived.Laws.Entries
import Derived.RangeFuncIn
import Derived.OrdersIn
import Derived.ProofKit
import Derived.Deep.Slices
import Derived.Deep.Strs
import Derived.CallsIn
import Derived.OpenShut
import Derived.Lib.SmallJoins
set_option linter.unusedVariables false
set_option linter.unusedSimpArgs false
namespace Go.Vm

inductive S where
  | bool (b : Bool)
  | int (k : IntKind) (n : Int)
def S.val : S → Value
  | .bool b => .bool b
  | .int k n => .int k n
inductive D where
  | undef
  | s (x : S)
  | lit (v : Value)
  | nilptr
  | nilslice
  | nilmap
  | nilfunc
  | sl (esz len : Nat) (cs : List D)
  | pt (cs : List D)
  | mp (ks vs : List D)
  | agg (cs : List D)
  | func (fn : Fn) (first captured : List D)
  deriving Inhabited
inductive Id where
  | loc (k : Nat)
  | out (i : Id)
  deriving DecidableEq
inductive V where
  | undef
  | s (x : S)
  | lit (v : Value)
  | nilptr
  | ptr (i : Id) (off : Nat)
  | nilslice
  | slice (i : Id) (off esz len : Nat) (lim : Option Nat)
  | gl (i : Id) (esz len : Nat)
  | nilmap
  | map (i : Id)
  | func (fn : Fn) (first captured : List V)
  | yld (i : Id)
  | nilfunc
  | agg (cs : List V)
  | tuple (vs : List V)
  | fs (esz len : Nat) (cs : List D)
  | fp (cs : List D)
  | fm (ks vs : List D)
  deriving Inhabited
mutual
def D.v : D → V
  | .undef => .undef
  | .s x => .s x
  | .lit u => .lit u
  | .nilptr => .nilptr
  | .nilslice => .nilslice
  | .nilmap => .nilmap
  | .nilfunc => .nilfunc
  | .sl esz len cs => .fs esz len cs
  | .pt cs => .fp cs
  | .mp ks vs => .fm ks vs
  | .agg cs => .agg (D.vs cs)
  | .func fn f c => .func fn (D.vs f) (D.vs c)
def D.vs : List D → List V
  | [] => []
  | d :: l => d.v :: D.vs l
end
theorem D.vs_eq : ∀ l : List D, D.vs l = l.map D.v
  | [] => rfl
  | d :: l => by simp only [D.vs, List.map_cons, D.vs_eq l]
inductive PT (α : Type) where
  | leaf
  | node (l : PT α) (v : α) (r : PT α)
def PT.get {α : Type} (d : α) : PT α → Nat → α
  | .leaf, _ => d
  | .node l v r, n => match n with
    | 0 => v
    | n + 1 => if n % 2 = 0 then PT.get d l (n / 2) else PT.get d r (n / 2)
def PT.put {α : Type} (d x : α) : Nat → PT α → Nat → PT α
  | 0, t, _ => t
  | f + 1, t, n => match t, n with
    | .leaf, 0 => .node .leaf x .leaf
    | .leaf, n + 1 => if n % 2 = 0 then .node (PT.put d x f .leaf (n / 2)) d .leaf else .node .leaf d (PT.put d x f .leaf (n / 2))
    | .node l _ r, 0 => .node l x r
    | .node l v r, n + 1 => if n % 2 = 0 then .node (PT.put d x f l (n / 2)) v r else .node l v (PT.put d x f r (n / 2))
theorem PT.get_put {α : Type} (d x : α) : ∀ (f : Nat) (t : PT α) (n m : Nat), n < f → PT.get d (PT.put d x f t n) m = if m = n then x else PT.get d t m := by
  intro f
  induction f with
  | zero => intro t n m h; omega
  | succ f ih =>
    intro t n m h
    cases t with
    | leaf =>
      cases n with
      | zero => cases m with
        | zero => simp [PT.put, PT.get]
        | succ m => simp [PT.put, PT.get]
      | succ n =>
        by_cases hn : n % 2 = 0
        · simp only [PT.put, hn, if_true]
          cases m with
          | zero => simp [PT.get]
          | succ m =>
            by_cases hm : m % 2 = 0
            · simp only [PT.get, hm, if_true, ih .leaf (n / 2) (m / 2) (by omega)]
              by_cases e : m = n
              · subst e; simp
              · rw [if_neg (by omega), if_neg (by omega)]
            · simp only [PT.get, hm, if_false]
              rw [if_neg (by omega)]
        · simp only [PT.put, hn, if_false]
          cases m with
          | zero => simp [PT.get]
          | succ m =>
            by_cases hm : m % 2 = 0
            · simp only [PT.get, hm, if_true]
              rw [if_neg (by omega)]
            · simp only [PT.get, hm, if_false, ih .leaf (n / 2) (m / 2) (by omega)]
              by_cases e : m = n
              · subst e; simp
              · rw [if_neg (by omega), if_neg (by omega)]
    | node l v r =>
      cases n with
      | zero => cases m with
        | zero => simp [PT.put, PT.get]
        | succ m => simp [PT.put, PT.get]
      | succ n =>
        by_cases hn : n % 2 = 0
        · simp only [PT.put, hn, if_true]
          cases m with
          | zero => simp [PT.get]
          | succ m =>
            by_cases hm : m % 2 = 0
            · simp only [PT.get, hm, if_true, ih l (n / 2) (m / 2) (by omega)]
              by_cases e : m = n
              · subst e; simp
              · rw [if_neg (by omega), if_neg (by omega)]
            · simp only [PT.get, hm, if_false]
              rw [if_neg (by omega)]
        · simp only [PT.put, hn, if_false]
          cases m with
          | zero => simp [PT.get]
          | succ m =>
            by_cases hm : m % 2 = 0
            · simp only [PT.get, hm, if_true]
              rw [if_neg (by omega)]
            · simp only [PT.get, hm, if_false, ih r (n / 2) (m / 2) (by omega)]
              by_cases e : m = n
              · subst e; simp
              · rw [if_neg (by omega), if_neg (by omega)]
abbrev Fr := PT V
def Fr.at (fr : Fr) (n : Nat) : V := PT.get .undef fr n
def Fr.set (fr : Fr) (n : Nat) (v : V) : Fr := PT.put .undef v (n + 1) fr n
theorem Fr.at_set (fr : Fr) (n m : Nat) (v : V) : (fr.set n v).at m = if m = n then v else fr.at m := PT.get_put _ _ _ _ _ _ (by omega)
structure LoopV where
  state : LoopState
  pending : Option Code
  n : Nat
  fr : Fr
  params : Array Tmp
  assign : Code
  body : Code
  mark : Id
inductive Blk where
  | flat (rw : Bool) (l : List D)
  | cells (rw : Bool) (l : List V)
  | map (es : List (V × V))
  | loop (r : LoopV)
  | mark
  | dead
structure Hp where
  outer : Id → Option Blk
  loc : List Blk
def Hp.get (h : Hp) : Id → Option Blk
  | .loc k => h.loc[k]?
  | .out i => h.outer i
def Hp.set (h : Hp) (i : Id) (b : Blk) : Hp :=
  match i with
  | .loc k => { h with loc := h.loc.set k b }
  | .out i => { h with outer := fun j => if j = i then some b else h.outer j }
def Hp.push (h : Hp) (b : Blk) : Hp := { h with loc := h.loc ++ [b] }
def Hp.fresh (h : Hp) : Id := .loc h.loc.length
theorem Hp.get_push (h : Hp) (b : Blk) (i : Id) : (h.push b).get i = if i = h.fresh then some b else h.get i := by
  cases i with
  | out i => simp [Hp.push, Hp.get, Hp.fresh]
  | loc k =>
    simp only [Hp.push, Hp.get, Hp.fresh, Id.loc.injEq]
    by_cases e : k = h.loc.length
    · subst e; simp
    · rw [if_neg e]
      by_cases hk : k < h.loc.length
      · rw [List.getElem?_append_left hk]
      · rw [List.getElem?_eq_none (by simp; omega), List.getElem?_eq_none (by omega)]
theorem Hp.get_set (h : Hp) (i : Id) (b : Blk) (j : Id) (hi : h.get i ≠ none) : (h.set i b).get j = if j = i then some b else h.get j := by
  cases i with
  | out i =>
    cases j with
    | out j => simp [Hp.set, Hp.get]
    | loc k => simp [Hp.set, Hp.get]
  | loc k =>
    cases j with
    | out j => simp [Hp.set, Hp.get]
    | loc j =>
      simp only [Hp.set, Hp.get, Id.loc.injEq, List.getElem?_set]
      by_cases e : k = j
      · subst e
        simp only [Hp.get] at hi
        have : k < h.loc.length := by
          rcases Nat.lt_or_ge k h.loc.length with h1 | h1
          · exact h1
          · exact absurd (List.getElem?_eq_none h1) hi
        simp [this]
      · simp [e, Ne.symm e]
def Blk.rw : Blk → Bool
  | .flat rw _ => rw
  | .cells rw _ => rw
  | .map _ => true
  | .loop _ => true
  | .mark => true
  | .dead => false
def Blk.alive : Blk → Bool
  | .dead => false
  | _ => true
structure Ent where
  rid : Nat
  base : Nat
  tot : Nat
structure Sig where
  ent : Id → Option Ent
  fz : Nat → Option Obj
  nm : Id → Prop
  lo : Nat
instance : CoeFun Sig (fun _ => Id → Option Ent) := ⟨Sig.ent⟩
def LieAt (cur : Array Value) (o : Nat) (ys : List Value) : Prop := ∀ (i : Nat) (y : Value), ys[i]? = some y → cur[o + i]? = some y ∧ y.oneCell' = true
mutual
def DR (fz : Nat → Option Obj) : D → Value → Prop
  | .undef, _ => True
  | .s x, v => v = x.val
  | .lit u, v => v = u
  | .nilptr, v => v = .pointer none
  | .nilslice, v => v = .slice none 0 0
  | .nilmap, v => v = .map none
  | .nilfunc, v => v = .nilFunc
  | .sl esz len cs, v => 0 < esz ∧ cs.length = len * esz ∧ ((len = 0 ∧ (v = .slice none 0 0 ∨ ∃ a c, v = .slice (some a) 0 c)) ∨
      ∃ r o cap cur T f ys, fz r = some (.cells cur T f) ∧ len ≤ cap ∧ v = .slice (some ⟨r, o, none⟩) len cap ∧ DRs fz cs ys ∧ LieAt cur o ys)
  | .pt cs, v => ∃ r o cur T f ys, fz r = some (.cells cur T f) ∧ v = .pointer (some ⟨r, o, none⟩) ∧ DRs fz cs ys ∧ LieAt cur o ys
  | .mp ks vs, v => ∃ r ms clock, fz r = some (.map ms clock) ∧ v = .map (some r) ∧ DRs fz ks (ms.toList.map (·.key)) ∧ DRs fz vs (ms.toList.map (·.val))
  | .agg cs, v => ∃ a, v = .agg a ∧ DRs fz cs a.toList
  | .func fn f c, v => ∃ f' c', v = .func fn f' c' ∧ DRs fz f f'.toList ∧ DRs fz c c'.toList
def DRs (fz : Nat → Option Obj) : List D → List Value → Prop
  | [], l => l = []
  | v :: vs, l => ∃ x xs, l = x :: xs ∧ DR fz v x ∧ DRs fz vs xs
end
mutual
def VR (σ : Sig) : V → Value → Prop
  | .undef, _ => True
  | .s x, v => v = x.val
  | .lit u, v => v = u
  | .nilptr, v => v = .pointer none
  | .ptr i off, v => ∃ e, σ i = some e ∧ v = .pointer (some ⟨e.rid, e.base + off, none⟩)
  | .nilslice, v => v = .slice none 0 0
  | .slice i off esz len lim, v => ∃ e cap o, σ i = some e ∧ 0 < esz ∧ len ≤ cap ∧ (match lim with | none => off + cap * esz = e.tot | some c => cap = c ∧ off + c * esz ≤ e.tot) ∧
      (cap ≠ 0 → o = e.base + off) ∧ v = .slice (some ⟨e.rid, o, none⟩) len cap
  | .gl i esz len, v => 0 < esz ∧ ((len = 0 ∧ σ.nm i ∧ v = .slice none 0 0) ∨ ∃ e cap o, σ i = some e ∧ len ≤ cap ∧ cap * esz = e.tot ∧ (cap ≠ 0 → o = e.base) ∧ v = .slice (some ⟨e.rid, o, none⟩) len cap)
  | .nilmap, v => v = .map none
  | .map i, v => ∃ e, σ i = some e ∧ v = .map (some e.rid)
  | .func fn f c, v => ∃ f' c', v = .func fn f' c' ∧ VRs σ f f'.toList ∧ VRs σ c c'.toList
  | .yld i, v => ∃ e, σ i = some e ∧ v = .func (.yield e.rid) #[] #[]
  | .nilfunc, v => v = .nilFunc
  | .agg cs, v => ∃ a, v = .agg a ∧ VRs σ cs a.toList
  | .tuple cs, v => ∃ a, v = .tuple a ∧ VRs σ cs a.toList
  | .fs esz len cs, v => DR σ.fz (.sl esz len cs) v
  | .fp cs, v => DR σ.fz (.pt cs) v
  | .fm ks vs, v => DR σ.fz (.mp ks vs) v
def VRs (σ : Sig) : List V → List Value → Prop
  | [], l => l = []
  | v :: vs, l => ∃ x xs, l = x :: xs ∧ VR σ v x ∧ VRs σ vs xs
end

structure Sig.le (σ σ' : Sig) : Prop where
  ent : ∀ i e, σ i = some e → σ' i = some e
  fz : ∀ r o, σ.fz r = some o → σ'.fz r = some o
  nm : ∀ i, σ.nm i → σ'.nm i
instance {σ σ' : Sig} : CoeFun (σ.le σ') (fun _ => ∀ i e, σ i = some e → σ' i = some e) := ⟨Sig.le.ent⟩
theorem Sig.le_refl (σ : Sig) : σ.le σ := ⟨fun _ _ h => h, fun _ _ h => h, fun _ h => h⟩
theorem Sig.le_trans {a b c : Sig} (h : a.le b) (k : b.le c) : a.le c := ⟨fun i e x => k i e (h i e x), fun r o x => k.fz r o (h.fz r o x), fun i x => k.nm i (h.nm i x)⟩
mutual
theorem DR.mono {fz fz' : Nat → Option Obj} (hle : ∀ r o, fz r = some o → fz' r = some o) : ∀ (v : D) (x : Value), DR fz v x → DR fz' v x
  | .undef, _, _ => trivial
  | .s _, _, h => h
  | .lit _, _, h => h
  | .nilptr, _, h => h
  | .nilslice, _, h => h
  | .nilmap, _, h => h
  | .nilfunc, _, h => h
  | .sl esz len cs, _, h => by
    simp only [DR] at h ⊢
    obtain ⟨h1, h2, h3⟩ := h
    refine ⟨h1, h2, ?_⟩
    rcases h3 with h3 | ⟨r, o, cap, cur, T, f, ys, a1, a2, a3, a4, a5⟩
    · exact .inl h3
    · exact .inr ⟨r, o, cap, cur, T, f, ys, hle _ _ a1, a2, a3, DRs.mono hle _ _ a4, a5⟩
  | .pt cs, _, h => by
    simp only [DR] at h ⊢
    obtain ⟨r, o, cur, T, f, ys, a1, a3, a4, a5⟩ := h
    exact ⟨r, o, cur, T, f, ys, hle _ _ a1, a3, DRs.mono hle _ _ a4, a5⟩
  | .mp ks vs, _, h => by
    simp only [DR] at h ⊢
    obtain ⟨r, ms, clock, a1, a2, a3, a4⟩ := h
    exact ⟨r, ms, clock, hle _ _ a1, a2, DRs.mono hle _ _ a3, DRs.mono hle _ _ a4⟩
  | .agg cs, _, h => by
    simp only [DR] at h ⊢
    obtain ⟨a, h1, h2⟩ := h; exact ⟨a, h1, DRs.mono hle _ _ h2⟩
  | .func fn f c, _, h => by
    simp only [DR] at h ⊢
    obtain ⟨f', c', h1, h2, h3⟩ := h; exact ⟨f', c', h1, DRs.mono hle _ _ h2, DRs.mono hle _ _ h3⟩
theorem DRs.mono {fz fz' : Nat → Option Obj} (hle : ∀ r o, fz r = some o → fz' r = some o) : ∀ (v : List D) (x : List Value), DRs fz v x → DRs fz' v x
  | [], _, h => by simpa [DRs] using h
  | v :: vs, l, h => by
    simp only [DRs] at h ⊢
    obtain ⟨x, xs, h1, h2, h3⟩ := h; exact ⟨x, xs, h1, DR.mono hle _ _ h2, DRs.mono hle _ _ h3⟩
end
mutual
theorem DR.v {σ : Sig} : ∀ (d : D) (x : Value), DR σ.fz d x → VR σ d.v x
  | .undef, _, _ => by simp only [D.v, VR]
  | .s _, _, h => by simpa only [D.v, VR, DR] using h
  | .lit _, _, h => by simpa only [D.v, VR, DR] using h
  | .nilptr, _, h => by simpa only [D.v, VR, DR] using h
  | .nilslice, _, h => by simpa only [D.v, VR, DR] using h
  | .nilmap, _, h => by simpa only [D.v, VR, DR] using h
  | .nilfunc, _, h => by simpa only [D.v, VR, DR] using h
  | .sl esz len cs, _, h => by simpa only [D.v, VR] using h
  | .pt cs, _, h => by simpa only [D.v, VR] using h
  | .mp ks vs, _, h => by simpa only [D.v, VR] using h
  | .agg cs, _, h => by
    simp only [DR] at h
    simp only [D.v, VR]
    obtain ⟨a, h1, h2⟩ := h; exact ⟨a, h1, DRs.v _ _ h2⟩
  | .func fn f c, _, h => by
    simp only [DR] at h
    simp only [D.v, VR]
    obtain ⟨f', c', h1, h2, h3⟩ := h; exact ⟨f', c', h1, DRs.v _ _ h2, DRs.v _ _ h3⟩
theorem DRs.v {σ : Sig} : ∀ (d : List D) (x : List Value), DRs σ.fz d x → VRs σ (D.vs d) x
  | [], _, h => by simpa only [D.vs, VRs, DRs] using h
  | d :: ds, _, h => by
    simp only [DRs] at h
    simp only [D.vs, VRs]
    obtain ⟨x, xs, h1, h2, h3⟩ := h; exact ⟨x, xs, h1, DR.v _ _ h2, DRs.v _ _ h3⟩
end
mutual
theorem DR.of_v {σ : Sig} : ∀ (d : D) (x : Value), VR σ d.v x → DR σ.fz d x
  | .undef, _, _ => by simp only [DR]
  | .s _, _, h => by simpa only [D.v, VR, DR] using h
  | .lit _, _, h => by simpa only [D.v, VR, DR] using h
  | .nilptr, _, h => by simpa only [D.v, VR, DR] using h
  | .nilslice, _, h => by simpa only [D.v, VR, DR] using h
  | .nilmap, _, h => by simpa only [D.v, VR, DR] using h
  | .nilfunc, _, h => by simpa only [D.v, VR, DR] using h
  | .sl esz len cs, _, h => by simpa only [D.v, VR] using h
  | .pt cs, _, h => by simpa only [D.v, VR] using h
  | .mp ks vs, _, h => by simpa only [D.v, VR] using h
  | .agg cs, _, h => by
    simp only [D.v, VR] at h
    simp only [DR]
    obtain ⟨a, h1, h2⟩ := h; exact ⟨a, h1, DRs.of_v _ _ h2⟩
  | .func fn f c, _, h => by
    simp only [D.v, VR] at h
    simp only [DR]
    obtain ⟨f', c', h1, h2, h3⟩ := h; exact ⟨f', c', h1, DRs.of_v _ _ h2, DRs.of_v _ _ h3⟩
theorem DRs.of_v {σ : Sig} : ∀ (d : List D) (x : List Value), VRs σ (D.vs d) x → DRs σ.fz d x
  | [], _, h => by simpa only [D.vs, VRs, DRs] using h
  | d :: ds, _, h => by
    simp only [D.vs, VRs] at h
    simp only [DRs]
    obtain ⟨x, xs, h1, h2, h3⟩ := h; exact ⟨x, xs, h1, DR.of_v _ _ h2, DRs.of_v _ _ h3⟩
end
mutual
theorem VR.mono {σ σ' : Sig} (hle : σ.le σ') : ∀ (v : V) (x : Value), VR σ v x → VR σ' v x
  | .undef, _, _ => trivial
  | .s _, _, h => h
  | .lit _, _, h => h
  | .nilptr, _, h => h
  | .ptr i off, _, h => by
    simp only [VR] at h ⊢
    obtain ⟨e, h1, h2⟩ := h; exact ⟨e, hle _ _ h1, h2⟩
  | .nilslice, _, h => h
  | .slice i off esz len lim, _, h => by
    simp only [VR] at h ⊢
    obtain ⟨e, cap, o, h1, h2⟩ := h; exact ⟨e, cap, o, hle _ _ h1, h2⟩
  | .gl i esz len, _, h => by
    simp only [VR] at h ⊢
    obtain ⟨hp, h | ⟨e, cap, o, h1, h2⟩⟩ := h
    · exact ⟨hp, .inl ⟨h.1, hle.nm _ h.2.1, h.2.2⟩⟩
    · exact ⟨hp, .inr ⟨e, cap, o, hle _ _ h1, h2⟩⟩
  | .nilmap, _, h => h
  | .map i, _, h => by
    simp only [VR] at h ⊢
    obtain ⟨e, h1, h2⟩ := h; exact ⟨e, hle _ _ h1, h2⟩
  | .func fn f c, _, h => by
    simp only [VR] at h ⊢
    obtain ⟨f', c', h1, h2, h3⟩ := h; exact ⟨f', c', h1, VRs.mono hle _ _ h2, VRs.mono hle _ _ h3⟩
  | .yld i, _, h => by
    simp only [VR] at h ⊢
    obtain ⟨e, h1, h2⟩ := h; exact ⟨e, hle _ _ h1, h2⟩
  | .nilfunc, _, h => h
  | .agg cs, _, h => by
    simp only [VR] at h ⊢
    obtain ⟨a, h1, h2⟩ := h; exact ⟨a, h1, VRs.mono hle _ _ h2⟩
  | .tuple cs, _, h => by
    simp only [VR] at h ⊢
    obtain ⟨a, h1, h2⟩ := h; exact ⟨a, h1, VRs.mono hle _ _ h2⟩
  | .fs esz len cs, _, h => by simp only [VR] at h ⊢; exact DR.mono hle.fz _ _ h
  | .fp cs, _, h => by simp only [VR] at h ⊢; exact DR.mono hle.fz _ _ h
  | .fm ks vs, _, h => by simp only [VR] at h ⊢; exact DR.mono hle.fz _ _ h
theorem VRs.mono {σ σ' : Sig} (hle : σ.le σ') : ∀ (v : List V) (x : List Value), VRs σ v x → VRs σ' v x
  | [], _, h => by simpa [VRs] using h
  | v :: vs, l, h => by
    simp only [VRs] at h ⊢
    obtain ⟨x, xs, h1, h2, h3⟩ := h; exact ⟨x, xs, h1, VR.mono hle _ _ h2, VRs.mono hle _ _ h3⟩
end

theorem VRs.length {σ : Sig} : ∀ {l : List V} {l' : List Value}, VRs σ l l' → l'.length = l.length
  | [], _, h => by simp only [VRs] at h; subst h; rfl
  | _ :: vs, _, h => by
    simp only [VRs] at h
    obtain ⟨x, xs, rfl, _, h3⟩ := h; simp [VRs.length h3]
theorem VRs.get {σ : Sig} : ∀ {l : List V} {l' : List Value} {i : Nat} {v : V}, VRs σ l l' → l[i]? = some v → ∃ x, l'[i]? = some x ∧ VR σ v x
  | [], _, i, _, _, hv => by simp at hv
  | u :: vs, _, i, v, h, hv => by
    simp only [VRs] at h
    obtain ⟨x, xs, rfl, h2, h3⟩ := h
    cases i with
    | zero => simp at hv; subst hv; exact ⟨x, by simp, h2⟩
    | succ i => simpa using VRs.get h3 (by simpa using hv)
theorem VRs.of_get {σ : Sig} : ∀ {l : List V} {l' : List Value}, l'.length = l.length → (∀ (i : Nat) (v : V), l[i]? = some v → ∃ x, l'[i]? = some x ∧ VR σ v x) → VRs σ l l'
  | [], l', hl, _ => by simp only [VRs]; exact List.eq_nil_of_length_eq_zero (by simpa using hl)
  | u :: vs, [], hl, _ => by simp at hl
  | u :: vs, x :: xs, hl, h => by
    simp only [VRs]
    obtain ⟨y, hy, hr⟩ := h 0 u (by simp)
    simp at hy; subst hy
    exact ⟨x, xs, rfl, hr, VRs.of_get (by simpa using hl) (fun i v hv => by simpa using h (i + 1) v (by simpa using hv))⟩
theorem VRs.append {σ : Sig} : ∀ {l m : List V} {l' m' : List Value}, VRs σ l l' → VRs σ m m' → VRs σ (l ++ m) (l' ++ m')
  | [], _, _, _, h, k => by simp only [VRs] at h; subst h; simpa using k
  | _ :: vs, _, _, _, h, k => by
    simp only [VRs] at h
    obtain ⟨x, xs, rfl, h2, h3⟩ := h
    simp only [List.cons_append, VRs]
    exact ⟨x, _, rfl, h2, VRs.append h3 k⟩
theorem VRs.set {σ : Sig} : ∀ {l : List V} {l' : List Value} {v : V} {x : Value} (i : Nat), VRs σ l l' → VR σ v x → VRs σ (l.set i v) (l'.set i x)
  | [], _, _, _, i, h, _ => by simp only [VRs] at h; subst h; simp [VRs]
  | u :: vs, _, v, x, i, h, k => by
    simp only [VRs] at h
    obtain ⟨y, ys, rfl, h2, h3⟩ := h
    cases i with
    | zero => simp only [List.set, VRs]; exact ⟨x, ys, rfl, k, h3⟩
    | succ i => simp only [List.set, VRs]; exact ⟨y, _, rfl, h2, VRs.set i h3 k⟩
theorem VRs.take {σ : Sig} : ∀ {l : List V} {l' : List Value} (n : Nat), VRs σ l l' → VRs σ (l.take n) (l'.take n)
  | [], _, n, h => by simp only [VRs] at h; subst h; simp [VRs]
  | u :: vs, _, 0, h => by simp [VRs]
  | u :: vs, _, n + 1, h => by
    simp only [VRs] at h
    obtain ⟨y, ys, rfl, h2, h3⟩ := h
    simp only [List.take_succ_cons, VRs]; exact ⟨y, _, rfl, h2, VRs.take n h3⟩
theorem VRs.drop {σ : Sig} : ∀ {l : List V} {l' : List Value} (n : Nat), VRs σ l l' → VRs σ (l.drop n) (l'.drop n)
  | [], _, n, h => by simp only [VRs] at h; subst h; simp [VRs]
  | u :: vs, _, 0, h => by simpa using h
  | u :: vs, _, n + 1, h => by
    simp only [VRs] at h
    obtain ⟨y, ys, rfl, h2, h3⟩ := h
    simpa using VRs.drop n h3
def V.cell1 : V → Bool
  | .undef | .agg _ | .tuple _ => false
  | .lit v => v.oneCell'
  | _ => true
theorem VR.oneCell {σ : Sig} {v : V} {x : Value} (h : VR σ v x) (hv : v.cell1 = true) : x.oneCell' = true := by
  cases v with
  | undef => simp [V.cell1] at hv
  | agg => simp [V.cell1] at hv
  | tuple => simp [V.cell1] at hv
  | lit u => simp only [VR] at h; subst h; simpa [V.cell1] using hv
  | s y => simp only [VR] at h; subst h; cases y <;> rfl
  | nilptr => simp only [VR] at h; subst h; rfl
  | ptr i o => simp only [VR] at h; obtain ⟨e, _, rfl⟩ := h; rfl
  | nilslice => simp only [VR] at h; subst h; rfl
  | slice i o z l m => simp only [VR] at h; obtain ⟨e, c, _, _, _, _, _, _, rfl⟩ := h; rfl
  | gl i z l => simp only [VR] at h; rcases h with ⟨_, ⟨_, _, rfl⟩ | ⟨e, c, _, _, _, _, _, rfl⟩⟩ <;> rfl
  | nilmap => simp only [VR] at h; subst h; rfl
  | map i => simp only [VR] at h; obtain ⟨e, _, rfl⟩ := h; rfl
  | func fn f c => simp only [VR] at h; obtain ⟨f', c', rfl, _⟩ := h; rfl
  | yld i => simp only [VR] at h; obtain ⟨e, _, rfl⟩ := h; rfl
  | nilfunc => simp only [VR] at h; subst h; rfl
  | fs z l cs => simp only [VR, DR] at h; rcases h with ⟨_, _, ⟨_, rfl | ⟨a, c, rfl⟩⟩ | ⟨_, _, _, _, _, _, _, _, _, rfl, _⟩⟩ <;> rfl
  | fp cs => simp only [VR, DR] at h; obtain ⟨_, _, _, _, _, _, _, rfl, _⟩ := h; rfl
  | fm ks vs => simp only [VR, DR] at h; obtain ⟨_, _, _, _, rfl, _⟩ := h; rfl
def V.parts : V → Option (List V)
  | .undef | .tuple _ => none
  | .lit v => if v.oneCell' then some [.lit v] else none
  | .agg cs => some cs
  | v => some [v]
theorem VR.parts {σ : Sig} {v : V} {x : Value} {cs : List V} (h : VR σ v x) (hv : v.parts = some cs) : VRs σ cs x.cells.toList := by
  cases v with
  | undef => simp [V.parts] at hv
  | tuple => simp [V.parts] at hv
  | agg l => simp only [VR] at h; obtain ⟨a, rfl, h2⟩ := h; simp [V.parts] at hv; subst hv; simpa [Value.cells] using h2
  | lit u =>
    simp only [V.parts] at hv
    split at hv
    · rename_i hu
      simp at hv; subst hv
      simp only [VR] at h; subst h
      have : x.cells.toList = [x] := by cases x <;> first | rfl | simp [Value.oneCell'] at hu
      rw [this]; simp [VRs, VR]
    · simp at hv
  | s y => simp [V.parts] at hv; subst hv; simp only [VR] at h; subst h; cases y <;> simp [VRs, VR, S.val, Value.cells]
  | nilptr => simp [V.parts] at hv; subst hv; simp only [VR] at h; subst h; simp [VRs, VR, Value.cells]
  | ptr i o => simp [V.parts] at hv; subst hv; have h0 := h; simp only [VR] at h; obtain ⟨e, _, rfl⟩ := h; simpa [VRs, Value.cells] using h0
  | nilslice => simp [V.parts] at hv; subst hv; simp only [VR] at h; subst h; simp [VRs, VR, Value.cells]
  | slice i o z l m => simp [V.parts] at hv; subst hv; have h0 := h; simp only [VR] at h; obtain ⟨e, c, _, _, _, _, _, _, rfl⟩ := h; simpa [VRs, Value.cells] using h0
  | gl i z l => simp [V.parts] at hv; subst hv; have h0 := h; simp only [VR] at h; rcases h with ⟨_, ⟨_, _, rfl⟩ | ⟨e, c, _, _, _, _, _, rfl⟩⟩ <;> simpa [VRs, Value.cells] using h0
  | nilmap => simp [V.parts] at hv; subst hv; simp only [VR] at h; subst h; simp [VRs, VR, Value.cells]
  | map i => simp [V.parts] at hv; subst hv; have h0 := h; simp only [VR] at h; obtain ⟨e, _, rfl⟩ := h; simpa [VRs, Value.cells] using h0
  | func fn f c => simp [V.parts] at hv; subst hv; have h0 := h; simp only [VR] at h; obtain ⟨f', c', rfl, _⟩ := h; simpa [VRs, Value.cells] using h0
  | yld i => simp [V.parts] at hv; subst hv; have h0 := h; simp only [VR] at h; obtain ⟨e, _, rfl⟩ := h; simpa [VRs, Value.cells] using h0
  | nilfunc => simp [V.parts] at hv; subst hv; simp only [VR] at h; subst h; simp [VRs, VR, Value.cells]
  | fs z l cs => simp [V.parts] at hv; subst hv; have h0 := h; simp only [VR, DR] at h; rcases h with ⟨_, _, ⟨_, rfl | ⟨a, c, rfl⟩⟩ | ⟨_, _, _, _, _, _, _, _, _, rfl, _⟩⟩ <;> (simp only [VRs, Value.cells]; exact ⟨_, [], rfl, h0, rfl⟩)
  | fp cs => simp [V.parts] at hv; subst hv; have h0 := h; simp only [VR, DR] at h; obtain ⟨_, _, _, _, _, _, _, rfl, _⟩ := h; simp only [VRs, Value.cells]; exact ⟨_, [], rfl, h0, rfl⟩
  | fm ks vs => simp [V.parts] at hv; subst hv; have h0 := h; simp only [VR, DR] at h; obtain ⟨_, _, _, _, rfl, _⟩ := h; simp only [VRs, Value.cells]; exact ⟨_, [], rfl, h0, rfl⟩
/-! ### The relation of memory -/

def RowRel (σ : Sig) (e : Ent) (rw : Bool) (n : Nat) (at_ : Nat → Option V) (o : Obj) : Prop :=
  ∃ cur T fz, o = .cells cur T fz ∧ e.base + e.tot ≤ cur.size ∧ n ≤ e.tot ∧ (rw = true → fz = (0, 0)) ∧
    ∀ i v, at_ i = some v → ∃ x, cur[e.base + i]? = some x ∧ VR σ v x ∧ x.oneCell' = true
def FrRel (σ : Sig) (fr : Fr) (tmps : Array Value) : Prop := ∀ i, VR σ (fr.at i) (tmps.getD i undef)
def EsRel (σ : Sig) : List (V × V) → List MapEntry → Prop
  | [], l => l = []
  | (k, v) :: es, l => ∃ m ms, l = m :: ms ∧ VR σ k m.key ∧ VR σ v m.val ∧ EsRel σ es ms
def BlkRel (σ : Sig) (e : Ent) : Blk → Obj → Prop
  | .flat rw l, o => RowRel σ e rw l.length (fun i => (l[i]?).map D.v) o
  | .cells rw l, o => RowRel σ e rw l.length (fun i => l[i]?) o
  | .map es, o => ∃ ms clock, o = .map ms clock ∧ EsRel σ es ms.toList
  | .loop r, o => ∃ fn tmps em, o = .loop { state := r.state, pending := r.pending, fn, tmps, params := r.params, assign := r.assign, body := r.body, defers := em.rid } ∧
      σ r.mark = some em ∧ FrRel σ r.fr tmps ∧ r.n ≤ tmps.size
  | .mark, o => o = .deferred (some [])
  | .dead, _ => True
instance : Coe Hp (Id → Option Blk) := ⟨Hp.get⟩
structure Rel (σ : Sig) (g : Id → Option Blk) (w : World) : Prop where
  blk : ∀ i e b, σ i = some e → g i = some b → e.rid < w.heap.size ∧ ∃ o, w.heap[e.rid]? = some o ∧ BlkRel σ e b o
  apart : ∀ i j ei ej bi bj, i ≠ j → σ i = some ei → σ j = some ej → g i = some bi → g j = some bj → bi.rw = true → bj.alive = true → ei.rid ≠ ej.rid
  dom : ∀ i, g i = none → σ i = none
  nmd : ∀ i, σ.nm i → g i ≠ none
  fz : ∀ r o, σ.fz r = some o → w.heap[r]? = some o ∧ ∀ i e b, σ i = some e → g i = some b → b.rw = true → e.rid ≠ r
structure Ext (σ : Sig) (g : Id → Option Blk) (w : World) (σ' : Sig) (g' : Id → Option Blk) (w' : World) : Prop where
  le : σ.le σ'
  lo : σ'.lo = σ.lo
  fzn : ∀ r o, σ'.fz r = some o → σ.fz r = some o
  size : w.heap.size ≤ w'.heap.size
  os : w'.os = w.os
  tape : w'.tape = w.tape
  output : w'.output = w.output
  frame : ∀ r, r < w.heap.size → (∀ i e b, σ i = some e → g i = some b → b.rw = true → e.rid ≠ r) → w'.heap[r]? = w.heap[r]?
  new : ∀ i e, σ' i = some e → σ i = none → w.heap.size ≤ e.rid ∨ ∃ j ej b, σ j = some ej ∧ g j = some b ∧ b.rw = true ∧ ej.rid = e.rid
  down : ∀ i e b', σ i = some e → g' i = some b' → b'.rw = true → ∃ b, g i = some b ∧ b.rw = true
  ro : ∀ i e b', σ' i = some e → g' i = some b' → b'.rw = false → b'.alive = true → σ i = some e ∧ ∃ b, g i = some b ∧ b.alive = true ∧ b.rw = false
  old : ∀ i, g i ≠ none → g' i ≠ none ∧ (σ i = none → σ' i = none)
  oldn : ∀ i, g i ≠ none → σ'.nm i → σ.nm i
theorem Ext.refl (σ : Sig) (g : Id → Option Blk) (w : World) : Ext σ g w σ g w :=
  ⟨Sig.le_refl σ, rfl, fun _ _ h => h, Nat.le_refl _, rfl, rfl, rfl, fun _ _ _ => rfl, (fun i e h1 h2 => by rw [h1] at h2; cases h2), (fun i e b' _ h2 h3 => ⟨b', h2, h3⟩), (fun i e b' h1 h2 h3 h4 => ⟨h1, b', h2, h4, h3⟩), (fun i h1 => ⟨h1, id⟩), fun _ _ h => h⟩
theorem Ext.trans {σ σ1 σ2 : Sig} {g g1 g2 : Id → Option Blk} {w w1 w2 : World} (a : Ext σ g w σ1 g1 w1) (b : Ext σ1 g1 w1 σ2 g2 w2) : Ext σ g w σ2 g2 w2 where
  le := Sig.le_trans a.le b.le
  lo := b.lo.trans a.lo
  fzn := fun r o h => a.fzn r o (b.fzn r o h)
  size := Nat.le_trans a.size b.size
  os := b.os.trans a.os
  tape := b.tape.trans a.tape
  output := b.output.trans a.output
  frame := fun r hr hn => by
    rw [b.frame r (Nat.lt_of_lt_of_le hr a.size) ?_, a.frame r hr hn]
    intro i e bl hi hg hw hee
    cases hs : σ i with
    | some e0 =>
      have := a.le i e0 hs
      rw [hi] at this; cases this
      obtain ⟨b0, hb0, hw0⟩ := a.down i e bl hs hg hw
      exact hn i e b0 hs hb0 hw0 hee
    | none =>
      rcases a.new i e hi hs with hge | ⟨j, ej, bj, hj, hgj, hwj, hej⟩
      · omega
      · exact hn j ej bj hj hgj hwj (hej.trans hee)
  new := fun i e hi hn => by
    cases hs : σ1 i with
    | some e1 =>
      have := b.le i e1 hs
      rw [hi] at this; cases this
      exact a.new i e hs hn
    | none =>
      rcases b.new i e hi hs with hge | ⟨j, ej, bj, hj, hgj, hwj, hej⟩
      · exact .inl (Nat.le_trans a.size hge)
      · cases hsj : σ j with
        | some e0 =>
          have := a.le j e0 hsj
          rw [hj] at this; cases this
          obtain ⟨b0, hb0, hw0⟩ := a.down j ej bj hsj hgj hwj
          exact .inr ⟨j, ej, b0, hsj, hb0, hw0, hej⟩
        | none =>
          rcases a.new j ej hj hsj with hge | ⟨k, ek, bk, hk, hgk, hwk, hek⟩
          · exact .inl (hej ▸ hge)
          · exact .inr ⟨k, ek, bk, hk, hgk, hwk, hek.trans hej⟩
  down := fun i e b' hi hg hw => by
    obtain ⟨b1, hb1, hw1⟩ := b.down i e b' (a.le i e hi) hg hw
    exact a.down i e b1 hi hb1 hw1
  ro := fun i e b' hi hg hw hal => by
    obtain ⟨h1, b1, hb1, hal1, hw1⟩ := b.ro i e b' hi hg hw hal
    exact a.ro i e b1 h1 hb1 hw1 hal1
  old := fun i hi => by
    obtain ⟨h1, h2⟩ := a.old i hi
    obtain ⟨h3, h4⟩ := b.old i h1
    exact ⟨h3, fun h => h4 (h2 h)⟩
  oldn := fun i hi h => a.oldn i hi (b.oldn i (a.old i hi).1 h)
theorem FrRel.mono {σ σ' : Sig} (hle : σ.le σ') {fr : Fr} {t : Array Value} (h : FrRel σ fr t) : FrRel σ' fr t := fun i => VR.mono hle _ _ (h i)
theorem EsRel.mono {σ σ' : Sig} (hle : σ.le σ') : ∀ {es : List (V × V)} {ms : List MapEntry}, EsRel σ es ms → EsRel σ' es ms
  | [], _, h => by simpa [EsRel] using h
  | (k, v) :: es, _, h => by
    simp only [EsRel] at h ⊢
    obtain ⟨m, ms, h1, h2, h3, h4⟩ := h
    exact ⟨m, ms, h1, VR.mono hle _ _ h2, VR.mono hle _ _ h3, EsRel.mono hle h4⟩
theorem RowRel.mono {σ σ' : Sig} (hle : σ.le σ') {e : Ent} {rw : Bool} {n : Nat} {f : Nat → Option V} {o : Obj} (h : RowRel σ e rw n f o) : RowRel σ' e rw n f o := by
  obtain ⟨cur, T, fz, h1, h2, h3, h4, h5⟩ := h
  exact ⟨cur, T, fz, h1, h2, h3, h4, fun i v hv => let ⟨x, a, b, c⟩ := h5 i v hv; ⟨x, a, VR.mono hle _ _ b, c⟩⟩
theorem BlkRel.mono {σ σ' : Sig} (hle : σ.le σ') {e : Ent} {b : Blk} {o : Obj} (h : BlkRel σ e b o) : BlkRel σ' e b o := by
  cases b with
  | flat rw l => exact RowRel.mono hle h
  | cells rw l => exact RowRel.mono hle h
  | map es => obtain ⟨ms, c, h1, h2⟩ := h; exact ⟨ms, c, h1, EsRel.mono hle h2⟩
  | loop r => obtain ⟨fn, t, em, h1, h2, h3, h4⟩ := h; exact ⟨fn, t, em, h1, hle _ _ h2, FrRel.mono hle h3, h4⟩
  | mark => exact h
  | dead => trivial
/-! ### The frame -/

structure St where
  n : Nat
  fr : Fr
  h : Hp
  marks : List Id
structure Ghost (σ : Sig) (g : Id → Option Blk) (w : World) (r : Nat) : Prop where
  lo : σ.lo ≤ r
  here : w.heap[r]? = some (.deferred (some []))
  fz : σ.fz r = none
  un : ∀ i e b, σ i = some e → g i = some b → b.alive = true → e.rid ≠ r
def MarkL (σ : Sig) (g : Id → Option Blk) (w : World) : List Id → List Deferred → Prop
  | is, [] => is = []
  | is, d :: ds => (∃ i is' e, is = i :: is' ∧ d = { target := .collected e.rid, args := #[] } ∧ σ i = some e ∧ σ.lo ≤ e.rid ∧ MarkL σ g w is' ds) ∨
      (∃ r, d = { target := .collected r, args := #[] } ∧ Ghost σ g w r ∧ MarkL σ g w is ds)
structure MarksRel (σ : Sig) (g : Id → Option Blk) (w : World) (is : List Id) (ds : List Deferred) : Prop where
  nodup : ds.Nodup
  lo : σ.lo ≤ w.heap.size
  list : MarkL σ g w is ds
theorem MarkL.step {σ σ' : Sig} {g g' : Id → Option Blk} {w w' : World} (hle : ∀ i e, σ i = some e → σ' i = some e) (hlo : σ'.lo = σ.lo) (hg : ∀ r, Ghost σ g w r → Ghost σ' g' w' r) : ∀ {ds : List Deferred} {is : List Id}, MarkL σ g w is ds → MarkL σ' g' w' is ds
  | [], _, h => by simpa only [MarkL] using h
  | d :: ds, is, h => by
    simp only [MarkL] at h ⊢
    rcases h with ⟨i, is', e, h1, h2, h3, h4, h5⟩ | ⟨r, h1, h2, h3⟩
    · exact .inl ⟨i, is', e, h1, h2, hle _ _ h3, by rw [hlo]; exact h4, h5.step hle hlo hg⟩
    · exact .inr ⟨r, h1, hg r h2, h3.step hle hlo hg⟩
structure StRel (σ : Sig) (st : St) (a : Act) (w : World) : Prop where
  rel : Rel σ st.h w
  fr : FrRel σ st.fr a.tmps
  size : st.n ≤ a.tmps.size
  marks : MarksRel σ st.h w st.marks a.defers
theorem StRel.put {σ : Sig} {st : St} {a : Act} {w : World} (h : StRel σ st a w) {d : Nat} (hd : d < st.n) {v : V} {x : Value} (hv : VR σ v x) :
    StRel σ { st with fr := st.fr.set d v } (a.put (some d) x) w := by
  refine ⟨h.rel, fun i => ?_, by simpa [Act.put] using h.size, h.marks⟩
  have hs := h.size
  simp only [Fr.at_set, Act.put]
  by_cases e : i = d
  · subst e
    simp only [if_true]
    rw [Array.getD_eq_getD_getElem?, Array.getElem?_setIfInBounds_self_of_lt (by omega)]
    exact hv
  · rw [if_neg e, Array.getD_eq_getD_getElem?, Array.getElem?_setIfInBounds_ne (Ne.symm e), ← Array.getD_eq_getD_getElem?]
    exact h.fr i
end Go.Vm

namespace Go.Vm

structure FI where
  off : Nat
  size : Nat
  agg : Bool
inductive TK where
  | bool
  | int (k : IntKind)
  | ptr
  | slice (e esz bytes : Nat) (zero : List V)
  | array (n esz : Nat) (eagg : Bool)
  | struct (fs : List FI)
  | map (k : Nat) (e : Nat) (zero : V)
  | func
  | str
  | other
structure TI where
  kind : TK
  size : Nat
  agg : Bool
  zero : V
abbrev TT := Nat → Option TI
def descAgg : TypeDesc → Bool
  | .struct _ | .array _ _ => true
  | _ => false
def aggOf (P : Program) (t : TypeId) : Option Bool := (P.underlying t).map descAgg
def FieldsOk (P : Program) : List FI → List Field → Prop
  | [], l => l = []
  | f :: fs, l => ∃ g gs, l = g :: gs ∧ g.offset = f.off ∧ (P.info? g.type).map (·.size) = some f.size ∧ f.size ≠ 0 ∧ aggOf P g.type = some f.agg ∧ FieldsOk P fs gs
def ZeroV (v : V) (z : Value) : Prop := ∀ σ, VR σ v z
def ZeroCs (l : List V) (z : Value) : Prop := ∀ σ, VRs σ l z.cells.toList ∧ ∀ x ∈ z.cells.toList, x.oneCell' = true
def KindOk (P : Program) (d : TypeDesc) : TK → Prop
  | .bool => d = .bool
  | .int k => d = .int k
  | .ptr => ∃ e, d = .pointer e
  | .slice e esz bytes zero => d = .slice e ∧ 0 < esz ∧ ∃ info z, P.info? e = some info ∧ info.size = esz ∧ info.bytes = bytes ∧ info.zero = some z ∧ ZeroCs zero z ∧ zero.length = esz
  | .array n esz eagg => ∃ e, d = .array n e ∧ (P.info? e).map (·.size) = some esz ∧ aggOf P e = some eagg
  | .struct fs => ∃ gs, d = .struct gs ∧ FieldsOk P fs gs.toList
  | .map k e zero => d = .map k e ∧ ∃ info z, P.info? e = some info ∧ info.zero = some z ∧ ZeroV zero z
  | .func => ∃ ps rs v, d = .func ps rs v
  | .str => d = .string
  | .other => True
structure TOk (P : Program) (T : TT) : Prop where
  ok : ∀ t ti, T t = some ti → ∃ d info z, P.underlying t = some d ∧ P.info? t = some info ∧ info.size = ti.size ∧ descAgg d = ti.agg ∧ info.zero = some z ∧ ZeroV ti.zero z ∧ KindOk P d ti.kind
def ofValue : Nat → Value → V
  | _, .bool b => .s (.bool b)
  | _, .int k n => .s (.int k n)
  | _, .pointer none => .nilptr
  | _, .slice none 0 0 => .nilslice
  | _, .map none => .nilmap
  | _, .nilFunc => .nilfunc
  | _, .nilIface => .lit .nilIface
  | _, .string s => .lit (.string s)
  | d + 1, .agg a => .agg (a.toList.map (ofValue d))
  | d + 1, .tuple a => .tuple (a.toList.map (ofValue d))
  | d + 1, .func fn f c => match fn with
    | .func g => .func (.func g) (f.toList.map (ofValue d)) (c.toList.map (ofValue d))
    | _ => .undef
  | _, _ => .undef
theorem VRs_map {σ : Sig} {f : Value → V} (hf : ∀ x, VR σ (f x) x) : ∀ l : List Value, VRs σ (l.map f) l
  | [] => by simp [VRs]
  | x :: l => by simp only [List.map_cons, VRs]; exact ⟨x, l, rfl, hf x, VRs_map hf l⟩
theorem VR_ofValue (σ : Sig) : ∀ (d : Nat) (v : Value), VR σ (ofValue d v) v := by
  intro d
  induction d with
  | zero =>
    intro v
    unfold ofValue
    split <;> simp_all [VR, S.val]
  | succ d ih =>
    intro v
    cases v with
    | agg a => simp only [ofValue, VR]; exact ⟨_, rfl, VRs_map ih _⟩
    | tuple a => simp only [ofValue, VR]; exact ⟨_, rfl, VRs_map ih _⟩
    | func fn f c =>
      cases fn <;> simp only [ofValue, VR]
      exact ⟨_, _, rfl, VRs_map ih _, VRs_map ih _⟩
    | pointer a => cases a <;> simp [ofValue, VR]
    | map a => cases a <;> simp [ofValue, VR]
    | slice a l c =>
      cases a with
      | some a => simp [ofValue, VR]
      | none => cases l <;> cases c <;> simp [ofValue, VR]
    | _ => simp [ofValue, VR, S.val]
def ev (fr : Fr) : Operand → V
  | .tmp t => fr.at t
  | .const v => ofValue 4 v
  | .global _ => .undef
  | .func f => .func (.func f) [] []
theorem ev_ok {σ : Sig} {fr : Fr} {a : Act} (h : FrRel σ fr a.tmps) (x : Operand) : VR σ (ev fr x) (a.eval x) := by
  cases x with
  | tmp t => exact h t
  | const v => exact VR_ofValue σ 4 v
  | global g => simp [ev, VR]
  | func f => simp [ev, VR, VRs, Act.eval]
def kindEq : IntKind → IntKind → Bool
  | .i8, .i8 | .i16, .i16 | .i32, .i32 | .i64, .i64 | .u8, .u8 | .u16, .u16 | .u32, .u32 | .u64, .u64 => true
  | _, _ => false
theorem kindEq_eq {a b : IntKind} (h : kindEq a b = true) : a = b := by cases a <;> cases b <;> first | rfl | (simp [kindEq] at h)
inductive PRes where
  | val (v : V)
  | ite (b : Bool) (x y : V)
  | need (b : Bool) (v : V)
  | arith (k : IntKind) (n : Int)
  | any (p : V → Prop)
  | no
def PRes.ok (σ : Sig) : PRes → (V → Prop) → Prop
  | .val v, K => K v
  | .ite b x y, K => K (if b then x else y)
  | .need b v, K => b = true → K v
  | .arith k n, K => K (.s (.int k (k.wrap n)))
  | .any p, K => ∀ v, p v → K v
  | .no, _ => True
def vbits (op : BinOp) (k : IntKind) (x y : Int) : Option Int :=
  let a := BitVec.ofInt k.bits x
  let b := BitVec.ofInt k.bits y
  match op with
  | .and => some (a &&& b).toNat
  | .or => some (a ||| b).toNat
  | .xor => some (a ^^^ b).toNat
  | .andNot => some (a &&& ~~~b).toNat
  | _ => none
def eqS : S → S → Option Bool
  | .bool a, .bool b => some (a == b)
  | .int k a, .int k' b => if kindEq k k' then some (a == b) else none
  | _, _ => none
def vbin (T : TT) (op : BinOp) (t : TypeId) (x y : V) : PRes :=
  match x, y with
  | .s (.int k a), .s (.int k' b) =>
    match op with
    | .shl => .need (decide (0 ≤ b)) (.s (.int k (k.wrap (a * 2 ^ (min b.toNat k.bits)))))
    | .shr => .need (decide (0 ≤ b)) (.s (.int k (a.fdiv (2 ^ (min b.toNat k.bits)))))
    | op => if kindEq k k' then
      match op with
      | .add => .arith k (a + b)
      | .sub => .arith k (a - b)
      | .mul => .arith k (a * b)
      | .quo => .need (b != 0) (.s (.int k (k.wrap (a.tdiv b))))
      | .rem => .need (b != 0) (.s (.int k (a.tmod b)))
      | .eql => .val (.s (.bool (a == b)))
      | .neq => .val (.s (.bool (a != b)))
      | .lss => .val (.s (.bool (decide (a < b))))
      | .leq => .val (.s (.bool (decide (a ≤ b))))
      | .gtr => .val (.s (.bool (decide (b < a))))
      | .geq => .val (.s (.bool (decide (b ≤ a))))
      | op => match vbits op k a b with
        | some n => .arith k n
        | none => .no
      else .no
  | .s (.bool a), .s (.bool b) =>
    match T t with
    | some ⟨.bool, _, _, _⟩ => match op with
      | .eql => .val (.s (.bool (a == b)))
      | .neq => .val (.s (.bool (!(a == b))))
      | _ => .no
    | _ => .no
  | .nilptr, .nilptr => match T t with
    | some ⟨.ptr, _, _, _⟩ => match op with
      | .eql => .val (.s (.bool true))
      | .neq => .val (.s (.bool (!true)))
      | _ => .no
    | _ => .no
  | .ptr _ _, .nilptr | .nilptr, .ptr _ _ => match T t with
    | some ⟨.ptr, _, _, _⟩ => match op with
      | .eql => .val (.s (.bool false))
      | .neq => .val (.s (.bool (!false)))
      | _ => .no
    | _ => .no
  | .fp _, .nilptr | .nilptr, .fp _ => match T t with
    | some ⟨.ptr, _, _, _⟩ => match op with
      | .eql => .val (.s (.bool false))
      | .neq => .val (.s (.bool (!false)))
      | _ => .no
    | _ => .no
  | .nilslice, .nilslice => match T t with
    | some ⟨.slice _ _ _ _, _, _, _⟩ => match op with
      | .eql => .val (.s (.bool true))
      | .neq => .val (.s (.bool (!true)))
      | _ => .no
    | _ => .no
  | .slice _ _ _ _ _, .nilslice | .nilslice, .slice _ _ _ _ _ => match T t with
    | some ⟨.slice _ _ _ _, _, _, _⟩ => match op with
      | .eql => .val (.s (.bool false))
      | .neq => .val (.s (.bool (!false)))
      | _ => .no
    | _ => .no
  | .nilfunc, .nilfunc => match T t with
    | some ⟨.func, _, _, _⟩ => match op with
      | .eql => .val (.s (.bool true))
      | .neq => .val (.s (.bool (!true)))
      | _ => .no
    | _ => .no
  | .func _ _ _, .nilfunc | .nilfunc, .func _ _ _ => match T t with
    | some ⟨.func, _, _, _⟩ => match op with
      | .eql => .val (.s (.bool false))
      | .neq => .val (.s (.bool (!false)))
      | _ => .no
    | _ => .no
  | .fs _ n _, .nilslice => match T t with
    | some ⟨.slice _ _ _ _, _, _, _⟩ => match op with
      | .eql => .need (decide (0 < n)) (.s (.bool false))
      | .neq => .need (decide (0 < n)) (.s (.bool (!false)))
      | _ => .no
    | _ => .no
  | _, _ => .no
def Gives (P : Program) (s : Sem Value) (w : World) (K : Value → Prop) : Prop := ∃ x, s.run P w = .ok x w ∧ K x
theorem shift_ok {P : Program} {w : World} {k yk : IntKind} {a b : Int} (h : 0 ≤ b) :
    (Op.shift .shl k a yk b).run P w = .ok (.int k (k.wrap (a * 2 ^ (min b.toNat k.bits)))) w ∧ (Op.shift .shr k a yk b).run P w = .ok (.int k (a.fdiv (2 ^ (min b.toNat k.bits)))) w := by
  have : ¬ b < 0 := by omega
  simp [Op.shift, this]
theorem equal_run {P : Program} {t : TypeId} {x y : Value} {w : World} {r : Bool} (h : ∀ d, (Op.equalIn (d + 1) t x y).run P w = .ok r w) : (Op.equal t x y).run P w = .ok r w := h 9999
theorem eql_run {P : Program} {t : TypeId} {x y : Value} {w : World} {r : Bool} (h : ∀ d, (Op.equalIn (d + 1) t x y).run P w = .ok r w)
    (he : binOp .eql t x y = do pure (.bool (← Op.equal t x y))) : (binOp .eql t x y).run P w = .ok (.bool r) w := by
  rw [he, Sem.run_bind, equal_run h]; rfl
theorem neq_run {P : Program} {t : TypeId} {x y : Value} {w : World} {r : Bool} (h : ∀ d, (Op.equalIn (d + 1) t x y).run P w = .ok r w)
    (he : binOp .neq t x y = do pure (.bool (!(← Op.equal t x y)))) : (binOp .neq t x y).run P w = .ok (.bool (!r)) w := by
  rw [he, Sem.run_bind, equal_run h]; rfl
section
variable {P : Program} {t : TypeId} {w : World} {op : BinOp} {xo yo : Operand} {σ : Sig}
theorem cmp_ok {x y : Value} {r : Bool} (h : ∀ d, (Op.equalIn (d + 1) t x y).run P w = .ok r w)
    (he : binOp .eql t x y = do pure (.bool (← Op.equal t x y))) (hn : binOp .neq t x y = do pure (.bool (!(← Op.equal t x y))))
    (hg : ∀ op, (eqGuard op t xo yo x y).run P w = .ok () w) :
    (match op with | .eql => PRes.val (.s (.bool r)) | .neq => .val (.s (.bool (!r))) | _ => .no).ok σ (fun v => Gives P (do eqGuard op t xo yo x y; binOp op t x y) w (VR σ v)) := by
  split
  · exact ⟨_, by rw [Sem.run_bind, hg]; exact eql_run h he, rfl⟩
  · exact ⟨_, by rw [Sem.run_bind, hg]; exact neq_run h hn, rfl⟩
  · trivial
theorem eq_ptr0 {e : TypeId} (hu : P.underlying t = some (.pointer e)) (d : Nat) : (Op.equalIn (d + 1) t (.pointer none) (.pointer none)).run P w = .ok true w := by simp [Op.equalIn, run_underlying hu]
theorem eq_ptr1 {e : TypeId} (hu : P.underlying t = some (.pointer e)) (a : Addr) (d : Nat) : (Op.equalIn (d + 1) t (.pointer (some a)) (.pointer none)).run P w = .ok false w := by simp [Op.equalIn, run_underlying hu]
theorem eq_ptr2 {e : TypeId} (hu : P.underlying t = some (.pointer e)) (a : Addr) (d : Nat) : (Op.equalIn (d + 1) t (.pointer none) (.pointer (some a))).run P w = .ok false w := by simp [Op.equalIn, run_underlying hu]
theorem eq_sl0 {e : TypeId} (hu : P.underlying t = some (.slice e)) (d : Nat) : (Op.equalIn (d + 1) t (.slice none 0 0) (.slice none 0 0)).run P w = .ok true w := by simp [Op.equalIn, run_underlying hu]
theorem eq_sl1 {e : TypeId} (hu : P.underlying t = some (.slice e)) (a : Addr) (n c d : Nat) : (Op.equalIn (d + 1) t (.slice (some a) n c) (.slice none 0 0)).run P w = .ok false w := by simp [Op.equalIn, run_underlying hu]
theorem eq_sl2 {e : TypeId} (hu : P.underlying t = some (.slice e)) (a : Addr) (n c d : Nat) : (Op.equalIn (d + 1) t (.slice none 0 0) (.slice (some a) n c)).run P w = .ok false w := by simp [Op.equalIn, run_underlying hu]
theorem eq_fn0 {p q : Array TypeId} {b : Bool} (hu : P.underlying t = some (.func p q b)) (d : Nat) : (Op.equalIn (d + 1) t .nilFunc .nilFunc).run P w = .ok true w := by simp [Op.equalIn, run_underlying hu]
theorem eq_fn1 {p q : Array TypeId} {b : Bool} (hu : P.underlying t = some (.func p q b)) (f : Fn) (x y : Array Value) (d : Nat) : (Op.equalIn (d + 1) t (.func f x y) .nilFunc).run P w = .ok false w := by simp [Op.equalIn, run_underlying hu]
theorem eq_fn2 {p q : Array TypeId} {b : Bool} (hu : P.underlying t = some (.func p q b)) (f : Fn) (x y : Array Value) (d : Nat) : (Op.equalIn (d + 1) t .nilFunc (.func f x y)).run P w = .ok false w := by simp [Op.equalIn, run_underlying hu]
end

theorem vbin_ok {P : Program} {T : TT} (hT : TOk P T) {σ : Sig} {w : World} {op : BinOp} {t : TypeId} {xo yo : Operand} {x y : V} {a b : Value} (hx : VR σ x a) (hy : VR σ y b) :
    (vbin T op t x y).ok σ (fun v => Gives P (do eqGuard op t xo yo a b; binOp op t a b) w (VR σ v)) := by
  unfold vbin
  split
  · rename_i k m k' n
    simp only [VR] at hx hy
    subst hx hy
    have hg : ∀ o', (eqGuard o' t xo yo (S.int k m).val (S.int k' n).val).run P w = .ok () w := by intro o'; simp only [eqGuard, S.val]; split <;> simp
    split
    · simp only [PRes.ok, decide_eq_true_eq]; intro h
      refine ⟨_, ?_, rfl⟩
      rw [Sem.run_bind, hg]; simp [binOp, S.val, shift_ok h]
    · simp only [PRes.ok, decide_eq_true_eq]; intro h
      refine ⟨_, ?_, rfl⟩
      rw [Sem.run_bind, hg]; simp [binOp, S.val, shift_ok h]
    · rename_i op' h1 h2
      split
      · rename_i hk
        have hk' := kindEq_eq hk
        subst hk'
        split <;> first
          | (simp only [PRes.ok]; refine ⟨_, ?_, rfl⟩; rw [Sem.run_bind, hg]; simp [binOp, S.val, Op.intArith, Op.intCmp]; done)
          | (simp only [PRes.ok]; intro hne; refine ⟨_, ?_, rfl⟩; rw [Sem.run_bind, hg]; simp at hne; simp [binOp, S.val, Op.intDiv, hne]; done)
          | skip
        split
        · rename_i n' hb
          simp only [PRes.ok]
          refine ⟨_, ?_, rfl⟩
          rw [Sem.run_bind, hg]
          cases op <;> simp_all [vbits] <;> (subst hb; simp [binOp, S.val, Op.intBits])
        · trivial
      · trivial
  · rename_i m n
    simp only [VR] at hx hy
    subst hx hy
    split
    · rename_i s z zz hTt
      obtain ⟨d, info, zv, hu, _, _, _, _, _, hk⟩ := hT.ok _ _ hTt
      simp only [KindOk] at hk
      subst hk
      have he : ∀ d, (Op.equalIn (d + 1) t (S.bool m).val (S.bool n).val).run P w = .ok (m == n) w := fun d => by simp [Op.equalIn, S.val, run_underlying hu]
      exact cmp_ok he rfl rfl (fun o => by simp [eqGuard, S.val])
    · trivial
  all_goals (first | trivial | skip)
  all_goals first
  | (
    split
    · rename_i hTt
      obtain ⟨d, info, zv, hu, _, _, _, _, _, hk⟩ := hT.ok _ _ hTt
      simp only [KindOk] at hk
      first
        | (obtain ⟨e, e2, e3, rfl⟩ := hk)
        | (obtain ⟨e, rfl⟩ := hk)
        | (obtain ⟨rfl, _⟩ := hk)
      simp only [VR, DR] at hx hy
      first
        | (obtain ⟨_, _, _, _, _, _, _, rfl, _⟩ := hx; subst hy)
        | (obtain ⟨_, _, _, _, _, _, _, rfl, _⟩ := hy; subst hx)
        | (obtain ⟨f1, f2, rfl, _, _⟩ := hx; subst hy)
        | (obtain ⟨f1, f2, rfl, _, _⟩ := hy; subst hx)
        | (obtain ⟨ee, c, oo, _, _, _, _, _, rfl⟩ := hx; subst hy)
        | (obtain ⟨ee, c, oo, _, _, _, _, _, rfl⟩ := hy; subst hx)
        | (obtain ⟨ee, _, rfl⟩ := hx; subst hy)
        | (obtain ⟨ee, _, rfl⟩ := hy; subst hx)
        | (subst hx hy)
      first
        | exact cmp_ok (eq_ptr0 hu) rfl rfl (fun o => by simp [eqGuard])
        | exact cmp_ok (eq_ptr1 hu _) rfl rfl (fun o => by simp [eqGuard])
        | exact cmp_ok (eq_ptr2 hu _) rfl rfl (fun o => by simp [eqGuard])
        | exact cmp_ok (eq_sl0 hu) rfl rfl (fun o => by simp [eqGuard])
        | exact cmp_ok (eq_sl1 hu _ _ _) rfl rfl (fun o => by simp [eqGuard])
        | exact cmp_ok (eq_sl2 hu _ _ _) rfl rfl (fun o => by simp [eqGuard])
        | exact cmp_ok (eq_fn0 hu) rfl rfl (fun o => by simp [eqGuard])
        | exact cmp_ok (eq_fn1 hu _ _ _) rfl rfl (fun o => by simp [eqGuard])
        | exact cmp_ok (eq_fn2 hu _ _ _) rfl rfl (fun o => by simp [eqGuard])
    · trivial
    done)
  | (
    rename_i nesz nn ncs
    split
    · rename_i hTt
      obtain ⟨d, info, zv, hu, _, _, _, _, _, hk⟩ := hT.ok _ _ hTt
      simp only [KindOk] at hk
      obtain ⟨rfl, _⟩ := hk
      simp only [VR, DR] at hx hy
      subst hy
      obtain ⟨_, _, ⟨h0, _⟩ | ⟨r, o, cap, cur, T', f, ys, _, _, rfl, _, _⟩⟩ := hx
      · split
        · simp only [PRes.ok]; intro hz; rw [decide_eq_true_eq] at hz; omega
        · simp only [PRes.ok]; intro hz; rw [decide_eq_true_eq] at hz; omega
        · trivial
      · have key := fun op => cmp_ok (op := op) (xo := xo) (yo := yo) (σ := σ) (w := w) (eq_sl1 hu ⟨r, o, none⟩ nn cap) rfl rfl (fun o => by simp [eqGuard])
        split
        · simp only [PRes.ok]; intro _; exact key .eql
        · simp only [PRes.ok]; intro _; exact key .neq
        · trivial
    · trivial)
end Go.Vm

namespace Go.Vm

def vpart (size : Nat) (agg : Bool) (cs : List V) (off : Nat) : Option V :=
  if agg then some (.agg ((cs.drop off).take size)) else cs[off]?
theorem vpart_ok {P : Program} {σ : Sig} {w : World} {t : TypeId} {size : Nat} {agg : Bool} {cs : List V} {a : Array Value} {off : Nat} {v : V}
    (ha : aggOf P t = some agg) (hs : (P.info? t).map (·.size) = some size) (hr : VRs σ cs a.toList) (hv : vpart size agg cs off = some v) :
    ∃ x, (part t a off).run P w = .ok x w ∧ VR σ v x := by
  simp only [aggOf, Option.map_eq_some_iff] at ha hs
  obtain ⟨d, hd, rfl⟩ := ha
  obtain ⟨i, hi, rfl⟩ := hs
  cases hg : descAgg d with
  | true =>
    simp only [vpart, hg, if_true, Option.some.injEq] at hv
    subst hv
    refine ⟨.agg (a.extract off (off + i.size)), ?_, ?_⟩
    · have : (isAgg t).run P w = .ok true w := by cases d <;> simp_all [isAgg, run_underlying hd, descAgg]
      simp [part, this, sizeOf, typeInfo, hi]
    · simp only [VR]
      refine ⟨_, rfl, ?_⟩
      have := VRs.take i.size (VRs.drop off hr)
      simpa [Array.toList_extract, List.extract_eq_take_drop] using this
  | false =>
    simp only [vpart, hg] at hv
    obtain ⟨x, hx, hvr⟩ := VRs.get hr (by simpa using hv)
    have hx' : a[off]? = some x := by simpa using hx
    refine ⟨x, ?_, hvr⟩
    have : (isAgg t).run P w = .ok false w := by cases d <;> simp_all [isAgg, run_underlying hd, descAgg]
    simp [part, this, hx']
def setMany (off : Nat) : List V → Nat → List V → List V
  | [], _, l => l
  | c :: cs, j, l => setMany off cs (j + 1) (l.set (off + j) c)
def vfill (place : Nat → Option (Nat × Nat)) : List V → List (Nat × V) → Option (List V)
  | cells, [] => some cells
  | cells, (i, v) :: rest =>
    match place i with
    | none => none
    | some (off, size) => match v.parts with
      | none => none
      | some cs => if cs.length = size ∧ off + size ≤ cells.length then vfill place (setMany off cs 0 cells) rest else none
theorem setMany_ok {σ : Sig} (off : Nat) : ∀ (cs : List V) (xs : List Value) (j : Nat) (l : List V) (a : Array Value), VRs σ cs xs → VRs σ l a.toList →
    VRs σ (setMany off cs j l) ((xs.zipIdx j).foldl (fun cs (c, j) => cs.setIfInBounds (off + j) c) a).toList
  | [], xs, j, l, a, h, k => by simp only [VRs] at h; subst h; simpa [setMany] using k
  | c :: cs, xs, j, l, a, h, k => by
    simp only [VRs] at h
    obtain ⟨y, ys, rfl, h1, h2⟩ := h
    simp only [setMany, List.zipIdx_cons, List.foldl_cons]
    exact setMany_ok off cs ys (j + 1) _ _ h2 (by simpa using VRs.set (off + j) k h1)
theorem setMany_length (off : Nat) : ∀ (cs : List V) (j : Nat) (l : List V), (setMany off cs j l).length = l.length
  | [], _, _ => rfl
  | _ :: cs, j, l => by simp [setMany, setMany_length off cs (j + 1)]
def PartsRel (σ : Sig) : List (Nat × V) → List (Nat × Value) → Prop
  | [], l => l = []
  | (i, v) :: ps, l => ∃ x xs, l = (i, x) :: xs ∧ VR σ v x ∧ PartsRel σ ps xs
theorem vfill_ok {σ : Sig} {place place' : Nat → Option (Nat × Nat)} (hp : ∀ i p, place i = some p → place' i = some p) : ∀ (ps : List (Nat × V)) (xs : List (Nat × Value)) (l r : List V) (a : Array Value), PartsRel σ ps xs → VRs σ l a.toList →
    vfill place l ps = some r → ∃ b, Instr.fill place' a xs = some b ∧ VRs σ r b.toList
  | [], xs, l, r, a, h, k, hv => by
    simp only [PartsRel] at h; subst h
    simp only [vfill, Option.some.injEq] at hv; subst hv
    exact ⟨a, rfl, k⟩
  | (i, v) :: ps, xs, l, r, a, h, k, hv => by
    simp only [PartsRel] at h
    obtain ⟨x, ys, rfl, h1, h2⟩ := h
    simp only [vfill] at hv
    split at hv
    · cases hv
    · rename_i off size hpl
      split at hv
      · cases hv
      · rename_i cs hcs
        split at hv
        · rename_i hle
          have hc := VR.parts h1 hcs
          have hlen := VRs.length hc
          have hl := VRs.length k
          have hsz : x.cells.size = size := by rw [← hle.1]; simpa using hlen
          have hal : a.size = l.length := by simpa using hl
          obtain ⟨b, hb, hr⟩ := vfill_ok hp ps ys _ r _ h2 (setMany_ok off cs x.cells.toList 0 l a hc k) hv
          refine ⟨b, ?_, hr⟩
          rw [← hb]
          rw [Instr.fill]
          simp only [hp i _ hpl]
          rw [if_neg (by simp [hsz, hal, hle.2])]
          congr 1
          rw [← Array.foldl_toList, Array.toList_zipIdx]
        · cases hv
def placeOf (fs : List FI) (i : Nat) : Option (Nat × Nat) := (fs[i]?).map fun f => (f.off, f.size)
theorem FieldsOk.get {P : Program} : ∀ {fs : List FI} {gs : List Field} {i : Nat} {f : FI}, FieldsOk P fs gs → fs[i]? = some f →
    ∃ g, gs[i]? = some g ∧ g.offset = f.off ∧ (P.info? g.type).map (·.size) = some f.size ∧ f.size ≠ 0 ∧ aggOf P g.type = some f.agg
  | [], _, _, _, _, hf => by simp at hf
  | f0 :: fs, _, i, f, h, hf => by
    simp only [FieldsOk] at h
    obtain ⟨g, gs, rfl, h1, h2, h3, h4, h5⟩ := h
    cases i with
    | zero => simp at hf; subst hf; exact ⟨g, by simp, h1, h2, h3, h4⟩
    | succ i => simpa using FieldsOk.get h5 (by simpa using hf)
theorem mapM_places {P : Program} {w : World} : ∀ {fs : List FI} {gs : List Field}, FieldsOk P fs gs →
    (gs.mapM (m := Sem) fun f => do pure (f.offset, ← sizeOf f.type)).run P w = .ok (fs.map fun f => (f.off, f.size)) w
  | [], _, h => by simp only [FieldsOk] at h; subst h; simp
  | f0 :: fs, _, h => by
    simp only [FieldsOk] at h
    obtain ⟨g, gs, rfl, h1, h2, h3, h4, h5⟩ := h
    simp only [Option.map_eq_some_iff] at h2
    obtain ⟨i, hi, hs⟩ := h2
    have := mapM_places (w := w) h5
    simp [sizeOf, typeInfo, hi] at this
    simp [sizeOf, typeInfo, hi, this, h1, hs]
def vlo : Option V → Option Int
  | none => some 0
  | some (.s (.int _ n)) => some n
  | _ => none
def vhi (d : Int) : Option V → Option Int
  | none => some d
  | some (.s (.int _ n)) => some n
  | _ => none
def SubP (esz len : Nat) (cs : List D) (l h : Int) (v : V) : Prop := (0 ≤ l ∧ l ≤ h ∧ h ≤ len) ∧ ∃ cs' n, cs' = (cs.drop (l.toNat * esz)).take ((h - l).toNat * esz) ∧ n = (h - l).toNat ∧ v = .fs esz n cs'
def SubM (esz len : Nat) (cs : List D) (l h m : Int) (is : Bool) (v : V) : Prop := (is = true ∧ h ≤ m ∧ m ≤ len) ∧ SubP esz len cs l h v
def GlP (i : Id) (esz len : Nat) (l h : Int) (v : V) : Prop := (0 ≤ l ∧ l ≤ h ∧ h ≤ len) ∧ ∃ n, n = (h - l).toNat ∧ ((l = 0 ∧ v = .gl i esz n) ∨ (0 < len ∧ v = .slice i (l.toNat * esz) esz n none))
def IdxP (esz len : Nat) (cs : List D) (n : Int) (v : V) : Prop := (0 ≤ n ∧ n < len) ∧ ∃ es rest, cs.drop (n.toNat * esz) = es ++ rest ∧ v = .fp es
def vslice (T : TT) (t : TypeId) (x : V) (lo hi mx : Option V) : PRes :=
  match T t, x with
  | some ⟨.slice _ esz _ _, _, _, _⟩, .slice i off esz' len lim =>
    if Nat.beq esz esz' then
      match vlo lo, vhi len hi, mx with
      | some l, some h, none =>
        match lim with
        | none => .need (decide (0 ≤ l ∧ l ≤ h ∧ h ≤ len)) (.slice i (off + l.toNat * esz) esz (h - l).toNat none)
        | some c => .need (decide (0 ≤ l ∧ l ≤ h ∧ h ≤ max (len : Int) c)) (.slice i (off + l.toNat * esz) esz (h - l).toNat (some (c - l.toNat)))
      | some l, some h, some (.s (.int _ m)) => .need (decide (0 ≤ l ∧ l ≤ h ∧ h ≤ m ∧ m ≤ len) && hi.isSome) (.slice i (off + l.toNat * esz) esz (h - l).toNat (some (m - l).toNat))
      | _, _, _ => .no
    else .no
  | some ⟨.slice _ esz _ _, _, _, _⟩, .gl i esz' len =>
    if Nat.beq esz esz' then
      match vlo lo, vhi len hi, mx with
      | some l, some h, none => .any (GlP i esz len l h)
      | _, _, _ => .no
    else .no
  | some ⟨.slice _ esz _ _, _, _, _⟩, .fs esz' len cs =>
    if Nat.beq esz esz' then
      match vlo lo, vhi len hi, mx with
      | some l, some h, none => .any (SubP esz len cs l h)
      | some l, some h, some (.s (.int _ m)) => .any (SubM esz len cs l h m hi.isSome)
      | _, _, _ => .no
    else .no
  | some ⟨.slice _ _ _ _, _, _, _⟩, .nilslice =>
    match vlo lo, vhi 0 hi, mx with
    | some l, some h, none => .need (decide (l = 0 ∧ h = 0)) .nilslice
    | _, _, _ => .no
  | some ⟨.array n esz _, _, _, _⟩, .fp cs =>
    match lo, hi, mx with
    | none, some (.s (.int _ h)), none => .need (decide (0 < esz ∧ 0 < h ∧ h ≤ n ∧ cs.length = n * esz)) (.fs esz h.toNat (cs.take (h.toNat * esz)))
    | _, _, _ => .no
  | _, _ => .no
def vmin : Int → List V → Option Int
  | a, [] => some a
  | a, .s (.int _ b) :: r => vmin (min a b) r
  | _, _ => none
def vmax : Int → List V → Option Int
  | a, [] => some a
  | a, .s (.int _ b) :: r => vmax (max a b) r
  | _, _ => none
def strAt (s : ByteArray) (i : Nat) : Int := (s[i]!).toNat
def vbuiltin (T : TT) (b : Builtin) (ts : Array TypeId) (args : List V) : PRes :=
  match b, args with
  | .len, [x] => match ts[0]? with
    | some t => match T t, x with
      | some ⟨.slice _ _ _ _, _, _, _⟩, .slice _ _ _ len _ => .val (.s (.int .i64 len))
      | some ⟨.slice _ _ _ _, _, _, _⟩, .gl _ _ len => .val (.s (.int .i64 len))
      | some ⟨.slice _ _ _ _, _, _, _⟩, .fs _ len _ => .val (.s (.int .i64 len))
      | some ⟨.slice _ _ _ _, _, _, _⟩, .nilslice => .val (.s (.int .i64 0))
      | some ⟨.array n _ _, _, _, _⟩, _ => .val (.s (.int .i64 n))
      | some ⟨.str, _, _, _⟩, .lit (.string s) => .val (.s (.int .i64 s.size))
      | _, _ => .no
    | none => .no
  | .min, .s (.int k a) :: r => match vmin a r with
    | some n => .val (.s (.int k n))
    | none => .no
  | .max, .s (.int k a) :: r => match vmax a r with
    | some n => .val (.s (.int k n))
    | none => .no
  | _, _ => .no
def natLit {α : Type} (n : Nat) (f : Nat → α) : α := match n with
  | 0 => f 0 | 1 => f 1 | 2 => f 2 | 3 => f 3 | 4 => f 4 | 5 => f 5 | 6 => f 6 | 7 => f 7 | 8 => f 8 | 9 => f 9
  | 10 => f 10 | 11 => f 11 | 12 => f 12 | 13 => f 13 | 14 => f 14 | 15 => f 15 | 16 => f 16 | 17 => f 17 | 18 => f 18 | 19 => f 19
  | 20 => f 20 | 21 => f 21 | 22 => f 22 | 23 => f 23 | 24 => f 24 | 25 => f 25 | 26 => f 26 | 27 => f 27 | 28 => f 28 | 29 => f 29
  | 30 => f 30 | 31 => f 31 | 32 => f 32 | 33 => f 33 | 34 => f 34 | 35 => f 35 | 36 => f 36 | 37 => f 37 | 38 => f 38 | 39 => f 39
  | n => f n
theorem natLit_eq {α : Type} (n : Nat) (f : Nat → α) : natLit n f = f n := by
  unfold natLit
  split <;> rfl
def vpure (T : TT) (o : Oper) (ρ : Operand → V) : PRes :=
  match o.op with
  | .move x | .assign x => .val (ρ x)
  | .pick c a b => match ρ c with
    | .s (.bool c) => .ite c (ρ a) (ρ b)
    | _ => .no
  | .binOp op t x y _ => vbin T op t (ρ x) (ρ y)
  | .unOp op _ x => match op, ρ x with
    | .not, .s (.bool b) => .val (.s (.bool !b))
    | .neg, .s (.int k n) => .arith k (0 - n)
    | _, _ => .no
  | .convert src dst x => match T src, T dst, ρ x with
    | some _, some ⟨.int k, _, _, _⟩, .s (.int _ n) => .arith k n
    | _, _, _ => .no
  | .field t x f => match T t, ρ x with
    | some ⟨.struct fs, _, _, _⟩, .agg cs => match fs[f]? with
      | some g => match vpart g.size g.agg cs g.off with
        | some v => .val v
        | none => .no
      | none => .no
    | _, _ => .no
  | .index t x ix => match T t, ρ x, ρ ix with
    | some ⟨.array n esz eagg, _, _, _⟩, .agg cs, .s (.int _ i) => match vpart esz eagg cs (i.toNat * esz) with
      | some v => .need (decide (0 ≤ i ∧ i < n)) v
      | none => .no
    | some ⟨.str, _, _, _⟩, .lit (.string s), .s (.int _ i) => .need (decide (0 ≤ i ∧ i < s.size)) (.s (.int .u8 (strAt s i.toNat)))
    | _, _, _ => .no
  | .extract t i => match ρ t with
    | .tuple vs => match vs[i]? with
      | some v => .val v
      | none => .no
    | _ => .no
  | .makeFunc fn first captured => .val (.func fn (first.toList.map ρ) (captured.toList.map ρ))
  | .fieldAddr s x f => match T s, ρ x with
    | some ⟨.struct fs, _, _, _⟩, .ptr i off => match fs[f]? with
      | some g => natLit g.off fun o => .val (.ptr i (off + o))
      | none => .no
    | some ⟨.struct fs, _, _, _⟩, .fp cs => match fs[f]? with
      | some g => natLit g.off fun o => .val (.fp (cs.drop o))
      | none => .no
    | _, _ => .no
  | .indexAddr t x ix => match T t, ρ x, ρ ix with
    | some ⟨.slice _ esz _ _, _, _, _⟩, .slice i off _ len _, .s (.int _ n) => .need (decide (0 ≤ n ∧ n < len)) (.ptr i (off + n.toNat * esz))
    | some ⟨.slice _ esz _ _, _, _, _⟩, .gl i esz' len, .s (.int _ n) => match Nat.beq esz esz' with
      | true => .need (decide (0 ≤ n ∧ n < len)) (.ptr i (n.toNat * esz))
      | false => .no
    | some ⟨.array len esz _, _, _, _⟩, .ptr i off, .s (.int _ n) => .need (decide (0 ≤ n ∧ n < len)) (.ptr i (off + n.toNat * esz))
    | some ⟨.slice _ esz _ _, _, _, _⟩, .fs esz' len cs, .s (.int _ n) => match Nat.beq esz esz' with
      | true => .any (IdxP esz len cs n)
      | false => .no
    | some ⟨.array len esz _, _, _, _⟩, .fp cs, .s (.int _ n) => .any (IdxP esz len cs n)
    | _, _, _ => .no
  | .slice t x lo hi mx => vslice T t (ρ x) (lo.map ρ) (hi.map ρ) (mx.map ρ)
  | .nilCheck x => match ρ x with
    | .ptr i off => .val (.ptr i off)
    | .fp cs => .val (.fp cs)
    | .func (.func f) a b => .val (.func (.func f) a b)
    | _ => .no
  | .build t parts => match T t with
    | some ⟨.struct fs, _, _, .agg zs⟩ => match vfill (placeOf fs) zs (parts.toList.map fun p => (p.1, ρ p.2)) with
      | some cs => .val (.agg cs)
      | none => .no
    | some ⟨.array _ esz _, _, _, .agg zs⟩ => match vfill (fun i => some (i * esz, esz)) zs (parts.toList.map fun p => (p.1, ρ p.2)) with
      | some cs => .val (.agg cs)
      | none => .no
    | _ => .no
  | .call c => match c.callee with
    | .builtin b => vbuiltin T b c.argTypes (c.args.toList.map ρ)
    | _ => .no
  | _ => .no
def GivesN (P : Program) (s : Sem Next) (w : World) (K : Value → Prop) : Prop := ∃ x, s.run P w = .ok (.value x) w ∧ K x
theorem PRes.ok_mono {σ : Sig} {r : PRes} {K K' : V → Prop} (h : r.ok σ K) (hk : ∀ v, K v → K' v) : r.ok σ K' := by
  cases r <;> simp only [PRes.ok] at h ⊢ <;> first | exact hk _ h | exact fun hb => hk _ (h hb) | exact fun v hv => hk _ (h v hv) | trivial
theorem GivesN.of {P : Program} {s : Sem Value} {w : World} {K : Value → Prop} (h : Gives P s w K) : GivesN P (do pure (.value (← s))) w K := by
  obtain ⟨x, hx, hk⟩ := h
  exact ⟨x, by rw [Sem.run_bind, hx]; rfl, hk⟩
theorem VRs_map2 {σ : Sig} {ρv : Operand → V} {ρ : Operand → Value} (hρ : ∀ x, VR σ (ρv x) (ρ x)) : ∀ l : List Operand, VRs σ (l.map ρv) (l.map ρ)
  | [] => by simp [VRs]
  | x :: l => by simp only [List.map_cons, VRs]; exact ⟨_, _, rfl, hρ x, VRs_map2 hρ l⟩
theorem PartsRel_map {σ : Sig} {ρv : Operand → V} {ρ : Operand → Value} (hρ : ∀ x, VR σ (ρv x) (ρ x)) : ∀ l : List (Nat × Operand), PartsRel σ (l.map fun p => (p.1, ρv p.2)) (l.map fun p => (p.1, ρ p.2))
  | [] => by simp [PartsRel]
  | x :: l => by simp only [List.map_cons, PartsRel]; exact ⟨_, _, rfl, hρ x.2, PartsRel_map hρ l⟩
theorem add_at (r o n : Nat) : (⟨r, o, none⟩ : Addr).add n = ⟨r, o + n, none⟩ := by unfold Addr.add; split <;> simp_all
theorem min_ok {P : Program} {σ : Sig} {w : World} : ∀ (r : List V) (xs : List Value) (k : IntKind) (a n : Int), VRs σ r xs → vmin a r = some n → (xs.foldlM Builtin.min2 (.int k a)).run P w = .ok (.int k n) w
  | [], xs, k, a, n, h, hv => by simp only [VRs] at h; subst h; simp [vmin] at hv; subst hv; simp
  | v :: r, xs, k, a, n, h, hv => by
    simp only [VRs] at h
    obtain ⟨y, ys, rfl, h1, h2⟩ := h
    cases v with
    | s y' => cases y' with
      | int k' b =>
        simp only [VR, S.val] at h1; subst h1
        simp only [vmin] at hv
        have := min_ok (P := P) (w := w) r ys k (min a b) n h2 hv
        simp only [List.foldlM_cons, Builtin.min2, pure_bind]
        rw [show (if b < a then b else a) = min a b by simp only [Int.min_def]; split <;> split <;> omega]
        exact this
      | bool b => simp [vmin] at hv
    | _ => simp [vmin] at hv
theorem max_ok {P : Program} {σ : Sig} {w : World} : ∀ (r : List V) (xs : List Value) (k : IntKind) (a n : Int), VRs σ r xs → vmax a r = some n → (xs.foldlM Builtin.max2 (.int k a)).run P w = .ok (.int k n) w
  | [], xs, k, a, n, h, hv => by simp only [VRs] at h; subst h; simp [vmax] at hv; subst hv; simp
  | v :: r, xs, k, a, n, h, hv => by
    simp only [VRs] at h
    obtain ⟨y, ys, rfl, h1, h2⟩ := h
    cases v with
    | s y' => cases y' with
      | int k' b =>
        simp only [VR, S.val] at h1; subst h1
        simp only [vmax] at hv
        have := max_ok (P := P) (w := w) r ys k (max a b) n h2 hv
        simp only [List.foldlM_cons, Builtin.max2, pure_bind]
        rw [show (if b > a then b else a) = max a b by simp only [Int.max_def]; split <;> split <;> omega]
        exact this
      | bool b => simp [vmax] at hv
    | _ => simp [vmax] at hv
end Go.Vm

namespace Go.Vm
section
variable {P : Program} {T : TT} (hT : TOk P T) {σ : Sig} {w : World}
include hT

theorem kind_of {t : TypeId} {ti : TI} (h : T t = some ti) : ∃ d, P.underlying t = some d ∧ descAgg d = ti.agg ∧ KindOk P d ti.kind := by
  obtain ⟨d, info, zv, hu, _, _, ha, _, _, hk⟩ := hT.ok _ _ h
  exact ⟨d, hu, ha, hk⟩
omit hT in
theorem size_of {e : TypeId} {n : Nat} (h : (P.info? e).map (·.size) = some n) (w : World) : (sizeOf e).run P w = .ok n w := by
  simp only [Option.map_eq_some_iff] at h
  obtain ⟨i, hi, rfl⟩ := h
  simp [sizeOf, typeInfo, hi]
omit hT in
theorem index_slice_ok {t e : TypeId} {i : Id} {off esz esz' len : Nat} {lim : Option Nat} {k : IntKind} {n : Int} {x : Value} (hu : P.underlying t = some (.slice e)) (hs : (P.info? e).map (·.size) = some esz)
    (hx : VR σ (.slice i off esz' len lim) x) (h0 : 0 ≤ n ∧ n < len) : Gives P (Instr.indexAt t x (.int k n)) w (VR σ (.ptr i (off + n.toNat * esz))) := by
  simp only [VR] at hx
  obtain ⟨ee, cap, o, hi, hz, hlc, hlim, ho, rfl⟩ := hx
  refine ⟨.pointer (some ⟨ee.rid, ee.base + (off + n.toNat * esz), none⟩), ?_, by simp only [VR]; exact ⟨ee, hi, rfl⟩⟩
  have hc : cap ≠ 0 := by omega
  have := size_of hs w
  simp [Instr.indexAt, asIntOf, run_underlying hu, h0, this, add_at, ho hc, Nat.add_assoc]
omit hT in
theorem index_array_ok {t e : TypeId} {i : Id} {off esz len : Nat} {k : IntKind} {n : Int} {x : Value} (hu : P.underlying t = some (.array len e)) (hs : (P.info? e).map (·.size) = some esz)
    (hx : VR σ (.ptr i off) x) (h0 : 0 ≤ n ∧ n < len) : Gives P (Instr.indexAt t x (.int k n)) w (VR σ (.ptr i (off + n.toNat * esz))) := by
  simp only [VR] at hx
  obtain ⟨ee, hi, rfl⟩ := hx
  refine ⟨.pointer (some ⟨ee.rid, ee.base + (off + n.toNat * esz), none⟩), ?_, by simp only [VR]; exact ⟨ee, hi, rfl⟩⟩
  have := size_of hs w
  simp [Instr.indexAt, asIntOf, run_underlying hu, h0, Instr.sureAddr, this, add_at, Nat.add_assoc]
omit hT in
theorem DRs_drop {fz : Nat → Option Obj} : ∀ {l : List D} {xs : List Value} (n : Nat), DRs fz l xs → DRs fz (l.drop n) (xs.drop n)
  | [], _, n, h => by simp only [DRs] at h; subst h; simp [DRs]
  | _ :: _, _, 0, h => by simpa using h
  | _ :: vs, _, n + 1, h => by
    simp only [DRs] at h
    obtain ⟨y, ys, rfl, h2, h3⟩ := h
    simpa using DRs_drop n h3
omit hT in
theorem DRs_take {fz : Nat → Option Obj} : ∀ {l : List D} {xs : List Value} (n : Nat), DRs fz l xs → DRs fz (l.take n) (xs.take n)
  | [], _, n, h => by simp only [DRs] at h; subst h; simp [DRs]
  | _ :: _, _, 0, h => by simp [DRs]
  | v :: vs, _, n + 1, h => by
    simp only [DRs] at h
    obtain ⟨y, ys, rfl, h2, h3⟩ := h
    simp only [List.take_succ_cons, DRs]
    exact ⟨y, _, rfl, h2, DRs_take n h3⟩
omit hT in
theorem DRs_len {fz : Nat → Option Obj} : ∀ {l : List D} {xs : List Value}, DRs fz l xs → xs.length = l.length
  | [], _, h => by simp only [DRs] at h; subst h; rfl
  | _ :: vs, _, h => by
    simp only [DRs] at h
    obtain ⟨x, xs, rfl, _, h3⟩ := h; simp [DRs_len h3]
omit hT in
theorem LieAt.drop {cur : Array Value} {o : Nat} {ys : List Value} (h : LieAt cur o ys) (n : Nat) : LieAt cur (o + n) (ys.drop n) := fun i y hy => by
  rw [List.getElem?_drop] at hy
  rw [Nat.add_assoc]; exact h _ y hy
omit hT in
theorem LieAt.take {cur : Array Value} {o : Nat} {ys : List Value} (h : LieAt cur o ys) (n : Nat) : LieAt cur o (ys.take n) := fun i y hy => by
  rw [List.getElem?_take] at hy
  split at hy
  · exact h _ y hy
  · cases hy
omit hT in
theorem VR_fp_front {es rest : List D} {x : Value} (h : VR σ (.fp (es ++ rest)) x) : VR σ (.fp es) x := by
  simp only [VR, DR] at h ⊢
  obtain ⟨r, o, cur, T, f, ys, h1, h2, h3, h4⟩ := h
  refine ⟨r, o, cur, T, f, ys.take es.length, h1, h2, ?_, h4.take _⟩
  have := DRs_take es.length h3
  simpa using this
omit hT in
theorem index_fs_ok {t e : TypeId} {esz esz' len : Nat} {cs : List D} {k : IntKind} {n : Int} {x : Value} {v : V} (hu : P.underlying t = some (.slice e)) (hs : (P.info? e).map (·.size) = some esz)
    (hx : VR σ (.fs esz' len cs) x) (hv : IdxP esz len cs n v) : Gives P (Instr.indexAt t x (.int k n)) w (VR σ v) := by
  obtain ⟨h0, es, rest, hd, rfl⟩ := hv
  simp only [VR, DR] at hx
  obtain ⟨hp, hl, ⟨hl0, _⟩ | ⟨r, o, cap, cur, T, f, ys, h1, h2, rfl, h4, h5⟩⟩ := hx
  · omega
  refine ⟨.pointer (some ⟨r, o + n.toNat * esz, none⟩), ?_, VR_fp_front (rest := rest) ?_⟩
  · have := size_of hs w
    simp [Instr.indexAt, asIntOf, run_underlying hu, h0, this, add_at]
  · rw [← hd]
    simp only [VR, DR]
    exact ⟨r, _, cur, T, f, _, h1, rfl, DRs_drop _ h4, h5.drop _⟩
omit hT in
theorem index_fp_ok {t e : TypeId} {esz len : Nat} {cs : List D} {k : IntKind} {n : Int} {x : Value} {v : V} (hu : P.underlying t = some (.array len e)) (hs : (P.info? e).map (·.size) = some esz)
    (hx : VR σ (.fp cs) x) (hv : IdxP esz len cs n v) : Gives P (Instr.indexAt t x (.int k n)) w (VR σ v) := by
  obtain ⟨h0, es, rest, hd, rfl⟩ := hv
  simp only [VR, DR] at hx
  obtain ⟨r, o, cur, T, f, ys, h1, rfl, h4, h5⟩ := hx
  refine ⟨.pointer (some ⟨r, o + n.toNat * esz, none⟩), ?_, VR_fp_front (rest := rest) ?_⟩
  · have := size_of hs w
    simp [Instr.indexAt, asIntOf, run_underlying hu, h0, Instr.sureAddr, this, add_at]
  · rw [← hd]
    simp only [VR, DR]
    exact ⟨r, _, cur, T, f, _, h1, rfl, DRs_drop _ h4, h5.drop _⟩
omit hT in
theorem field_addr_fp_ok {t : TypeId} {gs : Array Field} {fs : List FI} {f : Nat} {g : FI} {cs : List D} {x : Value} (hu : P.underlying t = some (.struct gs)) (hf : FieldsOk P fs gs.toList) (hg : fs[f]? = some g)
    (hx : VR σ (.fp cs) x) : Gives P (Instr.fieldAt t x f) w (VR σ (.fp (cs.drop g.off))) := by
  simp only [VR, DR] at hx
  obtain ⟨r, o, cur, T, ff, ys, a1, rfl, a4, a5⟩ := hx
  obtain ⟨q, hq, h1, h2, h3, h4⟩ := hf.get hg
  refine ⟨.pointer (some ⟨r, o + g.off, none⟩), ?_, by simp only [VR, DR]; exact ⟨r, _, cur, T, ff, _, a1, rfl, DRs_drop _ a4, a5.drop _⟩⟩
  have := size_of h2 w
  have hq' : gs[f]? = some q := by simpa using hq
  simp [Instr.fieldAt, run_underlying hu, hq', Instr.sureAddr, fieldPlace, this, h3, add_at, h1]
omit hT in
theorem field_addr_ok {t : TypeId} {gs : Array Field} {fs : List FI} {f : Nat} {g : FI} {i : Id} {off : Nat} {x : Value} (hu : P.underlying t = some (.struct gs)) (hf : FieldsOk P fs gs.toList) (hg : fs[f]? = some g)
    (hx : VR σ (.ptr i off) x) : Gives P (Instr.fieldAt t x f) w (VR σ (.ptr i (off + g.off))) := by
  simp only [VR] at hx
  obtain ⟨ee, hi, rfl⟩ := hx
  obtain ⟨q, hq, h1, h2, h3, h4⟩ := hf.get hg
  refine ⟨.pointer (some ⟨ee.rid, ee.base + (off + g.off), none⟩), ?_, by simp only [VR]; exact ⟨ee, hi, rfl⟩⟩
  have := size_of h2 w
  have hq' : gs[f]? = some q := by simpa using hq
  simp [Instr.fieldAt, run_underlying hu, hq', Instr.sureAddr, fieldPlace, this, h3, add_at, h1, Nat.add_assoc]
omit hT in
theorem field_ok {t : TypeId} {gs : Array Field} {fs : List FI} {f : Nat} {g : FI} {cs : List V} {v : V} {x : Value} (hu : P.underlying t = some (.struct gs)) (hf : FieldsOk P fs gs.toList) (hg : fs[f]? = some g)
    (hx : VR σ (.agg cs) x) (hv : vpart g.size g.agg cs g.off = some v) : Gives P (Instr.field t x f) w (VR σ v) := by
  simp only [VR] at hx
  obtain ⟨a, rfl, hr⟩ := hx
  obtain ⟨q, hq, h1, h2, h3, h4⟩ := hf.get hg
  obtain ⟨y, hy, hvr⟩ := vpart_ok (P := P) (w := w) h4 h2 hr hv
  have hq' : gs[f]? = some q := by simpa using hq
  refine ⟨y, ?_, hvr⟩
  simp [Instr.field, run_underlying hu, hq', asAgg, h1, hy]
omit hT in
theorem index_str {t : TypeId} {s : ByteArray} {k : IntKind} {i : Int} (hu : P.underlying t = some .string) (hb : 0 ≤ i ∧ i < s.size) : Gives P (Instr.index t (.string s) (.int k i)) w (VR σ (.s (.int .u8 (strAt s i.toNat)))) := by
  have hlt : i.toNat < s.size := by omega
  have hg : s[i.toNat]? = some (s[i.toNat]!) := by
    rw [getElem?_pos s i.toNat hlt]
    congr 1
    exact (getElem!_pos s i.toNat hlt).symm
  refine ⟨.int .u8 (strAt s i.toNat), ?_, rfl⟩
  simp [Instr.index, run_underlying hu, asIntOf, hb.1, hg, strAt]
omit hT in
theorem index_ok {t e : TypeId} {n esz : Nat} {eagg : Bool} {cs : List V} {v : V} {x : Value} {k : IntKind} {i : Int} (hu : P.underlying t = some (.array n e)) (hs : (P.info? e).map (·.size) = some esz) (ha : aggOf P e = some eagg)
    (hx : VR σ (.agg cs) x) (hv : vpart esz eagg cs (i.toNat * esz) = some v) (h0 : 0 ≤ i ∧ i < n) : Gives P (Instr.index t x (.int k i)) w (VR σ v) := by
  simp only [VR] at hx
  obtain ⟨a, rfl, hr⟩ := hx
  obtain ⟨y, hy, hvr⟩ := vpart_ok (P := P) (w := w) ha hs hr hv
  have := size_of hs w
  refine ⟨y, ?_, hvr⟩
  simp [Instr.index, run_underlying hu, asIntOf, h0, this, hy]
omit hT in
theorem sliceBound_ok {P : Program} {w : World} {k : IntKind} {i : Int} {y : Nat} {c : BoundsCode} (h : 0 ≤ i ∧ i ≤ y) : (Instr.sliceBound (.int k i) y c).run P w = .ok i.toNat w := by
  simp [Instr.sliceBound, asIntOf, h]
omit hT in
theorem vlo_cases {lo : Option V} {lo' : Option Value} {l : Int} (hlo : vlo lo = some l) (hl : ∀ v, lo = some v → ∃ x, lo' = some x ∧ VR σ v x) (hl0 : lo = none → lo' = none) :
    (lo' = none ∧ l = 0) ∨ ∃ k, lo' = some (.int k l) := by
  cases lo with
  | none => simp [vlo] at hlo; exact .inl ⟨hl0 rfl, hlo.symm⟩
  | some v =>
    obtain ⟨x, rfl, hr⟩ := hl v rfl
    cases v with
    | s y => cases y with
      | int k n => simp [vlo] at hlo; subst hlo; simp only [VR, S.val] at hr; subst hr; exact .inr ⟨k, rfl⟩
      | bool b => simp [vlo] at hlo
    | _ => simp [vlo] at hlo
omit hT in
theorem vhi_cases {hi : Option V} {hi' : Option Value} {h d : Int} (hhi : vhi d hi = some h) (hl : ∀ v, hi = some v → ∃ x, hi' = some x ∧ VR σ v x) (hl0 : hi = none → hi' = none) :
    (hi' = none ∧ hi = none ∧ h = d) ∨ ∃ k, hi' = some (.int k h) := by
  cases hi with
  | none => simp [vhi] at hhi; exact .inl ⟨hl0 rfl, rfl, hhi.symm⟩
  | some v =>
    obtain ⟨x, rfl, hr⟩ := hl v rfl
    cases v with
    | s y => cases y with
      | int k n => simp [vhi] at hhi; subst hhi; simp only [VR, S.val] at hr; subst hr; exact .inr ⟨k, rfl⟩
      | bool b => simp [vhi] at hhi
    | _ => simp [vhi] at hhi
omit hT in
theorem bounds_ok {P : Program} {w : World} {isS : Bool} {len cap : Nat} {lo hi : Option V} {lo' hi' : Option Value} {l h : Int} (hlo : vlo lo = some l) (hhi : vhi len hi = some h)
    (hl : ∀ v, lo = some v → ∃ x, lo' = some x ∧ VR σ v x) (hl0 : lo = none → lo' = none) (hh : ∀ v, hi = some v → ∃ x, hi' = some x ∧ VR σ v x) (hh0 : hi = none → hi' = none)
    (hb : 0 ≤ l ∧ l ≤ h ∧ h ≤ cap) (hc : len ≤ cap) : (Instr.sliceBounds isS len cap lo' hi' none).run P w = .ok (l.toNat, h.toNat, cap) w := by
  have b1 : ∀ {k : IntKind} {c : BoundsCode}, (Instr.sliceBound (.int k h) cap c).run P w = .ok h.toNat w := sliceBound_ok ⟨by omega, by omega⟩
  have b2 : ∀ {k : IntKind} {c : BoundsCode}, (Instr.sliceBound (.int k l) h.toNat c).run P w = .ok l.toNat w := sliceBound_ok ⟨by omega, by omega⟩
  rcases vhi_cases hhi hh hh0 with ⟨rfl, _, rfl⟩ | ⟨k, rfl⟩
  · have b3 : ∀ {k : IntKind} {c : BoundsCode}, (Instr.sliceBound (.int k l) len c).run P w = .ok l.toNat w := sliceBound_ok ⟨by omega, by omega⟩
    rcases vlo_cases hlo hl hl0 with ⟨rfl, rfl⟩ | ⟨k', rfl⟩ <;> simp [Instr.sliceBounds, b3]
  · rcases vlo_cases hlo hl hl0 with ⟨rfl, rfl⟩ | ⟨k', rfl⟩ <;> simp [Instr.sliceBounds, b1, b2]
omit hT in
theorem bounds3_ok {P : Program} {w : World} {len cap : Nat} {lo hi : Option V} {lo' hi' : Option Value} {l h m : Int} {k : IntKind} (hlo : vlo lo = some l) (hhi : vhi len hi = some h) (hs : hi.isSome = true)
    (hl : ∀ v, lo = some v → ∃ x, lo' = some x ∧ VR σ v x) (hl0 : lo = none → lo' = none) (hh : ∀ v, hi = some v → ∃ x, hi' = some x ∧ VR σ v x) (hh0 : hi = none → hi' = none)
    (hb : 0 ≤ l ∧ l ≤ h ∧ h ≤ m ∧ m ≤ len) (hc : len ≤ cap) : (Instr.sliceBounds true len cap lo' hi' (some (.int k m))).run P w = .ok (l.toNat, h.toNat, m.toNat) w := by
  have b0 : (Instr.sliceBound (.int k m) cap .slice3Acap).run P w = .ok m.toNat w := sliceBound_ok ⟨by omega, by omega⟩
  have b1 : ∀ {k : IntKind} {c : BoundsCode}, (Instr.sliceBound (.int k h) m.toNat c).run P w = .ok h.toNat w := sliceBound_ok ⟨by omega, by omega⟩
  have b2 : ∀ {k : IntKind} {c : BoundsCode}, (Instr.sliceBound (.int k l) h.toNat c).run P w = .ok l.toNat w := sliceBound_ok ⟨by omega, by omega⟩
  rcases vhi_cases hhi hh hh0 with ⟨rfl, rfl, rfl⟩ | ⟨k, rfl⟩
  · simp at hs
  · rcases vlo_cases hlo hl hl0 with ⟨rfl, rfl⟩ | ⟨k', rfl⟩ <;> simp [Instr.sliceBounds, b0, b1, b2]
theorem vslice_ok {t : TypeId} {x : V} {x' : Value} {lo hi mx : Option V} {lo' hi' mx' : Option Value} (hx : VR σ x x')
    (hl : ∀ v, lo = some v → ∃ x, lo' = some x ∧ VR σ v x) (hl0 : lo = none → lo' = none) (hh : ∀ v, hi = some v → ∃ x, hi' = some x ∧ VR σ v x) (hh0 : hi = none → hi' = none)
    (hm : ∀ v, mx = some v → ∃ x, mx' = some x ∧ VR σ v x) (hm0 : mx = none → mx' = none) :
    (vslice T t x lo hi mx).ok σ (fun v => Gives P (Instr.sliceAt t x' lo' hi' mx') w (VR σ v)) := by
  unfold vslice
  split
  · rename_i e esz by_ z s_ a_ z_ i off esz' len lim hTt
    obtain ⟨d, hu, _, hk⟩ := kind_of hT hTt
    simp only [KindOk] at hk
    obtain ⟨rfl, hpos, info, zv, hinfo, hsize, _⟩ := hk
    have hsz : (sizeOf e).run P w = .ok esz w := size_of (by rw [hinfo]; simp [hsize]) w
    simp only [VR] at hx
    obtain ⟨ee, cap, o, hi_, hz, hlc, hlim, ho, rfl⟩ := hx
    split
    · rename_i heq
      have heq' : esz = esz' := Nat.eq_of_beq_eq_true heq
      subst heq'
      split
      · rename_i l h hvl hvh
        rw [hm0 rfl]
        have main : (0 ≤ l ∧ l ≤ h ∧ h ≤ cap) → Gives P (Instr.sliceAt t (.slice (some ⟨ee.rid, o, none⟩) len cap) lo' hi' none) w (VR σ (.slice i (off + l.toNat * esz) esz (h - l).toNat (lim.map (· - l.toNat)))) := by
          intro hb
          have hbr := bounds_ok (P := P) (w := w) (isS := true) (cap := cap) hvl hvh hl hl0 hh hh0 hb hlc
          refine ⟨.slice (if cap = l.toNat then some ⟨ee.rid, o, none⟩ else some ((⟨ee.rid, o, none⟩ : Addr).add (l.toNat * esz))) (h.toNat - l.toNat) (cap - l.toNat), ?_, ?_⟩
          · simp [Instr.sliceAt, run_underlying hu, Instr.slice, hbr, hsz]
          · simp only [VR]
            by_cases hcl : cap = l.toNat
            · refine ⟨ee, cap - l.toNat, o, hi_, hz, by omega, ?_, fun hne => by omega, ?_⟩
              · cases lim with
                | none => simp only [Option.map_none] at hlim ⊢; rw [← hcl, Nat.sub_self, Nat.zero_mul, Nat.add_zero]; exact hlim
                | some c => simp only [Option.map_some] at hlim ⊢; obtain ⟨rfl, h2⟩ := hlim; exact ⟨rfl, by rw [← hcl, Nat.sub_self, Nat.zero_mul, Nat.add_zero]; exact h2⟩
              · rw [if_pos hcl]; congr 1; omega
            · refine ⟨ee, cap - l.toNat, o + l.toNat * esz, hi_, hz, by omega, ?_, fun hne => by rw [ho (by omega)]; omega, ?_⟩
              · have hmul : (l.toNat * esz) + (cap - l.toNat) * esz = cap * esz := by rw [← Nat.add_mul]; congr 1; omega
                cases lim with
                | none => simp only [Option.map_none] at hlim ⊢; omega
                | some c => simp only [Option.map_some] at hlim ⊢; obtain ⟨rfl, h2⟩ := hlim; exact ⟨rfl, by omega⟩
              · rw [if_neg hcl, add_at]; congr 1; omega
        cases lim with
        | none =>
          simp only [PRes.ok, decide_eq_true_eq]; intro hb
          exact main (by omega)
        | some c =>
          simp only [PRes.ok, decide_eq_true_eq]; intro hb
          exact main (by simp only at hlim; omega)
      · rename_i l h k m hvl hvh
        obtain ⟨mv, rfl, hmv⟩ := hm _ rfl
        simp only [VR, S.val] at hmv; subst hmv
        simp only [PRes.ok, Bool.and_eq_true, decide_eq_true_eq]; rintro ⟨hb, his⟩
        have hbr := bounds3_ok (P := P) (w := w) (cap := cap) (k := k) hvl hvh his hl hl0 hh hh0 hb hlc
        refine ⟨.slice (if m.toNat = l.toNat then some ⟨ee.rid, o, none⟩ else some ((⟨ee.rid, o, none⟩ : Addr).add (l.toNat * esz))) (h.toNat - l.toNat) (m.toNat - l.toNat), ?_, ?_⟩
        · simp [Instr.sliceAt, run_underlying hu, Instr.slice, hbr, hsz]
        · simp only [VR]
          have htot : off + cap * esz ≤ ee.tot := by
            cases lim with
            | none => simp only at hlim; omega
            | some c => simp only at hlim; obtain ⟨rfl, h2⟩ := hlim; exact h2
          have hle : m.toNat * esz ≤ cap * esz := Nat.mul_le_mul_right _ (by omega)
          have hmul : (l.toNat * esz) + (m - l).toNat * esz = m.toNat * esz := by rw [← Nat.add_mul]; congr 1; omega
          by_cases hcl : m.toNat = l.toNat
          · refine ⟨ee, m.toNat - l.toNat, o, hi_, hz, by omega, ⟨by omega, by omega⟩, fun hne => by omega, ?_⟩
            rw [if_pos hcl]; congr 1; omega
          · refine ⟨ee, m.toNat - l.toNat, o + l.toNat * esz, hi_, hz, by omega, ⟨by omega, by omega⟩, fun hne => by rw [ho (by omega)]; omega, ?_⟩
            rw [if_neg hcl, add_at]; congr 1; omega
      · trivial
    · trivial
  · rename_i e esz by_ z s_ a_ z_ i esz' len hTt
    obtain ⟨d, hu, _, hk⟩ := kind_of hT hTt
    simp only [KindOk] at hk
    obtain ⟨rfl, hpos, info, zv, hinfo, hsize, _⟩ := hk
    have hsz : (sizeOf e).run P w = .ok esz w := size_of (by rw [hinfo]; simp [hsize]) w
    split
    · rename_i heq
      have heq' : esz = esz' := Nat.eq_of_beq_eq_true heq
      subst heq'
      split
      · rename_i l h hvl hvh
        rw [hm0 rfl]
        simp only [PRes.ok]
        rintro v ⟨hb, n, hn, hv⟩
        simp only [VR] at hx
        obtain ⟨hp, ⟨h0, hnm, rfl⟩ | ⟨ee, cap, o, hi_, hlc, hlim, ho, rfl⟩⟩ := hx
        · have hl_ : l = 0 := by clear hv; omega
          have hh_ : h = 0 := by clear hv; omega
          subst hl_ hh_
          have hbr := bounds_ok (P := P) (w := w) (isS := true) (len := 0) (cap := 0) hvl (by rw [h0] at hvh; exact hvh) hl hl0 hh hh0 (by clear hv; omega) (Nat.le_refl _)
          rcases hv with ⟨_, rfl⟩ | ⟨h1, _⟩
          · refine ⟨.slice none 0 0, ?_, ?_⟩
            · simp [Instr.sliceAt, run_underlying hu, Instr.slice, hbr, hsz]
            · simp only [VR]; exact ⟨hp, .inl ⟨by omega, hnm, trivial⟩⟩
          · omega
        · have hbr := bounds_ok (P := P) (w := w) (isS := true) (cap := cap) hvl hvh hl hl0 hh hh0 (by omega) hlc
          refine ⟨.slice (if cap = l.toNat then some ⟨ee.rid, o, none⟩ else some ((⟨ee.rid, o, none⟩ : Addr).add (l.toNat * esz))) (h.toNat - l.toNat) (cap - l.toNat), ?_, ?_⟩
          · simp [Instr.sliceAt, run_underlying hu, Instr.slice, hbr, hsz]
          · rcases hv with ⟨rfl, rfl⟩ | ⟨h1, rfl⟩
            · simp only [VR]
              refine ⟨hp, .inr ⟨ee, cap, o, hi_, by omega, hlim, ho, ?_⟩⟩
              split
              · rw [hn]; simp
              · rw [hn, add_at]; simp only [Int.toNat_zero, Nat.zero_mul, Nat.add_zero, Nat.sub_zero, Int.sub_zero]
            · simp only [VR]
              have hmul : l.toNat * esz + (cap - l.toNat) * esz = cap * esz := by rw [← Nat.add_mul]; congr 1; omega
              by_cases hcl : cap = l.toNat
              · refine ⟨ee, cap - l.toNat, o, hi_, hp, by omega, by omega, fun hne => by omega, ?_⟩
                rw [if_pos hcl, hn]; congr 1; omega
              · refine ⟨ee, cap - l.toNat, o + l.toNat * esz, hi_, hp, by omega, by omega, fun hne => by rw [ho (by omega)], ?_⟩
                rw [if_neg hcl, add_at, hn]; congr 1; omega
      · trivial
    · trivial
  · rename_i e esz by_ z s_ a_ z_ esz' len cs hTt
    obtain ⟨d, hu, _, hk⟩ := kind_of hT hTt
    simp only [KindOk] at hk
    obtain ⟨rfl, hpos, info, zv, hinfo, hsize, _⟩ := hk
    have hsz : (sizeOf e).run P w = .ok esz w := size_of (by rw [hinfo]; simp [hsize]) w
    split
    · rename_i heq
      have heq' : esz = esz' := Nat.eq_of_beq_eq_true heq
      subst heq'
      split
      · rename_i l h hvl hvh
        rw [hm0 rfl]
        simp only [PRes.ok]
        rintro v ⟨hb, cs', n, hcs', hn, rfl⟩
        simp only [VR, DR] at hx
        obtain ⟨hp, hlen, hx⟩ := hx
        have hmul : l.toNat * esz + (h - l).toNat * esz = h.toNat * esz := by clear hx; rw [← Nat.add_mul]; congr 1; omega
        have hmul2 : h.toNat * esz ≤ len * esz := Nat.mul_le_mul_right _ (by clear hx; omega)
        have hcl : cs'.length = n * esz := by clear hx; rw [hcs', hn, List.length_take, List.length_drop, hlen]; omega
        have key : ∀ a c, len ≤ c → x' = .slice (some a) len c → Gives P (Instr.sliceAt t x' lo' hi' none) w fun y => y = .slice (if c = l.toNat then some a else some (a.add (l.toNat * esz))) (h.toNat - l.toNat) (c - l.toNat) := by
          intro a c hc hxe
          subst hxe
          have hbr := bounds_ok (P := P) (w := w) (isS := true) (len := len) (cap := c) hvl hvh hl hl0 hh hh0 (by omega) hc
          exact ⟨_, by simp [Instr.sliceAt, run_underlying hu, Instr.slice, hbr, hsz], rfl⟩
        rcases hx with ⟨h0, rfl | ⟨aa, cc, rfl⟩⟩ | ⟨r, o, cap, cur, T', f, ys, h1, h2, rfl, h4, h5⟩
        · have hl_ : l = 0 := by omega
          have hh_ : h = 0 := by omega
          subst hl_ hh_
          have hbr := bounds_ok (P := P) (w := w) (isS := true) (len := 0) (cap := 0) hvl (by rw [h0] at hvh; exact hvh) hl hl0 hh hh0 (by omega) (Nat.le_refl _)
          refine ⟨.slice none 0 0, ?_, ?_⟩
          · simp [Instr.sliceAt, run_underlying hu, Instr.slice, hbr, hsz]
          · simp only [VR, DR]; exact ⟨hp, hcl, .inl ⟨by omega, .inl trivial⟩⟩
        · obtain ⟨y, hy, rfl⟩ := key aa cc (by omega) (by rw [h0])
          refine ⟨_, hy, ?_⟩
          simp only [VR, DR]
          refine ⟨hp, hcl, .inl ⟨by omega, .inr ?_⟩⟩
          have : h.toNat - l.toNat = 0 := by omega
          rw [this]
          split <;> exact ⟨_, _, rfl⟩
        · obtain ⟨y, hy, rfl⟩ := key _ cap h2 rfl
          refine ⟨_, hy, ?_⟩
          simp only [VR, DR]
          refine ⟨hp, hcl, ?_⟩
          by_cases hcz : cap = l.toNat
          · left
            rw [if_pos hcz]
            have : h.toNat - l.toNat = 0 := by omega
            rw [this]
            exact ⟨by omega, .inr ⟨_, _, rfl⟩⟩
          · right
            rw [if_neg hcz]
            refine ⟨r, o + l.toNat * esz, cap - l.toNat, cur, T', f, (ys.drop (l.toNat * esz)).take ((h - l).toNat * esz), h1, by omega, ?_, ?_, (h5.drop _).take _⟩
            · rw [add_at]; congr 1; omega
            · rw [hcs']; exact DRs_take _ (DRs_drop _ h4)
      · rename_i l h k m hvl hvh
        obtain ⟨mv, rfl, hmv⟩ := hm _ rfl
        simp only [VR, S.val] at hmv; subst hmv
        simp only [PRes.ok]
        rintro v ⟨⟨his, hhm, hml⟩, hb, cs', n, hcs', hn, rfl⟩
        simp only [VR, DR] at hx
        obtain ⟨hp, hlen, hx⟩ := hx
        have hmul : l.toNat * esz + (h - l).toNat * esz = h.toNat * esz := by clear hx; rw [← Nat.add_mul]; congr 1; omega
        have hmul2 : h.toNat * esz ≤ len * esz := Nat.mul_le_mul_right _ (by clear hx; omega)
        have hcl : cs'.length = n * esz := by clear hx; rw [hcs', hn, List.length_take, List.length_drop, hlen]; omega
        have key : ∀ a c, len ≤ c → x' = .slice (some a) len c → Gives P (Instr.sliceAt t x' lo' hi' (some (.int k m))) w fun y => y = .slice (if m.toNat = l.toNat then some a else some (a.add (l.toNat * esz))) (h.toNat - l.toNat) (m.toNat - l.toNat) := by
          intro a c hc hxe
          subst hxe
          have hbr := bounds3_ok (P := P) (w := w) (len := len) (cap := c) (k := k) (l := l) (h := h) (m := m) hvl hvh his hl hl0 hh hh0 (by omega) hc
          exact ⟨_, by simp [Instr.sliceAt, run_underlying hu, Instr.slice, hbr, hsz], rfl⟩
        rcases hx with ⟨h0, rfl | ⟨aa, cc, rfl⟩⟩ | ⟨r, o, cap, cur, T', f, ys, h1, h2, rfl, h4, h5⟩
        · have hl_ : l = 0 := by omega
          have hh_ : h = 0 := by omega
          have hm_ : m = 0 := by omega
          subst hl_ hh_ hm_
          have hbr := bounds3_ok (P := P) (w := w) (len := 0) (cap := 0) (k := k) (l := 0) (h := 0) (m := 0) hvl (by rw [h0] at hvh; exact hvh) his hl hl0 hh hh0 (show (0 : Int) ≤ 0 ∧ (0 : Int) ≤ 0 ∧ (0 : Int) ≤ 0 ∧ (0 : Int) ≤ ((0 : Nat) : Int) by omega) (Nat.le_refl _)
          refine ⟨.slice none 0 0, ?_, ?_⟩
          · simp [Instr.sliceAt, run_underlying hu, Instr.slice, hbr, hsz]
          · simp only [VR, DR]; exact ⟨hp, hcl, .inl ⟨by omega, .inl trivial⟩⟩
        · obtain ⟨y, hy, rfl⟩ := key aa cc (by omega) (by rw [h0])
          refine ⟨_, hy, ?_⟩
          simp only [VR, DR]
          refine ⟨hp, hcl, .inl ⟨by omega, .inr ?_⟩⟩
          have : h.toNat - l.toNat = 0 := by omega
          rw [this]
          split <;> exact ⟨_, _, rfl⟩
        · obtain ⟨y, hy, rfl⟩ := key _ cap h2 rfl
          refine ⟨_, hy, ?_⟩
          simp only [VR, DR]
          refine ⟨hp, hcl, ?_⟩
          by_cases hcz : m.toNat = l.toNat
          · left
            rw [if_pos hcz]
            have : h.toNat - l.toNat = 0 := by omega
            rw [this]
            exact ⟨by omega, .inr ⟨_, _, rfl⟩⟩
          · right
            rw [if_neg hcz]
            refine ⟨r, o + l.toNat * esz, m.toNat - l.toNat, cur, T', f, (ys.drop (l.toNat * esz)).take ((h - l).toNat * esz), h1, by omega, ?_, ?_, (h5.drop _).take _⟩
            · rw [add_at]; congr 1; omega
            · rw [hcs']; exact DRs_take _ (DRs_drop _ h4)
      · trivial
    · trivial
  · rename_i e esz by_ z s_ a_ z_ hTt
    obtain ⟨d, hu, _, hk⟩ := kind_of hT hTt
    simp only [KindOk] at hk
    obtain ⟨rfl, hpos, info, zv, hinfo, hsize, _⟩ := hk
    have hsz : (sizeOf e).run P w = .ok esz w := size_of (by rw [hinfo]; simp [hsize]) w
    simp only [VR] at hx
    subst hx
    split
    · rename_i l h hvl hvh
      rw [hm0 rfl]
      simp only [PRes.ok, decide_eq_true_eq]; rintro ⟨rfl, rfl⟩
      have hbr := bounds_ok (P := P) (w := w) (isS := true) (len := 0) (cap := 0) hvl hvh hl hl0 hh hh0 (by omega) (Nat.le_refl _)
      refine ⟨.slice none 0 0, ?_, rfl⟩
      simp [Instr.sliceAt, run_underlying hu, Instr.slice, hbr, hsz]
    · trivial
  · rename_i n esz ea s_ a_ z_ cs hTt
    split
    · rename_i k h
      obtain ⟨d, hu, _, hk⟩ := kind_of hT hTt
      simp only [KindOk] at hk
      obtain ⟨e, rfl, hs, _⟩ := hk
      have hsz := size_of hs w
      simp only [PRes.ok, decide_eq_true_eq]
      rintro ⟨hp, h0, hle, hcl⟩
      obtain ⟨hv, rfl, hhv⟩ := hh _ rfl
      simp only [VR, S.val] at hhv; subst hhv
      rw [hl0 rfl, hm0 rfl]
      simp only [VR, DR] at hx
      obtain ⟨r, o, cur, TT, f, ys, h1, rfl, h3, h4⟩ := hx
      have hn0 : n ≠ 0 := by omega
      have hbr : (Instr.sliceBounds false n n none (some (.int k h)) none).run P w = .ok (0, h.toNat, n) w := by
        have := bounds_ok (P := P) (w := w) (σ := σ) (isS := false) (len := n) (cap := n) (lo := none) (hi := some (.s (.int k h))) (lo' := none) (hi' := some (.int k h)) (l := 0) (h := h) rfl rfl (fun v hv => by cases hv) (fun _ => rfl) (fun v hv => by cases hv; exact ⟨_, rfl, by simp only [VR, S.val]⟩) (fun hv => by cases hv) ⟨by omega, by omega, hle⟩ (Nat.le_refl _)
        simpa using this
      refine ⟨.slice (some ⟨r, o, none⟩) h.toNat n, ?_, ?_⟩
      · simp [Instr.sliceAt, run_underlying hu, Instr.sureAddr, hbr, hsz, hn0]
        simp [Addr.add]
      · have hle2 : h.toNat * esz ≤ n * esz := Nat.mul_le_mul_right _ (by omega)
        simp only [VR, DR]
        refine ⟨hp, by rw [List.length_take]; omega, .inr ⟨r, o, n, cur, TT, f, ys.take (h.toNat * esz), h1, by omega, rfl, DRs_take _ h3, h4.take _⟩⟩
    · trivial
  · trivial
theorem vbuiltin_ok {b : Builtin} {ts : Array TypeId} {ty : TypeId} {cs : Array Bool} {args : List V} {xs : Array Value} (hx : VRs σ args xs.toList) :
    (vbuiltin T b ts args).ok σ (fun v => GivesN P (builtin b ts ty cs xs) w (VR σ v)) := by
  unfold vbuiltin
  split
  · rename_i x
    simp only [VRs] at hx
    obtain ⟨y, ys, hxs, h1, h2⟩ := hx
    have h0 : xs[0]? = some y := by rw [← Array.getElem?_toList, hxs]; rfl
    split
    · rename_i t ht
      split
      · rename_i hTt
        obtain ⟨d, hu, _, hk⟩ := kind_of hT hTt
        simp only [KindOk] at hk
        obtain ⟨rfl, _⟩ := hk
        simp only [VR] at h1
        obtain ⟨ee, cap, o, _, _, _, _, _, rfl⟩ := h1
        exact ⟨_, by simp [builtin, Builtin.len_, ht, h0, run_underlying hu, goInt]; rfl, rfl⟩
      · rename_i hTt
        obtain ⟨d, hu, _, hk⟩ := kind_of hT hTt
        simp only [KindOk] at hk
        obtain ⟨rfl, _⟩ := hk
        simp only [VR] at h1
        rcases h1 with ⟨_, ⟨rfl, _, rfl⟩ | ⟨ee, cap, o, _, _, _, _, rfl⟩⟩
        · exact ⟨_, by simp [builtin, Builtin.len_, ht, h0, run_underlying hu, goInt]; rfl, rfl⟩
        · exact ⟨_, by simp [builtin, Builtin.len_, ht, h0, run_underlying hu, goInt]; rfl, rfl⟩
      · rename_i hTt
        obtain ⟨d, hu, _, hk⟩ := kind_of hT hTt
        simp only [KindOk] at hk
        obtain ⟨rfl, _⟩ := hk
        simp only [VR, DR] at h1
        rcases h1 with ⟨_, _, ⟨rfl, rfl | ⟨aa, cc, rfl⟩⟩ | ⟨_, _, _, _, _, _, _, _, _, rfl, _, _⟩⟩
        · exact ⟨_, by simp [builtin, Builtin.len_, ht, h0, run_underlying hu, goInt]; rfl, rfl⟩
        · exact ⟨_, by simp [builtin, Builtin.len_, ht, h0, run_underlying hu, goInt]; rfl, rfl⟩
        · exact ⟨_, by simp [builtin, Builtin.len_, ht, h0, run_underlying hu, goInt]; rfl, rfl⟩
      · rename_i hTt
        obtain ⟨d, hu, _, hk⟩ := kind_of hT hTt
        simp only [KindOk] at hk
        obtain ⟨rfl, _⟩ := hk
        simp only [VR] at h1
        subst h1
        exact ⟨_, by simp [builtin, Builtin.len_, ht, h0, run_underlying hu, goInt]; rfl, rfl⟩
      · rename_i hTt
        obtain ⟨d, hu, _, hk⟩ := kind_of hT hTt
        simp only [KindOk] at hk
        obtain ⟨e, rfl, _⟩ := hk
        exact ⟨_, by simp [builtin, Builtin.len_, ht, h0, run_underlying hu, goInt]; rfl, rfl⟩
      · rename_i hTt
        obtain ⟨d, hu, _, hk⟩ := kind_of hT hTt
        simp only [KindOk] at hk
        subst hk
        simp only [VR] at h1
        subst h1
        exact ⟨_, by simp [builtin, Builtin.len_, ht, h0, run_underlying hu, goInt]; rfl, rfl⟩
      · trivial
    · trivial
  · rename_i k a r
    simp only [VRs] at hx
    obtain ⟨y, ys, hxs, h1, h2⟩ := hx
    split
    · rename_i n hn
      simp only [VR, S.val] at h1
      subst h1
      exact ⟨_, by simp [builtin, Builtin.min_, hxs, min_ok r ys k a n h2 hn]; rfl, rfl⟩
    · trivial
  · rename_i k a r
    simp only [VRs] at hx
    obtain ⟨y, ys, hxs, h1, h2⟩ := hx
    split
    · rename_i n hn
      simp only [VR, S.val] at h1
      subst h1
      exact ⟨_, by simp [builtin, Builtin.max_, hxs, max_ok r ys k a n h2 hn]; rfl, rfl⟩
    · trivial
  · trivial
theorem vpure_ok {o : Oper} {ρv : Operand → V} {ρ : Operand → Value} (hρ : ∀ x, VR σ (ρv x) (ρ x)) :
    (vpure T o ρv).ok σ (fun v => GivesN P (execOp ρ o) w (VR σ v)) := by
  unfold vpure execOp
  split
  · rename_i x ho
    rw [ho]; exact ⟨_, rfl, hρ x⟩
  · rename_i x ho
    rw [ho]; exact ⟨_, rfl, hρ x⟩
  · rename_i c a b ho
    rw [ho]
    split
    · rename_i c' hc
      have := hρ c
      rw [hc] at this
      simp only [VR, S.val] at this
      refine ⟨if c' then ρ a else ρ b, by simp [this, asBool], ?_⟩
      cases c' <;> simp <;> exact hρ _
    · trivial
  · rename_i op t x y t2 ho
    rw [ho]
    exact PRes.ok_mono (vbin_ok hT (hρ x) (hρ y)) fun v hv => GivesN.of hv
  · rename_i op t x ho
    rw [ho]
    split
    · rename_i b hb
      have := hρ x
      rw [hb] at this
      simp only [VR, S.val] at this
      exact ⟨_, by simp [this, Op.unary]; rfl, rfl⟩
    · rename_i k n hb
      have := hρ x
      rw [hb] at this
      simp only [VR, S.val] at this
      exact ⟨_, by simp [this, Op.unary, Op.intArith]; rfl, by simp [VR, S.val]⟩
    · trivial
  · rename_i src dst x ho
    rw [ho]
    split
    · rename_i s k _ _ _ _ n h1 h2 h3
      obtain ⟨d1, hu1, _, _⟩ := kind_of hT h1
      obtain ⟨d2, hu2, _, hk⟩ := kind_of hT h2
      simp only [KindOk] at hk
      subst hk
      have := hρ x
      rw [h3] at this
      simp only [VR, S.val] at this
      exact ⟨_, by simp [this, convert, run_underlying hu1, run_underlying hu2, Conv.intToInt]; rfl, rfl⟩
    · trivial
  · rename_i t x f ho
    rw [ho]
    split
    · rename_i hTt hx
      split
      · rename_i g hg
        split
        · rename_i v hv
          obtain ⟨d, hu, _, hk⟩ := kind_of hT hTt
          simp only [KindOk] at hk
          obtain ⟨gs, rfl, hf⟩ := hk
          exact GivesN.of (field_ok hu hf hg (hx ▸ hρ x) hv)
        · trivial
      · trivial
    · trivial
  · rename_i t x ix ho
    rw [ho]
    split
    · rename_i hTt hx hi
      split
      · rename_i v hv
        obtain ⟨d, hu, _, hk⟩ := kind_of hT hTt
        simp only [KindOk] at hk
        obtain ⟨e, rfl, hs, ha⟩ := hk
        have hi' := hρ ix
        rw [hi] at hi'
        simp only [VR, S.val] at hi'
        simp only [PRes.ok, decide_eq_true_eq]; intro hb
        rw [hi']
        exact GivesN.of (index_ok hu hs ha (hx ▸ hρ x) hv hb)
      · trivial
    · rename_i hTt hx hi
      obtain ⟨d, hu, _, hk⟩ := kind_of hT hTt
      simp only [KindOk] at hk
      subst hk
      have hi' := hρ ix
      rw [hi] at hi'
      simp only [VR, S.val] at hi'
      have hx' := hρ x
      rw [hx] at hx'
      simp only [VR] at hx'
      simp only [PRes.ok, decide_eq_true_eq]; intro hb
      rw [hi', hx']
      exact GivesN.of (index_str hu hb)
    · trivial
  · rename_i t i ho
    rw [ho]
    split
    · rename_i vs ht
      split
      · rename_i v hv
        have := hρ t
        rw [ht] at this
        simp only [VR] at this
        obtain ⟨a, ha, hr⟩ := this
        obtain ⟨x, hx, hvr⟩ := VRs.get hr hv
        have hx' : a[i]? = some x := by simpa using hx
        exact ⟨x, by simp [ha, Instr.extract, hx'], hvr⟩
      · trivial
    · trivial
  · rename_i fn first captured ho
    rw [ho]
    refine ⟨_, by simp [Instr.makeFunc]; rfl, ?_⟩
    simp only [VR]
    exact ⟨_, _, rfl, by simpa using VRs_map2 hρ first.toList, by simpa using VRs_map2 hρ captured.toList⟩
  · rename_i s x f ho
    rw [ho]
    split
    · rename_i hTt hx
      split
      · rename_i g hg
        obtain ⟨d, hu, _, hk⟩ := kind_of hT hTt
        simp only [KindOk] at hk
        obtain ⟨gs, rfl, hf⟩ := hk
        rw [natLit_eq]
        exact GivesN.of (field_addr_ok hu hf hg (hx ▸ hρ x))
      · trivial
    · rename_i hTt hx
      split
      · rename_i g hg
        obtain ⟨d, hu, _, hk⟩ := kind_of hT hTt
        simp only [KindOk] at hk
        obtain ⟨gs, rfl, hf⟩ := hk
        rw [natLit_eq]
        exact GivesN.of (field_addr_fp_ok hu hf hg (hx ▸ hρ x))
      · trivial
    · trivial
  · rename_i t x ix ho
    rw [ho]
    split
    · rename_i hTt hx hi
      obtain ⟨d, hu, _, hk⟩ := kind_of hT hTt
      simp only [KindOk] at hk
      obtain ⟨rfl, hpos, info, zv, hinfo, hsize, _⟩ := hk
      have hi' := hρ ix
      rw [hi] at hi'
      simp only [VR, S.val] at hi'
      simp only [PRes.ok, decide_eq_true_eq]; intro hb
      rw [hi']
      exact GivesN.of (index_slice_ok hu (by rw [hinfo]; simp [hsize]) (hx ▸ hρ x) hb)
    · rename_i hTt hx hi
      split
      · rename_i heq
        have heq' := Nat.eq_of_beq_eq_true heq
        obtain ⟨d, hu, _, hk⟩ := kind_of hT hTt
        simp only [KindOk] at hk
        obtain ⟨rfl, hpos, info, zv, hinfo, hsize, _⟩ := hk
        have hi' := hρ ix
        rw [hi] at hi'
        simp only [VR, S.val] at hi'
        simp only [PRes.ok, decide_eq_true_eq]; intro hb
        rw [hi']
        have hxx := hρ x
        rw [hx] at hxx
        simp only [VR] at hxx
        obtain ⟨hp, ⟨h0, _⟩ | ⟨ee, cap, o, q1, q2, q3, q4, q5⟩⟩ := hxx
        · omega
        · have key := fun k => index_slice_ok (k := k) (P := P) (w := w) (off := 0) (lim := none) (σ := σ) (x := ρ x) hu (by rw [hinfo]; exact congrArg some hsize) (by simp only [VR]; exact ⟨ee, cap, o, q1, hp, q2, by omega, fun h => by rw [q4 h]; rfl, q5⟩) hb
          simp only [Nat.zero_add] at key
          exact GivesN.of (key _)
      · trivial
    · rename_i hTt hx hi
      obtain ⟨d, hu, _, hk⟩ := kind_of hT hTt
      simp only [KindOk] at hk
      obtain ⟨e, rfl, hs, ha⟩ := hk
      have hi' := hρ ix
      rw [hi] at hi'
      simp only [VR, S.val] at hi'
      simp only [PRes.ok, decide_eq_true_eq]; intro hb
      rw [hi']
      exact GivesN.of (index_array_ok hu hs (hx ▸ hρ x) hb)
    · rename_i hTt hx hi
      split
      · rename_i heq
        have heq' := Nat.eq_of_beq_eq_true heq
        obtain ⟨d, hu, _, hk⟩ := kind_of hT hTt
        simp only [KindOk] at hk
        obtain ⟨rfl, hpos, info, zv, hinfo, hsize, _⟩ := hk
        have hi' := hρ ix
        rw [hi] at hi'
        simp only [VR, S.val] at hi'
        simp only [PRes.ok]; intro v hv
        rw [hi']
        exact GivesN.of (index_fs_ok hu (by rw [hinfo]; simp [hsize]) (hx ▸ hρ x) hv)
      · trivial
    · rename_i hTt hx hi
      obtain ⟨d, hu, _, hk⟩ := kind_of hT hTt
      simp only [KindOk] at hk
      obtain ⟨e, rfl, hs, _⟩ := hk
      have hi' := hρ ix
      rw [hi] at hi'
      simp only [VR, S.val] at hi'
      simp only [PRes.ok]; intro v hv
      rw [hi']
      exact GivesN.of (index_fp_ok hu hs (hx ▸ hρ x) hv)
    · trivial
  · rename_i t x lo hi mx ho
    rw [ho]
    refine PRes.ok_mono (vslice_ok hT (hρ x) (lo' := lo.map ρ) (hi' := hi.map ρ) (mx' := mx.map ρ) ?_ ?_ ?_ ?_ ?_ ?_) fun v hv => GivesN.of hv
    · intro v hv; cases lo <;> simp at hv; subst hv; exact ⟨_, rfl, hρ _⟩
    · intro h; cases lo <;> simp at h ⊢
    · intro v hv; cases hi <;> simp at hv; subst hv; exact ⟨_, rfl, hρ _⟩
    · intro h; cases hi <;> simp at h ⊢
    · intro v hv; cases mx <;> simp at hv; subst hv; exact ⟨_, rfl, hρ _⟩
    · intro h; cases mx <;> simp at h ⊢
  · rename_i x ho
    rw [ho]
    split
    · rename_i i off hx
      have := hρ x
      rw [hx] at this
      have h0 := this
      simp only [VR] at this
      obtain ⟨e, hi, he⟩ := this
      rw [he] at h0
      exact ⟨_, by simp only [he]; rfl, h0⟩
    · rename_i cs hx
      have := hρ x
      rw [hx] at this
      have h0 := this
      simp only [VR, DR] at this
      obtain ⟨_, _, _, _, _, _, _, he, _⟩ := this
      rw [he] at h0
      exact ⟨_, by simp only [he]; rfl, h0⟩
    · rename_i f a b hx
      have := hρ x
      rw [hx] at this
      have h0 := this
      simp only [VR] at this
      obtain ⟨a', b', he, _⟩ := this
      rw [he] at h0
      exact ⟨_, by simp only [he]; rfl, h0⟩
    · trivial
  · rename_i t parts ho
    rw [ho]
    have hp : PartsRel σ (parts.toList.map fun p => (p.1, ρv p.2)) (parts.map fun (i, x) => (i, ρ x)).toList := by
      have := PartsRel_map hρ parts.toList
      simpa using this
    split
    · rename_i fs _ _ zs hTt
      split
      · rename_i cs hcs
        obtain ⟨d, info, zv, hu, hinfo, hsize, ha, hz, hzv, hk⟩ := hT.ok _ _ hTt
        simp only [KindOk] at hk
        obtain ⟨gs, rfl, hf⟩ := hk
        have hzr := hzv σ
        simp only [VR] at hzr
        obtain ⟨za, rfl, hzr⟩ := hzr
        have hm := mapM_places (w := w) hf
        have hm' : (gs.mapM (m := Sem) fun f => do pure (f.offset, ← sizeOf f.type)).run P w = .ok (fs.map fun f => (f.off, f.size)).toArray w := by
          rw [← Array.toList_mapM] at hm
          revert hm
          generalize (gs.mapM (m := Sem) fun f => do pure (f.offset, ← sizeOf f.type)) = s
          intro hm
          rw [Sem.run_map] at hm
          cases hs : s.run P w with
          | ok a w' => rw [hs] at hm; simp at hm; obtain ⟨h1, rfl⟩ := hm; rw [← h1]
          | halt e w' => rw [hs] at hm; simp at hm
        obtain ⟨b, hb, hr⟩ := vfill_ok (σ := σ) (place' := ((fs.map fun f => (f.off, f.size)).toArray[·]?)) (fun i p h => by simpa [placeOf] using h) _ _ zs cs za hp hzr hcs
        refine GivesN.of ⟨.agg b, ?_, by simp only [VR]; exact ⟨b, rfl, hr⟩⟩
        simp only [Instr.build, zeroValue, typeInfo, Sem.run_bind, run_program, Result.andThen_ok, hinfo, hz, Sem.run_pure, run_underlying hu, hm']
        rw [show (Value.agg za).cells = za from rfl, hb]
        rfl
      · trivial
    · rename_i n esz _ _ _ zs hTt
      split
      · rename_i cs hcs
        obtain ⟨d, info, zv, hu, hinfo, hsize, ha, hz, hzv, hk⟩ := hT.ok _ _ hTt
        simp only [KindOk] at hk
        obtain ⟨e, rfl, hs, ha'⟩ := hk
        have hzr := hzv σ
        simp only [VR] at hzr
        obtain ⟨za, rfl, hzr⟩ := hzr
        have hsz := size_of hs w
        obtain ⟨b, hb, hr⟩ := vfill_ok (σ := σ) (place' := fun i => some (i * esz, esz)) (fun i p h => h) _ _ zs cs za hp hzr hcs
        refine GivesN.of ⟨.agg b, ?_, by simp only [VR]; exact ⟨b, rfl, hr⟩⟩
        simp only [Instr.build, zeroValue, typeInfo, Sem.run_bind, run_program, Result.andThen_ok, hinfo, hz, Sem.run_pure, run_underlying hu, hsz]
        rw [show (Value.agg za).cells = za from rfl, hb]
        rfl
      · trivial
    · trivial
  · rename_i c ho
    rw [ho]
    split
    · rename_i b hb
      refine PRes.ok_mono (vbuiltin_ok hT (w := w) (ts := c.argTypes) (ty := o.type) (cs := c.args.map fun | .const _ => true | _ => false) (xs := c.args.map ρ) (by simpa using VRs_map2 hρ c.args.toList)) ?_
      rintro v ⟨x, hx, hv⟩
      refine ⟨x, ?_, hv⟩
      simp only [resolve, hb, pure_bind, invoke]
      exact hx
    · trivial
  · trivial
end
end Go.Vm

namespace Go.Vm
mutual
def V.dat : V → Option D
  | .s x => some (.s x)
  | .lit u => some (.lit u)
  | .nilptr => some .nilptr
  | .nilslice => some .nilslice
  | .nilmap => some .nilmap
  | .nilfunc => some .nilfunc
  | .fs a b c => some (.sl a b c)
  | .fp c => some (.pt c)
  | .fm a b => some (.mp a b)
  | .agg cs => match V.dats cs with
    | some l => some (.agg l)
    | none => none
  | .func fn f c => match V.dats f with
    | some f' => match V.dats c with
      | some c' => some (.func fn f' c')
      | none => none
    | none => none
  | _ => none
def V.dats : List V → Option (List D)
  | [] => some []
  | v :: l => match V.dat v with
    | some d => match V.dats l with
      | some r => some (d :: r)
      | none => none
    | none => none
end
mutual
theorem V.dat_v : ∀ (v : V) (d : D), v.dat = some d → d.v = v
  | .s x, d, h => by simp only [V.dat, Option.some.injEq] at h; subst h; rfl
  | .lit u, d, h => by simp only [V.dat, Option.some.injEq] at h; subst h; rfl
  | .nilptr, d, h => by simp only [V.dat, Option.some.injEq] at h; subst h; rfl
  | .nilslice, d, h => by simp only [V.dat, Option.some.injEq] at h; subst h; rfl
  | .nilmap, d, h => by simp only [V.dat, Option.some.injEq] at h; subst h; rfl
  | .nilfunc, d, h => by simp only [V.dat, Option.some.injEq] at h; subst h; rfl
  | .fs a b c, d, h => by simp only [V.dat, Option.some.injEq] at h; subst h; rfl
  | .fp c, d, h => by simp only [V.dat, Option.some.injEq] at h; subst h; rfl
  | .fm a b, d, h => by simp only [V.dat, Option.some.injEq] at h; subst h; rfl
  | .agg cs, d, h => by
    simp only [V.dat] at h
    split at h
    · rename_i l hl
      simp only [Option.some.injEq] at h; subst h
      simp only [D.v, V.dats_v cs l hl]
    · cases h
  | .func fn f c, d, h => by
    simp only [V.dat] at h
    split at h
    · rename_i l hl
      split at h
      · rename_i l2 hl2
        simp only [Option.some.injEq] at h; subst h
        simp only [D.v, V.dats_v f l hl, V.dats_v c l2 hl2]
      · cases h
    · cases h
  | .undef, _, h => by simp [V.dat] at h
  | .ptr _ _, _, h => by simp [V.dat] at h
  | .slice _ _ _ _ _, _, h => by simp [V.dat] at h
  | .gl _ _ _, _, h => by simp [V.dat] at h
  | .map _, _, h => by simp [V.dat] at h
  | .yld _, _, h => by simp [V.dat] at h
  | .tuple _, _, h => by simp [V.dat] at h
theorem V.dats_v : ∀ (v : List V) (d : List D), V.dats v = some d → D.vs d = v
  | [], d, h => by simp only [V.dats, Option.some.injEq] at h; subst h; rfl
  | v :: l, d, h => by
    simp only [V.dats] at h
    split at h
    · rename_i x hx
      split at h
      · rename_i r hr
        simp only [Option.some.injEq] at h; subst h
        simp only [D.vs, V.dat_v v x hx, V.dats_v l r hr]
      · cases h
    · cases h
end

def Hp.at (h : Hp) (i : Id) (off : Nat) : Option V :=
  match h.get i with
  | some (.flat _ l) => (l[off]?).map D.v
  | some (.cells _ l) => l[off]?
  | _ => none
def Hp.rdN (h : Hp) (i : Id) : Nat → Nat → Option (List V)
  | _, 0 => some []
  | off, n + 1 => match h.at i off with
    | some v => match h.rdN i (off + 1) n with
      | some l => some (v :: l)
      | none => none
    | none => none
def Blk.wr1 (b : Blk) (off : Nat) (c : V) : Option Blk :=
  match b with
  | .flat true l => if off < l.length then (match c with
      | .s x => some (.flat true (l.set off (.s x)))
      | c => if c.cell1 then (match c.dat with
        | some d => some (.flat true (l.set off d))
        | none => some (.cells true ((l.map D.v).set off c))) else none) else none
  | .cells true l => if off < l.length then (if c.cell1 then some (.cells true (l.set off c)) else none) else none
  | _ => none
def Hp.wr1 (h : Hp) (i : Id) (off : Nat) (c : V) : Option Hp :=
  match h.get i with
  | some b => match b.wr1 off c with
    | some b' => some (h.set i b')
    | none => none
  | none => none
def Hp.wrN (h : Hp) (i : Id) : Nat → List V → Option Hp
  | _, [] => some h
  | off, c :: cs => match h.wr1 i off c with
    | some h' => h'.wrN i (off + 1) cs
    | none => none
def mkBlk (cs : List V) : Blk :=
  match V.dats cs with
  | some l => .flat true l
  | none => .cells true cs
def Blk.row : Blk → Option (Bool × List V)
  | .flat rw l => some (rw, l.map D.v)
  | .cells rw l => some (rw, l)
  | _ => none
theorem mkBlk_row (cs : List V) : (mkBlk cs).row = some (true, cs) := by
  unfold mkBlk
  split
  · rename_i l hl; simp [Blk.row, ← V.dats_v _ _ hl, D.vs_eq]
  · rfl
theorem mkBlk_rw (cs : List V) : (mkBlk cs).rw = true := by unfold mkBlk; split <;> rfl
theorem Blk.row_alive {b : Blk} {p : Bool × List V} (h : b.row = some p) : b.alive = true := by cases b <;> simp_all [Blk.row, Blk.alive]
theorem Blk.row_rw {b : Blk} {rw : Bool} {l : List V} (h : b.row = some (rw, l)) : b.rw = rw := by cases b <;> simp_all [Blk.row, Blk.rw]
theorem BlkRel_row {σ : Sig} {e : Ent} {b : Blk} {o : Obj} {rw : Bool} {l : List V} (h : b.row = some (rw, l)) : BlkRel σ e b o ↔ RowRel σ e rw l.length (fun i => l[i]?) o := by
  cases b with
  | flat r q =>
    simp only [Blk.row, Option.some.injEq, Prod.mk.injEq] at h
    obtain ⟨rfl, rfl⟩ := h
    simp only [BlkRel, List.length_map]
    have : (fun (i : Nat) => ((q.map D.v)[i]?)) = (fun (i : Nat) => (q[i]?).map D.v) := by funext i; simp
    rw [this]
  | cells r q =>
    simp only [Blk.row, Option.some.injEq, Prod.mk.injEq] at h
    obtain ⟨rfl, rfl⟩ := h
    rfl
  | _ => simp [Blk.row] at h
theorem Hp.at_row {h : Hp} {i : Id} {off : Nat} {v : V} (hv : h.at i off = some v) : ∃ b rw l, h.get i = some b ∧ b.row = some (rw, l) ∧ l[off]? = some v := by
  unfold Hp.at at hv
  split at hv
  · rename_i rw l hb; exact ⟨_, rw, l.map D.v, hb, rfl, by simpa using hv⟩
  · rename_i rw l hb; exact ⟨_, rw, l, hb, rfl, hv⟩
  · cases hv
theorem Blk.wr1_row {b b' : Blk} {off : Nat} {c : V} (h : b.wr1 off c = some b') : ∃ l, b.row = some (true, l) ∧ off < l.length ∧ c.cell1 = true ∧ b'.row = some (true, l.set off c) := by
  unfold Blk.wr1 at h
  split at h
  · rename_i l
    split at h
    · rename_i hlt
      split at h
      · rename_i x
        simp at h; subst h
        exact ⟨l.map D.v, rfl, by simpa using hlt, rfl, by simp [Blk.row, List.map_set, D.v]⟩
      · split at h
        · rename_i hc
          split at h
          · rename_i d hd
            simp at h; subst h
            exact ⟨l.map D.v, rfl, by simpa using hlt, hc, by simp [Blk.row, List.map_set, V.dat_v _ _ hd]⟩
          · simp at h; subst h
            exact ⟨l.map D.v, rfl, by simpa using hlt, hc, rfl⟩
        · cases h
    · cases h
  · rename_i l
    split at h
    · rename_i hlt
      split at h
      · rename_i hc
        simp at h; subst h
        exact ⟨l, rfl, hlt, hc, rfl⟩
      · cases h
    · cases h
  · cases h
section
variable {σ : Sig} {h : Hp} {w : World}

theorem Rel.cell (hr : Rel σ h w) {i : Id} {e : Ent} {off : Nat} {v : V} (hi : σ i = some e) (hv : h.at i off = some v) :
    ∃ x, w.cell? ⟨e.rid, e.base + off, none⟩ = some x ∧ VR σ v x ∧ x.oneCell' = true := by
  obtain ⟨b, rw, l, hb, hrow, hl⟩ := Hp.at_row hv
  obtain ⟨_, o, ho, hrel⟩ := hr.blk i e b hi hb
  rw [BlkRel_row hrow] at hrel
  obtain ⟨cur, T, fz, rfl, _, _, _, hc⟩ := hrel
  obtain ⟨x, hx, hvr, h1⟩ := hc off v hl
  exact ⟨x, by simp [World.cell?, ho, hx], hvr, h1⟩
theorem Rel.cellsN (hr : Rel σ h w) {i : Id} {e : Ent} (hi : σ i = some e) : ∀ (n off : Nat) (l : List V), h.rdN i off n = some l →
    ∃ xs, xs.length = n ∧ VRs σ l xs ∧ (∀ x ∈ xs, x.oneCell' = true) ∧ ∀ j x, xs[j]? = some x → w.cell? ⟨e.rid, e.base + (off + j), none⟩ = some x
  | 0, off, l, hl => by simp [Hp.rdN] at hl; subst hl; exact ⟨[], rfl, by simp [VRs], by simp, by simp⟩
  | n + 1, off, l, hl => by
    simp only [Hp.rdN] at hl
    split at hl
    · rename_i v hv
      split at hl
      · rename_i r hr2
        simp at hl; subst hl
        obtain ⟨x, hx, hvr, h1⟩ := hr.cell hi hv
        obtain ⟨xs, hn, hvs, h1s, hxs⟩ := Rel.cellsN hr hi n (off + 1) r hr2
        refine ⟨x :: xs, by simp [hn], by simp only [VRs]; exact ⟨x, xs, rfl, hvr, hvs⟩, by simp [h1]; exact h1s, ?_⟩
        intro j y hy
        cases j with
        | zero => simp at hy; subst hy; simpa using hx
        | succ j =>
          have := hxs j y (by simpa using hy)
          rwa [show off + 1 + j = off + (j + 1) by omega] at this
      · cases hl
    · cases hl
theorem Rel.upd (hr : Rel σ h w) {i : Id} {e : Ent} {b b' : Blk} {o' : Obj} {w' : World} (hi : σ i = some e) (hb : h.get i = some b) (hrw : b.rw = true) (hal : b'.alive = true → b.alive = true)
    (hsz : w'.heap.size = w.heap.size) (hsame : ∀ r, r ≠ e.rid → w'.heap[r]? = w.heap[r]?) (hnew : w'.heap[e.rid]? = some o') (hrel : BlkRel σ e b' o') : Rel σ (h.set i b') w' where
  blk := fun j ej bj hj hbj => by
    rw [Hp.get_set _ _ _ _ (by rw [hb]; simp)] at hbj
    by_cases e1 : j = i
    · subst e1
      rw [if_pos rfl] at hbj
      rw [hi] at hj; cases hj; cases hbj
      exact ⟨by rw [hsz]; exact (hr.blk j e b hi hb).1, o', hnew, hrel⟩
    · rw [if_neg e1] at hbj
      obtain ⟨hlt, o, ho, hrel2⟩ := hr.blk j ej bj hj hbj
      refine ⟨by rw [hsz]; exact hlt, ?_⟩
      by_cases e2 : ej.rid = e.rid
      · by_cases hbal : bj.alive = true
        · exact absurd e2.symm (hr.apart i j e ej b bj (Ne.symm e1) hi hj hb hbj hrw hbal)
        · refine ⟨o', by rw [e2]; exact hnew, ?_⟩
          cases bj <;> simp [Blk.alive] at hbal
          trivial
      · exact ⟨o, by rw [hsame _ e2]; exact ho, hrel2⟩
  apart := fun j k ej ek bj bk hne hj hk hbj hbk hw1 hal1 => by
    rw [Hp.get_set _ _ _ _ (by rw [hb]; simp)] at hbj hbk
    by_cases e1 : j = i
    · subst e1
      rw [hi] at hj; cases hj
      rw [if_neg (Ne.symm hne)] at hbk
      exact hr.apart _ k e ek b bk hne hi hk hb hbk hrw hal1
    · rw [if_neg e1] at hbj
      by_cases e2 : k = i
      · subst e2
        rw [if_pos rfl] at hbk; cases hbk
        exact hr.apart j _ ej ek bj b hne hj hk hbj hb hw1 (hal hal1)
      · rw [if_neg e2] at hbk
        exact hr.apart j k ej ek bj bk hne hj hk hbj hbk hw1 hal1
  dom := fun j hj => by
    rw [Hp.get_set _ _ _ _ (by rw [hb]; simp)] at hj
    by_cases e1 : j = i
    · rw [if_pos e1] at hj; cases hj
    · rw [if_neg e1] at hj; exact hr.dom j hj
  nmd := fun j hj => by
    rw [Hp.get_set _ _ _ _ (by rw [hb]; simp)]
    split
    · simp
    · exact hr.nmd j hj
  fz := fun r o hro => by
    obtain ⟨h1, h2⟩ := hr.fz r o hro
    refine ⟨by rw [hsame r (h2 i e b hi hb hrw).symm]; exact h1, fun j ej bj hj hbj hw1 => ?_⟩
    rw [Hp.get_set _ _ _ _ (by rw [hb]; simp)] at hbj
    by_cases e1 : j = i
    · subst e1; rw [hi] at hj; cases hj; exact h2 j e b hi hb hrw
    · rw [if_neg e1] at hbj; exact h2 j ej bj hj hbj hw1
theorem Ext.upd {i : Id} {e : Ent} {b b' : Blk} {w' : World} (hi : σ i = some e) (hb : h.get i = some b) (hrw : b.rw = true) (hrw' : b'.alive = true → b'.rw = true)
    (hsz : w'.heap.size = w.heap.size) (hos : w'.os = w.os) (htape : w'.tape = w.tape) (hout : w'.output = w.output) (hsame : ∀ r, r ≠ e.rid → w'.heap[r]? = w.heap[r]?) : Ext σ h w σ (h.set i b') w' where
  le := Sig.le_refl σ
  lo := rfl
  fzn := fun _ _ h => h
  size := by rw [hsz]; exact Nat.le_refl _
  os := hos
  tape := htape
  output := hout
  frame := fun r _ hn => hsame r (fun e1 => hn i e b hi hb hrw e1.symm)
  new := fun j ej hj hn => by rw [hj] at hn; cases hn
  down := fun j ej bj hj hbj hwj => by
    rw [Hp.get_set _ _ _ _ (by rw [hb]; simp)] at hbj
    by_cases e1 : j = i
    · subst e1; exact ⟨b, hb, hrw⟩
    · rw [if_neg e1] at hbj; exact ⟨bj, hbj, hwj⟩
  ro := fun j ej bj hj hbj hwj hal => by
    rw [Hp.get_set _ _ _ _ (by rw [hb]; simp)] at hbj
    by_cases e1 : j = i
    · rw [if_pos e1] at hbj; cases hbj; rw [hrw' hal] at hwj; cases hwj
    · rw [if_neg e1] at hbj; exact ⟨hj, bj, hbj, hal, hwj⟩
  old := fun j hj => ⟨by rw [Hp.get_set _ _ _ _ (by rw [hb]; simp)]; by_cases e1 : j = i; · rw [if_pos e1]; simp
                         · rw [if_neg e1]; exact hj, id⟩
  oldn := fun _ _ h => h
def Sig.put (σ : Sig) (i : Id) (e : Ent) : Sig := ⟨fun j => if j = i then some e else σ j, σ.fz, σ.nm, σ.lo⟩
theorem Sig.le_put {σ : Sig} {i : Id} {e : Ent} (h : σ i = none) : σ.le (σ.put i e) := ⟨fun j x hj => by
  show (if j = i then some e else σ j) = some x
  by_cases e1 : j = i
  · subst e1; rw [h] at hj; cases hj
  · rw [if_neg e1]; exact hj, fun _ _ h => h, fun _ h => h⟩
theorem Sig.put_ent (σ : Sig) (i : Id) (e : Ent) (j : Id) : σ.put i e j = if j = i then some e else σ j := rfl
theorem Hp.get_fresh (h : Hp) : h.get h.fresh = none := by simp [Hp.get, Hp.fresh]
theorem Rel.fresh_none (hr : Rel σ h w) : σ h.fresh = none := hr.dom _ h.get_fresh
theorem Rel.push (hr : Rel σ h w) {b : Blk} {o : Obj} {base tot : Nat} (hrel : BlkRel (σ.put h.fresh ⟨w.heap.size, base, tot⟩) ⟨w.heap.size, base, tot⟩ b o) :
    Rel (σ.put h.fresh ⟨w.heap.size, base, tot⟩) (h.push b) (w.alloc o) where
  blk := fun j ej bj hj hbj => by
    rw [Hp.get_push] at hbj
    rw [Sig.put_ent] at hj
    by_cases e1 : j = h.fresh
    · rw [if_pos e1] at hj hbj
      cases hj; cases hbj
      exact ⟨by simp, o, heap_alloc_new w o, hrel⟩
    · rw [if_neg e1] at hj hbj
      obtain ⟨hlt, o2, ho2, hrel2⟩ := hr.blk j ej bj hj hbj
      exact ⟨by simp; omega, o2, by rw [heap_alloc_old w o _ hlt]; exact ho2, hrel2.mono (Sig.le_put hr.fresh_none)⟩
  apart := fun j k ej ek bj bk hne hj hk hbj hbk hw1 hal1 => by
    rw [Hp.get_push] at hbj hbk
    rw [Sig.put_ent] at hj hk
    by_cases e1 : j = h.fresh
    · rw [if_pos e1] at hj hbj
      cases hj; cases hbj
      rw [if_neg (fun e2 => hne (e1.trans e2.symm))] at hk hbk
      have := (hr.blk k ek bk hk hbk).1
      simp only; omega
    · rw [if_neg e1] at hj hbj
      by_cases e2 : k = h.fresh
      · rw [if_pos e2] at hk hbk
        cases hk; cases hbk
        have := (hr.blk j ej bj hj hbj).1
        simp only; omega
      · rw [if_neg e2] at hk hbk
        exact hr.apart j k ej ek bj bk hne hj hk hbj hbk hw1 hal1
  dom := fun j hj => by
    rw [Hp.get_push] at hj
    rw [Sig.put_ent]
    by_cases e1 : j = h.fresh
    · rw [if_pos e1] at hj; cases hj
    · rw [if_neg e1] at hj ⊢; exact hr.dom j hj
  nmd := fun j hj => by
    rw [Hp.get_push]
    split
    · simp
    · exact hr.nmd j hj
  fz := fun r o2 hro => by
    obtain ⟨h1, h2⟩ := hr.fz r o2 hro
    have hlt : r < w.heap.size := (Array.getElem?_eq_some_iff.1 h1).1
    refine ⟨by rw [heap_alloc_old w o r hlt]; exact h1, fun j ej bj hj hbj hw1 => ?_⟩
    rw [Hp.get_push] at hbj
    rw [Sig.put_ent] at hj
    by_cases e1 : j = h.fresh
    · rw [if_pos e1] at hj; cases hj; simp only; omega
    · rw [if_neg e1] at hj hbj; exact h2 j ej bj hj hbj hw1
theorem Ext.push (hr : Rel σ h w) {b : Blk} {o : Obj} {base tot : Nat} (hbw : b.rw = true) : Ext σ h w (σ.put h.fresh ⟨w.heap.size, base, tot⟩) (h.push b) (w.alloc o) where
  le := Sig.le_put hr.fresh_none
  lo := rfl
  fzn := fun _ _ h => h
  size := by simp
  os := rfl
  tape := rfl
  output := rfl
  frame := fun r hlt _ => heap_alloc_old w o r hlt
  new := fun j ej hj hn => by
    rw [Sig.put_ent] at hj
    by_cases e1 : j = h.fresh
    · rw [if_pos e1] at hj; cases hj; exact .inl (Nat.le_refl _)
    · rw [if_neg e1] at hj; rw [hj] at hn; cases hn
  down := fun j ej bj hj hbj hwj => by
    rw [Hp.get_push] at hbj
    have : j ≠ h.fresh := fun e1 => by rw [e1, hr.fresh_none] at hj; cases hj
    rw [if_neg this] at hbj
    exact ⟨bj, hbj, hwj⟩
  ro := fun j ej bj hj hbj hwj hal => by
    rw [Hp.get_push] at hbj
    rw [Sig.put_ent] at hj
    by_cases e1 : j = h.fresh
    · rw [if_pos e1] at hbj; cases hbj; rw [hbw] at hwj; cases hwj
    · rw [if_neg e1] at hbj hj; exact ⟨hj, bj, hbj, hal, hwj⟩
  old := fun j hj => by
    have e1 : j ≠ h.fresh := fun e1 => hj (by rw [e1]; exact h.get_fresh)
    exact ⟨by rw [Hp.get_push, if_neg e1]; exact hj, fun hn => by rw [Sig.put_ent, if_neg e1]; exact hn⟩
  oldn := fun _ _ h => h
theorem RowRel.new {σ : Sig} {r : Nat} {cs : List V} {a : Array Value} {T : TypeId} {n : Nat} (hv : VRs σ cs a.toList) (h1 : ∀ x ∈ a.toList, x.oneCell' = true) (hn : n = a.size) :
    RowRel σ ⟨r, 0, n⟩ true cs.length (fun i => cs[i]?) (.cells a T) := by
  subst hn
  refine ⟨a, T, (0, 0), rfl, by simp, by have := VRs.length hv; simp at this; simp [this], fun _ => rfl, ?_⟩
  intro i v hiv
  obtain ⟨x, hx, hr⟩ := VRs.get hv hiv
  exact ⟨x, by simpa using hx, hr, h1 x (List.mem_of_getElem? hx)⟩
theorem cell1_all {σ : Sig} : ∀ {cs : List V} {xs : List Value}, VRs σ cs xs → cs.all V.cell1 = true → ∀ x ∈ xs, x.oneCell' = true
  | [], _, h, _ => by simp only [VRs] at h; subst h; simp
  | v :: cs, _, h, k => by
    simp only [VRs] at h
    obtain ⟨y, ys, rfl, h1, h2⟩ := h
    simp only [List.all_cons, Bool.and_eq_true] at k
    intro x hx
    cases hx with
    | head => exact VR.oneCell h1 k.1
    | tail _ hm => exact cell1_all h2 k.2 x hm
theorem new_row (hr : Rel σ h w) {cs : List V} {a : Array Value} {T : TypeId} (hv : VRs σ cs a.toList) (h1 : ∀ x ∈ a.toList, x.oneCell' = true) :
    Rel (σ.put h.fresh ⟨w.heap.size, 0, a.size⟩) (h.push (mkBlk cs)) (w.alloc (.cells a T)) ∧ Ext σ h w (σ.put h.fresh ⟨w.heap.size, 0, a.size⟩) (h.push (mkBlk cs)) (w.alloc (.cells a T)) :=
  ⟨hr.push ((BlkRel_row (mkBlk_row cs)).2 (RowRel.new (VRs.mono (Sig.le_put hr.fresh_none) _ _ hv) h1 rfl)), Ext.push hr (mkBlk_rw cs)⟩
theorem Sig.put_same (σ : Sig) (i : Id) (e : Ent) : σ.put i e i = some e := by simp [Sig.put]
theorem wr1_ok (P : Program) (hr : Rel σ h w) {i : Id} {e : Ent} {off : Nat} {c : V} {x : Value} {h' : Hp} (hi : σ i = some e) (hw : h.wr1 i off c = some h') (hx : VR σ c x) :
    ∃ w', (store ⟨e.rid, e.base + off, none⟩ x).run P w = .ok () w' ∧ Rel σ h' w' ∧ Ext σ h w σ h' w' := by
  unfold Hp.wr1 at hw
  split at hw
  · rename_i b hb
    split at hw
    · rename_i b' hb'
      simp at hw; subst hw
      obtain ⟨l, hrow, hlt, hc1, hrow'⟩ := Blk.wr1_row hb'
      have hrw : b.rw = true := Blk.row_rw hrow
      obtain ⟨hlt2, o, ho, hrel⟩ := hr.blk i e b hi hb
      rw [BlkRel_row hrow] at hrel
      obtain ⟨cur, T, fz, rfl, hs1, hs2, hfz, hcs⟩ := hrel
      have hfz := hfz rfl
      subst hfz
      have h1 : x.oneCell' = true := VR.oneCell hx hc1
      obtain ⟨y, hy, _⟩ := hcs off _ (List.getElem?_eq_getElem hlt)
      have hcell : w.cell? ⟨e.rid, e.base + off, none⟩ = some y := by simp [World.cell?, ho, hy]
      have hfr : w.frozen? ⟨e.rid, e.base + off, none⟩ = false := by simp [World.frozen?, ho]
      have hnew : (w.setCell ⟨e.rid, e.base + off, none⟩ x).heap[e.rid]? = some (.cells (cur.setIfInBounds (e.base + off) x) T (0, 0)) := heap_setCell_same w e.rid (e.base + off) cur T x ho
      have hsame : ∀ r, r ≠ e.rid → (w.setCell ⟨e.rid, e.base + off, none⟩ x).heap[r]? = w.heap[r]? := fun r hne => heap_setCell_other w _ r x hne
      have hsz : (w.setCell ⟨e.rid, e.base + off, none⟩ x).heap.size = w.heap.size := by simp [World.setCell]
      refine ⟨w.setCell ⟨e.rid, e.base + off, none⟩ x, ?_, ?_, ?_⟩
      · rw [run_store _ _ _ _ _ h1, hcell]; simp [hfr]
      · refine hr.upd hi hb hrw (fun _ => Blk.row_alive hrow) hsz hsame hnew ((BlkRel_row hrow').2 ⟨_, T, (0, 0), rfl, by simpa using hs1, by simpa using hs2, fun _ => rfl, ?_⟩)
        intro j v hv
        have hv : (l.set off c)[j]? = some v := hv
        rw [List.getElem?_set] at hv
        by_cases e1 : off = j
        · subst e1
          rw [if_pos rfl, if_pos hlt] at hv
          cases hv
          exact ⟨x, by rw [Array.getElem?_setIfInBounds_self_of_lt (by omega)], hx, h1⟩
        · rw [if_neg e1] at hv
          obtain ⟨z, hz, hzr, hz1⟩ := hcs j v hv
          exact ⟨z, by rw [Array.getElem?_setIfInBounds_ne (by omega)]; exact hz, hzr, hz1⟩
      · exact Ext.upd hi hb hrw (fun _ => Blk.row_rw hrow') hsz rfl rfl rfl hsame
    · cases hw
  · cases hw
theorem wrN_ok (P : Program) : ∀ (cs : List V) (xs : List Value) (off k : Nat) {h h' : Hp} {w : World} {i : Id} {e : Ent}, Rel σ h w → σ i = some e → h.wrN i (off + k) cs = some h' → VRs σ cs xs →
    ∃ w', (storeCells ⟨e.rid, e.base + off, none⟩ xs k).run P w = .ok () w' ∧ Rel σ h' w' ∧ Ext σ h w σ h' w'
  | [], xs, off, k, h, h', w, i, e, hr, hi, hw, hx => by
    simp only [VRs] at hx; subst hx
    simp [Hp.wrN] at hw; subst hw
    exact ⟨w, by simp [storeCells], hr, Ext.refl _ _ _⟩
  | c :: cs, xs, off, k, h, h', w, i, e, hr, hi, hw, hx => by
    simp only [VRs] at hx
    obtain ⟨y, ys, rfl, h1, h2⟩ := hx
    simp only [Hp.wrN] at hw
    split at hw
    · rename_i h1' hw1
      obtain ⟨w1, hrun, hr1, he1⟩ := wr1_ok P hr hi hw1 h1
      obtain ⟨w2, hrun2, hr2, he2⟩ := wrN_ok P cs ys off (k + 1) (by exact hr1) hi (by rw [← Nat.add_assoc]; exact hw) h2
      refine ⟨w2, ?_, hr2, he1.trans he2⟩
      simp only [storeCells, Sem.run_bind, add_at]
      rw [show e.base + off + k = e.base + (off + k) by omega, hrun]
      exact hrun2
    · cases hw
end
end Go.Vm

namespace Go.Vm

def NextRel (σ : Sig) (v : V) : Next → Prop
  | .value x => VR σ v x
  | .skip => v = .undef
  | _ => False
def Hp.grows (h h' : Hp) : Prop := ∀ i, h.get i ≠ none → h'.get i ≠ none
theorem Hp.grows_refl (h : Hp) : h.grows h := fun _ hi => hi
theorem Hp.grows_trans {a b c : Hp} (h : a.grows b) (k : b.grows c) : a.grows c := fun i hi => k i (h i hi)
theorem Hp.grows_push (h : Hp) (b : Blk) : h.grows (h.push b) := fun i hi => by
  rw [Hp.get_push]; by_cases e : i = h.fresh
  · rw [if_pos e]; simp
  · rw [if_neg e]; exact hi
theorem Hp.grows_set (h : Hp) (i : Id) (b : Blk) : h.grows (h.set i b) := fun j hj => by
  cases i with
  | out i => cases j with
    | out j => simp only [Hp.set, Hp.get]; split; simp; exact hj
    | loc k => exact hj
  | loc k => cases j with
    | out j => exact hj
    | loc j =>
      simp only [Hp.set, Hp.get] at hj ⊢
      intro h0
      rw [List.getElem?_eq_none_iff, List.length_set] at h0
      exact hj (List.getElem?_eq_none h0)
theorem Hp.grows_wr1 {h h' : Hp} {i : Id} {off : Nat} {c : V} (hw : h.wr1 i off c = some h') : h.grows h' := by
  unfold Hp.wr1 at hw
  split at hw
  · split at hw
    · simp at hw; subst hw; exact h.grows_set _ _
    · cases hw
  · cases hw
theorem Hp.grows_wrN : ∀ {cs : List V} {h h' : Hp} {i : Id} {off : Nat}, h.wrN i off cs = some h' → h.grows h'
  | [], h, h', i, off, hw => by simp [Hp.wrN] at hw; subst hw; exact h.grows_refl
  | c :: cs, h, h', i, off, hw => by
    simp only [Hp.wrN] at hw
    split at hw
    · rename_i h1 hw1; exact Hp.grows_trans (Hp.grows_wr1 hw1) (Hp.grows_wrN hw)
    · cases hw
def Does (P : Program) (f : List Value → Sem Next) (args : List V) (h : Hp) (v : V) (h' : Hp) : Prop :=
  h.grows h' ∧ ∀ σ w xs, Rel σ h w → VRs σ args xs → ∃ σ' nx w', (f xs).run P w = .ok nx w' ∧ NextRel σ' v nx ∧ Rel σ' h' w' ∧ Ext σ h w σ' h' w'
def valN (s : Sem Value) : Sem Next := do pure (.value (← s))
def skipN (s : Sem Unit) : Sem Next := do s; pure .skip
theorem run_valN {P : Program} {s : Sem Value} {w w' : World} {x : Value} (h : s.run P w = .ok x w') : (valN s).run P w = .ok (.value x) w' := by simp [valN, h]
theorem run_skipN {P : Program} {s : Sem Unit} {w w' : World} (h : s.run P w = .ok () w') : (skipN s).run P w = .ok .skip w' := by simp [skipN, h]
def opAlloc (e : TypeId) (_ : List Value) : Sem Next := valN (Instr.alloc e true (.tuple #[]))
def opBox (e : TypeId) (xs : List Value) : Sem Next := valN (Instr.box e (xs.getD 0 undef))
def opLoad (t : TypeId) (xs : List Value) : Sem Next := valN (Instr.loadAt t (xs.getD 0 undef))
def opStore (t : TypeId) (xs : List Value) : Sem Next := skipN (Instr.storeAt t (xs.getD 0 undef) (xs.getD 1 undef))
def opBuildSlice (t : TypeId) (len : Nat) (is : List Nat) (xs : List Value) : Sem Next := valN (Instr.buildSlice t len (is.zip xs).toArray)
def opMakeSlice (t : TypeId) (xs : List Value) : Sem Next := valN (Instr.makeSlice t (xs.getD 0 undef) (xs.getD 1 undef))
def opAppend (ts : Array TypeId) (ty : TypeId) (xs : List Value) : Sem Next := valN (Builtin.append_ ts ty xs.toArray)
def opCopy (ts : Array TypeId) (ty : TypeId) (xs : List Value) : Sem Next := valN (Builtin.copy_ ts ty xs.toArray)
def opClear (ts : Array TypeId) (ty : TypeId) (xs : List Value) : Sem Next := valN (Builtin.clear_ ts ty xs.toArray)
theorem VRs_one {σ : Sig} {v : V} {xs : List Value} (h : VRs σ [v] xs) : ∃ x, xs = [x] ∧ VR σ v x := by
  simp only [VRs] at h
  obtain ⟨x, xs', rfl, h1, rfl⟩ := h
  exact ⟨x, rfl, h1⟩
theorem VRs_two {σ : Sig} {v u : V} {xs : List Value} (h : VRs σ [v, u] xs) : ∃ x y, xs = [x, y] ∧ VR σ v x ∧ VR σ u y := by
  simp only [VRs] at h
  obtain ⟨x, xs', rfl, h1, y, ys, rfl, h2, rfl⟩ := h
  exact ⟨x, y, rfl, h1, h2⟩
theorem Rel.heap_eq {σ : Sig} {h : Hp} {w w' : World} (hr : Rel σ h w) (he : w'.heap = w.heap) : Rel σ h w' :=
  ⟨fun i e b hi hb => by rw [he]; exact hr.blk i e b hi hb, hr.apart, hr.dom, hr.nmd, fun r o h => by rw [he]; exact hr.fz r o h⟩
theorem Ext.drew {σ : Sig} {h : Hp} {w : World} : Ext σ h w σ h w.drew :=
  ⟨Sig.le_refl σ, rfl, fun _ _ h => h, Nat.le_refl _, rfl, rfl, rfl, fun _ _ _ => rfl, (fun i e h1 h2 => by rw [h1] at h2; cases h2), (fun i e b' _ h2 h3 => ⟨b', h2, h3⟩), (fun i e b' h1 h2 h3 h4 => ⟨h1, b', h2, h4, h3⟩), (fun i h1 => ⟨h1, id⟩), fun _ _ h => h⟩
section
variable {P : Program} {T : TT} (hT : TOk P T)
include hT
theorem does_load1 {t : TypeId} {ti : TI} {i : Id} {off : Nat} {v : V} {h : Hp} (hTt : T t = some ti) (ha : ti.agg = false) (hv : h.at i off = some v) :
    Does P (opLoad t) [.ptr i off] h v h := by
  refine ⟨h.grows_refl, ?_⟩
  intro σ w xs hr hx
  obtain ⟨x, rfl, hp⟩ := VRs_one hx
  simp only [VR] at hp
  obtain ⟨e, hi, rfl⟩ := hp
  obtain ⟨d, hu, hagg, _⟩ := kind_of hT hTt
  obtain ⟨y, hy, hyr, _⟩ := hr.cell hi hv
  have : (isAgg t).run P w = .ok false w := by rw [ha] at hagg; cases d <;> simp_all [isAgg, run_underlying hu, descAgg]
  exact ⟨σ, _, w, run_valN (x := y) (by simp [Instr.loadAt, Instr.sureAddr, loadVar, this, hy]), hyr, hr, Ext.refl _ _ _⟩
theorem does_loadN {t : TypeId} {ti : TI} {i : Id} {off : Nat} {l : List V} {h : Hp} (hTt : T t = some ti) (ha : ti.agg = true) (hv : h.rdN i off ti.size = some l) :
    Does P (opLoad t) [.ptr i off] h (.agg l) h := by
  refine ⟨h.grows_refl, ?_⟩
  intro σ w xs hr hx
  obtain ⟨x, rfl, hp⟩ := VRs_one hx
  simp only [VR] at hp
  obtain ⟨e, hi, rfl⟩ := hp
  obtain ⟨d, info, z, hu, hinfo, hsize, hagg, _, _, _⟩ := hT.ok _ _ hTt
  obtain ⟨ys, hn, hyr, _, hcell⟩ := hr.cellsN hi _ _ _ hv
  have hag : (isAgg t).run P w = .ok true w := by rw [ha] at hagg; cases d <;> simp_all [isAgg, run_underlying hu, descAgg]
  have hrun := run_loadCells_list (P := P) w ⟨e.rid, e.base + off, none⟩ ys (fun j y hj => by rw [add_at, Nat.add_assoc]; exact hcell j y hj)
  rw [hn] at hrun
  refine ⟨σ, _, w, run_valN (x := .agg ys.toArray) ?_, ?_, hr, Ext.refl _ _ _⟩
  · simp [Instr.loadAt, Instr.sureAddr, loadVar, hag, sizeOf, typeInfo, hinfo, hsize, hrun]
  · simp only [NextRel, VR]; exact ⟨_, rfl, by simpa using hyr⟩
theorem does_store {t : TypeId} {ti : TI} {i : Id} {off : Nat} {v : V} {cs : List V} {h h' : Hp} (hTt : T t = some ti) (hp : v.parts = some cs) (hl : cs.length = ti.size) (hw : h.wrN i off cs = some h') :
    Does P (opStore t) [.ptr i off, v] h .undef h' := by
  refine ⟨Hp.grows_wrN hw, ?_⟩
  intro σ w xs hr hx
  obtain ⟨x, y, rfl, hpx, hy⟩ := VRs_two hx
  simp only [VR] at hpx
  obtain ⟨e, hi, rfl⟩ := hpx
  obtain ⟨d, info, z, hu, hinfo, hsize, _, _, _, _⟩ := hT.ok _ _ hTt
  have hcs := VR.parts hy hp
  obtain ⟨w', hrun, hr', he'⟩ := wrN_ok P cs y.cells.toList off 0 hr hi (by simpa using hw) hcs
  have hlen : y.cells.size = info.size := by have := VRs.length hcs; simp at this; omega
  refine ⟨σ, _, w', run_skipN ?_, rfl, hr', he'⟩
  simp [Instr.storeAt, Instr.sureAddr, storeVar, sizeOf, typeInfo, hinfo, hlen, hrun]
end

theorem Rel.seg {σ : Sig} {h : Hp} {w : World} (hr : Rel σ h w) {i : Id} {e : Ent} {b : Blk} {rw : Bool} {l : List V} (hi : σ i = some e) (hb : h.get i = some b) (hrow : b.row = some (rw, l)) (off m : Nat) (hle : off + m ≤ l.length) :
    ∃ xs, xs.length = m ∧ VRs σ ((l.drop off).take m) xs ∧ (∀ x ∈ xs, x.oneCell' = true) ∧ ∀ (j : Nat) (x : Value), xs[j]? = some x → w.cell? ⟨e.rid, e.base + (off + j), none⟩ = some x := by
  obtain ⟨_, o, ho, hrel⟩ := hr.blk i e b hi hb
  rw [BlkRel_row hrow] at hrel
  obtain ⟨cur, TT, fz, rfl, hs1, hs2, _, hc⟩ := hrel
  refine ⟨(cur.toList.drop (e.base + off)).take m, ?_, ?_, ?_, ?_⟩
  · simp; omega
  · refine VRs.of_get (by simp; omega) ?_
    intro j v hv
    rw [List.getElem?_take] at hv
    split at hv
    · rename_i hj
      rw [List.getElem?_drop] at hv
      obtain ⟨x, hx, hvr, _⟩ := hc _ v hv
      refine ⟨x, ?_, hvr⟩
      rw [List.getElem?_take, if_pos hj, List.getElem?_drop, Array.getElem?_toList, ← hx]
      congr 1; omega
    · cases hv
  · intro x hx
    obtain ⟨j, hj⟩ := List.getElem?_of_mem hx
    rw [List.getElem?_take] at hj
    split at hj
    · rename_i hjm
      rw [List.getElem?_drop, Array.getElem?_toList] at hj
      obtain ⟨v, hv⟩ : ∃ v, l[off + j]? = some v := ⟨_, List.getElem?_eq_getElem (by omega)⟩
      obtain ⟨y, hy, _, h1⟩ := hc _ v hv
      rw [show e.base + off + j = e.base + (off + j) by omega, hy] at hj
      cases hj; exact h1
    · cases hj
  · intro j x hx
    rw [List.getElem?_take] at hx
    split at hx
    · rw [List.getElem?_drop, Array.getElem?_toList] at hx
      rw [← Nat.add_assoc]
      simp [World.cell?, ho, hx]
    · cases hx
theorem Rel.rename {σ : Sig} {h : Hp} {w w' : World} (hr : Rel σ h w) {i : Id} {e e' : Ent} {b b' : Blk} {o' : Obj} (hi : σ i = some e) (hb : h.get i = some b) (hrw : b.rw = true) (hal : b.alive = true)
    (hsz : w'.heap.size = w.heap.size) (hsame : ∀ r, r ≠ e.rid → w'.heap[r]? = w.heap[r]?) (hnew : w'.heap[e.rid]? = some o') (he : e'.rid = e.rid) (hrel : BlkRel (σ.put h.fresh e') e' b' o') :
    Rel (σ.put h.fresh e') ((h.set i .dead).push b') w' := by
  have h1 : Rel σ (h.set i .dead) w' := hr.upd hi hb hrw (fun hd => by simp [Blk.alive] at hd) hsz hsame hnew trivial
  have hfr : (h.set i .dead).fresh = h.fresh := by cases i <;> simp [Hp.fresh, Hp.set]
  have hnone : σ h.fresh = none := hr.fresh_none
  have hine : i ≠ h.fresh := fun e1 => by rw [e1, hnone] at hi; cases hi
  have hgd : (h.set i .dead).get i = some .dead := by rw [Hp.get_set _ _ _ _ (by rw [hb]; simp), if_pos rfl]
  have hlt : e.rid < w'.heap.size := by rw [hsz]; exact (hr.blk i e b hi hb).1
  refine ⟨?_, ?_, ?_, ?_, ?_⟩
  · intro j ej bj hj hbj
    rw [Hp.get_push, hfr] at hbj
    rw [Sig.put_ent] at hj
    by_cases e1 : j = h.fresh
    · rw [if_pos e1] at hj hbj
      cases hj; cases hbj
      exact ⟨by rw [he]; exact hlt, o', by rw [he]; exact hnew, hrel⟩
    · rw [if_neg e1] at hj hbj
      obtain ⟨h2, o, h3, h4⟩ := h1.blk j ej bj hj hbj
      exact ⟨h2, o, h3, h4.mono (Sig.le_put hnone)⟩
  · intro j k ej ek bj bk hne hj hk hbj hbk hw1 hal1
    rw [Hp.get_push, hfr] at hbj hbk
    rw [Sig.put_ent] at hj hk
    -- a block other than i that shares i's real block was dead before
    have old : ∀ (m : Id) (em : Ent) (bm : Blk), σ m = some em → (h.set i .dead).get m = some bm → bm.alive = true → em.rid ≠ e.rid := by
      intro m em bm hm hbm ham
      by_cases e2 : m = i
      · subst e2; rw [hgd] at hbm; cases hbm; simp [Blk.alive] at ham
      · rw [Hp.get_set _ _ _ _ (by rw [hb]; simp), if_neg e2] at hbm
        exact fun e3 => hr.apart i m e em b bm (Ne.symm e2) hi hm hb hbm hrw ham e3.symm
    have rwal : ∀ {x : Blk}, x.rw = true → x.alive = true := fun {x} hx => by cases x <;> simp_all [Blk.rw, Blk.alive]
    by_cases e1 : j = h.fresh
    · rw [if_pos e1] at hj hbj
      cases hj; cases hbj
      rw [if_neg (fun e2 => hne (e1.trans e2.symm))] at hk hbk
      rw [he]; exact fun e3 => old k ek bk hk hbk hal1 e3.symm
    · rw [if_neg e1] at hj hbj
      by_cases e2 : k = h.fresh
      · rw [if_pos e2] at hk hbk
        cases hk; cases hbk
        rw [he]; exact old j ej bj hj hbj (rwal hw1)
      · rw [if_neg e2] at hk hbk
        exact h1.apart j k ej ek bj bk hne hj hk hbj hbk hw1 hal1
  · intro j hj
    rw [Hp.get_push, hfr] at hj
    rw [Sig.put_ent]
    by_cases e1 : j = h.fresh
    · rw [if_pos e1] at hj; cases hj
    · rw [if_neg e1] at hj ⊢; exact h1.dom j hj
  · intro j hj
    rw [Hp.get_push]
    split
    · simp
    · exact h1.nmd j hj
  · intro r o hro
    obtain ⟨g1, g2⟩ := h1.fz r o hro
    refine ⟨g1, fun j ej bj hj hbj hw1 => ?_⟩
    rw [Hp.get_push, hfr] at hbj
    rw [Sig.put_ent] at hj
    by_cases e1 : j = h.fresh
    · rw [if_pos e1] at hj; cases hj; rw [he]; exact (hr.fz r o hro).2 i e b hi hb hrw
    · rw [if_neg e1] at hj hbj; exact g2 j ej bj hj hbj hw1
theorem Ext.rename {σ : Sig} {h : Hp} {w w' : World} (hr : Rel σ h w) {i : Id} {e e' : Ent} {b b' : Blk} (hi : σ i = some e) (hb : h.get i = some b) (hrw : b.rw = true) (hrw' : b'.rw = true) (he : e'.rid = e.rid)
    (hsz : w'.heap.size = w.heap.size) (hos : w'.os = w.os) (htape : w'.tape = w.tape) (hout : w'.output = w.output) (hsame : ∀ r, r ≠ e.rid → w'.heap[r]? = w.heap[r]?) :
    Ext σ h w (σ.put h.fresh e') ((h.set i .dead).push b') w' where
  le := Sig.le_put hr.fresh_none
  lo := rfl
  fzn := fun _ _ h => h
  size := by rw [hsz]; exact Nat.le_refl _
  os := hos
  tape := htape
  output := hout
  frame := fun r _ hn => hsame r (fun e1 => hn i e b hi hb hrw e1.symm)
  new := fun j ej hj hn => by
    rw [Sig.put_ent] at hj
    by_cases e1 : j = h.fresh
    · rw [if_pos e1] at hj; cases hj; exact .inr ⟨i, e, b, hi, hb, hrw, he.symm⟩
    · rw [if_neg e1] at hj; rw [hj] at hn; cases hn
  down := fun j ej bj hj hbj hwj => by
    have hfr : (h.set i .dead).fresh = h.fresh := by cases i <;> simp [Hp.fresh, Hp.set]
    rw [Hp.get_push, hfr] at hbj
    have hjf : j ≠ h.fresh := fun e1 => by rw [e1, hr.fresh_none] at hj; cases hj
    rw [if_neg hjf, Hp.get_set _ _ _ _ (by rw [hb]; simp)] at hbj
    by_cases e1 : j = i
    · rw [if_pos e1] at hbj; cases hbj; simp [Blk.rw] at hwj
    · rw [if_neg e1] at hbj; exact ⟨bj, hbj, hwj⟩
  ro := fun j ej bj hj hbj hwj hal => by
    have hfr : (h.set i .dead).fresh = h.fresh := by cases i <;> simp [Hp.fresh, Hp.set]
    rw [Hp.get_push, hfr] at hbj
    rw [Sig.put_ent] at hj
    by_cases e0 : j = h.fresh
    · rw [if_pos e0] at hbj; cases hbj; rw [hrw'] at hwj; cases hwj
    · rw [if_neg e0] at hbj hj
      rw [Hp.get_set _ _ _ _ (by rw [hb]; simp)] at hbj
      by_cases e1 : j = i
      · rw [if_pos e1] at hbj; cases hbj; simp [Blk.alive] at hal
      · rw [if_neg e1] at hbj; exact ⟨hj, bj, hbj, hal, hwj⟩
  old := fun j hj => by
    have hfr : (h.set i .dead).fresh = h.fresh := by cases i <;> simp [Hp.fresh, Hp.set]
    have e1 : j ≠ h.fresh := fun e1 => hj (by rw [e1]; exact h.get_fresh)
    refine ⟨?_, fun hn => by rw [Sig.put_ent, if_neg e1]; exact hn⟩
    rw [Hp.get_push, hfr, if_neg e1, Hp.get_set _ _ _ _ (by rw [hb]; simp)]
    by_cases e2 : j = i
    · rw [if_pos e2]; simp
    · rw [if_neg e2]; exact hj
  oldn := fun _ _ h => h
theorem Rel.kill {σ : Sig} {h : Hp} {w : World} (hr : Rel σ h w) {i : Id} {b : Blk} (hb : h.get i = some b) : Rel σ (h.set i .dead) w where
  blk := fun j ej bj hj hbj => by
    rw [Hp.get_set _ _ _ _ (by rw [hb]; simp)] at hbj
    by_cases e1 : j = i
    · rw [if_pos e1] at hbj; cases hbj
      subst e1
      obtain ⟨h1, o, h2, _⟩ := hr.blk _ ej b hj hb
      exact ⟨h1, o, h2, trivial⟩
    · rw [if_neg e1] at hbj; exact hr.blk j ej bj hj hbj
  apart := fun j k ej ek bj bk hne hj hk hbj hbk hw1 hal1 => by
    rw [Hp.get_set _ _ _ _ (by rw [hb]; simp)] at hbj hbk
    by_cases e1 : j = i
    · rw [if_pos e1] at hbj; cases hbj; simp [Blk.rw] at hw1
    · rw [if_neg e1] at hbj
      by_cases e2 : k = i
      · rw [if_pos e2] at hbk; cases hbk; simp [Blk.alive] at hal1
      · rw [if_neg e2] at hbk; exact hr.apart j k ej ek bj bk hne hj hk hbj hbk hw1 hal1
  dom := fun j hj => by
    rw [Hp.get_set _ _ _ _ (by rw [hb]; simp)] at hj
    by_cases e1 : j = i
    · rw [if_pos e1] at hj; cases hj
    · rw [if_neg e1] at hj; exact hr.dom j hj
  nmd := fun j hj => by
    rw [Hp.get_set _ _ _ _ (by rw [hb]; simp)]
    split
    · simp
    · exact hr.nmd j hj
  fz := fun r o hro => by
    obtain ⟨h1, h2⟩ := hr.fz r o hro
    refine ⟨h1, fun j ej bj hj hbj hw1 => ?_⟩
    rw [Hp.get_set _ _ _ _ (by rw [hb]; simp)] at hbj
    by_cases e1 : j = i
    · rw [if_pos e1] at hbj; cases hbj; simp [Blk.rw] at hw1
    · rw [if_neg e1] at hbj; exact h2 j ej bj hj hbj hw1
theorem Ext.kill {σ : Sig} {h : Hp} {w : World} {i : Id} {b : Blk} (hb : h.get i = some b) : Ext σ h w σ (h.set i .dead) w where
  le := Sig.le_refl σ
  lo := rfl
  fzn := fun _ _ h => h
  size := Nat.le_refl _
  os := rfl
  tape := rfl
  output := rfl
  frame := fun _ _ _ => rfl
  new := fun j ej hj hn => by rw [hj] at hn; cases hn
  down := fun j ej bj hj hbj hwj => by
    rw [Hp.get_set _ _ _ _ (by rw [hb]; simp)] at hbj
    by_cases e1 : j = i
    · rw [if_pos e1] at hbj; cases hbj; simp [Blk.rw] at hwj
    · rw [if_neg e1] at hbj; exact ⟨bj, hbj, hwj⟩
  ro := fun j ej bj hj hbj hwj hal => by
    rw [Hp.get_set _ _ _ _ (by rw [hb]; simp)] at hbj
    by_cases e1 : j = i
    · rw [if_pos e1] at hbj; cases hbj; simp [Blk.alive] at hal
    · rw [if_neg e1] at hbj; exact ⟨hj, bj, hbj, hal, hwj⟩
  old := fun j hj => ⟨by rw [Hp.get_set _ _ _ _ (by rw [hb]; simp)]; by_cases e1 : j = i; · rw [if_pos e1]; simp
                         · rw [if_neg e1]; exact hj, id⟩
  oldn := fun _ _ h => h
def SegOf (h : Hp) (esz : Nat) : V → Nat → List V → Prop
  | .nilslice, n, l => n = 0 ∧ l = []
  | .fs esz' len cs, n, l => esz' = esz ∧ n = len ∧ cs.length = len * esz ∧ l = D.vs cs
  | .gl i esz' len, n, l => esz' = esz ∧ n = len ∧ ∃ b rw cs, h.get i = some b ∧ b.row = some (rw, cs) ∧ len * esz ≤ cs.length ∧ l = cs.take (len * esz)
  | .slice i off esz' len _, n, l => esz' = esz ∧ n = len ∧ ∃ b rw cs, h.get i = some b ∧ b.row = some (rw, cs) ∧ off + len * esz ≤ cs.length ∧ l = (cs.drop off).take (len * esz)
  | _, _, _ => False
theorem SegOf.length {h : Hp} {esz : Nat} {x : V} {n : Nat} {l : List V} (hs : SegOf h esz x n l) : l.length = n * esz := by
  cases x <;> simp only [SegOf] at hs
  · obtain ⟨rfl, rfl⟩ := hs; simp
  · obtain ⟨_, rfl, b, rw, cs, _, _, hle, rfl⟩ := hs; simp; omega
  · obtain ⟨_, rfl, b, rw, cs, _, _, hle, rfl⟩ := hs; simp; omega
  · obtain ⟨_, rfl, hle, rfl⟩ := hs; rw [D.vs_eq]; simp; exact hle
theorem SegOf.real {σ : Sig} {h : Hp} {w : World} (hr : Rel σ h w) {esz : Nat} {x : V} {n : Nat} {l : List V} (hs : SegOf h esz x n l) {y : Value} (hx : VR σ x y) :
    ∃ xs, xs.length = n * esz ∧ VRs σ l xs ∧ (∀ z ∈ xs, z.oneCell' = true) ∧
      ((y = .slice none 0 0 ∧ n = 0 ∧ xs = []) ∨ ∃ a c, y = .slice (some a) n c ∧ n ≤ c ∧ (c ≠ 0 → ∀ (j : Nat) (z : Value), xs[j]? = some z → w.cell? (a.add j) = some z)) := by
  cases x <;> simp only [SegOf] at hs
  · obtain ⟨rfl, rfl⟩ := hs
    simp only [VR] at hx
    exact ⟨[], by simp, by simp [VRs], by simp, .inl ⟨hx, rfl, rfl⟩⟩
  · rename_i i off esz' len lim
    obtain ⟨rfl, rfl, b, rw, cs, hb, hrow, hle, rfl⟩ := hs
    simp only [VR] at hx
    obtain ⟨e, cap, o, hi, hz, hlc, hlim, ho, rfl⟩ := hx
    obtain ⟨xs, h1, h2, h3, h4⟩ := hr.seg hi hb hrow off _ hle
    refine ⟨xs, h1, h2, h3, .inr ⟨⟨e.rid, o, none⟩, cap, rfl, hlc, ?_⟩⟩
    intro hc j z hz'
    rw [add_at, ho hc, Nat.add_assoc]
    exact h4 j z hz'
  · rename_i i esz' len
    obtain ⟨rfl, rfl, b, rw, cs, hb, hrow, hle, rfl⟩ := hs
    simp only [VR] at hx
    obtain ⟨hp, ⟨h0, _, rfl⟩ | ⟨e, cap, o, hi, hlc, hlim, ho, rfl⟩⟩ := hx
    · subst h0
      exact ⟨[], by simp, by simp [VRs], by simp, .inl ⟨rfl, rfl, rfl⟩⟩
    · obtain ⟨xs, h1, h2, h3, h4⟩ := hr.seg hi hb hrow 0 (n * esz') (by omega)
      refine ⟨xs, h1, by simpa using h2, h3, .inr ⟨⟨e.rid, o, none⟩, cap, rfl, hlc, ?_⟩⟩
      intro hc j z hz'
      rw [add_at, ho hc]
      have := h4 j z hz'
      rwa [Nat.zero_add] at this
  · rename_i esz' len cs
    obtain ⟨rfl, rfl, hle, rfl⟩ := hs
    simp only [VR, DR] at hx
    obtain ⟨_, _, ⟨h0, hx⟩ | ⟨r, o, cap, cur, T, f, ys, h1, h2, rfl, h4, h5⟩⟩ := hx
    · subst h0
      have hc0 : cs = [] := List.eq_nil_of_length_eq_zero (by simpa using hle)
      subst hc0
      refine ⟨[], by simp, by simp [VRs, D.vs], by simp, ?_⟩
      rcases hx with rfl | ⟨a, c, rfl⟩
      · exact .inl ⟨rfl, rfl, rfl⟩
      · exact .inr ⟨a, c, rfl, Nat.zero_le _, by simp⟩
    · have hyl := DRs_len h4
      refine ⟨ys, by rw [hyl, hle], DRs.v _ _ h4, ?_, .inr ⟨⟨r, o, none⟩, cap, rfl, h2, ?_⟩⟩
      · intro x hx
        obtain ⟨j, hj⟩ := List.getElem?_of_mem hx
        exact (h5 j x hj).2
      · intro _ j z hz
        rw [add_at]
        simp [World.cell?, (hr.fz _ _ h1).1, (h5 j z hz).1]
theorem cells_nil_of {w : World} {a : Addr} {c n esz : Nat} {xs : List Value} (hl : xs.length = n * esz) (hn : n ≤ c) (hc : c ≠ 0 → ∀ (j : Nat) (z : Value), xs[j]? = some z → w.cell? (a.add j) = some z) :
    ∀ (j : Nat) (z : Value), xs[j]? = some z → w.cell? (a.add j) = some z := by
  intro j z hz
  by_cases h0 : c = 0
  · have : n = 0 := by omega
    subst this
    rw [Nat.zero_mul] at hl
    rw [List.eq_nil_of_length_eq_zero hl] at hz
    simp at hz
  · exact hc h0 j z hz
section
variable {P : Program} {T : TT} (hT : TOk P T)
include hT

omit hT in
theorem grown_new {σ : Sig} {h : Hp} {w : World} (hr : Rel σ h w) {e esz need : Nat} {olds : List Value} {l : List V} {b' : Blk} {z : Value} {c : Nat} (hb' : b'.row = some (true, l)) (hl : VRs σ l olds) (h1 : ∀ x ∈ olds, x.oneCell' = true)
    (hlen : olds.length = need * esz) (hz : z.cells.size = esz) (hc : need ≤ c) :
    Rel (σ.put h.fresh ⟨w.heap.size, 0, c * esz⟩) (h.push b') (w.drew.alloc (.cells (olds.toArray ++ Builtin.zeroCells z.cells (c - need)) e)) ∧
    Ext σ h w (σ.put h.fresh ⟨w.heap.size, 0, c * esz⟩) (h.push b') (w.drew.alloc (.cells (olds.toArray ++ Builtin.zeroCells z.cells (c - need)) e)) := by
  have hr' : Rel σ h w.drew := hr.heap_eq rfl
  have hsz : (olds.toArray ++ Builtin.zeroCells z.cells (c - need)).size = c * esz := by
    simp only [Array.size_append, List.size_toArray, size_zeroCells, hlen, hz, ← Nat.add_mul]; congr 1; omega
  have hll := VRs.length hl
  refine ⟨hr'.push ((BlkRel_row hb').2 ⟨_, e, (0, 0), rfl, by simp [hsz], ?_, fun _ => rfl, ?_⟩), Ext.drew.trans (Ext.push hr' (Blk.row_rw hb'))⟩
  · show l.length ≤ c * esz
    have := Nat.mul_le_mul_right esz hc
    omega
  · intro i v hv
    obtain ⟨x, hx, hvr⟩ := VRs.get (VRs.mono (Sig.le_put hr.fresh_none) _ _ hl) hv
    refine ⟨x, ?_, hvr, h1 x (List.mem_of_getElem? hx)⟩
    have hlt : i < olds.length := (List.getElem?_eq_some_iff.1 hx).1
    show (olds.toArray ++ _)[0 + i]? = some x
    rw [Nat.zero_add, Array.getElem?_append_left (by simpa using hlt)]
    simpa using hx
theorem slice_kind {t : TypeId} {e esz bytes : Nat} {zero : List V} {s : Nat} {a : Bool} {zv : V} (hTt : T t = some ⟨.slice e esz bytes zero, s, a, zv⟩) :
    P.underlying t = some (.slice e) ∧ 0 < esz ∧ ∃ info z, P.info? e = some info ∧ info.size = esz ∧ info.bytes = bytes ∧ info.zero = some z ∧ ZeroCs zero z ∧ zero.length = esz ∧ z.cells.size = esz := by
  obtain ⟨d, hu, _, hk⟩ := kind_of hT hTt
  simp only [KindOk] at hk
  obtain ⟨rfl, hp, info, z, h1, h2, h3, h4, h5, h6⟩ := hk
  refine ⟨hu, hp, info, z, h1, h2, h3, h4, h5, h6, ?_⟩
  have := VRs.length (h5 ⟨fun _ => none, fun _ => none, fun _ => False, 0⟩).1
  simp at this; omega
omit hT in
theorem run_append_in {t ty e : TypeId} {info : TypeInfo} {w w' : World} {a : Addr} {sl sc n : Nat} {xv : Value} {ys : List Value} (hu : P.underlying t = some (.slice e)) (hi : P.info? e = some info)
    (hl : (Builtin.lenOf xv).run P w = .ok n w) (hf : (Builtin.firstCells info.size n xv).run P w = .ok ys.toArray w) (hroom : sl + n ≤ sc) (hst : (storeCells (a.add (sl * info.size)) ys).run P w = .ok () w') :
    (Builtin.append_ #[t, t] ty #[.slice (some a) sl sc, xv]).run P w = .ok (.slice (some a) (sl + n) sc) w' := by
  simp [Builtin.append_, run_underlying hu, sizeOf, typeInfo, hi, hl, hf, hroom, hst]
omit hT in
theorem splice_row {σ : Sig} {e : Ent} {cur : Array Value} {l news : List V} {ys : List Value} {base at_ : Nat} (hs1 : e.base + e.tot ≤ cur.size)
    (hc : ∀ (i : Nat) (v : V), l[i]? = some v → ∃ x, cur[e.base + i]? = some x ∧ VR σ v x ∧ x.oneCell' = true) (hy : VRs σ news ys) (h1 : ∀ x ∈ ys, x.oneCell' = true) (hb : base = e.base + at_)
    (hfit : at_ + ys.length ≤ e.tot) (i : Nat) (v : V) (hv : (l.take at_ ++ news ++ l.drop (at_ + news.length))[i]? = some v) (hle : at_ ≤ l.length) :
    ∃ x, (cur.toList.take base ++ ys ++ cur.toList.drop (base + ys.length)).toArray[e.base + i]? = some x ∧ VR σ v x ∧ x.oneCell' = true := by
  subst hb
  have hyl := VRs.length hy
  simp only [List.getElem?_toArray]
  have htl : (cur.toList.take (e.base + at_)).length = e.base + at_ := by simp; omega
  have hll : (l.take at_).length = at_ := by simp; omega
  rw [List.append_assoc] at hv ⊢
  by_cases c1 : i < at_
  · rw [List.getElem?_append_left (by omega), List.getElem?_take, if_pos c1] at hv
    obtain ⟨x, hx, hr⟩ := hc i v hv
    refine ⟨x, ?_, hr⟩
    rw [List.getElem?_append_left (by omega), List.getElem?_take, if_pos (by omega)]
    simpa using hx
  · rw [List.getElem?_append_right (by omega), hll] at hv
    rw [List.getElem?_append_right (by omega), htl]
    by_cases c2 : i - at_ < news.length
    · rw [List.getElem?_append_left c2] at hv
      obtain ⟨x, hx, hr⟩ := VRs.get hy hv
      refine ⟨x, ?_, hr, h1 x (List.mem_of_getElem? hx)⟩
      rw [List.getElem?_append_left (by omega), ← hx]; congr 1; omega
    · rw [List.getElem?_append_right (by omega), List.getElem?_drop] at hv
      obtain ⟨x, hx, hr⟩ := hc _ v hv
      refine ⟨x, ?_, hr⟩
      rw [List.getElem?_append_right (by omega), List.getElem?_drop, Array.getElem?_toList, ← hx]; congr 1; omega
theorem does_append {t ty : TypeId} {e esz bytes : Nat} {zero : List V} {s_ : Nat} {a_ : Bool} {z_ : V} {h : Hp} {x : V} {n : Nat} {news : List V} {i : Id} {off len : Nat} {b b' : Blk} {l : List V} (hTt : T t = some ⟨.slice e esz bytes zero, s_, a_, z_⟩)
    (hb : h.get i = some b) (hrow : b.row = some (true, l)) (hx : SegOf h esz x n news) (hfit : off + len * esz ≤ l.length) (hn : 0 < n)
    (hb' : b'.row = some (true, (l.drop off).take (len * esz) ++ news)) (hbd : (len + n) * bytes ≤ 140737488355328) (h63 : len + n ≤ 9223372036854775807) :
    Does P (opAppend #[t, t] ty) [.slice i off esz len none, x] h (.slice h.fresh 0 esz (len + n) none) ((h.set i .dead).push b') := by
  refine ⟨Hp.grows_trans (h.grows_set _ _) (Hp.grows_push _ _), ?_⟩
  intro σ w xs hr hxs
  obtain ⟨sv, xv, rfl, hsv, hxv⟩ := VRs_two hxs
  obtain ⟨hu, hp, info, z, hinfo, hsize, hbytes, hzero, hzc, hzl, hzsz⟩ := slice_kind hT hTt
  simp only [VR] at hsv
  obtain ⟨ee, cap, o, hi, hz, hlc, hl, ho, rfl⟩ := hsv
  have hblk := hr.blk i ee b hi hb
  obtain ⟨_, ob, hob, hrel⟩ := hblk
  rw [BlkRel_row hrow] at hrel
  obtain ⟨cur, TT, fz, rfl, hs1, hs2, hfz, hc⟩ := hrel
  have hfz := hfz rfl
  subst hfz
  obtain ⟨ys, hyl, hyr, hy1, hy⟩ := hx.real hr hxv
  obtain ⟨os, hol, hor, ho1, hoc⟩ := hr.seg hi hb hrow off (len * esz) hfit
  have hnl := hx.length
  have hmul : (len + n) * esz = len * esz + n * esz := Nat.add_mul _ _ _
  have hlen : (Builtin.lenOf xv).run P w = .ok n w ∧ (Builtin.firstCells info.size n xv).run P w = .ok ys.toArray w := by
    rcases hy with ⟨rfl, rfl, rfl⟩ | ⟨ad, c, rfl, hnc, hcell⟩
    · exact ⟨by simp [Builtin.lenOf], by simp [Builtin.firstCells]⟩
    · exact ⟨by simp [Builtin.lenOf], run_firstCells_some (P := P) w info.size n ad n c ys (by rw [hsize]; exact hyl) (cells_nil_of hyl hnc hcell)⟩
  by_cases hroom : len + n ≤ cap
  · -- there is room: the row is written on
    have hcap0 : cap ≠ 0 := by omega
    have hcm : (len + n) * esz ≤ cap * esz := Nat.mul_le_mul_right _ hroom
    have htot : off + (len + n) * esz ≤ ee.tot := by omega
    have hrun := run_storeCells_at P ee.rid (ee.base + (off + len * esz)) TT ys 0 cur w hob (by omega) hy1
    simp only [Nat.add_zero] at hrun
    have hst : (storeCells ((⟨ee.rid, o, none⟩ : Addr).add (len * info.size)) ys).run P w = .ok () (w.setRow ee.rid (cur.toList.take (ee.base + (off + len * esz)) ++ ys ++ cur.toList.drop (ee.base + (off + len * esz) + ys.length)).toArray) := by
      rw [add_at, ho hcap0, hsize, Nat.add_assoc]; exact hrun
    have hnone := hr.fresh_none
    have hle := Sig.le_put (e := (⟨ee.rid, ee.base + off, ee.tot - off⟩ : Ent)) hnone
    refine ⟨σ.put h.fresh ⟨ee.rid, ee.base + off, ee.tot - off⟩, _, _, run_valN (run_append_in hu hinfo hlen.1 hlen.2 hroom hst), ?_, ?_, ?_⟩
    · simp only [NextRel, VR]
      exact ⟨_, cap, o, Sig.put_same _ _ _, hz, hroom, by simp only; omega, fun hc0 => (ho hc0).trans (Nat.add_zero _).symm, rfl⟩
    · refine hr.rename hi hb (Blk.row_rw hrow) (Blk.row_alive hrow) (by simp) (fun r hne => setRow_other _ _ _ _ hne) (setRow_heap _ _ _ _ _ _ hob) rfl ((BlkRel_row hb').2 ⟨_, TT, (0, 0), rfl, ?_, ?_, fun _ => rfl, ?_⟩)
      · simp only; simp; omega
      · simp only; simp; omega
      · intro j v hv
        have hv' : (l.take (off + len * esz) ++ news ++ l.drop (off + len * esz + news.length))[off + j]? = some v := by
          have hv : ((l.drop off).take (len * esz) ++ news)[j]? = some v := hv
          have htk : (l.take (off + len * esz)).length = off + len * esz := by simp; omega
          have htk2 : ((l.drop off).take (len * esz)).length = len * esz := by simp; omega
          rw [List.append_assoc]
          by_cases c1 : j < len * esz
          · rw [List.getElem?_append_left (by omega), List.getElem?_take, if_pos c1, List.getElem?_drop] at hv
            rw [List.getElem?_append_left (by omega), List.getElem?_take, if_pos (by omega)]; exact hv
          · rw [List.getElem?_append_right (by omega), htk2] at hv
            rw [List.getElem?_append_right (by omega), htk]
            have hjl : j - len * esz < news.length := (List.getElem?_eq_some_iff.1 hv).1
            rw [List.getElem?_append_left (by omega), ← hv]; congr 1; omega
        obtain ⟨x, hx1, hx2, hx3⟩ := splice_row (base := ee.base + (off + len * esz)) hs1 hc hyr hy1 rfl (by omega) (off + j) v hv' hfit
        exact ⟨x, (congrArg _ (Nat.add_assoc _ _ _)).trans hx1, VR.mono hle _ _ hx2, hx3⟩
    · exact Ext.rename hr hi hb (Blk.row_rw hrow) (Blk.row_rw hb') rfl (by simp) rfl rfl rfl (fun r hne => setRow_other _ _ _ _ hne)
  · -- it grows: a new row
    have hoc' : ∀ (j : Nat) (v : Value), os[j]? = some v → w.cell? ((⟨ee.rid, o, none⟩ : Addr).add j) = some v := by
      intro j v hv
      have hjl : j < len * esz := by rw [← hol]; exact (List.getElem?_eq_some_iff.1 hv).1
      have hc0 : cap ≠ 0 := by
        intro h0
        have : len = 0 := by omega
        subst this; omega
      rw [add_at, ho hc0, Nat.add_assoc]; exact hoc j v hv
    rcases hy with ⟨_, rfl, _⟩ | ⟨ad, c, rfl, hnc, hcell⟩
    · omega
    · have hrun := run_append_grow (P := P) w t ty e info z hu hinfo hzero ⟨ee.rid, o, none⟩ len cap os (by rw [hsize]; exact hol) hoc' ad n c ys (by rw [hsize]; exact hyl) (cells_nil_of hyl hnc hcell) (by omega) (by omega) (by rw [hbytes]; exact growslice_fits (by omega) hbd)
      have hk := hr.kill hb
      have hfr : (h.set i .dead).fresh = h.fresh := by cases i <;> simp [Hp.fresh, Hp.set]
      obtain ⟨r1, r2⟩ := grown_new hk (e := e) (esz := esz) (need := len + n) (c := grownCap w (len + n) cap e) hb' (VRs.append hor hyr) (by intro x hx; rcases List.mem_append.1 hx with hx | hx; exact ho1 x hx; exact hy1 x hx) (by simp only [List.length_append]; omega) hzsz (grownCap_ge w (len + n) cap e)
      rw [hfr] at r1 r2
      have harr : os.toArray ++ ys.toArray = (os ++ ys).toArray := by simp
      rw [harr] at hrun
      refine ⟨_, _, _, run_valN hrun, ?_, r1, (Ext.kill hb).trans r2⟩
      simp only [NextRel, VR]
      exact ⟨_, grownCap w (len + n) cap e, 0, Sig.put_same _ _ _, hp, grownCap_ge w (len + n) cap e, by simp, fun _ => rfl, rfl⟩
end
end Go.Vm

