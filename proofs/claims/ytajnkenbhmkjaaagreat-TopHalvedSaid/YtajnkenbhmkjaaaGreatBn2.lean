/- Part 2 of the proof that two base points leave no enclaves. No condition. -/
import Derived.Test.YtajnkenbhmkjaaaGreatBn1
set_option linter.unusedVariables false
set_option linter.unusedSimpArgs false
namespace Go.Vm
open Classical

/-! ### The names in a value -/

noncomputable def Sig.on (σ : Sig) (D : Id → Prop) : Sig := ⟨fun i => if D i then σ i else none, σ.fz, fun i => D i ∧ σ.nm i, σ.lo⟩
theorem Sig.on_some {σ : Sig} {D : Id → Prop} {i : Id} {e : Ent} (h : σ.on D i = some e) : D i ∧ σ i = some e := by
  have h : (if D i then σ i else none) = some e := h
  split at h
  · exact ⟨by assumption, h⟩
  · cases h
theorem Sig.on_of {σ : Sig} {D : Id → Prop} {i : Id} {e : Ent} (h : σ i = some e) (hd : D i) : σ.on D i = some e := by
  show (if D i then σ i else none) = some e
  rw [if_pos hd]; exact h
theorem Sig.on_le (σ : Sig) (D : Id → Prop) : (σ.on D).le σ := ⟨fun _ _ h => (Sig.on_some h).2, fun _ _ h => h, fun _ h => h.2⟩
def Sig.dom (σ : Sig) : Id → Prop := fun i => σ i ≠ none
theorem Sig.on_dom {σ : Sig} {D : Id → Prop} {i : Id} (h : (σ.on D).dom i) : D i := by
  unfold Sig.dom at h
  cases hx : σ.on D i with
  | none => exact absurd hx h
  | some e => exact (Sig.on_some hx).1
structure Sig.within (τ : Sig) (D : Id → Prop) : Prop where
  ent : ∀ i, τ i ≠ none → D i
  nm : ∀ i, τ.nm i → D i
theorem Sig.within_on {σ : Sig} {D : Id → Prop} : (σ.on D).within D := ⟨fun _ h => Sig.on_dom h, fun _ h => h.1⟩
theorem Sig.within.mono {τ : Sig} {D D' : Id → Prop} (h : τ.within D) (hd : ∀ i, D i → D' i) : τ.within D' := ⟨fun i hi => hd i (h.ent i hi), fun i hi => hd i (h.nm i hi)⟩
mutual
theorem VR_on {σ τ : Sig} {D : Id → Prop} (hd : τ.within D) : ∀ (v : V) (x y : Value), VR τ v y → VR σ v x → VR (σ.on D) v x
  | .undef, _, _, _, _ => by simp [VR]
  | .s _, _, _, _, h => h
  | .lit _, _, _, _, h => h
  | .nilptr, _, _, _, h => h
  | .ptr i off, _, _, k, h => by
    simp only [VR] at h k ⊢
    obtain ⟨e, h1, h2⟩ := h; obtain ⟨e', k1, _⟩ := k
    exact ⟨e, Sig.on_of h1 (hd.ent _ (by rw [k1]; simp)), h2⟩
  | .nilslice, _, _, _, h => h
  | .slice i off esz len lim, _, _, k, h => by
    simp only [VR] at h k ⊢
    obtain ⟨e, cap, o, h1, h2⟩ := h; obtain ⟨e', cap', o', k1, _⟩ := k
    exact ⟨e, cap, o, Sig.on_of h1 (hd.ent _ (by rw [k1]; simp)), h2⟩
  | .gl i esz len, _, _, k, h => by
    simp only [VR] at h k ⊢
    obtain ⟨hp, k⟩ := k
    obtain ⟨_, h⟩ := h
    refine ⟨hp, ?_⟩
    have hD : D i := by
      rcases k with ⟨_, k1, _⟩ | ⟨e', cap', o', k1, _⟩
      · exact hd.nm _ k1
      · exact hd.ent _ (by rw [k1]; simp)
    rcases h with h | ⟨e, cap, o, h1, h2⟩
    · exact .inl ⟨h.1, ⟨hD, h.2.1⟩, h.2.2⟩
    · exact .inr ⟨e, cap, o, Sig.on_of h1 hD, h2⟩
  | .nilmap, _, _, _, h => h
  | .map i, _, _, k, h => by
    simp only [VR] at h k ⊢
    obtain ⟨e, h1, h2⟩ := h; obtain ⟨e', k1, _⟩ := k
    exact ⟨e, Sig.on_of h1 (hd.ent _ (by rw [k1]; simp)), h2⟩
  | .func fn f c, _, _, k, h => by
    simp only [VR] at h k ⊢
    obtain ⟨f', c', h1, h2, h3⟩ := h; obtain ⟨f2, c2, _, k2, k3⟩ := k
    exact ⟨f', c', h1, VRs_on hd _ _ _ k2 h2, VRs_on hd _ _ _ k3 h3⟩
  | .yld i, _, _, k, h => by
    simp only [VR] at h k ⊢
    obtain ⟨e, h1, h2⟩ := h; obtain ⟨e', k1, _⟩ := k
    exact ⟨e, Sig.on_of h1 (hd.ent _ (by rw [k1]; simp)), h2⟩
  | .nilfunc, _, _, _, h => h
  | .agg cs, _, _, k, h => by
    simp only [VR] at h k ⊢
    obtain ⟨a, h1, h2⟩ := h; obtain ⟨a', _, k2⟩ := k
    exact ⟨a, h1, VRs_on hd _ _ _ k2 h2⟩
  | .tuple cs, _, _, k, h => by
    simp only [VR] at h k ⊢
    obtain ⟨a, h1, h2⟩ := h; obtain ⟨a', _, k2⟩ := k
    exact ⟨a, h1, VRs_on hd _ _ _ k2 h2⟩
  | .fs a b c, _, _, _, h => by simpa only [VR, Sig.on] using h
  | .fp c, _, _, _, h => by simpa only [VR, Sig.on] using h
  | .fm a b, _, _, _, h => by simpa only [VR, Sig.on] using h
theorem VRs_on {σ τ : Sig} {D : Id → Prop} (hd : τ.within D) : ∀ (v : List V) (x y : List Value), VRs τ v y → VRs σ v x → VRs (σ.on D) v x
  | [], _, _, _, h => by simpa [VRs] using h
  | v :: vs, _, _, k, h => by
    simp only [VRs] at h k ⊢
    obtain ⟨x, xs, h1, h2, h3⟩ := h; obtain ⟨y, ys, _, k2, k3⟩ := k
    exact ⟨x, xs, h1, VR_on hd _ _ _ k2 h2, VRs_on hd _ _ _ k3 h3⟩
end

def Vin (D : Id → Prop) (v : V) : Prop := ∃ (τ : Sig) (y : Value), τ.within D ∧ VR τ v y
def Vsin (D : Id → Prop) (vs : List V) : Prop := ∃ (τ : Sig) (ys : List Value), τ.within D ∧ VRs τ vs ys
theorem Vin.mono {D D' : Id → Prop} {v : V} (h : Vin D v) (hd : ∀ i, D i → D' i) : Vin D' v := by
  obtain ⟨τ, y, h1, h2⟩ := h; exact ⟨τ, y, h1.mono hd, h2⟩
theorem Vin.vr {D : Id → Prop} {v : V} {σ : Sig} {x : Value} (h : Vin D v) (hx : VR σ v x) : VR (σ.on D) v x := by
  obtain ⟨τ, y, h1, h2⟩ := h; exact VR_on h1 _ _ _ h2 hx
def Bin (D : Id → Prop) (b : Blk) : Prop := ∃ (τ : Sig) (e : Ent) (o : Obj), τ.within D ∧ BlkRel τ e b o
theorem Bin.mono {D D' : Id → Prop} {b : Blk} (h : Bin D b) (hd : ∀ i, D i → D' i) : Bin D' b := by
  obtain ⟨τ, e, o, h1, h2⟩ := h; exact ⟨τ, e, o, h1.mono hd, h2⟩
theorem EsRel_on {σ τ : Sig} {D : Id → Prop} (hd : τ.within D) : ∀ (es : List (V × V)) (ms ms' : List MapEntry), EsRel τ es ms' → EsRel σ es ms → EsRel (σ.on D) es ms
  | [], _, _, _, h => by simpa [EsRel] using h
  | (k, v) :: es, _, _, h', h => by
    simp only [EsRel] at h h' ⊢
    obtain ⟨m, ms, h1, h2, h3, h4⟩ := h; obtain ⟨m', ms', _, k2, k3, k4⟩ := h'
    exact ⟨m, ms, h1, VR_on hd _ _ _ k2 h2, VR_on hd _ _ _ k3 h3, EsRel_on hd _ _ _ k4 h4⟩
theorem RowRel_on {σ τ : Sig} {D : Id → Prop} (hd : τ.within D) {e e' : Ent} {rw : Bool} {n : Nat} {at_ : Nat → Option V} {o o' : Obj} (h' : RowRel τ e' rw n at_ o') (h : RowRel σ e rw n at_ o) : RowRel (σ.on D) e rw n at_ o := by
  obtain ⟨c, t, f, a1, a2, a3, a4, a5⟩ := h
  obtain ⟨_, _, _, _, _, _, _, b5⟩ := h'
  refine ⟨c, t, f, a1, a2, a3, a4, fun i v hv => ?_⟩
  obtain ⟨x, c1, c2, c3⟩ := a5 i v hv
  obtain ⟨y, _, d2, _⟩ := b5 i v hv
  exact ⟨x, c1, VR_on hd _ _ _ d2 c2, c3⟩
theorem BlkRel_on {σ τ : Sig} {D : Id → Prop} (hd : τ.within D) {e e' : Ent} {b : Blk} {o o' : Obj} (h' : BlkRel τ e' b o') (h : BlkRel σ e b o) : BlkRel (σ.on D) e b o := by
  cases b with
  | flat rw l => exact RowRel_on hd h' h
  | cells rw l => exact RowRel_on hd h' h
  | map es =>
    obtain ⟨ms, cl, h1, h2⟩ := h; obtain ⟨ms', _, _, k2⟩ := h'
    exact ⟨ms, cl, h1, EsRel_on hd _ _ _ k2 h2⟩
  | loop r =>
    obtain ⟨fn, tmps, em, h1, h2, h3, h4⟩ := h; obtain ⟨_, tmps', em', _, k2, k3, _⟩ := h'
    exact ⟨fn, tmps, em, h1, Sig.on_of h2 (hd.ent _ (by rw [k2]; simp)), fun i => VR_on hd _ _ _ (k3 i) (h3 i), h4⟩
  | mark => exact h
  | dead => trivial
theorem Bin.br {D : Id → Prop} {b : Blk} {σ : Sig} {e : Ent} {o : Obj} (h : Bin D b) (hx : BlkRel σ e b o) : BlkRel (σ.on D) e b o := by
  obtain ⟨τ, e', o', h1, h2⟩ := h; exact BlkRel_on h1 h2 hx
end Go.Vm

namespace Go.Vm
open Classical

/-! ### What an operation looks at -/

def opnds (o : Oper) : List Operand := match o.op with
  | .move x | .assign x | .box _ x | .load _ x | .nilCheck x | .unOp _ _ x | .convert _ _ x | .fieldAddr _ x _ | .field _ x _ | .extract x _ => [x]
  | .pick c a b => [c, a, b]
  | .build _ ps | .buildSlice _ _ ps => ps.toList.map (·.2)
  | .store _ a v | .binOp _ _ a v _ | .makeSlice _ a v | .indexAddr _ a v | .index _ a v | .lookup _ a v _ => [a, v]
  | .makeFunc _ first captured => first.toList ++ captured.toList
  | .slice _ x none none none => [x]
  | .slice _ x (some l) none none => [x, l]
  | .slice _ x none (some l) none => [x, l]
  | .slice _ x (some l) (some m) none => [x, l, m]
  | .mapUpdate _ m k v => [m, k, v]
  | .alloc _ => []
  | .call c => match c.callee with
    | .value f => f :: c.args.toList
    | .builtin _ => c.args.toList
    | _ => c.operands.toList
  | op => op.operands.toList
theorem opnds_sub (o : Oper) : ∀ x ∈ opnds o, x ∈ o.op.operands := by
  intro x hx
  unfold opnds at hx
  split at hx <;> rename_i ho <;> (try rw [ho]) <;> simp only [Op.operands] <;> (try (simp at hx ⊢; exact hx)) <;> (try (simp at hx ⊢; done))
  · split at hx <;> rename_i hc
    · simp only [Call.operands, hc]; simpa using hx
    · simp only [Call.operands, hc]; simpa using hx
    · simpa using hx
  · have h2 : x ∈ o.op.operands := by simpa using hx
    simpa only [Op.operands] using h2
def isTmp (t : Nat) : Operand → Bool
  | .tmp d => Nat.beq d t
  | _ => false
def evT (o : Oper) (fr : Fr) (x : Operand) : V := match x with
  | .tmp t => match (opnds o).any (isTmp t) with
    | true => fr.at t
    | false => .undef
  | x => ev fr x
theorem looks_of {ops : Array Oper} {o : Oper} {t : Nat} (h : (opnds o).any (isTmp t) = true) : t ∈ o.looksAt ops := by
  rw [List.any_eq_true] at h
  obtain ⟨x, hx, ht⟩ := h
  cases x <;> simp [isTmp] at ht
  subst ht
  exact List.mem_append_left _ (List.mem_filterMap.2 ⟨.tmp _, by simpa using opnds_sub o _ hx, rfl⟩)
theorem evT_ok {σ : Sig} {ops : Array Oper} {o : Oper} {fr : Fr} {a : Act} (h : ∀ t ∈ o.looksAt ops, VR σ (fr.at t) (a.tmps.getD t undef)) (x : Operand) : VR σ (evT o fr x) (a.eval x) := by
  cases x with
  | tmp t =>
    simp only [evT]
    split
    · rename_i hx; exact h t (looks_of hx)
    · simp [VR]
  | const v => exact VR_ofValue σ 4 v
  | global g => simp [evT, ev, VR]
  | func f => simp [evT, ev, VR, VRs, Act.eval]
/-! ### Records of what the order of the text comes to -/

inductive Kd where
  | lite
  | load (β : Id)
  | alloc (cs : List V)
  | glob
structure Rec where
  o : Oper
  run : Bool
  kd : Kd
  v : V
  fr : Fr
  h : Hp
  h' : Hp
def PureOk (P : Program) (o : Oper) (ρv : Operand → V) (v : V) : Prop :=
  (∀ c, o.op ≠ .defer c) ∧ ∀ (σ : Sig) (w : World) (ρ : Operand → Value), FzIn σ w → (∀ x, VR σ (ρv x) (ρ x)) → ∃ x, (execOp ρ o).run P w = .ok (.value x) w ∧ VR σ v x
def LdOk (P : Program) (o : Oper) (ρv : Operand → V) (β : Id) (b : Option Blk) (v : V) : Prop :=
  (∀ c, o.op ≠ .defer c) ∧ ∀ (σ : Sig) (w : World) (ρ : Operand → Value), (∀ e bl, σ β = some e → b = some bl → e.rid < w.heap.size ∧ ∃ ob, w.heap[e.rid]? = some ob ∧ BlkRel σ e bl ob) →
    (∀ x, VR σ (ρv x) (ρ x)) → ∃ x, (execOp ρ o).run P w = .ok (.value x) w ∧ VR σ v x
def RecOk (P : Program) (ro : Option Nat) (r : Rec) : Prop :=
  match r.run with
  | false => r.kd = .lite ∧ r.v = .tuple [] ∧ r.h' = r.h
  | true => match r.kd with
    | .lite => PureOk P r.o (evT r.o r.fr) r.v ∧ r.h' = r.h
    | .load β => LdOk P r.o (evT r.o r.fr) β (r.h.get β) r.v ∧ r.h' = r.h
    | .alloc cs => ∃ k, AllocOk P r.o (evT r.o r.fr) k cs ∧ r.v = k.mk r.h.fresh ∧ r.h' = r.h.push (mkBlk cs)
    | .glob => OpDoes P ro r.o (evT r.o r.fr) r.h r.v r.h'
def WantOk (ops : Array Oper) (r : Rec) : Prop :=
  match r.o.guard with
  | none => r.run = true
  | some (j, want) => ∃ d, gslot ops.toList j = some d ∧ ((∃ b, r.fr.at d = .s (.bool b) ∧ r.run = (b == want)) ∨ ∃ l, r.fr.at d = .tuple l ∧ r.run = false)
def hatOf (recs : List Rec) (hN : Hp) (j : Nat) : Hp := match recs[j]? with | some r => r.h | none => hN
def fatOf (recs : List Rec) (frN : Fr) (j : Nat) : Fr := match recs[j]? with | some r => r.fr | none => frN
structure Tc (P : Program) (ro : Option Nat) (ops : Array Oper) (n : Nat) (recs : List Rec) (hN : Hp) (frN : Fr) (D : Nat → Nat → Prop) : Prop where
  len : recs.length = ops.size
  op : ∀ (j : Nat) (r : Rec), recs[j]? = some r → ops[j]? = some r.o
  hs : ∀ (j : Nat) (r : Rec), recs[j]? = some r → hatOf recs hN (j + 1) = r.h'
  fs : ∀ (j : Nat) (r : Rec), recs[j]? = some r → ∀ x, (fatOf recs frN (j + 1)).at x = if r.o.dst = some x then r.v else r.fr.at x
  dst : ∀ (j : Nat) (r : Rec) (x : Nat), recs[j]? = some r → r.o.dst = some x → x < n
  ok : ∀ (j : Nat) (r : Rec), recs[j]? = some r → RecOk P ro r
  want : ∀ (j : Nat) (r : Rec), recs[j]? = some r → WantOk ops r
  back : ∀ (j : Nat) (o : Oper) (e : Edge), ops[j]? = some o → e ∈ o.after → Region.binds .any e = true → e.on < j ∧ D e.on j
  clo : ∀ i j, D i j → i < j ∧ ∃ (o : Oper) (e : Edge), ops[j]? = some o ∧ e ∈ o.after ∧ Region.binds .any e = true ∧ (i = e.on ∨ D i e.on)
  apart : ∀ (i j : Nat) (oi oj : Oper), i < j → ops[i]? = some oi → ops[j]? = some oj → ¬ D i j → oi.apart ops oj = true
  globs : ∀ (i j : Nat) (ri rj : Rec), i < j → recs[i]? = some ri → recs[j]? = some rj → ri.kd = .glob → rj.kd = .glob → D i j
  c1 : ∀ (i j : Nat) (ri rj : Rec) (β : Id), i < j → recs[i]? = some ri → recs[j]? = some rj → ¬ D i j → ri.kd = .glob → rj.kd = .load β → ri.h'.get β = ri.h.get β
  c2 : ∀ (i j : Nat) (ri rj : Rec) (β : Id), i < j → recs[i]? = some ri → recs[j]? = some rj → ¬ D i j → ri.kd = .load β → rj.kd = .glob → rj.h'.get β = rj.h.get β
  c3 : ∀ (i j : Nat) (ri rj : Rec) (cs : List V), i < j → recs[i]? = some ri → recs[j]? = some rj → ¬ D i j → ri.kd = .alloc cs → rj.kd = .glob → rj.h'.get ri.h.fresh = rj.h.get ri.h.fresh
section
variable {P : Program} {ro : Option Nat} {ops : Array Oper} {n : Nat} {recs : List Rec} {hN : Hp} {frN : Fr} {D : Nat → Nat → Prop}

theorem hat_rec {j : Nat} {r : Rec} (h : recs[j]? = some r) : hatOf recs hN j = r.h := by simp [hatOf, h]
theorem fat_rec {j : Nat} {r : Rec} (h : recs[j]? = some r) : fatOf recs frN j = r.fr := by simp [fatOf, h]
def Cr (recs : List Rec) (i : Id) (a : Nat) : Prop := ∃ r cs, recs[a]? = some r ∧ r.kd = .alloc cs ∧ i = r.h.fresh
def Fix (recs : List Rec) (hN : Hp) (k : Nat) (i : Id) : Prop := (hatOf recs hN (k + 1)).get i = (hatOf recs hN k).get i
def dm (recs : List Rec) (hN : Hp) (j : Nat) : Id → Prop := fun i => (hatOf recs hN j).get i ≠ none
theorem fix_end {k : Nat} (hk : recs[k]? = none) (i : Id) : Fix recs hN k i := by
  have : recs[k + 1]? = none := by rw [List.getElem?_eq_none_iff] at hk ⊢; omega
  simp [Fix, hatOf, hk, this]
theorem Tc.fix (T : Tc P ro ops n recs hN frN D) {k : Nat} {r : Rec} (hk : recs[k]? = some r) (hg : r.kd ≠ .glob) {i : Id} (ha : ∀ cs, r.kd = .alloc cs → i ≠ r.h.fresh) : Fix recs hN k i := by
  unfold Fix
  rw [T.hs k r hk, hat_rec hk]
  have h := T.ok k r hk
  unfold RecOk at h
  split at h
  · rw [h.2.2]
  · split at h
    · rw [h.2]
    · rw [h.2]
    · rename_i cs hkd
      obtain ⟨_, _, _, h2⟩ := h
      rw [h2, Hp.get_push, if_neg (ha _ hkd)]
    · rename_i hkd; exact absurd hkd hg
theorem Tc.alloc_get (T : Tc P ro ops n recs hN frN D) {k : Nat} {r : Rec} {cs : List V} (hk : recs[k]? = some r) (ha : r.kd = .alloc cs) : (hatOf recs hN (k + 1)).get r.h.fresh = some (mkBlk cs) := by
  rw [T.hs k r hk]
  have h := T.ok k r hk
  unfold RecOk at h
  split at h
  · rw [ha] at h; simp at h
  · rw [ha] at h
    obtain ⟨_, _, _, h2⟩ := h
    rw [h2, Hp.get_push, if_pos rfl]
theorem Tc.grow1 (T : Tc P ro ops n recs hN frN D) (k : Nat) (i : Id) (hi : dm recs hN k i) : dm recs hN (k + 1) i := by
  unfold dm at hi ⊢
  cases hk : recs[k]? with
  | none => rw [fix_end hk i]; exact hi
  | some r =>
    by_cases hg : r.kd = .glob
    · have h := T.ok k r hk
      unfold RecOk at h
      rw [hg] at h
      split at h
      · simp at h
      · rw [T.hs k r hk]
        rw [hat_rec hk] at hi
        exact h.1 i hi
    · by_cases ha : ∃ cs, r.kd = .alloc cs ∧ i = r.h.fresh
      · obtain ⟨cs, h1, rfl⟩ := ha
        rw [T.alloc_get hk h1]; simp
      · rw [T.fix hk hg (fun cs h1 h2 => ha ⟨cs, h1, h2⟩)]; exact hi
theorem Tc.grow (T : Tc P ro ops n recs hN frN D) {p q : Nat} (hpq : p ≤ q) {i : Id} (hi : dm recs hN p i) : dm recs hN q i := by
  induction hpq with
  | refl => exact hi
  | step _ ih => exact T.grow1 _ i ih
theorem dm_loc {j k : Nat} : dm recs hN j (.loc k) ↔ k < (hatOf recs hN j).loc.length := by
  unfold dm
  simp only [Hp.get, ne_eq, List.getElem?_eq_none_iff]
  omega
theorem Tc.len_mono (T : Tc P ro ops n recs hN frN D) {p q : Nat} (hpq : p ≤ q) : (hatOf recs hN p).loc.length ≤ (hatOf recs hN q).loc.length := by
  rcases Nat.lt_or_ge (hatOf recs hN q).loc.length (hatOf recs hN p).loc.length with h | h
  · have h1 : dm recs hN p (.loc (hatOf recs hN q).loc.length) := dm_loc.2 h
    have h2 := dm_loc.1 (T.grow hpq h1)
    omega
  · exact h
theorem Cr.eq {i : Id} {a : Nat} (h : Cr recs i a) : i = .loc (hatOf recs hN a).loc.length := by
  obtain ⟨r, cs, h1, _, rfl⟩ := h
  rw [hat_rec h1]; rfl
theorem Tc.cr_after (T : Tc P ro ops n recs hN frN D) {i : Id} {a p : Nat} (h : Cr recs i a) (hp : a + 1 ≤ p) : dm recs hN p i := by
  refine T.grow hp ?_
  obtain ⟨r, cs, h1, h2, rfl⟩ := h
  unfold dm; rw [T.alloc_get h1 h2]; simp
theorem Tc.cr_before (T : Tc P ro ops n recs hN frN D) {i : Id} {a p : Nat} (h : Cr recs i a) (hp : p ≤ a) : ¬ dm recs hN p i := by
  rw [h.eq (hN := hN), dm_loc]
  have := T.len_mono hp
  omega
theorem Tc.cr_uniq (T : Tc P ro ops n recs hN frN D) {i : Id} {a b : Nat} (h : Cr recs i a) (k : Cr recs i b) : a = b := by
  rcases Nat.lt_trichotomy a b with h1 | h1 | h1
  · exact absurd (T.cr_after h h1) (T.cr_before k (Nat.le_refl _))
  · exact h1
  · exact absurd (T.cr_after k h1) (T.cr_before h (Nat.le_refl _))
theorem fix_chain {i : Id} {p q : Nat} (hpq : p ≤ q) (h : ∀ k, p ≤ k → k < q → Fix recs hN k i) : (hatOf recs hN q).get i = (hatOf recs hN p).get i := by
  induction hpq with
  | refl => rfl
  | @step m hm ih => rw [show (hatOf recs hN (m + 1)).get i = _ from h m hm (Nat.lt_succ_self _), ih fun k h1 h2 => h k h1 (by omega)]
theorem Tc.fixed (T : Tc P ro ops n recs hN frN D) {i : Id} {k : Nat} (hg : ∀ r, recs[k]? = some r → r.kd = .glob → Fix recs hN k i) (ha : ¬ Cr recs i k) : Fix recs hN k i := by
  cases hk : recs[k]? with
  | none => exact fix_end hk i
  | some r =>
    by_cases h1 : r.kd = .glob
    · exact hg r hk h1
    · exact T.fix hk h1 fun cs h2 h3 => ha ⟨r, cs, hk, h2, h3⟩
/-! ### What is known when these operations have run -/

noncomputable def gS (recs : List Rec) (hN : Hp) (S : Nat → Prop) (G : Nat) : Id → Option Blk := fun i =>
  if h : ∃ a, Cr recs i a then (if S (Classical.choose h) then (hatOf recs hN (max G (Classical.choose h + 1))).get i else none) else (hatOf recs hN G).get i
theorem Tc.gS_cr (T : Tc P ro ops n recs hN frN D) {S : Nat → Prop} {G : Nat} {i : Id} {a : Nat} (h : Cr recs i a) : gS recs hN S G i = if S a then (hatOf recs hN (max G (a + 1))).get i else none := by
  have hx : ∃ a, Cr recs i a := ⟨a, h⟩
  unfold gS
  rw [dif_pos hx, T.cr_uniq (Classical.choose_spec hx) h]
theorem gS_nc {S : Nat → Prop} {G : Nat} {i : Id} (h : ¬ ∃ a, Cr recs i a) : gS recs hN S G i = (hatOf recs hN G).get i := by
  unfold gS; rw [dif_neg h]
def VerOk (recs : List Rec) (hN : Hp) (G : Nat) (i : Id) (p : Nat) : Prop := (∀ a, Cr recs i a → a + 1 ≤ p) ∧ ∀ k, p ≤ k → k < G → Fix recs hN k i
def LastIn (recs : List Rec) (fr0 : Fr) (S : Nat → Prop) (x : Nat) (v : V) : Prop :=
  (v = fr0.at x ∧ ∀ (k : Nat) (r : Rec), S k → recs[k]? = some r → r.o.dst ≠ some x) ∨
  ∃ (k : Nat) (r : Rec), S k ∧ recs[k]? = some r ∧ r.o.dst = some x ∧ v = r.v ∧ ∀ (k' : Nat) (r' : Rec), S k' → recs[k']? = some r' → r'.o.dst = some x → k' ≤ k
theorem LastIn.congr {fr0 : Fr} {S S' : Nat → Prop} {x : Nat} {v : V} (h : LastIn recs fr0 S x v) (hc : ∀ (k : Nat) (r : Rec), recs[k]? = some r → r.o.dst = some x → (S k ↔ S' k)) : LastIn recs fr0 S' x v := by
  rcases h with ⟨h1, h2⟩ | ⟨k, r, h1, h2, h3, h4, h5⟩
  · exact .inl ⟨h1, fun k r hk hr hd => h2 k r ((hc k r hr hd).2 hk) hr hd⟩
  · exact .inr ⟨k, r, (hc k r h2 h3).1 h1, h2, h3, h4, fun k' r' hk hr hd => h5 k' r' ((hc k' r' hr hd).2 hk) hr hd⟩
theorem Tc.lastF (T : Tc P ro ops n recs hN frN D) (x : Nat) : ∀ j, LastIn recs (fatOf recs frN 0) (· < j) x ((fatOf recs frN j).at x)
  | 0 => .inl ⟨rfl, fun k r hk _ _ => absurd hk (Nat.not_lt_zero k)⟩
  | j + 1 => by
    have ih := T.lastF x j
    cases hj : recs[j]? with
    | none =>
      have hj1 : recs[j + 1]? = none := by rw [List.getElem?_eq_none_iff] at hj ⊢; omega
      have e : fatOf recs frN (j + 1) = fatOf recs frN j := by simp [fatOf, hj, hj1]
      rw [e]
      refine ih.congr fun k r hr _ => ⟨fun h => Nat.lt_succ_of_lt h, fun h => ?_⟩
      rcases Nat.lt_succ_iff_lt_or_eq.1 h with h1 | rfl
      · exact h1
      · rw [hr] at hj; cases hj
    | some r =>
      rw [T.fs j r hj]
      by_cases hd : r.o.dst = some x
      · rw [if_pos hd]
        exact .inr ⟨j, r, Nat.lt_succ_self j, hj, hd, rfl, fun k' _ hk _ _ => Nat.le_of_lt_succ hk⟩
      · rw [if_neg hd, ← fat_rec (frN := frN) hj]
        refine ih.congr fun k r' hr hd' => ⟨fun h => Nat.lt_succ_of_lt h, fun h => ?_⟩
        rcases Nat.lt_succ_iff_lt_or_eq.1 h with h1 | rfl
        · exact h1
        · rw [hr] at hj; cases hj; exact absurd hd' hd
structure Inv (P : Program) (recs : List Rec) (hN : Hp) (frN : Fr) (n : Nat) (marks : List Id) (σ0 : Sig) (w0 : World) (S : Nat → Prop) (σ : Sig) (G : Nat) (a : Act) (w : World) : Prop where
  iG : ∀ (g : Nat) (r : Rec), recs[g]? = some r → r.kd = .glob → (S g ↔ g < G)
  rel : Rel σ (gS recs hN S G) w
  slot : ∀ x v, LastIn recs (fatOf recs frN 0) S x v → VR σ v (a.tmps.getD x undef)
  wfv : ∀ (k : Nat) (r : Rec), S k → recs[k]? = some r → Vin (dm recs hN (k + 1)) r.v
  wfb : ∀ i b p, σ i ≠ none → VerOk recs hN G i p → gS recs hN S G i = some b → Bin (dm recs hN p) b
  size : n ≤ a.tmps.size
  mks : MarksRel σ (gS recs hN S G) w marks a.defers
  ext : ExtK allIds σ0 (hatOf recs hN 0) w0 σ (gS recs hN S G) w
  wf0 : ∀ x, Vin (dm recs hN 0) ((fatOf recs frN 0).at x)
structure Cls (D : Nat → Nat → Prop) (S : Nat → Prop) (j : Nat) : Prop where
  new : ¬ S j
  down : ∀ i, D i j → S i
  clo : ∀ k i, S k → D i k → S i
section
variable {marks : List Id} {σ0 : Sig} {w0 : World} {S : Nat → Prop} {σ : Sig} {G : Nat} {a : Act} {w : World}

theorem Tc.read (T : Tc P ro ops n recs hN frN D) {j : Nat} {r : Rec} (hj : recs[j]? = some r) (hc : Cls D S j) {x : Nat} (hx : x ∈ r.o.looksAt ops) : LastIn recs (fatOf recs frN 0) S x (r.fr.at x) := by
  have h := T.lastF x j
  rw [fat_rec hj] at h
  refine h.congr fun k rk hk hd => ⟨fun hlt => ?_, fun hs => ?_⟩
  · by_cases hD : D k j
    · exact hc.down k hD
    · have := (Oper.apart_spec (T.apart k j _ _ hlt (T.op k rk hk) (T.op j r hj) hD)).1 x hd
      exact absurd hx this
  · rcases Nat.lt_trichotomy k j with h1 | h1 | h1
    · exact h1
    · subst h1; exact absurd hs hc.new
    · by_cases hD : D j k
      · exact absurd (hc.clo k j hs hD) hc.new
      · have := (Oper.apart_spec (T.apart j k _ _ h1 (T.op j r hj) (T.op k rk hk) hD)).2.2 x hd
        exact absurd hx this
theorem LastIn.wf (T : Tc P ro ops n recs hN frN D) (I : Inv P recs hN frN n marks σ0 w0 S σ G a w) {x j : Nat} {v : V} (h : LastIn recs (fatOf recs frN 0) S x v) (hw : ∀ (k : Nat) (r : Rec), S k → recs[k]? = some r → r.o.dst = some x → k < j) :
    Vin (dm recs hN j) v := by
  rcases h with ⟨rfl, _⟩ | ⟨k, r, h1, h2, h3, rfl, _⟩
  · exact (I.wf0 x).mono fun i hi => T.grow (Nat.zero_le j) hi
  · exact (I.wfv k r h1 h2).mono fun i hi => T.grow (hw k r h1 h2 h3) hi
theorem Inv.opnds (T : Tc P ro ops n recs hN frN D) (I : Inv P recs hN frN n marks σ0 w0 S σ G a w) {j : Nat} {r : Rec} (hj : recs[j]? = some r) (hc : Cls D S j) (x : Operand) :
    VR (σ.on (dm recs hN j)) (evT r.o r.fr x) (a.eval x) := by
  refine evT_ok (ops := ops) (fun t ht => ?_) x
  have hl := T.read hj hc ht
  refine Vin.vr (LastIn.wf T I hl ?_) (I.slot t _ hl)
  intro k rk hs hk hd
  rcases Nat.lt_trichotomy k j with h1 | h1 | h1
  · exact h1
  · subst h1; exact absurd hs hc.new
  · by_cases hD : D j k
    · exact absurd (hc.clo k j hs hD) hc.new
    · have := (Oper.apart_spec (T.apart j k _ _ h1 (T.op j r hj) (T.op k rk hk) hD)).2.2 t hd
      exact absurd ht this
theorem Inv.want (T : Tc P ro ops n recs hN frN D) (I : Inv P recs hN frN n marks σ0 w0 S σ G a w) {j : Nat} {r : Rec} (hj : recs[j]? = some r) (hc : Cls D S j) : Region.wanted r.o (yielded ops a.tmps) = r.run := by
  have h := T.want j r hj
  unfold WantOk at h
  unfold Region.wanted
  split at h
  · rename_i hg; rw [hg, h]
  · rename_i jj want hg
    obtain ⟨d, h1, hcase⟩ := h
    have hlk : d ∈ r.o.looksAt ops := by
      unfold Oper.looksAt
      rw [hg]
      refine List.mem_append_right _ ?_
      unfold gslot at h1
      split at h1
      · rename_i o ho
        have ho' : ops[jj]? = some o := by simpa using ho
        simp [ho', h1]
      · cases h1
    have hv := I.slot d _ (T.read hj hc hlk)
    rcases hcase with ⟨b, h2, h3⟩ | ⟨l, h2, h3⟩
    · rw [hg, h3]
      rw [h2] at hv
      simp only [VR, Vm.S.val] at hv
      have hy : yielded ops a.tmps jj = some b := by
        unfold gslot at h1
        split at h1
        · rename_i o ho
          have ho' : ops[jj]? = some o := by simpa using ho
          have h5 : a.tmps[d]? = some (.bool b) := by
            rw [Array.getD_eq_getD_getElem?] at hv
            cases hx : a.tmps[d]? with
            | none => rw [hx] at hv; simp [undef] at hv
            | some y => rw [hx] at hv; simp at hv; rw [hv]
          simp [yielded, ho', h1, h5]
        · cases h1
      show (yielded ops a.tmps jj == some want) = (b == want)
      rw [hy]
      cases b <;> cases want <;> rfl
    · rw [hg, h3]
      rw [h2] at hv
      show (yielded ops a.tmps jj == some want) = false
      rw [yielded_no h1 hv]
      rfl
theorem Cls.ran (T : Tc P ro ops n recs hN frN D) {j : Nat} {r : Rec} (hj : recs[j]? = some r) (hc : Cls D S j) {x : Nat} {v : V} (hd : r.o.dst = some x) (h : LastIn recs (fatOf recs frN 0) (fun k => k = j ∨ S k) x v) : v = r.v := by
  rcases h with ⟨_, h2⟩ | ⟨k, rk, h1, h2, h3, rfl, h5⟩
  · exact absurd hd (h2 j r (.inl rfl) hj)
  · rcases h1 with rfl | h1
    · rw [hj] at h2; cases h2; rfl
    · have hle := h5 j r (.inl rfl) hj hd
      rcases Nat.lt_or_eq_of_le hle with hlt | rfl
      · by_cases hD : D j k
        · exact absurd (hc.clo k j h1 hD) hc.new
        · exact absurd h3 ((Oper.apart_spec (T.apart j k _ _ hlt (T.op j r hj) (T.op k rk h2) hD)).2.1 x hd)
      · exact absurd h1 hc.new
theorem put_getD {a : Act} {dst : Option Nat} {x : Value} {i : Nat} (hsz : ∀ d, dst = some d → d < a.tmps.size) : (a.put dst x).tmps.getD i undef = if dst = some i then x else a.tmps.getD i undef := by
  cases dst with
  | none => simp [Act.put]
  | some d =>
    simp only [Act.put, Option.some.injEq]
    by_cases e : d = i
    · subst e
      rw [if_pos rfl, Array.getD_eq_getD_getElem?, Array.getElem?_setIfInBounds_self_of_lt (hsz _ rfl)]; rfl
    · rw [if_neg e, Array.getD_eq_getD_getElem?, Array.getElem?_setIfInBounds_ne e, ← Array.getD_eq_getD_getElem?]
theorem Inv.slots (T : Tc P ro ops n recs hN frN D) (I : Inv P recs hN frN n marks σ0 w0 S σ G a w) {j : Nat} {r : Rec} (hj : recs[j]? = some r) (hc : Cls D S j) {σ' : Sig} (hle : σ.le σ') {y : Value} (hy : VR σ' r.v y) :
    ∀ x v, LastIn recs (fatOf recs frN 0) (fun k => k = j ∨ S k) x v → VR σ' v ((a.put r.o.dst y).tmps.getD x undef) := by
  intro x v hl
  rw [put_getD fun d hd => Nat.lt_of_lt_of_le (T.dst j r d hj hd) I.size]
  by_cases hd : r.o.dst = some x
  · rw [if_pos hd, hc.ran T hj hd hl]; exact hy
  · rw [if_neg hd]
    refine VR.mono hle _ _ (I.slot x v (hl.congr fun k rk hk hdk => ⟨fun h => ?_, .inr⟩))
    rcases h with rfl | h
    · rw [hj] at hk; cases hk; exact absurd hdk hd
    · exact h
theorem put_defers (a : Act) (dst : Option Nat) (x : Value) : (a.put dst x).defers = a.defers := by cases dst <;> rfl
theorem put_size (a : Act) (dst : Option Nat) (x : Value) : (a.put dst x).tmps.size = a.tmps.size := by cases dst <;> simp [Act.put]
theorem Inv.ver (T : Tc P ro ops n recs hN frN D) (I : Inv P recs hN frN n marks σ0 w0 S σ G a w) {i : Id} {j : Nat} (hi : σ i ≠ none) (hv : VerOk recs hN G i j) (hG : ∀ k, G ≤ k → k < j → (∀ a, Cr recs i a → a + 1 ≤ k) → Fix recs hN k i) : gS recs hN S G i = (hatOf recs hN j).get i := by
  have key : ∀ p, (∀ a, Cr recs i a → a + 1 ≤ p) → G ≤ p → (p ≤ j ∨ p = G ∨ ∃ a, Cr recs i a ∧ p = a + 1) → (hatOf recs hN p).get i = (hatOf recs hN j).get i := by
    intro p hcp hp hor
    rcases Nat.le_total p j with h1 | h1
    · exact (fix_chain h1 fun k h2 h3 => hG k (Nat.le_trans hp h2) h3 fun a ha => Nat.le_trans (hcp a ha) h2).symm
    · refine fix_chain h1 fun k h2 h3 => ?_
      rcases hor with h4 | h4 | ⟨a, h4, h5⟩
      · omega
      · exact hv.2 k h2 (by omega)
      · have := hv.1 a h4; omega
  by_cases hcr : ∃ a, Cr recs i a
  · obtain ⟨b, hb⟩ := hcr
    have hS : S b := by
      rcases Classical.em (S b) with h | h
      · exact h
      · exact absurd (I.rel.dom i (by rw [T.gS_cr hb, if_neg h])) hi
    rw [T.gS_cr hb, if_pos hS]
    refine key _ (fun c hc => by rw [T.cr_uniq hc hb]; omega) (Nat.le_max_left _ _) ?_
    rcases Nat.le_total G (b + 1) with h1 | h1
    · right; right; exact ⟨b, hb, by omega⟩
    · right; left; omega
  · rw [gS_nc hcr]
    exact key G (fun c hc => absurd ⟨c, hc⟩ hcr) (Nat.le_refl _) (.inr (.inl rfl))
/-! ### One more operation -/

theorem Inv.lite (T : Tc P ro ops n recs hN frN D) (I : Inv P recs hN frN n marks σ0 w0 S σ G a w) {j : Nat} {r : Rec} (hj : recs[j]? = some r) (hc : Cls D S j) (hg : r.kd ≠ .glob) (ha : ∀ cs, r.kd ≠ .alloc cs)
    {x : Value} (hx : VR (σ.on (dm recs hN j)) r.v x ∨ r.v = .undef) : Inv P recs hN frN n marks σ0 w0 (fun k => k = j ∨ S k) σ G (a.put r.o.dst x) w := by
  have hgs : gS recs hN (fun k => k = j ∨ S k) G = gS recs hN S G := by
    funext i
    by_cases hcr : ∃ b, Cr recs i b
    · obtain ⟨b, hb⟩ := hcr
      have hne : b ≠ j := by
        rintro rfl
        obtain ⟨r', cs, h1, h2, _⟩ := hb
        rw [hj] at h1; cases h1
        exact ha _ h2
      rw [T.gS_cr hb, T.gS_cr hb]
      by_cases hS : S b
      · rw [if_pos hS, if_pos (.inr hS)]
      · rw [if_neg hS, if_neg (fun h => h.elim hne hS)]
    · rw [gS_nc hcr, gS_nc hcr]
  have hv : VR σ r.v x := by
    rcases hx with hx | hx
    · exact VR.mono (Sig.on_le _ _) _ _ hx
    · rw [hx]; simp [VR]
  have hf : ∀ k r', k = j → recs[k]? = some r' → r' = r := fun k r' h1 h2 => by rw [h1, hj] at h2; cases h2; rfl
  refine ⟨?_, by rw [hgs]; exact I.rel, I.slots T hj hc (Sig.le_refl σ) hv, ?_, ?_, by rw [put_size]; exact I.size, by rw [put_defers, hgs]; exact I.mks, by rw [hgs]; exact I.ext, I.wf0⟩
  · intro g rg hrg hk
    rw [← I.iG g rg hrg hk]
    refine ⟨fun h => h.elim (fun e => ?_) id, .inr⟩
    rw [hf g rg e hrg] at hk; exact absurd hk hg
  · intro k rk hs hk
    rcases hs with e | hs
    · rw [hf k rk e hk, e]
      rcases hx with hx | hx
      · exact ⟨_, x, Sig.within_on.mono fun i hi => T.grow1 j i hi, hx⟩
      · exact ⟨⟨fun _ => none, fun _ => none, fun _ => False, 0⟩, x, ⟨fun i hi => absurd rfl hi, fun i hi => hi.elim⟩, by rw [hx]; simp [VR]⟩
    · exact I.wfv k rk hs hk
  · rw [hgs]; exact I.wfb
theorem Inv.cut (T : Tc P ro ops n recs hN frN D) (I : Inv P recs hN frN n marks σ0 w0 S σ G a w) {j : Nat} (hv : ∀ i, σ i ≠ none → dm recs hN j i → VerOk recs hN G i j ∧ ∀ k, G ≤ k → k < j → (∀ a, Cr recs i a → a + 1 ≤ k) → Fix recs hN k i) :
    Rel (σ.on (dm recs hN j)) (hatOf recs hN j).get w where
  blk := fun i e b hi hb => by
    obtain ⟨hd, hi⟩ := Sig.on_some hi
    obtain ⟨h1, h2⟩ := hv i (by rw [hi]; simp) hd
    have hg := I.ver T (by rw [hi]; simp) h1 h2
    rw [hb] at hg
    obtain ⟨h3, o, h4, h5⟩ := I.rel.blk i e b hi hg
    exact ⟨h3, o, h4, (I.wfb i b j (by rw [hi]; simp) h1 hg).br h5⟩
  apart := fun i k ei ek bi bk hne hi hk hbi hbk h1 h2 => by
    obtain ⟨hdi, hi⟩ := Sig.on_some hi
    obtain ⟨hdk, hk⟩ := Sig.on_some hk
    obtain ⟨v1, v2⟩ := hv i (by rw [hi]; simp) hdi
    obtain ⟨u1, u2⟩ := hv k (by rw [hk]; simp) hdk
    exact I.rel.apart i k ei ek bi bk hne hi hk (by rw [I.ver T (by rw [hi]; simp) v1 v2]; exact hbi) (by rw [I.ver T (by rw [hk]; simp) u1 u2]; exact hbk) h1 h2
  dom := fun i hi => by
    show (if dm recs hN j i then σ i else none) = none
    rw [if_neg]
    intro hd; exact hd hi
  nmd := fun i hi => hi.1
  fz := fun r o hro => by
    obtain ⟨f1, f2⟩ := I.rel.fz r o hro
    refine ⟨f1, fun i e b hi hb hw => ?_⟩
    obtain ⟨hd, hi⟩ := Sig.on_some hi
    obtain ⟨h1, h2⟩ := hv i (by rw [hi]; simp) hd
    exact f2 i e b hi (by rw [I.ver T (by rw [hi]; simp) h1 h2]; exact hb) hw
theorem Tc.crLt (T : Tc P ro ops n recs hN frN D) {i : Id} {a j : Nat} (h : Cr recs i a) (hd : dm recs hN j i) : a + 1 ≤ j := by
  rcases Nat.lt_or_ge a j with h1 | h1
  · exact h1
  · exact absurd hd (T.cr_before h h1)
theorem Inv.loadVer (T : Tc P ro ops n recs hN frN D) (I : Inv P recs hN frN n marks σ0 w0 S σ G a w) {j : Nat} {r : Rec} (hj : recs[j]? = some r) (hc : Cls D S j) {β : Id} (hk : r.kd = .load β) (hd : dm recs hN j β) :
    VerOk recs hN G β j ∧ ∀ k, G ≤ k → k < j → (∀ a, Cr recs β a → a + 1 ≤ k) → Fix recs hN k β := by
  refine ⟨⟨fun a ha => T.crLt ha hd, fun k h1 h2 => ?_⟩, fun k h1 h2 hcr => ?_⟩
  · refine T.fixed (fun rk hrk hg => ?_) (fun ha => absurd (T.crLt ha hd) (by omega))
    have hS : S k := (I.iG k rk hrk hg).2 h2
    have hne : k ≠ j := fun e => hc.new (e ▸ hS)
    have hD : ¬ D j k := fun h => hc.new (hc.clo k j hS h)
    have := T.c2 j k r rk β (by omega) hj hrk hD hk hg
    unfold Fix; rw [T.hs k rk hrk, hat_rec hrk]; exact this
  · refine T.fixed (fun rk hrk hg => ?_) (fun ha => absurd (hcr k ha) (by omega))
    · have hS : ¬ S k := fun h => absurd ((I.iG k rk hrk hg).1 h) (by omega)
      have hD : ¬ D k j := fun h => hS (hc.down k h)
      have := T.c1 k j rk r β h2 hrk hj hD hg hk
      unfold Fix; rw [T.hs k rk hrk, hat_rec hrk]; exact this
theorem Inv.globVer (T : Tc P ro ops n recs hN frN D) (I : Inv P recs hN frN n marks σ0 w0 S σ G a w) {j : Nat} {r : Rec} (hj : recs[j]? = some r) (hc : Cls D S j) (hk : r.kd = .glob) :
    G ≤ j ∧ ∀ i, dm recs hN j i → VerOk recs hN G i j ∧ ∀ k, G ≤ k → k < j → (∀ a, Cr recs i a → a + 1 ≤ k) → Fix recs hN k i := by
  have hG : G ≤ j := Nat.le_of_not_lt fun h => hc.new ((I.iG j r hj hk).2 h)
  refine ⟨hG, fun i hd => ⟨⟨fun a ha => T.crLt ha hd, fun k h1 h2 => by omega⟩, fun k h1 h2 hcr => ?_⟩⟩
  refine T.fixed (fun rk hrk hg => ?_) (fun ha => absurd (hcr k ha) (by omega))
  have hS := hc.down k (T.globs k j rk r h2 hrk hj hg hk)
  exact absurd ((I.iG k rk hrk hg).1 hS) (by omega)
theorem mkBlk_alive (cs : List V) : (mkBlk cs).alive = true := by unfold mkBlk; split <;> rfl
theorem Rel.pushG {σ : Sig} {g : Id → Option Blk} {w : World} (hr : Rel σ g w) {i : Id} (hn : σ i = none) {b : Blk} {o : Obj} {base tot : Nat} (hrel : BlkRel (σ.put i ⟨w.heap.size, base, tot⟩) ⟨w.heap.size, base, tot⟩ b o) :
    Rel (σ.put i ⟨w.heap.size, base, tot⟩) (fun j => if j = i then some b else g j) (w.alloc o) where
  blk := fun j ej bj hj hbj => by
    rw [Sig.put_ent] at hj
    by_cases e1 : j = i
    · rw [if_pos e1] at hj hbj
      cases hj; cases hbj
      exact ⟨by simp, o, heap_alloc_new w o, hrel⟩
    · rw [if_neg e1] at hj hbj
      obtain ⟨hlt, o2, ho2, hrel2⟩ := hr.blk j ej bj hj hbj
      exact ⟨by simp; omega, o2, by rw [heap_alloc_old w o _ hlt]; exact ho2, hrel2.mono (Sig.le_put hn)⟩
  apart := fun j k ej ek bj bk hne hj hk hbj hbk hw1 hal1 => by
    rw [Sig.put_ent] at hj hk
    by_cases e1 : j = i
    · rw [if_pos e1] at hj hbj
      cases hj; cases hbj
      rw [if_neg (fun e2 => hne (e1.trans e2.symm))] at hk hbk
      have := (hr.blk k ek bk hk hbk).1
      simp only; omega
    · rw [if_neg e1] at hj hbj
      by_cases e2 : k = i
      · rw [if_pos e2] at hk hbk
        cases hk; cases hbk
        have := (hr.blk j ej bj hj hbj).1
        simp only; omega
      · rw [if_neg e2] at hk hbk
        exact hr.apart j k ej ek bj bk hne hj hk hbj hbk hw1 hal1
  dom := fun j hj => by
    rw [Sig.put_ent]
    by_cases e1 : j = i
    · rw [if_pos e1] at hj; cases hj
    · rw [if_neg e1] at hj ⊢; exact hr.dom j hj
  nmd := fun j hj => by
    show (if j = i then some b else g j) ≠ none
    split
    · simp
    · exact hr.nmd j hj
  fz := fun r o2 hro => by
    obtain ⟨h1, h2⟩ := hr.fz r o2 hro
    have hlt : r < w.heap.size := (Array.getElem?_eq_some_iff.1 h1).1
    refine ⟨by rw [heap_alloc_old w o r hlt]; exact h1, fun j ej bj hj hbj hw1 => ?_⟩
    rw [Sig.put_ent] at hj
    by_cases e1 : j = i
    · rw [if_pos e1] at hj; cases hj; simp only; omega
    · rw [if_neg e1] at hj hbj; exact h2 j ej bj hj hbj hw1
theorem ExtK.pushG {σ : Sig} {g : Id → Option Blk} {w : World} {i : Id} (hn : σ i = none) (hg : g i = none) {b : Blk} {o : Obj} {base tot : Nat} (hbw : b.rw = true) : ExtK allIds σ g w (σ.put i ⟨w.heap.size, base, tot⟩) (fun j => if j = i then some b else g j) (w.alloc o) where
  le := fun j e _ hj => Sig.le_put hn j e hj
  nm := fun _ _ h => h
  lo := rfl
  fz := fun _ _ h => h
  fzn := fun _ _ h => .inl h
  size := by simp
  os := rfl
  tape := rfl
  output := rfl
  frame := fun r hlt _ => heap_alloc_old w o r hlt
  wr := fun j ej bj hj hbj hw => by
    rw [Sig.put_ent] at hj
    by_cases e1 : j = i
    · rw [if_pos e1] at hj; cases hj; exact .inl (Nat.le_refl _)
    · rw [if_neg e1] at hj hbj; exact .inr ⟨j, ej, bj, hj, hbj, hw, rfl⟩
  ro := fun j ej bj hj hbj hwj hal => by
    rw [Sig.put_ent] at hj
    by_cases e1 : j = i
    · rw [if_pos e1] at hbj; cases hbj; rw [hbw] at hwj; cases hwj
    · rw [if_neg e1] at hbj hj; exact ⟨j, bj, hj, hbj, hal, hwj⟩
  old := fun j _ hj => by
    have e1 : j ≠ i := fun e1 => hj (by rw [e1]; exact hg)
    exact ⟨by simp only [if_neg e1]; exact hj, fun hn => by rw [Sig.put_ent, if_neg e1]; exact hn⟩
  oldn := fun _ _ _ h => h
theorem Inv.alloc (T : Tc P ro ops n recs hN frN D) (I : Inv P recs hN frN n marks σ0 w0 S σ G a w) {j : Nat} {r : Rec} {cs : List V} (hj : recs[j]? = some r) (hc : Cls D S j) (hk : r.kd = .alloc cs)
    {x : Value} {arr : Array Value} {Ty : TypeId} (hv : VRs (σ.on (dm recs hN j)) cs arr.toList) (h1 : ∀ y ∈ arr.toList, y.oneCell' = true) {k : AK} (hrv : r.v = k.mk r.h.fresh) (hx : ∀ (σ1 : Sig) (id : Id), σ1 id = some ⟨w.heap.size, 0, arr.size⟩ → VR σ1 (k.mk id) x) :
    Inv P recs hN frN n marks σ0 w0 (fun k => k = j ∨ S k) (σ.put r.h.fresh ⟨w.heap.size, 0, arr.size⟩) G (a.put r.o.dst x) (w.alloc (.cells arr Ty)) := by
  have hcr : Cr recs r.h.fresh j := ⟨r, cs, hj, hk, rfl⟩
  have hg0 : gS recs hN S G r.h.fresh = none := by rw [T.gS_cr hcr, if_neg hc.new]
  have hn : σ r.h.fresh = none := I.rel.dom _ hg0
  have hgs : gS recs hN (fun k => k = j ∨ S k) G = fun i => if i = r.h.fresh then some (mkBlk cs) else gS recs hN S G i := by
    funext i
    by_cases e : i = r.h.fresh
    · subst e
      rw [if_pos rfl, T.gS_cr hcr, if_pos (.inl rfl)]
      rw [← T.alloc_get hj hk]
      rcases Nat.le_total G (j + 1) with h2 | h2
      · rw [Nat.max_eq_right h2]
      · rw [Nat.max_eq_left h2]
        refine fix_chain h2 fun k h3 h4 => T.fixed (fun rk hrk hg => ?_) (fun h5 => by have := T.cr_uniq h5 hcr; omega)
        have hS : S k := (I.iG k rk hrk hg).2 h4
        have hD : ¬ D j k := fun h => hc.new (hc.clo k j hS h)
        have := T.c3 j k r rk cs (by omega) hj hrk hD hk hg
        unfold Fix; rw [T.hs k rk hrk, hat_rec hrk]; exact this
    · rw [if_neg e]
      by_cases hx : ∃ b, Cr recs i b
      · obtain ⟨b, hb⟩ := hx
        have hne : b ≠ j := by rintro rfl; exact e ((hb.eq (hN := hN)).trans (hcr.eq (hN := hN)).symm)
        rw [T.gS_cr hb, T.gS_cr hb]
        by_cases hS : S b
        · rw [if_pos hS, if_pos (.inr hS)]
        · rw [if_neg hS, if_neg (fun h => h.elim hne hS)]
      · rw [gS_nc hx, gS_nc hx]
  have hle := Sig.le_put (e := ⟨w.heap.size, 0, arr.size⟩) hn
  have hrow : ∀ τ : Sig, VRs τ cs arr.toList → BlkRel τ ⟨w.heap.size, 0, arr.size⟩ (mkBlk cs) (.cells arr Ty) := fun τ ht => (BlkRel_row (mkBlk_row cs)).2 (RowRel.new ht h1 rfl)
  refine ⟨?_, ?_, ?_, ?_, ?_, by rw [put_size]; exact I.size, by rw [put_defers, hgs]; exact I.mks.ext (ExtK.pushG hn hg0 (mkBlk_rw cs)), ?_, I.wf0⟩
  · intro g rg hrg hkg
    rw [← I.iG g rg hrg hkg]
    refine ⟨fun h => h.elim (fun e => ?_) id, .inr⟩
    rw [e, hj] at hrg; cases hrg; rw [hk] at hkg; cases hkg
  · rw [hgs]
    exact I.rel.pushG hn (hrow _ (VRs.mono hle _ _ (VRs.mono (Sig.on_le _ _) _ _ hv)))
  · refine I.slots T hj hc hle ?_
    rw [hrv]; exact hx _ _ (Sig.put_same _ _ _)
  · intro k2 rk hs hrk
    rcases hs with e | hs
    · subst e
      rw [hj] at hrk; cases hrk
      rw [hrv]
      refine ⟨⟨fun i => if i = r.h.fresh then some ⟨w.heap.size, 0, arr.size⟩ else none, σ.fz, fun _ => False, 0⟩, x, ⟨fun i hi => ?_, fun i hi => hi.elim⟩, hx _ _ (if_pos rfl)⟩
      by_cases e : i = r.h.fresh
      · rw [e]; exact T.cr_after hcr (Nat.le_refl _)
      · simp only [if_neg e] at hi; exact absurd rfl hi
    · exact I.wfv k2 rk hs hrk
  · intro i b p hi hp hb
    rw [hgs] at hb
    simp only at hb
    by_cases e : i = r.h.fresh
    · rw [if_pos e] at hb; cases hb
      have hjp := hp.1 j (by rw [e]; exact hcr)
      exact ⟨_, _, _, Sig.within_on.mono fun i hi => T.grow (by omega) hi, hrow _ hv⟩
    · rw [if_neg e] at hb
      rw [Sig.put_ent, if_neg e] at hi
      exact I.wfb i b p hi hp hb
  · rw [hgs]
    exact I.ext.trans (ExtK.pushG hn hg0 (mkBlk_rw cs))
theorem Inv.glob (T : Tc P ro ops n recs hN frN D) (I : Inv P recs hN frN n marks σ0 w0 S σ G a w) {j : Nat} {r : Rec} (hj : recs[j]? = some r) (hc : Cls D S j) (hk : r.kd = .glob)
    {σ' : Sig} {x : Value} {w' : World} (hx : VR σ' r.v x) (hr : Rel σ' r.h'.get w') (he : ExtK allIds (σ.on (dm recs hN j)) r.h.get w σ' r.h'.get w') :
    ∃ σ2, Inv P recs hN frN n marks σ0 w0 (fun k => k = j ∨ S k) σ2 (j + 1) (a.put r.o.dst x) w' := by
  obtain ⟨hG, hver⟩ := I.globVer T hj hc hk
  rw [← hat_rec (hN := hN) hj] at he
  rw [← T.hs j r hj] at hr he
  -- the names: those of the glob, and those that were made early
  let σ2 : Sig := ⟨fun i => if dm recs hN (j + 1) i then σ' i else σ i, σ'.fz, fun i => (dm recs hN (j + 1) i ∧ σ'.nm i) ∨ (¬ dm recs hN (j + 1) i ∧ σ.nm i), σ.lo⟩
  have hdom : ∀ i e, σ' i = some e → dm recs hN (j + 1) i := fun i e hi hn => by rw [hr.dom i hn] at hi; cases hi
  -- in the new memory, but not in the old one: nothing had that name
  have hcase : ∀ i, gS recs hN S G i ≠ none → dm recs hN (j + 1) i → dm recs hN j i := by
    intro i hgn hd
    by_cases hd0 : dm recs hN j i
    · exact hd0
    · exfalso
      by_cases hcr : ∃ b, Cr recs i b
      · obtain ⟨b, hb⟩ := hcr
        have h1 := T.crLt hb hd
        have : b ≠ j := by rintro rfl; obtain ⟨r', cs, h2, h3, _⟩ := hb; rw [hj] at h2; cases h2; rw [hk] at h3; cases h3
        exact hd0 (T.cr_after hb (by omega))
      · rw [gS_nc hcr] at hgn
        exact hd0 (T.grow hG hgn)
  have hleE : ∀ i e, σ i = some e → σ2 i = some e := fun i e hi => by
    show (if dm recs hN (j + 1) i then σ' i else σ i) = some e
    by_cases hd : dm recs hN (j + 1) i
    · rw [if_pos hd]
      by_cases hd0 : dm recs hN j i
      · exact he.le i e trivial (Sig.on_of hi hd0)
      · exact absurd (hcase i (fun h => by rw [I.rel.dom i h] at hi; cases hi) hd) hd0
    · rw [if_neg hd]; exact hi
  have hleN : ∀ i, σ.nm i → σ2.nm i := fun i hi => by
    by_cases hd : dm recs hN (j + 1) i
    · exact .inl ⟨hd, he.nm i trivial ⟨hcase i (I.rel.nmd i hi) hd, hi⟩⟩
    · exact .inr ⟨hd, hi⟩
  have hle : σ.le σ2 := ⟨hleE, he.fz, hleN⟩
  have hle' : σ'.le σ2 := ⟨fun i e hi => by
    show (if dm recs hN (j + 1) i then σ' i else σ i) = some e
    rw [if_pos (hdom i e hi)]; exact hi, fun _ _ h => h, fun i hi => .inl ⟨hr.nmd i hi, hi⟩⟩
  have hS' : ∀ b i, Cr recs i b → (b = j ∨ S b ↔ S b) := fun b i hb => by
    refine ⟨fun h => h.elim (fun e => ?_) id, .inr⟩
    subst e
    obtain ⟨r', cs, h2, h3, _⟩ := hb; rw [hj] at h2; cases h2; rw [hk] at h3; cases h3
  -- late names
  have late : ∀ i e, ¬ dm recs hN (j + 1) i → σ i = some e → ∃ b, Cr recs i b ∧ S b ∧ j < b ∧ gS recs hN (fun k => k = j ∨ S k) (j + 1) i = (hatOf recs hN (b + 1)).get i ∧ gS recs hN S G i = (hatOf recs hN (b + 1)).get i := by
    intro i e hd hi
    have hgn : gS recs hN S G i ≠ none := fun h => by rw [I.rel.dom i h] at hi; cases hi
    by_cases hcr : ∃ b, Cr recs i b
    · obtain ⟨b, hb⟩ := hcr
      have hSb : S b := by
        rcases Classical.em (S b) with h | h
        · exact h
        · rw [T.gS_cr hb, if_neg h] at hgn; exact absurd rfl hgn
      have hjb : j < b := by
        rcases Nat.lt_or_ge j b with h | h
        · exact h
        · exact absurd (T.cr_after hb (by omega)) hd
      refine ⟨b, hb, hSb, hjb, ?_, ?_⟩
      · rw [T.gS_cr hb, if_pos (.inr hSb), Nat.max_eq_right (by omega)]
      · rw [T.gS_cr hb, if_pos hSb, Nat.max_eq_right (by omega)]
    · rw [gS_nc hcr] at hgn
      exact absurd (T.grow (by omega) hgn) hd
  have soon : ∀ i, dm recs hN (j + 1) i → σ' i ≠ none → gS recs hN (fun k => k = j ∨ S k) (j + 1) i = (hatOf recs hN (j + 1)).get i := by
    intro i hd hi
    by_cases hcr : ∃ b, Cr recs i b
    · obtain ⟨b, hb⟩ := hcr
      have h1 := T.crLt hb hd
      have hne : b ≠ j := by rintro rfl; obtain ⟨r', cs, h2, h3, _⟩ := hb; rw [hj] at h2; cases h2; rw [hk] at h3; cases h3
      have hSb : S b := by
        rcases Classical.em (S b) with h | h
        · exact h
        · exfalso
          have hd0 : dm recs hN j i := T.cr_after hb (by omega)
          have hsn : σ i = none := I.rel.dom i (by rw [T.gS_cr hb, if_neg h])
          exact hi ((he.old i trivial hd0).2 (by show (if dm recs hN j _ then σ _ else none) = none; rw [if_pos hd0]; exact hsn))
      rw [T.gS_cr hb, if_pos (.inr hSb), Nat.max_eq_left (by omega)]
    · exact gS_nc hcr
  have keep : ∀ i e b, σ i = some e → dm recs hN j i → (gS recs hN S G i = some b ↔ (hatOf recs hN j).get i = some b) := fun i e b hi hd => by
    obtain ⟨h1, h2⟩ := hver i hd
    rw [I.ver T (by rw [hi]; simp) h1 h2]
  have cases2 : ∀ i e b, σ2 i = some e → gS recs hN (fun k => k = j ∨ S k) (j + 1) i = some b →
      (dm recs hN (j + 1) i ∧ σ' i = some e ∧ (hatOf recs hN (j + 1)).get i = some b) ∨ (¬ dm recs hN (j + 1) i ∧ σ i = some e ∧ gS recs hN S G i = some b ∧ ∃ a, Cr recs i a ∧ j < a ∧ b.rw = true ∧ b.alive = true) := by
    intro i e b hi hb
    by_cases hd : dm recs hN (j + 1) i
    · have hi' : σ' i = some e := by
        have : (if dm recs hN (j + 1) i then σ' i else σ i) = some e := hi
        rwa [if_pos hd] at this
      exact .inl ⟨hd, hi', by rw [← soon i hd (by rw [hi']; simp)]; exact hb⟩
    · have hi' : σ i = some e := by
        have : (if dm recs hN (j + 1) i then σ' i else σ i) = some e := hi
        rwa [if_neg hd] at this
      obtain ⟨c, hcr, _, hjc, h1, h2⟩ := late i e hd hi'
      refine .inr ⟨hd, hi', by rw [h2, ← h1]; exact hb, c, hcr, hjc, ?_⟩
      obtain ⟨rc, cs, h3, h4, rfl⟩ := hcr
      rw [h1, T.alloc_get h3 h4] at hb
      cases hb
      exact ⟨mkBlk_rw cs, mkBlk_alive cs⟩
  -- a block of the glob's memory and a late one lie apart
  have lateApart : ∀ i k ei ek bi bk, σ' i = some ei → (hatOf recs hN (j + 1)).get i = some bi → bi.alive = true ∨ bi.rw = true → ¬ dm recs hN (j + 1) k → σ k = some ek → gS recs hN S G k = some bk → bk.rw = true → bk.alive = true → ei.rid ≠ ek.rid := by
    intro i k ei ek bi bk hi hbi hor hdk hk2 hbk hkw hka
    have hlt := (I.rel.blk k ek bk hk2 hbk).1
    have hdm : ∀ m e, (σ.on (dm recs hN j)) m = some e → m ≠ k := fun m e hm e2 => hdk (by rw [← e2]; exact T.grow1 j m (Sig.on_some hm).1)
    by_cases hrw : bi.rw = true
    · rcases he.wr i ei bi hi hbi hrw with h1 | ⟨m, em, bm, h1, h2, h3, h4⟩
      · omega
      · have hm := Sig.on_some h1
        rw [← h4]
        exact I.rel.apart m k em ek bm bk (hdm m em h1) hm.2 hk2 ((keep m em bm hm.2 hm.1).2 h2) hbk h3 hka
    · have hal : bi.alive = true := hor.elim id fun h => absurd h hrw
      obtain ⟨m, bm, h1, h2, h3, h4⟩ := he.ro i ei bi hi hbi (by simpa using hrw) hal
      have hm := Sig.on_some h1
      exact fun e => I.rel.apart k m ek ei bk bm (hdm m ei h1).symm hk2 hm.2 hbk ((keep m ei bm hm.2 hm.1).2 h2) hkw h3 e.symm
  have hframe : ∀ i e b, ¬ dm recs hN (j + 1) i → σ i = some e → gS recs hN S G i = some b → b.rw = true → b.alive = true → w'.heap[e.rid]? = w.heap[e.rid]? := by
    intro i e b hd hi hb hw ha
    refine he.frame e.rid (I.rel.blk i e b hi hb).1 ?_
    intro m em bm hm hbm hmw
    have h1 := Sig.on_some hm
    exact I.rel.apart m i em e bm b (fun e2 => hd (by rw [← e2]; exact T.grow1 j m h1.1)) h1.2 hi ((keep m em bm h1.2 h1.1).2 hbm) hb hmw ha
  suffices hboth : (ExtK allIds σ (gS recs hN S G) w σ2 (gS recs hN (fun k => k = j ∨ S k) (j + 1)) w' → Inv P recs hN frN n marks σ0 w0 (fun k => k = j ∨ S k) σ2 (j + 1) (a.put r.o.dst x) w') ∧ ExtK allIds σ (gS recs hN S G) w σ2 (gS recs hN (fun k => k = j ∨ S k) (j + 1)) w' from ⟨σ2, hboth.1 hboth.2⟩
  refine ⟨fun hX => ⟨?_, ⟨?_, ?_, ?_, ?_, ?_⟩, I.slots T hj hc hle (VR.mono hle' _ _ hx), ?_, ?_, by rw [put_size]; exact I.size, by rw [put_defers]; exact I.mks.ext hX, I.ext.trans hX, I.wf0⟩, ⟨?_, fun i _ h => hleN i h, rfl, he.fz, ?_, he.size, he.os, he.tape, he.output, ?_, ?_, ?_, ?_, ?_⟩⟩
  · intro g rg hrg hkg
    constructor
    · rintro (h | h)
      · omega
      · rcases Nat.lt_or_ge g (j + 1) with h1 | h1
        · exact h1
        · exact absurd (hc.clo g j h (T.globs j g r rg (by omega) hj hrg hk hkg)) hc.new
    · intro h
      rcases Nat.lt_or_eq_of_le (Nat.le_of_lt_succ h) with h1 | h1
      · exact .inr (hc.down g (T.globs g j rg r h1 hrg hj hkg hk))
      · exact .inl h1
  · intro i e b hi hb
    rcases cases2 i e b hi hb with ⟨_, h1, h2⟩ | ⟨h1, h2, h3, _, _, _, h4, h5⟩
    · obtain ⟨g1, o, g2, g3⟩ := hr.blk i e b h1 h2
      exact ⟨g1, o, g2, g3.mono hle'⟩
    · obtain ⟨g1, o, g2, g3⟩ := I.rel.blk i e b h2 h3
      exact ⟨Nat.lt_of_lt_of_le g1 he.size, o, by rw [hframe i e b h1 h2 h3 h4 h5]; exact g2, g3.mono hle⟩
  · intro i k ei ek bi bk hne hi hk2 hbi hbk hw hal
    rcases cases2 i ei bi hi hbi with ⟨_, h1, h2⟩ | ⟨h1, h2, h3, _, _, _, h4, h5⟩
    · rcases cases2 k ek bk hk2 hbk with ⟨_, g1, g2⟩ | ⟨g1, g2, g3, _, _, _, g4, g5⟩
      · exact hr.apart i k ei ek bi bk hne h1 g1 h2 g2 hw hal
      · exact lateApart i k ei ek bi bk h1 h2 (.inr hw) g1 g2 g3 g4 g5
    · rcases cases2 k ek bk hk2 hbk with ⟨_, g1, g2⟩ | ⟨g1, g2, g3, _, _, _, g4, g5⟩
      · exact (lateApart k i ek ei bk bi g1 g2 (.inl hal) h1 h2 h3 h4 h5).symm
      · exact I.rel.apart i k ei ek bi bk hne h2 g2 h3 g3 hw hal
  · intro i hi
    show (if dm recs hN (j + 1) i then σ' i else σ i) = none
    by_cases hd : dm recs hN (j + 1) i
    · rw [if_pos hd]
      rcases Classical.em (σ' i = none) with h | h
      · exact h
      · rw [soon i hd h] at hi; exact absurd hi hd
    · rw [if_neg hd]
      cases hs : σ i with
      | none => rfl
      | some e =>
        obtain ⟨c, ⟨rc, cs, h3, h4, h5⟩, _, _, h1, _⟩ := late i e hd hs
        rw [h1, h5, T.alloc_get h3 h4] at hi; cases hi
  · rintro i (⟨hd, hi⟩ | ⟨hd, hi⟩)
    · by_cases hcr : ∃ b, Cr recs i b
      · obtain ⟨b, hb⟩ := hcr
        have h1 := T.crLt hb hd
        have hne : b ≠ j := by rintro rfl; obtain ⟨r', cs, h2, h3, _⟩ := hb; rw [hj] at h2; cases h2; rw [hk] at h3; cases h3
        have hSb : S b := by
          rcases Classical.em (S b) with h | h
          · exact h
          · exfalso
            have hd0 : dm recs hN j i := T.cr_after hb (by omega)
            exact I.rel.nmd i (he.oldn i trivial hd0 hi).2 (by rw [T.gS_cr hb, if_neg h])
        rw [T.gS_cr hb, if_pos (.inr hSb), Nat.max_eq_left (by omega)]
        exact hr.nmd i hi
      · rw [gS_nc hcr]; exact hr.nmd i hi
    · have hgn := I.rel.nmd i hi
      by_cases hcr : ∃ b, Cr recs i b
      · obtain ⟨b, hb⟩ := hcr
        rw [T.gS_cr hb] at hgn ⊢
        by_cases hSb : S b
        · rw [if_pos (.inr hSb)]
          exact T.cr_after hb (Nat.le_max_right _ _)
        · rw [if_neg hSb] at hgn; exact absurd rfl hgn
      · rw [gS_nc hcr] at hgn
        exact absurd (T.grow (by omega) hgn) hd
  · intro rr o hro
    obtain ⟨f1, f2⟩ := hr.fz rr o hro
    refine ⟨f1, fun i e b hi hb hw => ?_⟩
    rcases cases2 i e b hi hb with ⟨_, h1, h2⟩ | ⟨h1, h2, h3, _, _, _, h4, h5⟩
    · exact f2 i e b h1 h2 hw
    · rcases he.fzn rr o hro with g | g | ⟨m, em, bm, g1, g2, g3, g4⟩
      · exact (I.rel.fz rr o g).2 i e b h2 h3 hw
      · have := (I.rel.blk i e b h2 h3).1
        omega
      · have hm := Sig.on_some g1
        rw [← g4]
        exact (I.rel.apart m i em e bm b (fun e2 => h1 (by rw [← e2]; exact T.grow1 j m hm.1)) hm.2 h2 ((keep m em bm hm.2 hm.1).2 g2) h3 g3 h5).symm
  · intro k rk hs hrk
    rcases hs with e | hs
    · subst e
      rw [hj] at hrk; cases hrk
      exact ⟨σ', x, ⟨fun i hi => (by cases h0 : σ' i with | none => exact absurd h0 hi | some e => exact hdom i e h0), hr.nmd⟩, hx⟩
    · exact I.wfv k rk hs hrk
  · intro i b p hi hp hb
    cases hs : σ2 i with
    | none => exact absurd hs hi
    | some e =>
      rcases cases2 i e b hs hb with ⟨h0, h1, h2⟩ | ⟨h1, h2, h3, c, hcc, hjc, h4, h5⟩
      · rcases Nat.lt_or_ge j p with hlt | hge
        · obtain ⟨_, o, _, g3⟩ := hr.blk i e b h1 h2
          exact ⟨σ', e, o, ⟨fun m hm => T.grow hlt (by cases h0 : σ' m with | none => exact absurd h0 hm | some e => exact hdom m e h0), fun m hm => T.grow hlt (hr.nmd m hm)⟩, g3⟩
        · -- untouched since p
          have hfx := fun k h3 h4 => hp.2 k h3 h4
          have hch : (hatOf recs hN (j + 1)).get i = (hatOf recs hN p).get i := fix_chain (by omega) hfx
          have hdp : dm recs hN p i := by unfold dm; rw [← hch]; exact h0
          have hdj := T.grow hge hdp
          have hsi : σ i ≠ none := fun h => by
            have := (he.old i trivial hdj).2 (by show (if dm recs hN j _ then σ _ else none) = none; rw [if_pos hdj]; exact h)
            rw [this] at h1; cases h1
          have hvp : VerOk recs hN G i p := ⟨hp.1, fun k h3 h4 => hp.2 k h3 (by omega)⟩
          obtain ⟨g1, g2⟩ := hver i hdj
          refine I.wfb i b p hsi hvp ?_
          rw [I.ver T hsi g1 g2, ← h2, show (hatOf recs hN (j + 1)).get i = _ from hfx j hge (Nat.lt_succ_self j)]
      · have hcp := hp.1 c hcc
        exact I.wfb i b p (by rw [h2]; simp) ⟨hp.1, fun k h6 h7 => by omega⟩ h3
  · exact fun i e _ hi => hle i e hi
  · intro rr o hro
    rcases he.fzn rr o hro with g | g | ⟨m, em, bm, g1, g2, g3, g4⟩
    · exact .inl g
    · exact .inr (.inl g)
    · have hm := Sig.on_some g1
      exact .inr (.inr ⟨m, em, bm, hm.2, (keep m em bm hm.2 hm.1).2 g2, g3, g4⟩)
  · intro rr hrr hnr
    refine he.frame rr hrr fun m em bm hm hbm hmw => ?_
    have h1 := Sig.on_some hm
    exact hnr m em bm h1.2 ((keep m em bm h1.2 h1.1).2 hbm) hmw
  · intro i e b hi hb hw
    rcases cases2 i e b hi hb with ⟨_, h1, h2⟩ | ⟨h1, h2, h3, _, _, _, h4, h5⟩
    · rcases he.wr i e b h1 h2 hw with g1 | ⟨m, em, bm, g1, g2, g3, g4⟩
      · exact .inl g1
      · have hm := Sig.on_some g1
        exact .inr ⟨m, em, bm, hm.2, (keep m em bm hm.2 hm.1).2 g2, g3, g4⟩
    · exact .inr ⟨i, e, b, h2, h3, hw, rfl⟩
  · intro i e b hi hb hw hal
    rcases cases2 i e b hi hb with ⟨_, h1, h2⟩ | ⟨h1, h2, h3, _, _, _, h4, h5⟩
    · obtain ⟨m, bm, g1, g2, g3, g4⟩ := he.ro i e b h1 h2 hw hal
      have hm := Sig.on_some g1
      exact ⟨m, bm, hm.2, (keep m e bm hm.2 hm.1).2 g2, g3, g4⟩
    · rw [h4] at hw; cases hw
  · intro i _ hi
    constructor
    · by_cases hcr : ∃ b, Cr recs i b
      · obtain ⟨b, hb⟩ := hcr
        rw [T.gS_cr hb] at hi ⊢
        by_cases hSb : S b
        · rw [if_pos (.inr hSb)]; exact T.cr_after hb (Nat.le_max_right _ _)
        · rw [if_neg hSb] at hi; exact absurd rfl hi
      · rw [gS_nc hcr] at hi ⊢
        exact T.grow (by omega) hi
    · intro hn
      show (if dm recs hN (j + 1) i then σ' i else σ i) = none
      by_cases hd : dm recs hN (j + 1) i
      · rw [if_pos hd]
        by_cases hd0 : dm recs hN j i
        · exact (he.old i trivial hd0).2 (by show (if dm recs hN j _ then σ _ else none) = none; rw [if_pos hd0]; exact hn)
        · exfalso
          by_cases hcr : ∃ b, Cr recs i b
          · obtain ⟨b, hb⟩ := hcr
            have h1 := T.crLt hb hd
            have : b ≠ j := by rintro rfl; obtain ⟨r', cs, h2, h3, _⟩ := hb; rw [hj] at h2; cases h2; rw [hk] at h3; cases h3
            exact hd0 (T.cr_after hb (by omega))
          · rw [gS_nc hcr] at hi
            exact hd0 (T.grow hG hi)
      · rw [if_neg hd]; exact hn
  · rintro i _ hi (⟨hd, h⟩ | ⟨_, h⟩)
    · exact (he.oldn i trivial (hcase i hi hd) h).2
    · exact h
end
end
end Go.Vm

namespace Go.Vm
section
variable {P : Program} {ro : Option Nat} {ops : Array Oper} {n : Nat} {recs : List Rec} {hN : Hp} {frN : Fr} {D : Nat → Nat → Prop}
variable {marks : List Id} {σ0 : Sig} {w0 : World} {S : Nat → Prop} {σ : Sig} {G : Nat} {a : Act} {w : World} {QQ : Exit → Act → World → Prop}

theorem op_run {P : Program} {ro : Option Nat} {o : Oper} {a : Act} {w w' : World} {x : Value} {next : Act → World → Prop} {Q : Exit → Act → World → Prop} (hd : ∀ c, o.op ≠ .defer c)
    (hr : (execOp a.eval o).run P w = .ok (.value x) w') (h : next (a.put o.dst x) w') : o.wpIn (Fl ro) 0 P a w next Q := by
  refine ⟨fun _ _ => trivial, ?_⟩
  rw [semAt_fl hd, hr]
  exact h
theorem Inv.step (T : Tc P ro ops n recs hN frN D) (I : Inv P recs hN frN n marks σ0 w0 S σ G a w) {j : Nat} {r : Rec} (hj : recs[j]? = some r) (hc : Cls D S j) {next : Act → World → Prop}
    (hn : ∀ σ' G' a' w', Inv P recs hN frN n marks σ0 w0 (fun k => k = j ∨ S k) σ' G' a' w' → next a' w') : wpOpIn (Fl ro) 0 P ops QQ j next a w := by
  unfold wpOpIn
  rw [T.op j r hj]
  simp only
  rw [I.want T hj hc]
  have hok := T.ok j r hj
  unfold RecOk at hok
  split at hok
  · rename_i hrun
    rw [hrun, if_neg (by simp)]
    exact ⟨fun _ _ => trivial, hn _ _ _ _ (I.lite T hj hc (by rw [hok.1]; simp) (by rw [hok.1]; simp) (.inl (by rw [hok.2.1]; simp only [VR]; exact ⟨#[], rfl, by simp [VRs]⟩)))⟩
  · rename_i hrun
    rw [hrun, if_pos rfl]
    have hρ := I.opnds T hj hc
    split at hok
    · rename_i hk
      obtain ⟨⟨hd, hp⟩, _⟩ := hok
      obtain ⟨x, hx, hv⟩ := hp (σ.on (dm recs hN j)) w _ (fun r o h => I.rel.fzIn r o h) hρ
      exact op_run hd hx (hn _ _ _ _ (I.lite T hj hc (by rw [hk]; simp) (by rw [hk]; simp) (.inl hv)))
    · rename_i β hk
      obtain ⟨⟨hd, hp⟩, _⟩ := hok
      have hblk : ∀ e bl, (σ.on (dm recs hN j)) β = some e → r.h.get β = some bl → e.rid < w.heap.size ∧ ∃ ob, w.heap[e.rid]? = some ob ∧ BlkRel (σ.on (dm recs hN j)) e bl ob := by
        intro e bl he hb
        obtain ⟨hdm, he⟩ := Sig.on_some he
        obtain ⟨h1, h2⟩ := I.loadVer T hj hc hk hdm
        rw [← hat_rec (hN := hN) hj] at hb
        have hg := I.ver T (by rw [he]; simp) h1 h2
        rw [hb] at hg
        obtain ⟨g1, o, g2, g3⟩ := I.rel.blk β e bl he hg
        exact ⟨g1, o, g2, (I.wfb β bl j (by rw [he]; simp) h1 hg).br g3⟩
      obtain ⟨x, hx, hv⟩ := hp (σ.on (dm recs hN j)) w _ hblk hρ
      exact op_run hd hx (hn _ _ _ _ (I.lite T hj hc (by rw [hk]; simp) (by rw [hk]; simp) (.inl hv)))
    · rename_i cs hk
      obtain ⟨k, ⟨hd, hp⟩, hv, _⟩ := hok
      obtain ⟨x, arr, Ty, hx, hvs, h1, hxx⟩ := hp _ w _ hρ
      exact op_run hd hx (hn _ _ _ _ (I.alloc T hj hc hk hvs h1 hv hxx))
    · rename_i hk
      obtain ⟨hG, hver⟩ := I.globVer T hj hc hk
      have hcut := I.cut T (j := j) fun i _ hd => hver i hd
      rw [hat_rec hj] at hcut
      refine hok.2 (σ.on (dm recs hN j)) a w next QQ hcut hρ fun σ' x w' hv hr he => ?_
      obtain ⟨σ2, h2⟩ := I.glob T hj hc hk hv hr he
      exact hn _ _ _ _ h2
theorem listed_set {listed : Array Bool} {j k : Nat} (hj : j < listed.size) : (listed.setIfInBounds j true).getD k false = true ↔ k = j ∨ listed.getD k false = true := by
  by_cases e : j = k
  · subst e; simp [hj]
  · rw [getD_set_ne false e]
    exact ⟨.inr, fun h => h.elim (fun h => absurd h.symm e) id⟩
theorem Tc.closed (T : Tc P ro ops n recs hN frN D) {S : Nat → Prop} (hS : ∀ (k : Nat) (o : Oper) (e : Edge), S k → ops[k]? = some o → e ∈ o.after → Region.binds .any e = true → S e.on) : ∀ k i, S k → D i k → S i := by
  intro k
  induction k using Nat.strongRecOn with
  | _ k ih =>
    intro i hk hd
    obtain ⟨_, o, e, ho, he, hb, hor⟩ := T.clo i k hd
    have h1 := hS k o e hk ho he hb
    rcases hor with rfl | h2
    · exact h1
    · exact ih e.on (T.back k o e ho he hb).1 i h1 h2
theorem inv_any (T : Tc P ro ops n recs hN frN D) (hfin : ∀ σ G a w, Inv P recs hN frN n marks σ0 w0 (fun k => k < ops.size) σ G a w → QQ .normal a w) :
    ∀ (fuel : Nat) (listed : Array Bool) (σ : Sig) (G : Nat) (a : Act) (w : World), listed.size = ops.size → (ops.size ≤ fuel + (listed.toList.filter id).length) →
      (∀ (k : Nat) (o : Oper) (e : Edge), listed.getD k false = true → ops[k]? = some o → e ∈ o.after → Region.binds .any e = true → listed.getD e.on false = true) →
      Inv P recs hN frN n marks σ0 w0 (fun k => listed.getD k false = true) σ G a w → wpAnyIn (Fl ro) 0 P .any ops QQ fuel listed a w := by
  have done : ∀ (listed : Array Bool) (σ : Sig) (G : Nat) (a : Act) (w : World), listed.size = ops.size → (∀ k, k < ops.size → listed.getD k false = true) →
      Inv P recs hN frN n marks σ0 w0 (fun k => listed.getD k false = true) σ G a w → QQ .normal a w := by
    intro listed σ G a w hsz hall I
    refine hfin σ G a w ?_
    have : (fun k => listed.getD k false = true) = (fun k => k < ops.size) := by
      funext k
      refine propext ⟨fun h => ?_, hall k⟩
      rcases Nat.lt_or_ge k ops.size with h1 | h1
      · exact h1
      · rw [Array.getD_eq_getD_getElem?, Array.getElem?_eq_none (by omega)] at h; simp at h
    rw [← this]; exact I
  have none_ready : ∀ (listed : Array Bool), listed.size = ops.size → Region.ready .any ops listed = [] → ∀ k, k < ops.size → listed.getD k false = true := by
    intro listed hsz hr k
    induction k using Nat.strongRecOn with
    | _ k ih =>
      intro hk
      cases hl : listed.getD k true with
      | true =>
        rw [Array.getD_eq_getD_getElem?, Array.getElem?_eq_getElem (by omega)] at hl ⊢
        simpa using hl
      | false =>
        exfalso
        have : k ∈ Region.ready .any ops listed := by
          rw [mem_ready]
          refine ⟨hl, ops[k], by simp [hk], fun e he hb => ?_⟩
          have hlt := (T.back k ops[k] e (by simp [hk]) he hb).1
          exact ih e.on hlt (by omega)
        rw [hr] at this; cases this
  intro fuel
  induction fuel with
  | zero =>
    intro listed σ G a w hsz hle hcl I
    have hall : ∀ k, k < ops.size → listed.getD k false = true := by
      have h1 : (listed.toList.filter id).length = listed.toList.length := by
        have := List.length_filter_le id listed.toList
        simp at hle this ⊢; omega
      have h2 := List.length_filter_eq_length_iff.1 h1
      intro k hk
      rw [Array.getD_eq_getD_getElem?, Array.getElem?_eq_getElem (by omega)]
      exact h2 _ (by simp)
    refine ⟨?_, done listed σ G a w hsz hall I⟩
    cases hr : Region.ready .any ops listed with
    | nil => rfl
    | cons j _ =>
      have hm : j ∈ Region.ready .any ops listed := by rw [hr]; simp
      obtain ⟨h1, o, ho, _⟩ := mem_ready.1 hm
      have hlt : j < ops.size := (Array.getElem?_eq_some_iff.1 ho).1
      have h2 := hall j hlt
      rw [Array.getD_eq_getD_getElem?, Array.getElem?_eq_getElem (by omega)] at h1 h2
      simp at h1 h2; rw [h1] at h2; cases h2
  | succ fuel ih =>
    intro listed σ G a w hsz hle hcl I
    refine ⟨fun hr => done listed σ G a w hsz (none_ready listed hsz hr) I, fun j hj => ?_⟩
    obtain ⟨hnew, o, ho, hed⟩ := mem_ready.1 hj
    have hlt : j < ops.size := (Array.getElem?_eq_some_iff.1 ho).1
    have hjr : j < recs.length := by rw [T.len]; exact hlt
    have hnew' : listed.getD j false = false := by
      rw [Array.getD_eq_getD_getElem?, Array.getElem?_eq_getElem (by omega)] at hnew ⊢
      simpa using hnew
    have hclo := T.closed hcl
    have hc : Cls D (fun k => listed.getD k false = true) j := ⟨by rw [hnew']; simp, fun i hi => by
      obtain ⟨_, o', e, ho', he, hb, hor⟩ := T.clo i j hi
      rw [ho] at ho'; cases ho'
      rcases hor with rfl | h2
      · exact hed e he hb
      · exact hclo e.on i (hed e he hb) h2, hclo⟩
    refine I.step T (List.getElem?_eq_getElem hjr) hc fun σ' G' a' w' I' => ?_
    have hS : (fun k => k = j ∨ listed.getD k false = true) = (fun k => (listed.setIfInBounds j true).getD k false = true) := by
      funext k; exact propext (listed_set (by omega)).symm
    rw [hS] at I'
    refine ih _ σ' G' a' w' (by simpa using hsz) ?_ ?_ I'
    · have : ((listed.setIfInBounds j true).toList.filter id).length = (listed.toList.filter id).length + 1 := by
        rw [Array.toList_setIfInBounds]
        have hjl : j < listed.toList.length := by simpa [hsz] using hlt
        have hjf : listed.toList[j] = false := by
          rw [Array.getD_eq_getD_getElem?, Array.getElem?_eq_getElem (by omega)] at hnew'
          simpa using hnew'
        rw [List.set_eq_take_append_cons_drop, if_pos hjl]
        conv => rhs; rw [← List.take_append_drop j listed.toList, List.drop_eq_getElem_cons hjl, hjf]
        simp [List.filter_append]
        omega
      omega
    · intro k o' e hk ho' he hb
      rw [listed_set (by omega)] at hk ⊢
      rcases hk with rfl | hk
      · rw [ho] at ho'; cases ho'; exact .inr (hed e he hb)
      · exact .inr (hcl k o' e hk ho' he hb)
end
end Go.Vm

namespace Go.Vm

/-! ### What is checked of the operations themselves -/

def emask (ms : List Nat) : List Edge → Nat
  | [] => 0
  | e :: es => match Region.binds .any e with
    | true => (2 ^ e.on ||| ms.getD e.on 0) ||| emask ms es
    | false => emask ms es
def masksGo : List Oper → List Nat → List Nat
  | [], acc => acc
  | o :: os, acc => masksGo os (acc ++ [emask acc o.after.toList])
def masksOf (ops : Array Oper) : List Nat := masksGo ops.toList []
def isGlob (o : Oper) : Bool := match o.op with
  | .store .. | .slice _ _ none none none | .mapUpdate .. | .makeMap .. => true
  | .call c => match c.callee with
    | .builtin .append | .builtin .copy | .builtin .clear | .value _ => true
    | _ => false
  | _ => false
def isLoad (o : Oper) : Bool := match o.op with
  | .load .. | .lookup .. => true
  | _ => false
def isAlloc (o : Oper) : Bool := match o.op with
  | .alloc .. | .box .. | .buildSlice .. | .makeSlice .. => true
  | _ => false
def inCs (cs : List (Nat × Nat)) (i j : Nat) : Bool := cs.any fun p => match Nat.beq p.1 i with
  | true => Nat.beq p.2 j
  | false => false
def chkOne (ms : List Nat) (j : Nat) (o : Oper) : Bool := (o.after.toList.all fun e => !Region.binds .any e || Nat.blt e.on j) && Nat.beq (ms.getD j 0) (emask ms o.after.toList)
def chkPair (ops : Array Oper) (ms : List Nat) (cs : List (Nat × Nat)) (i : Nat) (oi : Oper) (j : Nat) (oj : Oper) : Bool :=
  (ms.getD j 0).testBit i || (oi.apart ops oj && !(isGlob oi && isGlob oj) && (!(isGlob oi && isLoad oj || (isLoad oi || isAlloc oi) && isGlob oj) || inCs cs i j))
def chkRow (ops : Array Oper) (ms : List Nat) (cs : List (Nat × Nat)) (i : Nat) (oi : Oper) : Nat → List Oper → Bool
  | _, [] => true
  | j, oj :: os => chkPair ops ms cs i oi j oj && chkRow ops ms cs i oi (j + 1) os
def chkAll (ops : Array Oper) (ms : List Nat) (cs : List (Nat × Nat)) : Nat → List Oper → Bool
  | _, [] => true
  | i, o :: os => chkOne ms i o && chkRow ops ms cs i o (i + 1) os && chkAll ops ms cs (i + 1) os
def drawOk (ops : Array Oper) (ms : List Nat) (cs : List (Nat × Nat)) : Bool := chkAll ops ms cs 0 ops.toList
theorem chkRow_ok {ops : Array Oper} {ms : List Nat} {cs : List (Nat × Nat)} {i : Nat} {oi : Oper} : ∀ {os : List Oper} {j : Nat}, chkRow ops ms cs i oi j os = true → ∀ k o, os[k]? = some o → chkPair ops ms cs i oi (j + k) o = true
  | [], _, _, k, o, hk => by simp at hk
  | oj :: os, j, h, k, o, hk => by
    simp only [chkRow, Bool.and_eq_true] at h
    cases k with
    | zero => simp at hk; subst hk; exact h.1
    | succ k =>
      have := chkRow_ok h.2 k o (by simpa using hk)
      rwa [show j + 1 + k = j + (k + 1) by omega] at this
theorem chkAll_ok {ops : Array Oper} {ms : List Nat} {cs : List (Nat × Nat)} : ∀ {os : List Oper} {i : Nat}, chkAll ops ms cs i os = true →
    (∀ k o, os[k]? = some o → chkOne ms (i + k) o = true) ∧ ∀ k l ok ol, k < l → os[k]? = some ok → os[l]? = some ol → chkPair ops ms cs (i + k) ok (i + l) ol = true
  | [], _, _ => ⟨fun k o hk => by simp at hk, fun k l ok ol _ hk => by simp at hk⟩
  | o :: os, i, h => by
    simp only [chkAll, Bool.and_eq_true] at h
    obtain ⟨⟨h1, h2⟩, h3⟩ := h
    obtain ⟨g1, g2⟩ := chkAll_ok h3
    refine ⟨fun k o' hk => ?_, fun k l ok ol hkl hk hl => ?_⟩
    · cases k with
      | zero => simp at hk; subst hk; exact h1
      | succ k =>
        have := g1 k o' (by simpa using hk)
        rwa [show i + 1 + k = i + (k + 1) by omega] at this
    · cases l with
      | zero => omega
      | succ l =>
        cases k with
        | zero =>
          simp at hk; subst hk
          have := chkRow_ok h2 l ol (by simpa using hl)
          rwa [show i + 1 + l = i + (l + 1) by omega] at this
        | succ k =>
          have := g2 k l ok ol (by omega) (by simpa using hk) (by simpa using hl)
          rwa [show i + 1 + k = i + (k + 1) by omega, show i + 1 + l = i + (l + 1) by omega] at this
theorem emask_bit {ms : List Nat} {i : Nat} : ∀ {es : List Edge}, (emask ms es).testBit i = true ↔ ∃ e ∈ es, Region.binds .any e = true ∧ (i = e.on ∨ (ms.getD e.on 0).testBit i = true)
  | [] => by simp [emask]
  | e :: es => by
    simp only [emask]
    split
    · rename_i hb
      rw [Nat.testBit_or, Nat.testBit_or, Nat.testBit_two_pow, Bool.or_eq_true, Bool.or_eq_true, emask_bit]
      constructor
      · rintro ((h | h) | ⟨e', h1, h2⟩)
        · exact ⟨e, by simp, hb, .inl (of_decide_eq_true h).symm⟩
        · exact ⟨e, by simp, hb, .inr h⟩
        · exact ⟨e', by simp [h1], h2⟩
      · rintro ⟨e', h1, h2, h3⟩
        rcases List.mem_cons.1 h1 with rfl | h1
        · rcases h3 with rfl | h3
          · exact .inl (.inl (by simp))
          · exact .inl (.inr h3)
        · exact .inr ⟨e', h1, h2, h3⟩
    · rename_i hb
      rw [emask_bit]
      constructor
      · rintro ⟨e', h1, h2⟩; exact ⟨e', by simp [h1], h2⟩
      · rintro ⟨e', h1, h2, h3⟩
        rcases List.mem_cons.1 h1 with rfl | h1
        · rw [hb] at h2; cases h2
        · exact ⟨e', h1, h2, h3⟩
/-! ### The computation -/

structure VSame (a b : Option Blk) (K : Prop) : Prop where
  ex : a = b ∧ K
theorem VSame.intro {a b : Option Blk} {K : Prop} (h : a = b) (k : K) : VSame a b K := ⟨h, k⟩
structure VMkD (P : Program) (o : Oper) (ρ : Operand → V) (K : AK → List V → Blk → Prop) : Prop where
  ex : ∃ k cs, AllocOk P o ρ k cs ∧ K k cs (mkBlk cs)
def vopD (P : Program) (T : TT) (o : Oper) (ρ : Operand → V) (h : Hp) (K : Kd → V → Hp → Prop) : Prop :=
  match vpure T o ρ with
  | .val v => K .lite v h
  | .ite b x y => VIte b (K .lite x h) (K .lite y h)
  | .need b v => VNeed b (K .lite v h)
  | .arith k n => VArith k n (fun m => K .lite (.s (.int k m)) h)
  | .any p => VAny p (fun v => v.forceK fun v => K .lite v h)
  | .no => match valloc T o ρ with
    | some (k, cs) => match isAlloc o with
      | true => (h.push (mkBlk cs)).forceK fun h' => K (.alloc cs) (k.mk h.fresh) h'
      | false => False
    | none => match o.op with
      | .load t a => match ρ a with
        | .ptr β off => VLd T t (.ptr β off) h fun v => K (.load β) v h
        | .fp cs => VLd T t (.fp cs) h fun v => K .lite v h
        | _ => False
      | .lookup t m k c => match ρ m with
        | .map i => VLook P T t c i (ρ k) h fun v => K (.load i) v h
        | .fm ks vs => VLookF P T t c ks vs (ρ k) fun v => K .lite v h
        | _ => False
      | .binOp op t x y _ => match ρ x with
        | .agg xs => match ρ y with
          | .agg ys => VAgg P op t (.agg xs) (.agg ys) fun v => K .lite v h
          | _ => False
        | _ => False
      | .makeSlice _ _ _ => VMkD P o ρ fun k cs b => (h.push b).forceK fun h' => K (.alloc cs) (k.mk h.fresh) h'
      | _ => match isGlob o with
        | true => vglob P o ρ h fun v h' => K .glob v h'
        | false => False
structure Acc where
  i : Nat
  kd : Kd
  h : Hp
  h' : Hp
def same2 (ki : Kd) (hi hi' : Hp) (kj : Kd) (hj hj' : Hp) (K : Prop) : Prop := match ki with
  | .glob => match kj with
    | .load β => VSame (hi'.get β) (hi.get β) K
    | _ => K
  | .load β => match kj with
    | .glob => VSame (hj'.get β) (hj.get β) K
    | _ => K
  | .alloc _ => match kj with
    | .glob => VSame (hj'.get hi.fresh) (hj.get hi.fresh) K
    | _ => K
  | .lite => K
def vsame1 (cs : List (Nat × Nat)) (j : Nat) (kd : Kd) (h h' : Hp) (a : Acc) (ih : Prop → Prop) (K : Prop) : Prop := match a with
  | ⟨i, ki, hi, hi'⟩ => match inCs cs i j with
    | true => same2 ki hi hi' kd h h' (ih K)
    | false => ih K
def vsame (cs : List (Nat × Nat)) (j : Nat) (kd : Kd) (h h' : Hp) (acc : List Acc) : Prop → Prop :=
  List.rec (motive := fun _ => Prop → Prop) (fun K => K) (fun a _ ih => vsame1 cs j kd h h' a ih) acc
def vacc (cs : List (Nat × Nat)) (j : Nat) (kd : Kd) (h h' : Hp) (acc : List Acc) : List Acc := match cs.any fun p => Nat.beq p.1 j with
  | true => ⟨j, kd, h, h'⟩ :: acc
  | false => acc
def vstep (cs : List (Nat × Nat)) (j : Nat) (kd : Kd) (h h' : Hp) (acc : List Acc) (K : List Acc → Prop) : Prop := match cs with
  | [] => K []
  | c :: cs => vsame (c :: cs) j kd h h' acc (K (vacc (c :: cs) j kd h h' acc))
def vopsD1 (P : Program) (T : TT) (n : Nat) (all : List Oper) (cs : List (Nat × Nat)) (o : Oper) (ih : Nat → Fr → Hp → List Acc → (Fr → Hp → Prop) → Prop) (j : Nat) (fr : Fr) (h : Hp) (acc : List Acc) (K : Fr → Hp → Prop) : Prop := match o.guard with
    | none => vopD P T o (evT o fr) h fun kd v h' => vstep cs j kd h h' acc fun acc => vput n fr o.dst v fun fr' => ih (j + 1) fr' h' acc K
    | some (g, want) => match gslot all g with
      | some d => match fr.at d with
        | .s (.bool b) => VIte b
            (fr.setK d (.s (.bool true)) fun fr => match want with
              | true => vopD P T o (evT o fr) h fun kd v h' => vstep cs j kd h h' acc fun acc => vput n fr o.dst v fun fr' => ih (j + 1) fr' h' acc K
              | false => vstep cs j .lite h h acc fun acc => vput n fr o.dst (.tuple []) fun fr' => ih (j + 1) fr' h acc K)
            (fr.setK d (.s (.bool false)) fun fr => match want with
              | false => vopD P T o (evT o fr) h fun kd v h' => vstep cs j kd h h' acc fun acc => vput n fr o.dst v fun fr' => ih (j + 1) fr' h' acc K
              | true => vstep cs j .lite h h acc fun acc => vput n fr o.dst (.tuple []) fun fr' => ih (j + 1) fr' h acc K)
        | .tuple _ => vstep cs j .lite h h acc fun acc => vput n fr o.dst (.tuple []) fun fr' => ih (j + 1) fr' h acc K
        | _ => False
      | none => False
def vopsD (P : Program) (T : TT) (n : Nat) (all : List Oper) (cs : List (Nat × Nat)) (j : Nat) (os : List Oper) : Fr → Hp → List Acc → (Fr → Hp → Prop) → Prop :=
  List.rec (motive := fun _ => Nat → Fr → Hp → List Acc → (Fr → Hp → Prop) → Prop) (fun _ fr h _ K => K fr h) (fun o _ ih => vopsD1 P T n all cs o ih) os j
def Same (ki : Kd) (hi hi' : Hp) (kj : Kd) (hj hj' : Hp) : Prop := match ki, kj with
  | .glob, .load β => hi'.get β = hi.get β
  | .load β, .glob => hj'.get β = hj.get β
  | .alloc _, .glob => hj'.get hi.fresh = hj.get hi.fresh
  | _, _ => True
theorem same2_ok {ki kj : Kd} {hi hi' hj hj' : Hp} {K : Prop} (h : same2 ki hi hi' kj hj hj' K) : Same ki hi hi' kj hj hj' ∧ K := by
  cases ki <;> cases kj <;> first | exact ⟨trivial, h⟩ | exact h.ex
theorem vsame_ok {cs : List (Nat × Nat)} {j : Nat} {kd : Kd} {h h' : Hp} {K : Prop} : ∀ {acc : List Acc}, vsame cs j kd h h' acc K → K ∧ ∀ a ∈ acc, inCs cs a.i j = true → Same a.kd a.h a.h' kd h h'
  | [], hk => ⟨hk, fun a ha => by cases ha⟩
  | ⟨i, ki, hi, hi'⟩ :: acc, hk => by
    have hk : vsame1 cs j kd h h' ⟨i, ki, hi, hi'⟩ (vsame cs j kd h h' acc) K := hk
    unfold vsame1 at hk
    simp only at hk
    split at hk
    · rename_i hc
      obtain ⟨h1, h2⟩ := same2_ok hk
      obtain ⟨h3, h4⟩ := vsame_ok h2
      refine ⟨h3, fun a ha hin => ?_⟩
      rcases List.mem_cons.1 ha with rfl | ha
      · exact h1
      · exact h4 a ha hin
    · rename_i hc
      obtain ⟨h3, h4⟩ := vsame_ok hk
      refine ⟨h3, fun a ha hin => ?_⟩
      rcases List.mem_cons.1 ha with rfl | ha
      · rw [hc] at hin; cases hin
      · exact h4 a ha hin
def TrOk (P : Program) (ro : Option Nat) (ops : Array Oper) (n : Nat) : List Oper → Fr → Hp → List Rec → Fr → Hp → Prop
  | [], fr, h, recs, frN, hN => recs = [] ∧ frN = fr ∧ hN = h
  | o :: os, fr, h, recs, frN, hN => ∃ r rs fr', recs = r :: rs ∧ r.o = o ∧ r.h = h ∧ (∀ x, r.fr.at x = fr.at x) ∧ RecOk P ro r ∧ WantOk ops r ∧ (∀ x, o.dst = some x → x < n) ∧
      (∀ x, fr'.at x = if o.dst = some x then r.v else r.fr.at x) ∧ (r.kd = .glob → isGlob o = true) ∧ (∀ β, r.kd = .load β → isLoad o = true) ∧ (∀ cs, r.kd = .alloc cs → isAlloc o = true) ∧ TrOk P ro ops n os fr' r.h' rs frN hN
theorem vput_at {n : Nat} {fr : Fr} {dst : Option Nat} {v : V} {K : Fr → Prop} (h : vput n fr dst v K) : ∃ fr', K fr' ∧ (∀ x, dst = some x → x < n) ∧ ∀ x, fr'.at x = if dst = some x then v else fr.at x := by
  rcases vput_elim h with ⟨rfl, hk⟩ | ⟨d, rfl, hd, hk⟩
  · exact ⟨_, hk, by simp, fun x => by simp⟩
  · refine ⟨_, hk, fun x hx => by cases hx; exact hd, fun x => ?_⟩
    rw [Fr.at_set]
    by_cases e : x = d
    · subst e; simp
    · rw [if_neg e, if_neg (fun h => e (by cases h; rfl))]
theorem load_ldok {P : Program} {T : TT} (hT : TOk P T) {o : Oper} {t : TypeId} {a : Operand} {ρv : Operand → V} {β : Id} {off : Nat} {h : Hp} {v : V} (ho : o.op = .load t a) (ha : ρv a = .ptr β off) (hl : vload T t (.ptr β off) h = some v) :
    LdOk P o ρv β (h.get β) v := by
  refine ⟨by rw [ho]; simp, fun σ w ρ hb hρ => ?_⟩
  have hp := hρ a
  rw [ha] at hp
  simp only [VR] at hp
  obtain ⟨e, hi, hpe⟩ := hp
  have cell : ∀ {off : Nat} {v : V}, h.at β off = some v → ∃ x, w.cell? ⟨e.rid, e.base + off, none⟩ = some x ∧ VR σ v x ∧ x.oneCell' = true := by
    intro off v hv
    obtain ⟨b, rw, l, hbl, hrow, hl⟩ := Hp.at_row hv
    obtain ⟨_, ob, hob, hrel⟩ := hb e b hi hbl
    rw [BlkRel_row hrow] at hrel
    obtain ⟨cur, T, fz, rfl, _, _, _, hc⟩ := hrel
    obtain ⟨x, hx, hvr, h1⟩ := hc off v hl
    exact ⟨x, by simp [World.cell?, hob, hx], hvr, h1⟩
  have cells : ∀ (n off : Nat) (l : List V), h.rdN β off n = some l →
      ∃ xs : List Value, xs.length = n ∧ VRs σ l xs ∧ ∀ j x, xs[j]? = some x → w.cell? ⟨e.rid, e.base + (off + j), none⟩ = some x := by
    intro n
    induction n with
    | zero => intro off l hl; simp [Hp.rdN] at hl; subst hl; exact ⟨[], rfl, by simp [VRs], by simp⟩
    | succ n ih =>
      intro off l hl
      simp only [Hp.rdN] at hl
      split at hl
      · rename_i v hv
        split at hl
        · rename_i r hr2
          simp at hl; subst hl
          obtain ⟨x, hx, hvr, h1⟩ := cell hv
          obtain ⟨xs, hn, hvs, hxs⟩ := ih (off + 1) r hr2
          refine ⟨x :: xs, by simp [hn], by simp only [VRs]; exact ⟨x, xs, rfl, hvr, hvs⟩, ?_⟩
          intro j y hy
          cases j with
          | zero => simp at hy; subst hy; simpa using hx
          | succ j =>
            have := hxs j y (by simpa using hy)
            rwa [show off + 1 + j = off + (j + 1) by omega] at this
        · cases hl
      · cases hl
  unfold vload at hl
  simp only at hl
  split at hl
  · rename_i ti hTt
    split at hl
    · rename_i hag0
      split at hl
      · rename_i l hrd
        simp at hl; subst hl
        obtain ⟨d, info, z, hu, hinfo, hsize, hagg, _, _, _⟩ := hT.ok _ _ hTt
        obtain ⟨ys, hn, hyr, hcell⟩ := cells _ _ _ hrd
        have hag : (isAgg t).run P w = .ok true w := by rw [hag0] at hagg; cases d <;> simp_all [isAgg, run_underlying hu, descAgg]
        have hrun := run_loadCells_list (P := P) w ⟨e.rid, e.base + off, none⟩ ys (fun j y hj => by rw [add_at, Nat.add_assoc]; exact hcell j y hj)
        rw [hn] at hrun
        refine ⟨.agg ys.toArray, ?_, by simp only [VR]; exact ⟨_, rfl, by simpa using hyr⟩⟩
        simp only [execOp, ho]
        simp [Instr.loadAt, Instr.sureAddr, loadVar, hpe, hag, sizeOf, typeInfo, hinfo, hsize, hrun]
      · cases hl
    · rename_i hag0
      obtain ⟨d, hu, hagg, _⟩ := kind_of hT hTt
      obtain ⟨y, hy, hyr, _⟩ := cell hl
      have : (isAgg t).run P w = .ok false w := by rw [hag0] at hagg; cases d <;> simp_all [isAgg, run_underlying hu, descAgg]
      refine ⟨y, ?_, hyr⟩
      simp only [execOp, ho]
      simp [Instr.loadAt, Instr.sureAddr, loadVar, hpe, this, hy]
  · cases hl
theorem vopD_ok {P : Program} {T : TT} (hT : TOk P T) {ro : Option Nat} {o : Oper} {fr : Fr} {h : Hp} {K : Kd → V → Hp → Prop} (hk : vopD P T o (evT o fr) h K) :
    ∃ kd v h', K kd v h' ∧ RecOk P ro ⟨o, true, kd, v, fr, h, h'⟩ ∧ (kd = .glob → isGlob o = true) ∧ (∀ β, kd = .load β → isLoad o = true) ∧ (∀ cs, kd = .alloc cs → isAlloc o = true) := by
  have lite : ∀ {v : V}, K .lite v h → (vpure T o (evT o fr)).is v → ∃ kd v h', K kd v h' ∧ RecOk P ro ⟨o, true, kd, v, fr, h, h'⟩ ∧ (kd = .glob → isGlob o = true) ∧ (∀ β, kd = .load β → isLoad o = true) ∧ (∀ cs, kd = .alloc cs → isAlloc o = true) :=
    fun {v} hk hv => ⟨.lite, v, h, hk, ⟨⟨(pure_real hT hv).1, fun σ w ρ _ hρ => (pure_real hT hv).2 σ w ρ hρ⟩, rfl⟩, by simp, by simp, by simp⟩
  unfold vopD at hk
  split at hk
  · rename_i v hv; exact lite hk (.inl hv)
  · rename_i b x y hv
    have hk := hk.elim
    cases b with
    | true => exact lite (hk.1 rfl) (.inr (.inr (.inr (.inl ⟨true, x, y, hv, rfl⟩))))
    | false => exact lite (hk.2 rfl) (.inr (.inr (.inr (.inl ⟨false, x, y, hv, rfl⟩))))
  · rename_i b v hv
    have hk := hk.elim'
    exact lite hk.2 (.inr (.inl ⟨b, hv, hk.1⟩))
  · rename_i k n hv
    have hk := hk.elim'
    exact lite hk (.inr (.inr (.inl ⟨k, n, hv, rfl⟩)))
  · rename_i p hv
    obtain ⟨v, hp, hk⟩ := hk.elim'
    rw [V.forceK_eq] at hk
    exact lite hk (.inr (.inr (.inr (.inr ⟨p, hv, hp⟩))))
  · split at hk
    · rename_i k cs ha
      split at hk
      · rename_i hal
        rw [Hp.forceK_eq] at hk
        exact ⟨_, _, _, hk, ⟨k, valloc_ok hT ha, rfl, rfl⟩, by simp, by simp, fun _ _ => hal⟩
      · exact hk.elim
    · split at hk
      · rename_i t a ho
        split at hk
        · rename_i β off hpa
          obtain ⟨v, hl, hk⟩ := hk.elim'
          exact ⟨_, v, h, hk, ⟨load_ldok hT ho hpa hl, rfl⟩, by simp, fun _ _ => by simp [isLoad, ho], by simp⟩
        · rename_i cs hpa
          obtain ⟨v, hl, hk⟩ := hk.elim'
          exact ⟨.lite, v, h, hk, ⟨loadf_real (P := P) hT ho hpa hl, rfl⟩, by simp, by simp, by simp⟩
        · exact hk.elim
      · rename_i t m k c ho
        split at hk
        · rename_i i hm
          obtain ⟨es, v, hb, hL, hk⟩ := hk.elim'
          obtain ⟨hd, hr⟩ := look_real hT ho hm hL
          exact ⟨_, v, h, hk, ⟨⟨hd, fun σ w ρ hx hρ => hr σ w ρ (fun e he => (hx e _ he hb).2) hρ⟩, rfl⟩, by simp, fun _ _ => by simp [isLoad, ho], by simp⟩
        · rename_i ks vs hm
          obtain ⟨v, hL, hk⟩ := hk.elim'
          exact ⟨.lite, v, h, hk, ⟨lookf_real (P := P) hT ho hm hL, rfl⟩, by simp, by simp, by simp⟩
        · exact hk.elim
      · rename_i op t x y yt ho
        split at hk
        · rename_i xs hx
          split at hk
          · rename_i ys hy
            obtain ⟨v, hv, hk⟩ := hk
            exact ⟨.lite, v, h, hk, ⟨⟨(vaggeq_real (P := P) ho hx hy hv).1, fun σ w ρ _ hρ => (vaggeq_real (P := P) ho hx hy hv).2 σ w ρ hρ⟩, rfl⟩, by simp, by simp, by simp⟩
          · exact hk.elim
        · exact hk.elim
      · rename_i _ _ _ ho
        obtain ⟨k, cs, ha, hk⟩ := hk.ex
        rw [Hp.forceK_eq] at hk
        exact ⟨_, _, _, hk, ⟨k, ha, rfl, rfl⟩, by simp, by simp, fun _ _ => by simp [isAlloc, ho]⟩
      · split at hk
        · rename_i hg
          obtain ⟨v, h', hk, hD⟩ := vglob_ok (ro := ro) hk
          exact ⟨_, v, h', hk, hD, fun _ => hg, by simp, by simp⟩
        · exact hk.elim
theorem mkD_ok {P : Program} {T : TT} (hT : TOk P T) {o : Oper} {t : TypeId} {l c : Operand} {ρv : Operand → V} {n : Int} {e esz bytes : Nat} {zero : List V} {s_ : Nat} {a_ : Bool} {z_ : V} (ho : o.op = .makeSlice t l c) (hl : ρv l = .s (.int .i64 n)) (hc : ρv c = .s (.int .i64 n))
    (hTt : T t = some ⟨.slice e esz bytes zero, s_, a_, z_⟩) (hn : 0 ≤ n) (hby : n * bytes ≤ 140737488355328) (h63 : n ≤ 9223372036854775807) : AllocOk P o ρv (.sl esz n.toNat) (zeroAt zero esz (n.toNat * esz)) := by
  refine ⟨by rw [ho]; simp, fun σ w ρ hρ => ?_⟩
  have hx := hρ l
  have hy := hρ c
  rw [hl] at hx
  rw [hc] at hy
  simp only [VR, S.val] at hx hy
  obtain ⟨hu, hp, info, z, hinfo, hsize, hbytes, hzero, hzc, hzl, hzsz⟩ := slice_kind hT hTt
  obtain ⟨hz1, hz2⟩ := zeroAt_ok (σ := σ) (n := n.toNat * esz) hzc hzl hp
  have hw1 : IntKind.i64.wrap n = n := by unfold IntKind.wrap; simp [IntKind.bits, IntKind.signed]; omega
  have hnb : ¬ ((281474976710656 : Int) < info.bytes * n) := by rw [hbytes, Int.mul_comm]; omega
  have c1 : ¬ (n < 0) := by omega
  have c3 : ¬ (n < n) := by omega
  refine ⟨.slice (some ⟨w.heap.size, 0, none⟩) n.toNat n.toNat, (Array.range (n.toNat * esz)).map (z.cells[· % z.cells.size]!), e, ?_, hz1, hz2, fun σ' id hid => by simp only [AK.mk, VR]; exact ⟨hp, .inr ⟨_, n.toNat, 0, hid, Nat.le_refl _, by simp, fun _ => rfl, rfl⟩⟩⟩
  simp only [execOp, ho, hx, hy]
  by_cases h0 : n.toNat * esz = 0
  · have hh : (Array.map (fun x => z.cells[x % z.cells.size]!) (Array.range (n.toNat * esz))) = (#[] : Array Value) := by rw [h0]; simp
    have hc0 : n.toNat = 0 := by rcases Nat.mul_eq_zero.1 h0 with h1 | h1; exact h1; omega
    rw [hh]
    simp [Instr.makeSlice, run_underlying hu, asInt, asIntOf, sizeOf, typeInfo, hinfo, hsize, hw1, c1, c3, hnb, newRow, hc0]
    try rw [show (Array.map (fun _ => (default : Value)) (Array.range 0)) = (#[] : Array Value) by simp]
  · have hcne : ¬ (n.toNat = 0) := fun h1 => h0 (by rw [h1, Nat.zero_mul])
    have hene : ¬ (esz = 0) := by omega
    simp [Instr.makeSlice, run_underlying hu, asInt, asIntOf, sizeOf, typeInfo, zeroValue, hinfo, hsize, hzero, hw1, c1, c3, hnb, newRow, hcne, hene]
    try exact fun h1 => absurd h1 h0
end Go.Vm

namespace Go.Vm

def Conds (cs : List (Nat × Nat)) (j : Nat) (acc : List Acc) (recs : List Rec) : Prop :=
  (∀ a ∈ acc, ∀ (k : Nat) (r : Rec), recs[k]? = some r → inCs cs a.i (j + k) = true → Same a.kd a.h a.h' r.kd r.h r.h') ∧
  ∀ (k l : Nat) (rk rl : Rec), k < l → recs[k]? = some rk → recs[l]? = some rl → inCs cs (j + k) (j + l) = true → Same rk.kd rk.h rk.h' rl.kd rl.h rl.h'
theorem vacc_mem {cs : List (Nat × Nat)} {j l : Nat} {kd : Kd} {h h' : Hp} {acc : List Acc} (hin : inCs cs j l = true) : (⟨j, kd, h, h'⟩ : Acc) ∈ vacc cs j kd h h' acc := by
  have : (cs.any fun p => Nat.beq p.1 j) = true := by
    unfold inCs at hin
    rw [List.any_eq_true] at hin ⊢
    obtain ⟨p, hp, h1⟩ := hin
    refine ⟨p, hp, ?_⟩
    split at h1
    · assumption
    · cases h1
  unfold vacc; rw [this]; simp
theorem vacc_sub {cs : List (Nat × Nat)} {j : Nat} {kd : Kd} {h h' : Hp} {acc : List Acc} {a : Acc} (ha : a ∈ acc) : a ∈ vacc cs j kd h h' acc := by
  unfold vacc
  split
  · exact List.mem_cons_of_mem _ ha
  · exact ha
theorem Conds.cons {cs : List (Nat × Nat)} {j : Nat} {acc : List Acc} {r : Rec} {rs : List Rec} (h1 : ∀ a ∈ acc, inCs cs a.i j = true → Same a.kd a.h a.h' r.kd r.h r.h')
    (h2 : Conds cs (j + 1) (vacc cs j r.kd r.h r.h' acc) rs) : Conds cs j acc (r :: rs) := by
  refine ⟨fun a ha k rk hk hin => ?_, fun k l rk rl hkl hk hl hin => ?_⟩
  · cases k with
    | zero => simp at hk; subst hk; exact h1 a ha hin
    | succ k => exact h2.1 a (vacc_sub ha) k rk (by simpa using hk) (by rwa [show j + 1 + k = j + (k + 1) by omega])
  · cases l with
    | zero => omega
    | succ l =>
      cases k with
      | zero =>
        simp at hk; subst hk
        exact h2.1 _ (vacc_mem (by simpa using hin)) l rl (by simpa using hl) (by rw [show j + 1 + l = j + (l + 1) by omega]; simpa using hin)
      | succ k =>
        exact h2.2 k l rk rl (by omega) (by simpa using hk) (by simpa using hl) (by rw [show j + 1 + k = j + (k + 1) by omega, show j + 1 + l = j + (l + 1) by omega]; exact hin)
theorem vstep_ok {cs : List (Nat × Nat)} {j : Nat} {kd : Kd} {h h' : Hp} {acc : List Acc} {K : List Acc → Prop} (hk : vstep cs j kd h h' acc K) : ∃ acc', K acc' ∧
    ∀ (r : Rec) (rs : List Rec), r.kd = kd → r.h = h → r.h' = h' → Conds cs (j + 1) acc' rs → Conds cs j acc (r :: rs) := by
  cases cs with
  | nil =>
    refine ⟨[], hk, fun r rs _ _ _ _ => ⟨fun a _ k rk _ hin => ?_, fun k l rk rl _ _ _ hin => ?_⟩⟩
    · simp [inCs] at hin
    · simp [inCs] at hin
  | cons c cs =>
    obtain ⟨h1, h2⟩ := vsame_ok hk
    refine ⟨_, h1, fun r rs e1 e2 e3 hc => ?_⟩
    subst e1 e2 e3
    exact hc.cons h2
theorem Fr.at_same {fr : Fr} {d : Nat} {v : V} (h : fr.at d = v) (x : Nat) : (fr.set d v).at x = fr.at x := by
  rw [Fr.at_set]
  by_cases e : x = d
  · subst e; rw [if_pos rfl, h]
  · rw [if_neg e]
theorem vopsD_ok {P : Program} {T : TT} (hT : TOk P T) {ro : Option Nat} {ops : Array Oper} {n : Nat} {cs : List (Nat × Nat)} {K : Fr → Hp → Prop} : ∀ (os : List Oper) (j : Nat) (fr : Fr) (h : Hp) (acc : List Acc),
    vopsD P T n ops.toList cs j os fr h acc K → ∃ recs frN hN, TrOk P ro ops n os fr h recs frN hN ∧ K frN hN ∧ Conds cs j acc recs
  | [], j, fr, h, acc, hk => ⟨[], fr, h, ⟨rfl, rfl, rfl⟩, hk, fun a _ k r hr => by simp at hr, fun k l rk rl _ hr => by simp at hr⟩
  | o :: os, j, fr, h, acc, hv => by
    have ih := vopsD_ok hT (ro := ro) (ops := ops) (n := n) (cs := cs) (K := K) os (j + 1)
    have run : ∀ fr1 : Fr, (∀ x, fr1.at x = fr.at x) → (∀ r : Rec, r.o = o → r.run = true → r.fr = fr1 → WantOk ops r) → vopD P T o (evT o fr1) h (fun kd v h' => vstep cs j kd h h' acc fun acc => vput n fr1 o.dst v fun fr' => vopsD P T n ops.toList cs (j + 1) os fr' h' acc K) →
        ∃ recs frN hN, TrOk P ro ops n (o :: os) fr h recs frN hN ∧ K frN hN ∧ Conds cs j acc recs := by
      intro fr1 hfr hw hk
      obtain ⟨kd, v, h', hk, hrec, k1, k2, k3⟩ := vopD_ok hT (ro := ro) hk
      obtain ⟨acc', hk, hsame⟩ := vstep_ok hk
      obtain ⟨fr', hk, hdst, hat⟩ := vput_at hk
      obtain ⟨recs, frN, hN, h1, h2, h3⟩ := ih fr' h' _ hk
      exact ⟨⟨o, true, kd, v, fr1, h, h'⟩ :: recs, frN, hN, ⟨_, recs, fr', rfl, rfl, rfl, hfr, hrec, hw _ rfl rfl rfl, hdst, hat, k1, k2, k3, h1⟩, h2, hsame _ _ rfl rfl rfl h3⟩
    have skip : ∀ fr1 : Fr, (∀ x, fr1.at x = fr.at x) → (∀ r : Rec, r.o = o → r.run = false → r.fr = fr1 → WantOk ops r) → (vstep cs j .lite h h acc fun acc => vput n fr1 o.dst (.tuple []) fun fr' => vopsD P T n ops.toList cs (j + 1) os fr' h acc K) →
        ∃ recs frN hN, TrOk P ro ops n (o :: os) fr h recs frN hN ∧ K frN hN ∧ Conds cs j acc recs := by
      intro fr1 hfr hw hk
      obtain ⟨acc', hk, hsame⟩ := vstep_ok hk
      obtain ⟨fr', hk, hdst, hat⟩ := vput_at hk
      obtain ⟨recs, frN, hN, h1, h2, h3⟩ := ih fr' h _ hk
      exact ⟨⟨o, false, .lite, .tuple [], fr1, h, h⟩ :: recs, frN, hN, ⟨_, recs, fr', rfl, rfl, rfl, hfr, ⟨rfl, rfl, rfl⟩, hw _ rfl rfl rfl, hdst, hat, by simp, by simp, by simp, h1⟩, h2, hsame _ _ rfl rfl rfl h3⟩
    change vopsD1 P T n ops.toList cs o (fun j => vopsD P T n ops.toList cs j os) j fr h acc K at hv
    unfold vopsD1 at hv
    split at hv
    · rename_i hg
      exact run fr (fun _ => rfl) (fun r h1 h2 h3 => by unfold WantOk; rw [h1, hg]; exact h2) hv
    · rename_i g want hg
      split at hv
      · rename_i d hgs
        split at hv
        · rename_i b hb
          have hw : ∀ c : Bool, c = b → ∀ r : Rec, r.o = o → r.run = (c == want) → r.fr = fr.set d (.s (.bool c)) → WantOk ops r := by
            intro c hc r h1 h2 h3
            unfold WantOk
            rw [h1, hg]
            exact ⟨d, hgs, .inl ⟨c, by rw [h3, Fr.at_set, if_pos rfl], h2⟩⟩
          cases b with
          | true =>
            have hv := hv.elim.1 rfl
            rw [Fr.setK_eq] at hv
            cases want with
            | true => exact run _ (Fr.at_same hb) (fun r h1 h2 h3 => hw true rfl r h1 h2 h3) hv
            | false => exact skip _ (Fr.at_same hb) (fun r h1 h2 h3 => hw true rfl r h1 h2 h3) hv
          | false =>
            have hv := hv.elim.2 rfl
            rw [Fr.setK_eq] at hv
            cases want with
            | true => exact skip _ (Fr.at_same hb) (fun r h1 h2 h3 => hw false rfl r h1 h2 h3) hv
            | false => exact run _ (Fr.at_same hb) (fun r h1 h2 h3 => hw false rfl r h1 h2 h3) hv
        · rename_i l hb
          exact skip fr (fun _ => rfl) (fun r h1 h2 h3 => by unfold WantOk; rw [h1, hg]; exact ⟨d, hgs, .inr ⟨l, by rw [h3]; exact hb, h2⟩⟩) hv
        · exact hv.elim
      · exact hv.elim
structure TrAt (P : Program) (ro : Option Nat) (ops : Array Oper) (n : Nat) (os : List Oper) (recs : List Rec) (frN : Fr) (hN : Hp) (k : Nat) (r : Rec) : Prop where
  op : os[k]? = some r.o
  hs : hatOf recs hN (k + 1) = r.h'
  fs : ∀ x, (fatOf recs frN (k + 1)).at x = if r.o.dst = some x then r.v else r.fr.at x
  ok : RecOk P ro r
  want : WantOk ops r
  dst : ∀ x, r.o.dst = some x → x < n
  k1 : r.kd = .glob → isGlob r.o = true
  k2 : ∀ β, r.kd = .load β → isLoad r.o = true
  k3 : ∀ cs, r.kd = .alloc cs → isAlloc r.o = true
theorem TrOk.all {P : Program} {ro : Option Nat} {ops : Array Oper} {n : Nat} : ∀ {os : List Oper} {fr : Fr} {h : Hp} {recs : List Rec} {frN : Fr} {hN : Hp}, TrOk P ro ops n os fr h recs frN hN →
    recs.length = os.length ∧ hatOf recs hN 0 = h ∧ (∀ x, (fatOf recs frN 0).at x = fr.at x) ∧ ∀ (k : Nat) (r : Rec), recs[k]? = some r → TrAt P ro ops n os recs frN hN k r
  | [], fr, h, recs, frN, hN, ht => by
    obtain ⟨rfl, rfl, rfl⟩ := ht
    exact ⟨rfl, rfl, fun _ => rfl, fun k r hr => by simp at hr⟩
  | o :: os, fr, h, recs, frN, hN, ht => by
    obtain ⟨r, rs, fr', rfl, ho, hh, hfr, hok, hw, hd, hat, k1, k2, k3, ht⟩ := ht
    obtain ⟨h1, h2, h3, h4⟩ := TrOk.all ht
    have hh' : ∀ k, hatOf (r :: rs) hN (k + 1) = hatOf rs hN k := fun k => by simp [hatOf]
    have hf' : ∀ k, fatOf (r :: rs) frN (k + 1) = fatOf rs frN k := fun k => by simp [fatOf]
    refine ⟨by simp [h1], by simp [hatOf, hh], fun x => by simp [fatOf, hfr], fun k r' hr => ?_⟩
    cases k with
    | zero =>
      simp at hr; subst hr
      exact ⟨by simp [ho], by rw [hh', h2], fun x => by rw [hf', h3, hat, ho], hok, hw, by rw [ho]; exact hd, by rw [ho]; exact k1, by rw [ho]; exact k2, by rw [ho]; exact k3⟩
    | succ k =>
      obtain ⟨a1, a2, a3, a4, a5, a6, a7, a8, a9⟩ := h4 k r' (by simpa using hr)
      exact ⟨by simpa using a1, by rw [hh', a2], fun x => by rw [hf', a3], a4, a5, a6, a7, a8, a9⟩
def Dm (ms : List Nat) (i j : Nat) : Prop := (ms.getD j 0).testBit i = true
theorem tc_of {P : Program} {ro : Option Nat} {ops : Array Oper} {n : Nat} {fr : Fr} {h : Hp} {recs : List Rec} {frN : Fr} {hN : Hp} {ms : List Nat} {cs : List (Nat × Nat)}
    (hc : drawOk ops ms cs = true) (ht : TrOk P ro ops n ops.toList fr h recs frN hN) (hcd : Conds cs 0 [] recs) (hl : ms.length ≤ ops.size) : Tc P ro ops n recs hN frN (Dm ms) := by
  obtain ⟨g1, g2⟩ := chkAll_ok hc
  obtain ⟨t1, t2, t3, t4⟩ := ht.all
  have one : ∀ (j : Nat) (o : Oper), ops[j]? = some o → (∀ e ∈ o.after, Region.binds .any e = true → e.on < j) ∧ ms.getD j 0 = emask ms o.after.toList := by
    intro j o ho
    have := g1 j o (by simpa using ho)
    rw [Nat.zero_add] at this
    unfold chkOne at this
    rw [Bool.and_eq_true] at this
    refine ⟨fun e he hb => ?_, Nat.eq_of_beq_eq_true this.2⟩
    have h1 := List.all_eq_true.1 this.1 e (by simpa using he)
    rw [hb] at h1
    simpa [Nat.blt_eq] using h1
  have pair : ∀ (i j : Nat) (oi oj : Oper), i < j → ops[i]? = some oi → ops[j]? = some oj → ¬ Dm ms i j → oi.apart ops oj = true ∧ (isGlob oi && isGlob oj) = false ∧ ((isGlob oi && isLoad oj || (isLoad oi || isAlloc oi) && isGlob oj) = true → inCs cs i j = true) := by
    intro i j oi oj hij hi hj hD
    have := g2 i j oi oj hij (by simpa using hi) (by simpa using hj)
    rw [Nat.zero_add, Nat.zero_add] at this
    unfold chkPair at this
    rw [Bool.or_eq_true] at this
    rcases this with h1 | h1
    · exact absurd h1 hD
    · rw [Bool.and_eq_true, Bool.and_eq_true] at h1
      refine ⟨h1.1.1, Bool.not_eq_true' _ ▸ h1.1.2, fun h2 => ?_⟩
      have h3 := h1.2
      rw [h2] at h3
      simpa using h3
  have hops : ∀ (j : Nat) (r : Rec), recs[j]? = some r → ops[j]? = some r.o := fun j r hr => by simpa using (t4 j r hr).op
  have clo : ∀ j i, Dm ms i j → i < j ∧ ∃ (o : Oper) (e : Edge), ops[j]? = some o ∧ e ∈ o.after ∧ Region.binds .any e = true ∧ (i = e.on ∨ Dm ms i e.on) := by
    intro j
    induction j using Nat.strongRecOn with
    | _ j ih =>
      intro i hD
      cases ho : ops[j]? with
      | none =>
        exfalso
        have : ops.size ≤ j := by simpa using ho
        unfold Dm at hD
        rw [List.getD_eq_getElem?_getD, List.getElem?_eq_none (by omega)] at hD
        simp at hD
      | some o =>
        obtain ⟨h1, h2⟩ := one j o ho
        have hD' := hD
        unfold Dm at hD'
        rw [h2, emask_bit] at hD'
        obtain ⟨e, h3, h4, h5⟩ := hD'
        have hlt := h1 e (by simpa using h3) h4
        refine ⟨?_, o, e, rfl, by simpa using h3, h4, h5⟩
        rcases h5 with rfl | h5
        · exact hlt
        · exact Nat.lt_trans (ih e.on hlt i h5).1 hlt
  refine ⟨by rw [t1]; simp, hops, fun j r hr => (t4 j r hr).hs, fun j r hr => (t4 j r hr).fs, fun j r x hr hd => (t4 j r hr).dst x hd, fun j r hr => (t4 j r hr).ok, fun j r hr => (t4 j r hr).want, ?_, fun i j => clo j i, ?_, ?_, ?_, ?_, ?_⟩
  · intro j o e ho he hb
    obtain ⟨h1, h2⟩ := one j o ho
    refine ⟨h1 e he hb, ?_⟩
    unfold Dm
    rw [h2, emask_bit]
    exact ⟨e, by simpa using he, hb, .inl rfl⟩
  · intro i j oi oj hij hi hj hD; exact (pair i j oi oj hij hi hj hD).1
  · intro i j ri rj hij hi hj hgi hgj
    rcases Classical.em (Dm ms i j) with h1 | h1
    · exact h1
    · have := (pair i j _ _ hij (hops i ri hi) (hops j rj hj) h1).2.1
      rw [(t4 i ri hi).k1 hgi, (t4 j rj hj).k1 hgj] at this
      cases this
  · intro i j ri rj β hij hi hj hD hgi hgj
    have := (pair i j _ _ hij (hops i ri hi) (hops j rj hj) hD).2.2 (by rw [(t4 i ri hi).k1 hgi, (t4 j rj hj).k2 β hgj]; rfl)
    have hs := hcd.2 i j ri rj hij hi hj (by simpa using this)
    unfold Same at hs
    rw [hgi, hgj] at hs
    exact hs
  · intro i j ri rj β hij hi hj hD hgi hgj
    have := (pair i j _ _ hij (hops i ri hi) (hops j rj hj) hD).2.2 (by rw [(t4 i ri hi).k2 β hgi, (t4 j rj hj).k1 hgj]; simp)
    have hs := hcd.2 i j ri rj hij hi hj (by simpa using this)
    unfold Same at hs
    rw [hgi, hgj] at hs
    exact hs
  · intro i j ri rj c hij hi hj hD hgi hgj
    have := (pair i j _ _ hij (hops i ri hi) (hops j rj hj) hD).2.2 (by rw [(t4 i ri hi).k3 c hgi, (t4 j rj hj).k1 hgj]; simp)
    have hs := hcd.2 i j ri rj hij hi hj (by simpa using this)
    unfold Same at hs
    rw [hgi, hgj] at hs
    exact hs
theorem VWp.drawn {P : Program} {T : TT} (hT : TOk P T) {ro : Option Nat} {K : Id → Prop} {id : Nat} {ops : Array Oper} {st : St} {Q : X → St → Prop} (ms : List Nat) (cs : List (Nat × Nat))
    (hm : P.follows .mixedOrders = true) (hl : Nat.ble ms.length ops.size = true) (hc : drawOk ops ms cs = true)
    (h : vopsD P T st.n ops.toList cs 0 ops.toList st.fr st.h [] fun fr h => Q .normal { st with fr := fr, h := h }) : VWp P ro K (.region id ops true) st Q := by
  intro σ a w hs
  obtain ⟨recs, frN, hN, ht, hq, hcd⟩ := vopsD_ok hT (ro := ro) (ops := ops) _ _ _ _ _ h
  have Tt := tc_of hc ht hcd (Nat.le_of_ble_eq_true hl)
  obtain ⟨t1, t2, t3, t4⟩ := ht.all
  refine wpIn_region_any hm ?_
  have hdomσ : σ.within (dm recs hN 0) := ⟨fun i hi h0 => by
    rw [t2] at h0
    exact hi (hs.rel.dom i h0), fun i hi h0 => by
    rw [t2] at h0
    exact hs.rel.nmd i hi h0⟩
  have hgs : gS recs hN (fun _ => False) 0 = st.h.get := by
    funext i
    by_cases hcr : ∃ b, Cr recs i b
    · obtain ⟨b, hb⟩ := hcr
      rw [Tt.gS_cr hb, if_neg (fun h => h), ← t2]
      have := Tt.cr_before hb (Nat.zero_le b)
      unfold dm at this
      cases hx : (hatOf recs hN 0).get i with
      | none => rfl
      | some b => rw [hx] at this; simp at this
    · rw [gS_nc hcr, t2]
  have I0 : Inv P recs hN frN st.n st.marks σ w (fun _ => False) σ 0 a { w with drawn := w.drawn + 1 } := by
    refine ⟨fun g r _ _ => by simp, ?_, ?_, fun k r hk => hk.elim, ?_, hs.size, ?_, ?_, ?_⟩
    · rw [hgs]; exact hs.rel.heap_eq rfl
    · intro x v hl
      rcases hl with ⟨rfl, _⟩ | ⟨k, r, hk, _⟩
      · rw [t3]; exact hs.fr x
      · exact hk.elim
    · intro i b p hi hp hb
      rw [hgs] at hb
      cases hsi : σ i with
      | none => exact absurd hsi hi
      | some e =>
        obtain ⟨_, o, _, hr⟩ := hs.rel.blk i e b hsi hb
        exact ⟨σ, e, o, hdomσ.mono fun m hm => Tt.grow (Nat.zero_le p) hm, hr⟩
    · rw [hgs]; exact hs.marks.ext (Ext.drew (σ := σ) (h := st.h) (w := w)).toK
    · rw [hgs, t2]; exact (Ext.drew (σ := σ) (h := st.h) (w := w)).toK
    · intro x
      rw [t3]
      exact ⟨σ, _, hdomσ, hs.fr x⟩
  have hlist : (fun k => (Array.replicate ops.size false).getD k false = true) = fun _ => False := by
    funext k
    refine propext ⟨fun h => ?_, False.elim⟩
    rw [Array.getD_eq_getD_getElem?, Array.getElem?_replicate] at h
    split at h <;> simp at h
  refine inv_any Tt (n := st.n) (marks := st.marks) (σ0 := σ) (w0 := w) ?_ ops.size _ σ 0 a _ (by simp) (by omega) ?_ (by rw [hlist]; exact I0)
  · intro σ' G a' w' I
    have hlen : recs.length = ops.size := by rw [t1]; simp
    have hend : ∀ p, recs.length ≤ p → hatOf recs hN p = hN := fun p hp => by unfold hatOf; rw [List.getElem?_eq_none hp]
    have hall : ∀ i p, G ≤ p → (∀ a, Cr recs i a → a + 1 ≤ p) → (hatOf recs hN p).get i = hN.get i := by
      intro i p hp hcp
      rcases Nat.le_total recs.length p with h1 | h1
      · rw [hend p h1]
      · have e := hend recs.length (Nat.le_refl _)
        conv => rhs; rw [← e]
        refine (fix_chain h1 fun k h2 h3 => Tt.fixed (fun r hr hg => ?_) (fun hcr => by have := hcp k hcr; omega)).symm
        have := (I.iG k r hr hg).1 (by omega)
        omega
    have hgS : gS recs hN (fun k => k < ops.size) G = hN.get := by
      funext i
      by_cases hcr : ∃ b, Cr recs i b
      · obtain ⟨b, hb⟩ := hcr
        have hlt : b < ops.size := by
          obtain ⟨r, _, hr, _⟩ := hb
          rw [← hlen]; exact (List.getElem?_eq_some_iff.1 hr).1
        rw [Tt.gS_cr hb, if_pos hlt]
        exact hall i _ (Nat.le_max_left _ _) fun c hc => by rw [Tt.cr_uniq hc hb]; exact Nat.le_max_right _ _
      · rw [gS_nc hcr]
        exact hall i G (Nat.le_refl _) fun c hc => absurd ⟨c, hc⟩ hcr
    have hrel := I.rel
    have hext := I.ext
    have hmks := I.mks
    rw [hgS] at hrel hext hmks
    rw [t2] at hext
    refine ⟨.normal, σ', _, rfl, hq, ⟨hrel, fun x => ?_, I.size, hmks⟩, hext.weak fun _ _ => trivial⟩
    refine I.slot x _ ?_
    have := Tt.lastF x ops.size
    rwa [show fatOf recs frN ops.size = frN by unfold fatOf; rw [List.getElem?_eq_none (by omega)]] at this
  · intro k o e hk
    have : (fun k => (Array.replicate ops.size false).getD k false = true) k := hk
    rw [hlist] at this
    exact this.elim
theorem VDraw.run {P : Program} {ro : Option Nat} {K : Id → Prop} {id : Nat} {ops : Array Oper} {n : Nat} {fr : Fr} {h : Hp} {marks : List Id} {Q : X → St → Prop} (ms : List Nat) (cs : List (Nat × Nat))
    (hm : P.follows .mixedOrders = true) (hl : Nat.ble ms.length ops.size = true) (hc : drawOk ops ms cs = true)
    (hv : vopsD P (tiOf P) n ops.toList cs 0 ops.toList fr h [] fun fr h => Q .normal ⟨n, fr, h, marks⟩) : VDraw P (tiOf P) ro K id ops ⟨n, fr, h, marks⟩ Q :=
  VDraw.intro (VWp.drawn (tiOf_ok P) ms cs hm hl hc hv)
theorem masksGo_length : ∀ (os : List Oper) (acc : List Nat), (masksGo os acc).length = acc.length + os.length
  | [], acc => by simp [masksGo]
  | o :: os, acc => by rw [masksGo, masksGo_length os]; simp; omega
def forceNs : List Nat → List Nat → (List Nat → Bool) → Bool
  | [], acc, k => k acc.reverse
  | n :: l, acc, k => match n with
    | 0 => forceNs l (0 :: acc) k
    | n + 1 => forceNs l ((n + 1) :: acc) k
theorem forceNs_eq : ∀ (l acc : List Nat) (k : List Nat → Bool), forceNs l acc k = k (acc.reverse ++ l)
  | [], acc, k => by simp [forceNs]
  | n :: l, acc, k => by
    cases n with
    | zero => simp [forceNs, forceNs_eq l]
    | succ n => simp [forceNs, forceNs_eq l]
def drawOk' (ops : Array Oper) (cs : List (Nat × Nat)) : Bool := forceNs (masksOf ops) [] fun ms => drawOk ops ms cs
theorem VDraw.go {P : Program} {ro : Option Nat} {K : Id → Prop} {id : Nat} {ops : Array Oper} {n : Nat} {fr : Fr} {h : Hp} {marks : List Id} {Q : X → St → Prop} (cs : List (Nat × Nat))
    (hm : P.follows .mixedOrders = true) (hc : drawOk' ops cs = true)
    (hv : vopsD P (tiOf P) n ops.toList cs 0 ops.toList fr h [] fun fr h => Q .normal ⟨n, fr, h, marks⟩) : VDraw P (tiOf P) ro K id ops ⟨n, fr, h, marks⟩ Q := by
  unfold drawOk' at hc
  rw [forceNs_eq] at hc
  refine VDraw.run (masksOf ops) cs hm ?_ (by simpa using hc) hv
  have := masksGo_length ops.toList []
  simp only [Array.length_toList, List.length_nil, Nat.zero_add] at this
  exact Nat.ble_eq_true_of_le (by unfold masksOf; omega)
end Go.Vm

namespace Go.Vm

def RFin (i : Id) (h : Hp) (r : V) (h' : Hp) (x : X) (st : St) : Prop :=
  ∃ lr, st.h.get (.out i) = some (.loop lr) ∧ r = .s (.bool x.jump.isNone) ∧ Outs h (st.h.set (.out i) (.loop { lr with state := (if x.jump.isNone then .ready else .done), pending := x.jump })) r r h'
theorem VY.intro {P : Program} {i : Id} {args : List V} {h : Hp} {r : V} {h' : Hp} {lr : LoopV} (hb : h.get i = some (.loop lr)) (hst : lr.state = .ready) (hn : args.length = lr.params.size) (hp : ∀ t ∈ lr.params.toList, t < lr.n) (hgr : h.grows h')
    (hw : ∀ l, VWp P (some l) isOut lr.assign ⟨lr.n, frPar lr.params.toList (args.map (V.ren .out)) (PT.map (V.ren .out) lr.fr), h.enter, []⟩ (fun x st => (match x with | .normal => True | _ => False) ∧
      ∃ lr1, st.h.get (.out i) = some (.loop lr1) ∧ lr1.state = .ready ∧ VWp P (some l) isOut lr.body { st with h := st.h.set (.out i) (.loop { lr1 with state := .busy }) } (RFin i h r h'))) : VY P i args h r h' := by
  refine ⟨hgr, fun σ w e xs hr hi hxs => ?_⟩
  obtain ⟨R, hR, hRs, hRp, hRpa, hRa, hRb, hRf, hRn, _⟩ := hr.loopSet hi hb
  have hlen := VRs.length hxs
  let σc : Sig := σ.enter.at w.heap.size
  have hrc : Rel σc h.enter w := hr.enter.at _
  have hy := run_yield (P := P) (args := xs.toArray) hR (by rw [hRpa]; simp [hlen, hn])
  refine ⟨_, _, _, _, hy, roundIn_of_wpIn trivial ?_⟩
  rw [hRa, hRb, hRpa]
  have hargs : VRs σc (args.map (V.ren .out)) xs := VRs.mono (σ.enter.at_le w.heap.size) _ _ (by rw [← V.rens_eq]; exact (VRs_ren σ.enter .out args xs).2 hxs)
  have hfr0 : FrRel σc (PT.map (V.ren .out) lr.fr) R.tmps := FrRel.mono (σ.enter.at_le w.heap.size) ((FrRel_ren σ.enter .out lr.fr R.tmps).2 hRf)
  obtain ⟨f1, f2⟩ := FrRel.par lr.params.toList _ xs _ R.tmps hp hRn hfr0 hargs
  have hz : (lr.params.zip xs.toArray).foldl (fun tmps (t, a) => tmps.setIfInBounds t a) R.tmps = (lr.params.toList.zip xs).foldl (fun tmps p => tmps.setIfInBounds p.1 p.2) R.tmps := by
    rw [← Array.foldl_toList]; simp
  rw [hz]
  have hs0 : StRel σc ⟨lr.n, frPar lr.params.toList (args.map (V.ren .out)) (PT.map (V.ren .out) lr.fr), h.enter, []⟩ { tmps := (lr.params.toList.zip xs).foldl (fun tmps p => tmps.setIfInBounds p.1 p.2) R.tmps, defers := [] } w :=
    ⟨hrc, f1, f2, MarksRel.nil (Nat.le_refl _)⟩
  refine wpIn_mono (hw e.rid σc _ w hs0) ?_
  rintro en a1 w1 ⟨x, σ1, st1, rfl, ⟨hx, lr1, hb1, hst1, hbody⟩, hs1, hx1⟩
  cases x with
  | exit id => exact hx.elim
  | ret => exact hx.elim
  | normal =>
    have hi1 : σ1 (.out i) = some e := hx1.le (.out i) e trivial hi
    obtain ⟨R1, hR1, hR1s, hR1p, _, _, _, _, _, hset1⟩ := hs1.rel.loopSet hi1 hb1
    have hbr := run_beginRound (P := P) hR1 (by rw [hR1s]; exact hst1)
    refine ⟨_, hbr, ?_⟩
    obtain ⟨hr2, hx2⟩ := hset1 .busy lr1.pending
    have hw2 : w1.putObj e.rid (.loop { R1 with state := .busy }) = w1.putObj e.rid (.loop { R1 with state := .busy, pending := lr1.pending }) := by rw [← hR1p]
    rw [hw2]
    have hs2 : StRel σ1 { st1 with h := st1.h.set (.out i) (.loop { lr1 with state := .busy }) } a1 (w1.putObj e.rid (.loop { R1 with state := .busy, pending := lr1.pending })) := ⟨hr2, hs1.fr, hs1.size, hs1.marks.ext hx2⟩
    refine wpIn_mono (hbody σ1 a1 _ hs2) ?_
    rintro en a3 w3 ⟨x, σ3, st3, rfl, ⟨lr3, hb3, hrr, hL⟩, hs3, hx3⟩
    have hi3 : σ3 (.out i) = some e := hx3.le (.out i) e trivial hi1
    obtain ⟨R3, hR3, _, _, _, _, _, _, _, hset3⟩ := hs3.rel.loopSet hi3 hb3
    obtain ⟨hr4, hx4⟩ := hset3 (if x.jump.isNone then .ready else .done) x.jump
    have hxT := ((hx1.trans (hx2.weak fun _ _ => trivial)).trans hx3).trans (hx4.weak (K' := isOut) fun _ _ => trivial)
    obtain ⟨σ5, g1, g2, g3⟩ := hL _ _ _ _ (.bool x.jump.isNone) hr (hr4.at _) hxT.at (by rw [hrr]; rfl)
    cases x with
    | normal => exact ⟨_, _, run_endRound none hR3, σ5, _, rfl, g1, g2, g3⟩
    | ret => exact ⟨_, _, run_endRound (some .ret) hR3, σ5, _, rfl, g1, g2, g3⟩
    | exit id => exact ⟨_, _, run_endRound (some (.exit id)) hR3, σ5, _, rfl, g1, g2, g3⟩
def Hp.under (h : Hp) (loc : List Blk) : Hp := ⟨h.lift, loc⟩
theorem under_out (h : Hp) (loc : List Blk) (i : Id) : (h.under loc).get (.out i) = (h.get i).map (Blk.ren .out) := get_lift h loc i
theorem VY.lift {P : Program} {i : Id} {args : List V} {g g' : Hp} {r : V} (loc : List Blk) (hV : VY P i args g r g') : VY P (.out i) (args.map (V.ren .out)) (g.under loc) (r.ren .out) (g'.under loc) := by
  obtain ⟨hgr, hV⟩ := hV
  refine ⟨?_, ?_⟩
  · intro j hj
    cases j with
    | loc k => exact hj
    | out j =>
      rw [under_out] at hj ⊢
      intro h0
      rw [Option.map_eq_none_iff] at h0
      exact hgr j (fun h1 => hj (by rw [h1]; rfl)) h0
  · intro σ w e xs hr hi hxs
    let σo : Sig := σ.ren .out
    have hro : Rel σo g w := by
      refine ⟨fun j ej b hj hb => ?_, fun j k ej ek bj bk hne hj hk hbj hbk h1 h2 => ?_, fun j hj => ?_, fun j hj => ?_, fun r o hro => ?_⟩
      · obtain ⟨h1, o, h2, h3⟩ := hr.blk (.out j) ej (b.ren .out) hj (by rw [under_out, hb]; rfl)
        exact ⟨h1, o, h2, (BlkRel_ren _ _ _ _ _).1 h3⟩
      · exact hr.apart (.out j) (.out k) ej ek _ _ (fun e => hne (by cases e; rfl)) hj hk (by rw [under_out, hbj]; rfl) (by rw [under_out, hbk]; rfl) (by simpa using h1) (by simpa using h2)
      · exact hr.dom (.out j) (by rw [under_out, hj]; rfl)
      · have := hr.nmd (.out j) hj
        rw [under_out] at this
        exact fun h0 => this (by rw [h0]; rfl)
      · obtain ⟨f1, f2⟩ := hr.fz r o hro
        exact ⟨f1, fun j ej b hj hb hw => f2 (.out j) ej (b.ren .out) hj (by rw [under_out, hb]; rfl) (by simpa using hw)⟩
    have hxo : VRs σo args xs := by rw [← V.rens_eq] at hxs; exact (VRs_ren σ .out args xs).1 hxs
    obtain ⟨fn, tmps, assign, body, hy, hround⟩ := hV σo w e xs hro hi hxo
    refine ⟨fn, tmps, assign, body, hy, RoundIn.mono hround ?_⟩
    rintro en w' ⟨σ1, x, rfl, hx, hr1, he⟩
    let σ2 : Sig := ⟨fun | .out i => σ1 i | .loc k => σ (.loc k), σ1.fz, fun | .out i => σ1.nm i | .loc k => σ.nm (.loc k), σ1.lo⟩
    have hnm : ∀ j, σ.nm j → σ2.nm j := fun j hj => by
      cases j with
      | loc k => exact hj
      | out j => exact he.nm j trivial hj
    have hle : σ.le σ2 := ⟨fun j ej hj => by
      cases j with
      | loc k => exact hj
      | out j => exact he.le j ej trivial hj, he.fz, hnm⟩
    -- the callee's own blocks lie apart
    have hkeep : ∀ k ej b, σ (.loc k) = some ej → loc[k]? = some b → b.alive = true → w'.heap[ej.rid]? = w.heap[ej.rid]? := by
      intro k ej b hj hb hal
      have hlt := (hr.blk (.loc k) ej b hj hb).1
      refine he.frame ej.rid hlt fun m em bm hm hbm hmw => ?_
      exact hr.apart (.out m) (.loc k) em ej (bm.ren .out) b (by simp) hm hj (by rw [under_out, hbm]; rfl) hb (by simpa using hmw) hal
    have hloc : ∀ k ej b m em bm, σ (.loc k) = some ej → loc[k]? = some b → σ1 m = some em → g'.get m = some bm → (b.rw = true ∧ bm.alive = true) ∨ (bm.rw = true ∧ b.alive = true) → ej.rid ≠ em.rid := by
      intro k ej b m em bm hj hb hm hbm hor
      have hlt := (hr.blk (.loc k) ej b hj hb).1
      by_cases hrw : bm.rw = true
      · have hal : b.alive = true := by
          rcases hor with ⟨h1, _⟩ | ⟨_, h2⟩
          · cases b <;> first | rfl | simp [Blk.rw] at h1
          · exact h2
        rcases he.wr m em bm hm hbm hrw with h1 | ⟨m', em', bm', h1, h2, h3, h4⟩
        · omega
        · rw [← h4]
          exact (hr.apart (.out m') (.loc k) em' ej (bm'.ren .out) b (by simp) h1 hj (by rw [under_out, h2]; rfl) hb (by simpa using h3) hal).symm
      · rcases hor with ⟨h1, h2⟩ | ⟨h1, _⟩
        · obtain ⟨m', bm', g1, g2, g3, _⟩ := he.ro m em bm hm hbm (by simpa using hrw) h2
          exact hr.apart (.loc k) (.out m') ej em b (bm'.ren .out) (by simp) hj g1 hb (by rw [under_out, g2]; rfl) h1 (by simpa using g3)
        · exact absurd h1 hrw
    have hgetL : ∀ (q : Hp) k, (q.under loc).get (.loc k) = loc[k]? := fun _ _ => rfl
    refine ⟨σ2, x, rfl, (VR_ren σ2 .out r x).2 hx, ⟨?_, ?_, ?_, ?_, ?_⟩, ⟨fun j ej _ hj => hle j ej hj, fun j _ hj => hnm j hj, he.lo, he.fz, ?_, he.size, he.os, he.tape, he.output, ?_, ?_, ?_, ?_, ?_⟩⟩
    · intro j ej b hj hb
      cases j with
      | loc k =>
        obtain ⟨h1, o, h2, h3⟩ := hr.blk (.loc k) ej b hj hb
        by_cases hal : b.alive = true
        · exact ⟨Nat.lt_of_lt_of_le h1 he.size, o, by rw [hkeep k ej b hj hb hal]; exact h2, h3.mono hle⟩
        · have hlt := Nat.lt_of_lt_of_le h1 he.size
          refine ⟨hlt, w'.heap[ej.rid], by simp [hlt], ?_⟩
          cases b <;> first | trivial | (exfalso; exact hal rfl)
      | out j =>
        rw [under_out, Option.map_eq_some_iff] at hb
        obtain ⟨b0, hb0, rfl⟩ := hb
        obtain ⟨h1, o, h2, h3⟩ := hr1.blk j ej b0 hj hb0
        exact ⟨h1, o, h2, (BlkRel_ren σ2 .out _ _ _).2 h3⟩
    · intro j k ej ek bj bk hne hj hk hbj hbk h1 h2
      cases j with
      | loc j =>
        cases k with
        | loc k => exact hr.apart (.loc j) (.loc k) ej ek bj bk hne hj hk hbj hbk h1 h2
        | out k =>
          rw [under_out, Option.map_eq_some_iff] at hbk
          obtain ⟨b0, hb0, rfl⟩ := hbk
          exact hloc j ej bj k ek b0 hj hbj hk hb0 (.inl ⟨h1, by simpa using h2⟩)
      | out j =>
        rw [under_out, Option.map_eq_some_iff] at hbj
        obtain ⟨b0, hb0, rfl⟩ := hbj
        cases k with
        | loc k => exact (hloc k ek bk j ej b0 hk hbk hj hb0 (.inr ⟨by simpa using h1, h2⟩)).symm
        | out k =>
          rw [under_out, Option.map_eq_some_iff] at hbk
          obtain ⟨b1, hb1, rfl⟩ := hbk
          exact hr1.apart j k ej ek b0 b1 (fun e => hne (by rw [e])) hj hk hb0 hb1 (by simpa using h1) (by simpa using h2)
    · intro j hj
      cases j with
      | loc k => exact hr.dom (.loc k) hj
      | out j =>
        rw [under_out, Option.map_eq_none_iff] at hj
        exact hr1.dom j hj
    · intro j hj
      cases j with
      | loc k => exact hr.nmd (.loc k) hj
      | out j =>
        rw [under_out]
        intro h0
        rw [Option.map_eq_none_iff] at h0
        exact hr1.nmd j hj h0
    · intro rr o hro
      obtain ⟨f1, f2⟩ := hr1.fz rr o hro
      refine ⟨f1, fun j ej b hj hb hw => ?_⟩
      cases j with
      | loc k =>
        have hlt := (hr.blk (.loc k) ej b hj hb).1
        rcases he.fzn rr o hro with h1 | h1 | ⟨m, em, bm, h1, h2, h3, h4⟩
        · exact (hr.fz rr o h1).2 (.loc k) ej b hj hb hw
        · omega
        · rw [← h4]
          have hal : b.alive = true := by cases b <;> first | rfl | simp [Blk.rw] at hw
          exact (hr.apart (.out m) (.loc k) em ej (bm.ren .out) b (by simp) h1 hj (by rw [under_out, h2]; rfl) hb (by simpa using h3) hal).symm
      | out j =>
        rw [under_out, Option.map_eq_some_iff] at hb
        obtain ⟨b0, hb0, rfl⟩ := hb
        exact f2 j ej b0 hj hb0 (by simpa using hw)
    · intro rr o hro
      rcases he.fzn rr o hro with h1 | h1 | ⟨m, em, bm, h1, h2, h3, h4⟩
      · exact .inl h1
      · exact .inr (.inl h1)
      · exact .inr (.inr ⟨.out m, em, bm.ren .out, h1, by rw [under_out, h2]; rfl, by simpa using h3, h4⟩)
    · intro rr hrr hnr
      refine he.frame rr hrr fun m em bm hm hbm hmw => ?_
      exact hnr (.out m) em (bm.ren .out) hm (by rw [under_out, hbm]; rfl) (by simpa using hmw)
    · intro j ej b hj hb hw
      cases j with
      | loc k => exact .inr ⟨.loc k, ej, b, hj, hb, hw, rfl⟩
      | out j =>
        rw [under_out, Option.map_eq_some_iff] at hb
        obtain ⟨b0, hb0, rfl⟩ := hb
        rcases he.wr j ej b0 hj hb0 (by simpa using hw) with h1 | ⟨m, em, bm, h1, h2, h3, h4⟩
        · exact .inl h1
        · exact .inr ⟨.out m, em, bm.ren .out, h1, by rw [under_out, h2]; rfl, by simpa using h3, h4⟩
    · intro j ej b hj hb hw hal
      cases j with
      | loc k => exact ⟨.loc k, b, hj, hb, hal, hw⟩
      | out j =>
        rw [under_out, Option.map_eq_some_iff] at hb
        obtain ⟨b0, hb0, rfl⟩ := hb
        obtain ⟨m, bm, h1, h2, h3, h4⟩ := he.ro j ej b0 hj hb0 (by simpa using hw) (by simpa using hal)
        exact ⟨.out m, bm.ren .out, h1, by rw [under_out, h2]; rfl, by simpa using h3, by simpa using h4⟩
    · intro j _ hj
      cases j with
      | loc k => exact ⟨hj, id⟩
      | out j =>
        rw [under_out] at hj
        have hj' : g.get j ≠ none := fun h0 => hj (by rw [h0]; rfl)
        obtain ⟨h1, h2⟩ := he.old j trivial hj'
        refine ⟨?_, h2⟩
        rw [under_out]
        intro h0
        rw [Option.map_eq_none_iff] at h0
        exact h1 h0
    · intro j _ hj h
      cases j with
      | loc k => exact h
      | out j =>
        rw [under_out] at hj
        exact he.oldn j trivial (fun h0 => hj (by rw [h0]; rfl)) h
theorem RFin.mk {i : Id} {h : Hp} {r : V} {h' : Hp} {x : X} {st : St} (h0 : ∃ lr, st.h.get (.out i) = some (.loop lr) ∧ r = .s (.bool x.jump.isNone) ∧ Outs h (st.h.set (.out i) (.loop { lr with state := (if x.jump.isNone then .ready else .done), pending := x.jump })) r r h') : RFin i h r h' x st := h0
attribute [irreducible] RFin
end Go.Vm

