/- Part 3 of the proof that two base points leave no enclaves. No condition. -/
import Derived.Test.YtajnkenbhmkjaaaGreatBn2
set_option linter.unusedVariables false
set_option linter.unusedSimpArgs false
namespace Go.Vm

structure TCtx where
  pm : List Nat
  L : Nat
  fz : List (Nat × List D)
  fm : List (Nat × List D × List D)
def TCtx.ρ (c : TCtx) : Id → Id
  | .out i => .out i
  | .loc k => match c.pm[k]? with
    | some j => .loc j
    | none => .loc (c.L + k)
def TCtx.nw (c : TCtx) : Id → Prop
  | .out _ => False
  | .loc k => match c.pm[k]? with
    | some j => c.L ≤ j
    | none => False
def assoc {α : Type} : List (Nat × α) → Nat → Option α
  | [], _ => none
  | (q, a) :: l, p => match Nat.beq q p with
    | true => some a
    | false => assoc l p
def TCtx.frz (c : TCtx) (p : Nat) (ds : List D) : Prop := assoc c.fz p = some ds
def TCtx.frm (c : TCtx) (p : Nat) (ks vs : List D) : Prop := assoc c.fm p = some (ks, vs)
def VToFs (c : TCtx) (esz n : Nat) (cs : List D) : V → Prop
  | .fs a b ds => esz = a ∧ n = b ∧ ds = cs
  | .gl (.loc p) a b => esz = a ∧ n = b ∧ cs.length = n * esz ∧ c.frz p cs
  | .nilslice => n = 0 ∧ 0 < esz ∧ cs = []
  | .slice (.loc p) off a b _ => esz = a ∧ n = b ∧ cs.length = n * esz ∧ ∃ ds, c.frz p ds ∧ off + n * esz ≤ ds.length ∧ cs = (ds.drop off).take (n * esz)
  | _ => False
def VToFp (c : TCtx) (cs : List D) : V → Prop
  | .fp ds => ds = cs
  | .ptr (.loc p) off => ∃ ds, c.frz p ds ∧ cs = ds.drop off
  | _ => False
def VToFm (c : TCtx) (ks vs : List D) : V → Prop
  | .fm a b => a = ks ∧ b = vs
  | .map (.loc p) => c.frm p ks vs
  | _ => False
def VToGl (c : TCtx) (i : Id) (esz n : Nat) : V → Prop
  | .gl j a b => j = c.ρ i ∧ esz = a ∧ n = b
  | .nilslice => n = 0 ∧ 0 < esz ∧ c.nw i
  | _ => False
mutual
def VTo (c : TCtx) (v : V) : V → Prop
  | .undef => True
  | .fs esz n cs => VToFs c esz n cs v
  | .fp cs => VToFp c cs v
  | .fm ks vs => VToFm c ks vs v
  | .gl i esz n => VToGl c i esz n v
  | .agg cs => ∃ l, v = .agg l ∧ VTos c l cs
  | .tuple cs => ∃ l, v = .tuple l ∧ VTos c l cs
  | .func fn f cp => ∃ f' cp', v = .func fn f' cp' ∧ VTos c f' f ∧ VTos c cp' cp
  | .s x => v = .s x
  | .lit x => v = .lit x
  | .nilptr => v = .nilptr
  | .ptr i off => v = .ptr (c.ρ i) off
  | .nilslice => v = .nilslice
  | .slice i off esz len lim => v = .slice (c.ρ i) off esz len lim
  | .nilmap => v = .nilmap
  | .map i => v = .map (c.ρ i)
  | .yld i => v = .yld (c.ρ i)
  | .nilfunc => v = .nilfunc
def VTos (c : TCtx) (l : List V) : List V → Prop
  | [] => l = []
  | v' :: l' => ∃ v r, l = v :: r ∧ VTo c v v' ∧ VTos c r l'
end

def RowTo (c : TCtx) (l l' : List V) : Prop := l.length = l'.length ∧ ∀ (i : Nat) (v' : V), l'[i]? = some v' → ∃ v, l[i]? = some v ∧ VTo c v v'
mutual
theorem VTo_dv (c : TCtx) : ∀ d : D, VTo c d.v d.v
  | .undef => by simp only [D.v, VTo]
  | .s _ => by simp only [D.v, VTo]
  | .lit _ => by simp only [D.v, VTo]
  | .nilptr => by simp only [D.v, VTo]
  | .nilslice => by simp only [D.v, VTo]
  | .nilmap => by simp only [D.v, VTo]
  | .nilfunc => by simp only [D.v, VTo]
  | .sl a b l => by simp only [D.v, VTo, VToFs, and_self]
  | .pt l => by simp only [D.v, VTo, VToFp]
  | .mp k v => by simp only [D.v, VTo, VToFm, and_self]
  | .agg l => by simp only [D.v, VTo]; exact ⟨_, rfl, VTos_dv c l⟩
  | .func fn f cp => by simp only [D.v, VTo]; exact ⟨_, _, rfl, VTos_dv c f, VTos_dv c cp⟩
theorem VTos_dv (c : TCtx) : ∀ l : List D, VTos c (D.vs l) (D.vs l)
  | [] => by simp only [D.vs, VTos]
  | d :: l => by simp only [D.vs, VTos]; exact ⟨_, _, rfl, VTo_dv c d, VTos_dv c l⟩
end

theorem RowTo.dv (c : TCtx) (l : List D) : RowTo c (l.map D.v) (l.map D.v) := ⟨rfl, fun i v' h => ⟨v', h, by
  rw [List.getElem?_map] at h
  cases hx : l[i]? with
  | none => rw [hx] at h; cases h
  | some d => rw [hx] at h; cases h; exact VTo_dv c d⟩⟩
theorem RowTo.nil (c : TCtx) : RowTo c [] [] := ⟨rfl, by simp⟩
theorem RowTo.cons {c : TCtx} {v v' : V} {l l' : List V} (h : VTo c v v') (k : RowTo c l l') : RowTo c (v :: l) (v' :: l') := ⟨by simp [k.1], fun i x hx => by
  cases i with
  | zero => simp at hx; subst hx; exact ⟨v, rfl, h⟩
  | succ i => simpa using k.2 i x (by simpa using hx)⟩
theorem RowTo.append {c : TCtx} {l l' m m' : List V} (h : RowTo c l l') (k : RowTo c m m') : RowTo c (l ++ m) (l' ++ m') := ⟨by simp [h.1, k.1], fun i x hx => by
  rcases Nat.lt_or_ge i l'.length with hi | hi
  · rw [List.getElem?_append_left hi] at hx
    rw [List.getElem?_append_left (by rw [h.1]; exact hi)]
    exact h.2 i x hx
  · rw [List.getElem?_append_right hi] at hx
    rw [List.getElem?_append_right (by rw [h.1]; exact hi), h.1]
    exact k.2 _ x hx⟩
theorem RowTo.vtos {c : TCtx} : ∀ {l l' : List V}, VTos c l l' → RowTo c l l'
  | l, [], h => by simp only [VTos] at h; subst h; exact RowTo.nil c
  | l, v' :: l', h => by simp only [VTos] at h; obtain ⟨v, r, rfl, h1, h2⟩ := h; exact RowTo.cons h1 (RowTo.vtos h2)
def EsTo (c : TCtx) (es : List (V × V)) (ks vs : List D) : Prop := RowTo c (es.map (·.1)) (ks.map D.v) ∧ RowTo c (es.map (·.2)) (vs.map D.v)
theorem EsRel.keys {σ : Sig} : ∀ {es : List (V × V)} {ms : List MapEntry}, EsRel σ es ms → VRs σ (es.map (·.1)) (ms.map (·.key)) ∧ VRs σ (es.map (·.2)) (ms.map (·.val))
  | [], ms, h => by simp only [EsRel] at h; subst h; simp [VRs]
  | (k, v) :: es, ms, h => by
    simp only [EsRel] at h
    obtain ⟨m, ms', rfl, h1, h2, h3⟩ := h
    obtain ⟨g1, g2⟩ := EsRel.keys h3
    simp only [List.map_cons, VRs]
    exact ⟨⟨_, _, rfl, h1, g1⟩, ⟨_, _, rfl, h2, g2⟩⟩
structure FzOk (c : TCtx) (h : Hp) : Prop where
  row : ∀ p ds, c.frz p ds → ∃ b l, h.get (.loc p) = some b ∧ b.row = some (true, l) ∧ RowTo c l (ds.map D.v)
  map : ∀ p ks vs, c.frm p ks vs → ∃ es, h.get (.loc p) = some (.map es) ∧ EsTo c es ks vs
open Classical in
noncomputable def Sig.turn (σ : Sig) (c : TCtx) (w : World) : Sig :=
  ⟨fun i => σ (c.ρ i), fun r => if ∃ p e, ((∃ ds, c.frz p ds) ∨ ∃ ks vs, c.frm p ks vs) ∧ σ (.loc p) = some e ∧ e.rid = r then w.heap[r]? else σ.fz r, fun i => σ.nm (c.ρ i) ∨ c.nw i, σ.lo⟩
section
variable {c : TCtx} {σ : Sig} {h : Hp} {w : World}

theorem turn_fz_old (hr : Rel σ h w) {r : Nat} {o : Obj} (hro : σ.fz r = some o) : (σ.turn c w).fz r = some o := by
  unfold Sig.turn
  simp only
  split
  · exact (hr.fz r o hro).1
  · exact hro
theorem turn_fz_new {p : Nat} {e : Ent} (hp : (∃ ds, c.frz p ds) ∨ ∃ ks vs, c.frm p ks vs) (he : σ (.loc p) = some e) : (σ.turn c w).fz e.rid = w.heap[e.rid]? := by
  unfold Sig.turn
  simp only
  rw [if_pos ⟨p, e, hp, he, rfl⟩]
theorem turn_fz_any {r : Nat} {o : Obj} (hro : (σ.turn c w).fz r = some o) : (∃ p e, ((∃ ds, c.frz p ds) ∨ ∃ ks vs, c.frm p ks vs) ∧ σ (.loc p) = some e ∧ e.rid = r ∧ w.heap[r]? = some o) ∨ σ.fz r = some o := by
  unfold Sig.turn at hro
  simp only at hro
  split at hro
  · rename_i hx
    obtain ⟨p, e, h1, h2, h3⟩ := hx
    exact .inl ⟨p, e, h1, h2, h3, hro⟩
  · exact .inr hro
mutual
theorem turn_d (hr : Rel σ h w) (ho : FzOk c h) : ∀ (d : D) (v : V) (x : Value), VTo c v d.v → VR σ v x → DR (σ.turn c w).fz d x
  | .undef, _, _, _, _ => by simp only [DR]
  | .s _, _, _, hv, hx => by simp only [D.v, VTo] at hv; subst hv; simpa only [DR, VR] using hx
  | .lit _, _, _, hv, hx => by simp only [D.v, VTo] at hv; subst hv; simpa only [DR, VR] using hx
  | .nilptr, _, _, hv, hx => by simp only [D.v, VTo] at hv; subst hv; simpa only [DR, VR] using hx
  | .nilslice, _, _, hv, hx => by simp only [D.v, VTo] at hv; subst hv; simpa only [DR, VR] using hx
  | .nilmap, _, _, hv, hx => by simp only [D.v, VTo] at hv; subst hv; simpa only [DR, VR] using hx
  | .nilfunc, _, _, hv, hx => by simp only [D.v, VTo] at hv; subst hv; simpa only [DR, VR] using hx
  | .sl esz n cs, v, x, hv, hx => by
    simp only [D.v, VTo] at hv
    unfold VToFs at hv
    split at hv
    · obtain ⟨rfl, rfl, rfl⟩ := hv
      simp only [VR] at hx
      exact DR.mono (fun r o => turn_fz_old hr) _ _ hx
    · rename_i p a b
      obtain ⟨rfl, rfl, hl, hf⟩ := hv
      simp only [VR] at hx
      obtain ⟨hp, ⟨h0, _, rfl⟩ | ⟨e, cap, o, he, h1, h2, h3, rfl⟩⟩ := hx
      · simp only [DR]; exact ⟨hp, hl, .inl ⟨h0, .inl trivial⟩⟩
      · simp only [DR]
        refine ⟨hp, hl, ?_⟩
        by_cases hc : cap = 0
        · have : n = 0 := by omega
          subst this
          exact .inl ⟨rfl, .inr ⟨_, _, rfl⟩⟩
        · right
          obtain ⟨bl, l, hb, hrow, hto⟩ := ho.row p cs hf
          obtain ⟨_, ob, hob, hrel⟩ := hr.blk _ e bl he hb
          rw [BlkRel_row hrow] at hrel
          obtain ⟨cur, T, fz, rfl, hs1, hs2, hfz, hcell⟩ := hrel
          obtain ⟨ys, hy1, hy2⟩ := turn_ds hr ho cs l cur e.base hto hcell
          exact ⟨e.rid, o, cap, cur, T, fz, ys, by rw [turn_fz_new (.inl ⟨cs, hf⟩) he]; exact hob, h1, rfl, hy1, by rw [h3 hc]; exact hy2⟩
    · obtain ⟨rfl, hp, rfl⟩ := hv
      simp only [VR] at hx
      subst hx
      simp only [DR]; exact ⟨hp, by simp, .inl ⟨trivial, .inl trivial⟩⟩
    · rename_i p off a b lim
      obtain ⟨rfl, rfl, hl, ds, hf, hle, hcs⟩ := hv
      simp only [VR] at hx
      obtain ⟨e, cap, o, he, hp, h1, h2, h3, rfl⟩ := hx
      simp only [DR]
      refine ⟨hp, hl, ?_⟩
      by_cases hc : cap = 0
      · have : n = 0 := by omega
        subst this
        exact .inl ⟨rfl, .inr ⟨_, _, rfl⟩⟩
      · right
        obtain ⟨bl, l, hb, hrow, hto⟩ := ho.row p ds hf
        obtain ⟨_, ob, hob, hrel⟩ := hr.blk _ e bl he hb
        rw [BlkRel_row hrow] at hrel
        obtain ⟨cur, T, fz, rfl, hs1, hs2, hfz, hcell⟩ := hrel
        have hto' : RowTo c ((l.drop off).take (n * esz)) (cs.map D.v) := by
          refine ⟨by have := hto.1; simp at this ⊢; omega, fun i v' hi => ?_⟩
          rw [hcs, List.map_take, List.map_drop, List.getElem?_take] at hi
          split at hi
          · rename_i hlt
            rw [List.getElem?_drop] at hi
            rw [List.getElem?_take, if_pos hlt, List.getElem?_drop]
            exact hto.2 _ v' hi
          · cases hi
        obtain ⟨ys, hy1, hy2⟩ := turn_ds hr ho cs ((l.drop off).take (n * esz)) cur (e.base + off) hto' (fun i v hi => by
          rw [List.getElem?_take] at hi
          split at hi
          · rw [List.getElem?_drop] at hi
            rw [Nat.add_assoc]; exact hcell _ v hi
          · cases hi)
        exact ⟨e.rid, o, cap, cur, T, fz, ys, by rw [turn_fz_new (.inl ⟨ds, hf⟩) he]; exact hob, h1, rfl, hy1, by rw [h3 hc]; exact hy2⟩
    · exact hv.elim
  | .pt cs, v, x, hv, hx => by
    simp only [D.v, VTo] at hv
    unfold VToFp at hv
    split at hv
    · subst hv
      simp only [VR] at hx
      exact DR.mono (fun r o => turn_fz_old hr) _ _ hx
    · rename_i p off
      obtain ⟨ds, hf, hcs⟩ := hv
      simp only [VR] at hx
      obtain ⟨e, he, rfl⟩ := hx
      obtain ⟨bl, l, hb, hrow, hto⟩ := ho.row p ds hf
      obtain ⟨_, ob, hob, hrel⟩ := hr.blk _ e bl he hb
      rw [BlkRel_row hrow] at hrel
      obtain ⟨cur, T, fz, rfl, hs1, hs2, hfz, hcell⟩ := hrel
      have hto' : RowTo c (l.drop off) (cs.map D.v) := by
        refine ⟨by have := hto.1; simp [hcs] at this ⊢; omega, fun i v' hi => ?_⟩
        rw [hcs, List.map_drop, List.getElem?_drop] at hi
        rw [List.getElem?_drop]
        exact hto.2 _ v' hi
      obtain ⟨ys, hy1, hy2⟩ := turn_ds hr ho cs (l.drop off) cur (e.base + off) hto' (fun i v hi => by
        rw [List.getElem?_drop] at hi
        rw [Nat.add_assoc]; exact hcell _ v hi)
      simp only [DR]
      exact ⟨e.rid, e.base + off, cur, T, fz, ys, by rw [turn_fz_new (.inl ⟨ds, hf⟩) he]; exact hob, rfl, hy1, hy2⟩
    · exact hv.elim
  | .mp ks vs, v, x, hv, hx => by
    simp only [D.v, VTo] at hv
    unfold VToFm at hv
    split at hv
    · obtain ⟨rfl, rfl⟩ := hv
      simp only [VR] at hx
      exact DR.mono (fun r o => turn_fz_old hr) _ _ hx
    · rename_i p
      simp only [VR] at hx
      obtain ⟨e, he, rfl⟩ := hx
      obtain ⟨es, hb, hto⟩ := ho.map p ks vs hv
      obtain ⟨_, ob, hob, hrel⟩ := hr.blk _ e _ he hb
      obtain ⟨ms, cl, rfl, hes⟩ := hrel
      have g1 := turn_dr hr ho ks _ _ hto.1 hes.keys.1
      have g2 := turn_dr hr ho vs _ _ hto.2 hes.keys.2
      simp only [DR]
      exact ⟨e.rid, ms, cl, by rw [turn_fz_new (.inr ⟨ks, vs, hv⟩) he]; exact hob, rfl, g1, g2⟩
    · exact hv.elim
  | .agg cs, v, x, hv, hx => by
    simp only [D.v, VTo] at hv
    obtain ⟨l, rfl, hv⟩ := hv
    simp only [VR] at hx
    obtain ⟨a, rfl, hx⟩ := hx
    simp only [DR]
    exact ⟨a, rfl, turn_dl hr ho cs _ _ hv hx⟩
  | .func fn f cp, v, x, hv, hx => by
    simp only [D.v, VTo] at hv
    obtain ⟨f0, c0, rfl, hv1, hv2⟩ := hv
    simp only [VR] at hx
    obtain ⟨f', c', rfl, hx1, hx2⟩ := hx
    simp only [DR]
    exact ⟨f', c', rfl, turn_dl hr ho f _ _ hv1 hx1, turn_dl hr ho cp _ _ hv2 hx2⟩
theorem turn_dl (hr : Rel σ h w) (ho : FzOk c h) : ∀ (ds : List D) (l : List V) (xs : List Value), VTos c l (D.vs ds) → VRs σ l xs → DRs (σ.turn c w).fz ds xs
  | [], l, xs, hv, hx => by simp only [D.vs, VTos] at hv; subst hv; simp only [VRs] at hx; simpa only [DRs] using hx
  | d :: ds, l, xs, hv, hx => by
    simp only [D.vs, VTos] at hv
    obtain ⟨v, l, rfl, hv⟩ := hv
    simp only [VRs] at hx
    obtain ⟨y, ys, rfl, h1, h2⟩ := hx
    simp only [DRs]
    exact ⟨y, ys, rfl, turn_d hr ho d v y hv.1 h1, turn_dl hr ho ds l ys hv.2 h2⟩
theorem turn_ds (hr : Rel σ h w) (ho : FzOk c h) : ∀ (ds : List D) (l : List V) (cur : Array Value) (o : Nat), RowTo c l (ds.map D.v) → (∀ (i : Nat) (v : V), l[i]? = some v → ∃ x, cur[o + i]? = some x ∧ VR σ v x ∧ x.oneCell' = true) →
    ∃ ys, DRs (σ.turn c w).fz ds ys ∧ LieAt cur o ys
  | [], l, cur, o, _, _ => ⟨[], by simp only [DRs], fun i y hy => by simp at hy⟩
  | d :: ds, l, cur, o, hto, hcell => by
    obtain ⟨v, hv, hvt⟩ := hto.2 0 d.v (by simp)
    obtain ⟨x, hx1, hx2, hx3⟩ := hcell 0 v hv
    have hto' : RowTo c (l.drop 1) (ds.map D.v) := by
      refine ⟨by have := hto.1; simp at this ⊢; omega, fun i v' hi => ?_⟩
      rw [List.getElem?_drop]
      have := hto.2 (1 + i) v' (by rw [Nat.add_comm]; simpa using hi)
      exact this
    obtain ⟨ys, hy1, hy2⟩ := turn_ds hr ho ds (l.drop 1) cur (o + 1) hto' (fun i v hi => by
      rw [List.getElem?_drop] at hi
      rw [Nat.add_assoc]; exact hcell _ v hi)
    refine ⟨x :: ys, by simp only [DRs]; exact ⟨x, ys, rfl, turn_d hr ho d v x hvt hx2, hy1⟩, fun i y hy => ?_⟩
    cases i with
    | zero => simp at hy; subst hy; exact ⟨hx1, hx3⟩
    | succ i =>
      have := hy2 i y (by simpa using hy)
      rwa [show o + 1 + i = o + (i + 1) by omega] at this
theorem turn_dr (hr : Rel σ h w) (ho : FzOk c h) : ∀ (ds : List D) (l : List V) (xs : List Value), RowTo c l (ds.map D.v) → VRs σ l xs → DRs (σ.turn c w).fz ds xs
  | [], l, xs, hto, hx => by
    have : l = [] := List.eq_nil_of_length_eq_zero (by simpa using hto.1)
    subst this
    simp only [VRs] at hx; simpa only [DRs] using hx
  | d :: ds, l, xs, hto, hx => by
    cases l with
    | nil => have := hto.1; simp at this
    | cons v l =>
      obtain ⟨v', hv, hvt⟩ := hto.2 0 d.v (by simp)
      simp at hv; subst hv
      have hto' : RowTo c l (ds.map D.v) := by
        refine ⟨by have := hto.1; simp at this ⊢; omega, fun i v' hi => ?_⟩
        have := hto.2 (i + 1) v' (by simpa using hi)
        simpa using this
      simp only [VRs] at hx
      obtain ⟨y, ys, rfl, h1, h2⟩ := hx
      simp only [DRs]
      exact ⟨y, ys, rfl, turn_d hr ho d v y hvt h1, turn_dr hr ho ds l ys hto' h2⟩
end

theorem turn_le (hr : Rel σ h w) : (σ.ren c.ρ).le (σ.turn c w) := ⟨fun _ _ h => h, fun _ _ h => turn_fz_old hr h, fun _ h => .inl h⟩
mutual
theorem turn_v (hr : Rel σ h w) (ho : FzOk c h) : ∀ (v' v : V) (x : Value), VTo c v v' → VR σ v x → VR (σ.turn c w) v' x
  | .undef, _, _, _, _ => by simp only [VR]
  | .s _, _, _, hv, hx => by simp only [VTo] at hv; subst hv; simpa only [VR] using hx
  | .lit _, _, _, hv, hx => by simp only [VTo] at hv; subst hv; simpa only [VR] using hx
  | .nilptr, _, _, hv, hx => by simp only [VTo] at hv; subst hv; simpa only [VR] using hx
  | .nilslice, _, _, hv, hx => by simp only [VTo] at hv; subst hv; simpa only [VR] using hx
  | .nilmap, _, _, hv, hx => by simp only [VTo] at hv; subst hv; simpa only [VR] using hx
  | .nilfunc, _, _, hv, hx => by simp only [VTo] at hv; subst hv; simpa only [VR] using hx
  | .ptr i off, _, _, hv, hx => by simp only [VTo] at hv; subst hv; simp only [VR] at hx ⊢; exact hx
  | .slice i off esz n lim, _, _, hv, hx => by simp only [VTo] at hv; subst hv; simp only [VR] at hx ⊢; exact hx
  | .map i, _, _, hv, hx => by simp only [VTo] at hv; subst hv; simp only [VR] at hx ⊢; exact hx
  | .yld i, _, _, hv, hx => by simp only [VTo] at hv; subst hv; simp only [VR] at hx ⊢; exact hx
  | .fs esz n cs, v, x, hv, hx => by simp only [VR]; exact turn_d hr ho (.sl esz n cs) v x hv hx
  | .fp cs, v, x, hv, hx => by simp only [VR]; exact turn_d hr ho (.pt cs) v x hv hx
  | .fm ks vs, v, x, hv, hx => by simp only [VR]; exact turn_d hr ho (.mp ks vs) v x hv hx
  | .gl i esz n, v, x, hv, hx => by
    simp only [VTo] at hv
    unfold VToGl at hv
    split at hv
    · obtain ⟨rfl, rfl, rfl⟩ := hv
      simp only [VR] at hx ⊢
      obtain ⟨hp, ⟨h1, h2, h3⟩ | h1⟩ := hx
      · exact ⟨hp, .inl ⟨h1, .inl h2, h3⟩⟩
      · exact ⟨hp, .inr h1⟩
    · obtain ⟨rfl, hp, hn⟩ := hv
      simp only [VR] at hx ⊢
      exact ⟨hp, .inl ⟨trivial, .inr hn, hx⟩⟩
    · exact hv.elim
  | .agg cs, v, x, hv, hx => by
    simp only [VTo] at hv
    obtain ⟨l, rfl, hv⟩ := hv
    simp only [VR] at hx ⊢
    obtain ⟨a, rfl, hx⟩ := hx
    exact ⟨a, rfl, turn_vs hr ho cs l _ hv hx⟩
  | .tuple cs, v, x, hv, hx => by
    simp only [VTo] at hv
    obtain ⟨l, rfl, hv⟩ := hv
    simp only [VR] at hx ⊢
    obtain ⟨a, rfl, hx⟩ := hx
    exact ⟨a, rfl, turn_vs hr ho cs l _ hv hx⟩
  | .func fn f cp, v, x, hv, hx => by
    simp only [VTo] at hv
    obtain ⟨f0, c0, rfl, hv1, hv2⟩ := hv
    simp only [VR] at hx ⊢
    obtain ⟨f', c', rfl, hx1, hx2⟩ := hx
    exact ⟨f', c', rfl, turn_vs hr ho f _ _ hv1 hx1, turn_vs hr ho cp _ _ hv2 hx2⟩
theorem turn_vs (hr : Rel σ h w) (ho : FzOk c h) : ∀ (l' l : List V) (xs : List Value), VTos c l l' → VRs σ l xs → VRs (σ.turn c w) l' xs
  | [], l, xs, hv, hx => by simp only [VTos] at hv; subst hv; simpa only [VRs] using hx
  | v' :: l', l, xs, hv, hx => by
    simp only [VTos] at hv
    obtain ⟨v, l, rfl, h1, h2⟩ := hv
    simp only [VRs] at hx ⊢
    obtain ⟨y, ys, rfl, h3, h4⟩ := hx
    exact ⟨y, ys, rfl, turn_v hr ho v' v y h1 h3, turn_vs hr ho l' l ys h2 h4⟩
end

def BTo (c : TCtx) (ob : Option Blk) : Blk → Prop
  | .dead => ∃ b, ob = some b
  | .flat rw l' => ∃ b l, ob = some b ∧ b.row = some (rw, l) ∧ RowTo c l (l'.map D.v)
  | .cells rw l' => ∃ b l, ob = some b ∧ b.row = some (rw, l) ∧ RowTo c l l'
  | .map es' => ∃ es, ob = some (.map es) ∧ RowTo c (es.map (·.1)) (es'.map (·.1)) ∧ RowTo c (es.map (·.2)) (es'.map (·.2))
  | .loop r' => ob = some ((Blk.loop r').ren c.ρ)
  | .mark => ob = some .mark
def BTo1 (c : TCtx) (loc : List Blk) (j : Nat) (b' : Blk) : Prop := match Nat.blt j c.L with
  | true => BTo c (loc[j]?) b'
  | false => match b' with
    | .flat true [] => True
    | _ => False
def BTos (c : TCtx) (loc : List Blk) : List Nat → List Blk → Prop
  | [], [] => True
  | j :: pm, b' :: bs => BTo1 c loc j b' ∧ BTos c loc pm bs
  | _, _ => False
theorem BTos.get {c : TCtx} {loc : List Blk} : ∀ {pm : List Nat} {bs : List Blk}, BTos c loc pm bs → bs.length = pm.length ∧ ∀ (k : Nat) (b' : Blk), bs[k]? = some b' → ∃ j, pm[k]? = some j ∧ BTo1 c loc j b'
  | [], [], _ => ⟨rfl, by simp⟩
  | j :: pm, b' :: bs, h => by
    simp only [BTos] at h
    obtain ⟨h1, h2⟩ := BTos.get h.2
    refine ⟨by simp [h1], fun k b hk => ?_⟩
    cases k with
    | zero => simp at hk; subst hk; exact ⟨j, by simp, h.1⟩
    | succ k => simpa using h2 k b (by simpa using hk)
  | [], _ :: _, h => by simp only [BTos] at h
  | _ :: _, [], h => by simp only [BTos] at h
def OutOk (outer : Id → Option Blk) : Prop := ∀ i b, outer i = some b → ∃ b0 : Blk, b = b0.ren .out
theorem RowRel_turn (hr : Rel σ h w) (ho : FzOk c h) {e : Ent} {rw : Bool} {l l' : List V} {o : Obj} (ht : RowTo c l l') (hx : RowRel σ e rw l.length (fun i => l[i]?) o) : RowRel (σ.turn c w) e rw l'.length (fun i => l'[i]?) o := by
  obtain ⟨cur, T, fz, h1, h2, h3, h4, h5⟩ := hx
  refine ⟨cur, T, fz, h1, h2, by rw [← ht.1]; exact h3, h4, fun i v hv => ?_⟩
  obtain ⟨v0, hv0, hvt⟩ := ht.2 i v hv
  obtain ⟨x, g1, g2, g3⟩ := h5 i v0 hv0
  exact ⟨x, g1, turn_v hr ho v v0 x hvt g2, g3⟩
theorem VRs_turn_row (hr : Rel σ h w) (ho : FzOk c h) {l l' : List V} {xs : List Value} (ht : RowTo c l l') (hx : VRs σ l xs) : VRs (σ.turn c w) l' xs := by
  refine VRs.of_get (by rw [VRs.length hx, ht.1]) fun i v hv => ?_
  obtain ⟨v0, hv0, hvt⟩ := ht.2 i v hv
  obtain ⟨x, g1, g2⟩ := VRs.get hx hv0
  exact ⟨x, g1, turn_v hr ho v v0 x hvt g2⟩
theorem EsRel.of_keys {σ : Sig} : ∀ {es : List (V × V)} {ms : List MapEntry}, VRs σ (es.map (·.1)) (ms.map (·.key)) → VRs σ (es.map (·.2)) (ms.map (·.val)) → EsRel σ es ms
  | [], ms, h, _ => by simp only [List.map_nil, VRs, List.map_eq_nil_iff] at h; subst h; simp [EsRel]
  | (k, v) :: es, ms, h, h' => by
    simp only [List.map_cons, VRs] at h h'
    obtain ⟨x, xs, hx, h1, h2⟩ := h
    obtain ⟨y, ys, hy, h3, h4⟩ := h'
    cases ms with
    | nil => simp at hx
    | cons m ms =>
      simp only [List.map_cons, List.cons.injEq] at hx hy
      obtain ⟨rfl, rfl⟩ := hx
      obtain ⟨rfl, rfl⟩ := hy
      simp only [EsRel]
      exact ⟨m, ms, rfl, h1, h3, EsRel.of_keys h2 h4⟩
theorem BTo.ok (hr : Rel σ h w) (ho : FzOk c h) {b b' : Blk} (ht : BTo c (some b) b') : (b'.rw = true → b.rw = true) ∧ (b'.alive = true → b.alive = true ∧ b'.rw = b.rw) ∧ ∀ e o, BlkRel σ e b o → BlkRel (σ.turn c w) e b' o := by
  cases b' with
  | dead => exact ⟨fun h => by simp [Blk.rw] at h, fun h => by simp [Blk.alive] at h, fun _ _ _ => trivial⟩
  | flat rw l' =>
    obtain ⟨b1, l, hb, hrow, hto⟩ := ht
    cases hb
    refine ⟨fun h => by rw [Blk.row_rw hrow]; simpa [Blk.rw] using h, fun _ => ⟨Blk.row_alive hrow, by rw [Blk.row_rw hrow]; rfl⟩, fun e o hrel => ?_⟩
    rw [BlkRel_row hrow] at hrel
    exact (BlkRel_row (b := .flat rw l') (rw := rw) (l := l'.map D.v) rfl).2 (RowRel_turn hr ho hto hrel)
  | cells rw l' =>
    obtain ⟨b1, l, hb, hrow, hto⟩ := ht
    cases hb
    refine ⟨fun h => by rw [Blk.row_rw hrow]; simpa [Blk.rw] using h, fun _ => ⟨Blk.row_alive hrow, by rw [Blk.row_rw hrow]; rfl⟩, fun e o hrel => ?_⟩
    rw [BlkRel_row hrow] at hrel
    exact (BlkRel_row (b := .cells rw l') (rw := rw) (l := l') rfl).2 (RowRel_turn hr ho hto hrel)
  | map es' =>
    obtain ⟨es, hb, h1, h2⟩ := ht
    cases hb
    refine ⟨fun _ => rfl, fun _ => ⟨rfl, rfl⟩, fun e o hrel => ?_⟩
    obtain ⟨ms, cl, rfl, hes⟩ := hrel
    exact ⟨ms, cl, rfl, EsRel.of_keys (VRs_turn_row hr ho h1 hes.keys.1) (VRs_turn_row hr ho h2 hes.keys.2)⟩
  | loop r' =>
    have hb : b = (Blk.loop r').ren c.ρ := by simpa [BTo] using ht
    subst hb
    exact ⟨fun _ => rfl, fun _ => ⟨rfl, rfl⟩, fun e o hrel => ((BlkRel_ren _ _ _ _ _).1 hrel).mono (turn_le hr)⟩
  | mark =>
    have hb : b = .mark := by simpa [BTo] using ht
    subst hb
    exact ⟨fun _ => rfl, fun _ => ⟨rfl, rfl⟩, fun e o hrel => hrel⟩
end

structure TurnOk (c : TCtx) (h : Hp) (loc' : List Blk) : Prop where
  outer : OutOk h.outer
  len : h.loc.length ≤ c.L
  nodup : c.pm.Nodup
  blks : BTos c h.loc c.pm loc'
  fz : FzOk c h
  out : ∀ (k p : Nat), c.pm[k]? = some p → ((∃ ds, c.frz p ds) ∨ ∃ ks vs, c.frm p ks vs) → loc'[k]? = some .dead
section
variable {c : TCtx} {σ : Sig} {h : Hp} {w : World} {loc' : List Blk}

theorem nodup_get : ∀ {l : List Nat}, l.Nodup → ∀ {i j p : Nat}, l[i]? = some p → l[j]? = some p → i = j
  | [], _, _, _, _, h, _ => by simp at h
  | a :: l, hl, i, j, p, hi, hj => by
    rw [List.nodup_cons] at hl
    cases i with
    | zero =>
      simp at hi; subst hi
      cases j with
      | zero => rfl
      | succ j => exact absurd (List.mem_of_getElem? (by simpa using hj)) hl.1
    | succ i =>
      cases j with
      | zero => simp at hj; subst hj; exact absurd (List.mem_of_getElem? (by simpa using hi)) hl.1
      | succ j => exact congrArg (· + 1) (nodup_get hl.2 (p := p) (i := i) (j := j) (by simpa using hi) (by simpa using hj))
theorem TurnOk.name (t : TurnOk c h loc') (hr : Rel σ h w) {i : Id} {e : Ent} {b' : Blk} (hi : (σ.turn c w) i = some e) (hb : (⟨h.outer, loc'⟩ : Hp).get i = some b') :
    ∃ b, h.get (c.ρ i) = some b ∧ σ (c.ρ i) = some e ∧ (b'.rw = true → b.rw = true) ∧ (b'.alive = true → b.alive = true ∧ b'.rw = b.rw) ∧ ∀ o, BlkRel σ e b o → BlkRel (σ.turn c w) e b' o := by
  have hi : σ (c.ρ i) = some e := hi
  cases i with
  | out i =>
    have hb : h.outer i = some b' := hb
    obtain ⟨b0, rfl⟩ := t.outer i b' hb
    refine ⟨_, hb, hi, id, fun h => ⟨h, rfl⟩, fun o hrel => ?_⟩
    refine (BlkRel_ren _ _ _ _ _).2 (BlkRel_weak ((BlkRel_ren σ .out e b0 o).1 hrel) ⟨fun _ _ h => h, fun _ _ h => turn_fz_old hr h, fun _ h => .inl h⟩)
  | loc k =>
    have hb : loc'[k]? = some b' := hb
    obtain ⟨j, hj, hto⟩ := (t.blks.get).2 k b' hb
    have hρ : c.ρ (.loc k) = .loc j := by simp [TCtx.ρ, hj]
    rw [hρ] at hi ⊢
    unfold BTo1 at hto
    split at hto
    · cases hg : h.loc[j]? with
      | none => have := hr.dom (.loc j) hg; rw [this] at hi; cases hi
      | some b =>
        rw [hg] at hto
        obtain ⟨h1, h2, h3⟩ := BTo.ok hr t.fz hto
        exact ⟨b, hg, hi, h1, h2, h3 e⟩
    · rename_i hlt
      have hge : c.L ≤ j := by
        rcases Nat.lt_or_ge j c.L with h1 | h1
        · have : Nat.blt j c.L = true := by rw [Nat.blt_eq]; exact h1
          rw [this] at hlt; cases hlt
        · exact h1
      have : h.loc[j]? = none := List.getElem?_eq_none (Nat.le_trans t.len hge)
      have := hr.dom (.loc j) this; rw [this] at hi; cases hi
theorem TurnOk.inj (t : TurnOk c h loc') (hr : Rel σ h w) {i j : Id} {ei ej : Ent} (hi : σ (c.ρ i) = some ei) (hj : σ (c.ρ j) = some ej) (he : c.ρ i = c.ρ j) : i = j := by
  have key : ∀ k e, σ (c.ρ (.loc k)) = some e → ∃ p, c.pm[k]? = some p ∧ c.ρ (.loc k) = .loc p := by
    intro k e hk
    cases hp : c.pm[k]? with
    | some p => exact ⟨p, rfl, by simp [TCtx.ρ, hp]⟩
    | none =>
      exfalso
      have hρ : c.ρ (.loc k) = .loc (c.L + k) := by simp [TCtx.ρ, hp]
      rw [hρ] at hk
      have : h.loc[c.L + k]? = none := List.getElem?_eq_none (by have := t.len; omega)
      have := hr.dom (.loc (c.L + k)) this; rw [this] at hk; cases hk
  cases i with
  | out i => cases j with
    | out j => simpa [TCtx.ρ] using he
    | loc j => obtain ⟨p, _, hp⟩ := key j ej hj; rw [hp] at he; simp [TCtx.ρ] at he
  | loc i =>
    obtain ⟨p, hp1, hp⟩ := key i ei hi
    cases j with
    | out j => rw [hp] at he; simp [TCtx.ρ] at he
    | loc j =>
      obtain ⟨q, hq1, hq⟩ := key j ej hj
      rw [hp, hq] at he
      cases he
      rw [nodup_get t.nodup hp1 hq1]
theorem TurnOk.rel (t : TurnOk c h loc') (hr : Rel σ h w) : Rel (σ.turn c w) (⟨h.outer, loc'⟩ : Hp) w where
  blk := fun i e b' hi hb => by
    obtain ⟨b, h1, h2, _, _, h3⟩ := t.name hr hi hb
    obtain ⟨g1, o, g2, g3⟩ := hr.blk _ e b h2 h1
    exact ⟨g1, o, g2, h3 o g3⟩
  apart := fun i j ei ej bi bj hne hi hj hbi hbj hw hal => by
    obtain ⟨b, h1, h2, h3, _, _⟩ := t.name hr hi hbi
    obtain ⟨b2, g1, g2, _, g3, _⟩ := t.name hr hj hbj
    exact hr.apart _ _ ei ej b b2 (fun e => hne (t.inj hr h2 g2 e)) h2 g2 h1 g1 (h3 hw) (g3 hal).1
  dom := fun i hi => by
    show σ (c.ρ i) = none
    cases i with
    | out i => exact hr.dom (.out i) hi
    | loc k =>
      have hi : loc'[k]? = none := hi
      have hk : c.pm[k]? = none := by
        rw [List.getElem?_eq_none_iff] at hi ⊢
        have := t.blks.get.1; omega
      have hρ : c.ρ (.loc k) = .loc (c.L + k) := by simp [TCtx.ρ, hk]
      rw [hρ]
      exact hr.dom _ (List.getElem?_eq_none (by have := t.len; omega))
  nmd := fun i hi => by
    cases i with
    | out i =>
      rcases hi with hi | hi
      · exact hr.nmd (.out i) hi
      · exact hi.elim
    | loc k =>
      have hlt : k < loc'.length := by
        rw [t.blks.get.1]
        rcases hi with hi | hi
        · cases hp : c.pm[k]? with
          | some p => exact (List.getElem?_eq_some_iff.1 hp).1
          | none =>
            exfalso
            have hρ : c.ρ (.loc k) = .loc (c.L + k) := by simp [TCtx.ρ, hp]
            rw [hρ] at hi
            exact hr.nmd _ hi (List.getElem?_eq_none (by have := t.len; omega))
        · unfold TCtx.nw at hi
          simp only at hi
          split at hi
          · rename_i j hj; exact (List.getElem?_eq_some_iff.1 hj).1
          · exact hi.elim
      show loc'[k]? ≠ none
      rw [List.getElem?_eq_getElem hlt]; simp
  fz := fun r o hro => by
    have hown : ∀ p, ((∃ ds, c.frz p ds) ∨ ∃ ks vs, c.frm p ks vs) → ∃ b, h.get (.loc p) = some b ∧ b.rw = true ∧ b.alive = true := by
      intro p hp
      rcases hp with ⟨ds, hp⟩ | ⟨ks, vs, hp⟩
      · obtain ⟨b, l, h1, h2, _⟩ := t.fz.row p ds hp
        exact ⟨b, h1, Blk.row_rw h2, Blk.row_alive h2⟩
      · obtain ⟨es, h1, _⟩ := t.fz.map p ks vs hp
        exact ⟨_, h1, rfl, rfl⟩
    rcases turn_fz_any hro with ⟨p, e, hp, he, rfl, ho⟩ | ho
    · refine ⟨ho, fun i ei b' hi hb hw => ?_⟩
      obtain ⟨b, h1, h2, h3, _, _⟩ := t.name hr hi hb
      obtain ⟨bp, g1, g2, g3⟩ := hown p hp
      refine hr.apart (c.ρ i) (.loc p) ei e b bp ?_ h2 he h1 g1 (h3 hw) g3
      intro heq
      cases i with
      | out i => simp [TCtx.ρ] at heq
      | loc k =>
        unfold TCtx.ρ at heq
        simp only at heq
        split at heq
        · rename_i j hj
          cases heq
          have hd := t.out k p hj hp
          have hb : loc'[k]? = some b' := hb
          rw [hd] at hb; cases hb
          simp [Blk.rw] at hw
        · cases heq
          have : h.loc[c.L + k]? = none := List.getElem?_eq_none (by have := t.len; omega)
          simp only [Hp.get] at g1
          rw [this] at g1; cases g1
    · obtain ⟨g1, g2⟩ := hr.fz r o ho
      refine ⟨g1, fun i ei b' hi hb hw => ?_⟩
      obtain ⟨b, h1, h2, h3, _, _⟩ := t.name hr hi hb
      exact g2 _ ei b h2 h1 (h3 hw)
theorem TurnOk.fzn (t : TurnOk c h loc') {r : Nat} {o : Obj} (hro : (σ.turn c w).fz r = some o) : σ.fz r = some o ∨ w.heap.size ≤ r ∨ ∃ j ej bj, σ j = some ej ∧ h.get j = some bj ∧ bj.rw = true ∧ ej.rid = r := by
  rcases turn_fz_any hro with ⟨p, e, hp, he, rfl, ho⟩ | ho
  · right; right
    rcases hp with ⟨ds, hp⟩ | ⟨ks, vs, hp⟩
    · obtain ⟨b, l, h1, h2, _⟩ := t.fz.row p ds hp
      exact ⟨.loc p, e, b, he, h1, Blk.row_rw h2, rfl⟩
    · obtain ⟨es, h1, _⟩ := t.fz.map p ks vs hp
      exact ⟨.loc p, e, _, he, h1, rfl, rfl⟩
  · exact .inl ho
theorem TurnOk.ext (t : TurnOk c h loc') (hr : Rel σ h w) : ExtK isOut σ h w (σ.turn c w) (⟨h.outer, loc'⟩ : Hp) w where
  le := fun i e hk hi => by
    cases i with
    | out i => exact hi
    | loc k => exact hk.elim
  nm := fun i hk hi => by
    cases i with
    | out i => exact .inl hi
    | loc k => exact hk.elim
  lo := rfl
  fz := fun _ _ h => turn_fz_old hr h
  fzn := fun _ _ h => t.fzn h
  size := Nat.le_refl _
  os := rfl
  tape := rfl
  output := rfl
  frame := fun _ _ _ => rfl
  wr := fun i e b' hi hb hw => by
    obtain ⟨b, h1, h2, h3, _, _⟩ := t.name hr hi hb
    exact .inr ⟨_, e, b, h2, h1, h3 hw, rfl⟩
  ro := fun i e b' hi hb hw hal => by
    obtain ⟨b, h1, h2, _, h3, _⟩ := t.name hr hi hb
    obtain ⟨g1, g2⟩ := h3 hal
    exact ⟨_, b, h2, h1, g1, by rw [← g2]; exact hw⟩
  old := fun i hk hi => by
    cases i with
    | out i => exact ⟨hi, fun h => h⟩
    | loc k => exact hk.elim
  oldn := fun i hk hi h => by
    cases i with
    | out i =>
      rcases h with h | h
      · exact h
      · exact h.elim
    | loc k => exact hk.elim
end

theorem TurnOk.extAll {c : TCtx} {σ : Sig} {h : Hp} {w : World} {loc' : List Blk} (t : TurnOk c h loc') (hid : ∀ i, h.get i ≠ none → c.ρ i = i) (hr : Rel σ h w) : ExtK allIds σ h w (σ.turn c w) (⟨h.outer, loc'⟩ : Hp) w where
  le := fun i e _ hi => by
    show σ (c.ρ i) = some e
    rw [hid i (fun h0 => by rw [hr.dom i h0] at hi; cases hi)]; exact hi
  nm := fun i _ hi => .inl (by rw [hid i (hr.nmd i hi)]; exact hi)
  lo := rfl
  fz := fun _ _ h => turn_fz_old hr h
  fzn := fun _ _ h => t.fzn h
  size := Nat.le_refl _
  os := rfl
  tape := rfl
  output := rfl
  frame := fun _ _ _ => rfl
  wr := (t.ext hr).wr
  ro := (t.ext hr).ro
  old := fun i _ hi => by
    refine ⟨?_, fun h => by show σ (c.ρ i) = none; rw [hid i hi]; exact h⟩
    cases i with
    | out i => exact hi
    | loc k =>
      have hlt : k < h.loc.length := by
        rcases Nat.lt_or_ge k h.loc.length with h1 | h1
        · exact h1
        · exact absurd (List.getElem?_eq_none h1) hi
      have hρ := hid (.loc k) hi
      have : k < loc'.length := by
        rw [t.blks.get.1]
        cases hp : c.pm[k]? with
        | some p => exact (List.getElem?_eq_some_iff.1 hp).1
        | none =>
          exfalso
          have h2 : c.ρ (.loc k) = .loc (c.L + k) := by simp [TCtx.ρ, hp]
          rw [h2, Id.loc.injEq] at hρ
          have := t.len; omega
      show loc'[k]? ≠ none
      rw [List.getElem?_eq_getElem this]; simp
  oldn := fun i _ hi hq => by
    rcases hq with hq | hq
    · rw [hid i hi] at hq; exact hq
    · exfalso
      have hρ := hid i hi
      cases i with
      | out i => exact hq
      | loc k =>
        unfold TCtx.nw at hq
        simp only at hq
        split at hq
        · rename_i j hj
          have h2 : c.ρ (.loc k) = .loc j := by simp [TCtx.ρ, hj]
          rw [h2] at hρ
          cases hρ
          exact hi (List.getElem?_eq_none (Nat.le_trans t.len hq))
        · exact hq
/-! ### States -/

def FrTo (c : TCtx) : Fr → Fr → Prop
  | _, .leaf => True
  | .node l v r, .node l' v' r' => VTo c v v' ∧ FrTo c l l' ∧ FrTo c r r'
  | .leaf, .node l' v' r' => VTo c .undef v' ∧ FrTo c .leaf l' ∧ FrTo c .leaf r'
theorem FrTo.at {c : TCtx} : ∀ {fr fr' : Fr}, FrTo c fr fr' → ∀ k, VTo c (fr.at k) (fr'.at k)
  | fr, .leaf, _, k => by simp only [Fr.at, PT.get, VTo]
  | .node l v r, .node l' v' r', h, k => by
    simp only [FrTo] at h
    cases k with
    | zero => exact h.1
    | succ k =>
      simp only [Fr.at, PT.get]
      split
      · exact FrTo.at h.2.1 _
      · exact FrTo.at h.2.2 _
  | .leaf, .node l' v' r', h, k => by
    simp only [FrTo] at h
    cases k with
    | zero => exact h.1
    | succ k =>
      have h1 := FrTo.at h.2.1 (k / 2)
      have h2 := FrTo.at h.2.2 (k / 2)
      simp only [Fr.at, PT.get] at h1 h2 ⊢
      split
      · exact h1
      · exact h2
def MkTo (c : TCtx) (loc : List Blk) : List Id → List Id → Prop
  | [], ms => ms = []
  | i :: is, ms => (∃ i' is', ms = i' :: is' ∧ c.ρ i' = i ∧ MkTo c loc is is') ∨ (∃ p, i = .loc p ∧ p ∉ c.pm ∧ loc[p]? = some .mark ∧ MkTo c loc is ms)
theorem MkTo.nil {c : TCtx} {loc : List Blk} : MkTo c loc [] [] := rfl
theorem MkTo.keep {c : TCtx} {loc : List Blk} {i i' : Id} {is is' : List Id} (h : c.ρ i' = i) (k : MkTo c loc is is') : MkTo c loc (i :: is) (i' :: is') := .inl ⟨_, _, rfl, h, k⟩
theorem MkTo.drop {c : TCtx} {loc : List Blk} {p : Nat} {is is' : List Id} (h : p ∉ c.pm) (hl : loc[p]? = some .mark) (k : MkTo c loc is is') : MkTo c loc (.loc p :: is) is' := .inr ⟨p, rfl, h, hl, k⟩
theorem TurnOk.ghost {c : TCtx} {σ : Sig} {h : Hp} {w : World} {loc' : List Blk} (t : TurnOk c h loc') (hr : Rel σ h w) {p : Nat} {e : Ent} (hp : p ∉ c.pm) (hb : h.loc[p]? = some .mark) (hi : σ (.loc p) = some e) (hlo : σ.lo ≤ e.rid) :
    Ghost (σ.turn c w) (⟨h.outer, loc'⟩ : Hp) w e.rid := by
  obtain ⟨g1, o, g2, g3⟩ := hr.blk (.loc p) e .mark hi hb
  refine ⟨hlo, by rw [g2]; exact congrArg some g3, ?_, ?_⟩
  · cases ho : (σ.turn c w).fz e.rid with
    | none => rfl
    | some o' =>
      exfalso
      rcases turn_fz_any ho with ⟨q, e', hq, he', hrid, _⟩ | h1
      · have : ∃ b, h.get (.loc q) = some b ∧ b ≠ .mark ∧ b.alive = true := by
          rcases hq with ⟨ds, hq⟩ | ⟨ks, vs, hq⟩
          · obtain ⟨b, l, k1, k2, _⟩ := t.fz.row q ds hq
            exact ⟨b, k1, fun h0 => by rw [h0] at k2; simp [Blk.row] at k2, Blk.row_alive k2⟩
          · obtain ⟨es, k1, _⟩ := t.fz.map q ks vs hq
            exact ⟨_, k1, by simp, rfl⟩
        obtain ⟨b, k1, k2, k3⟩ := this
        refine hr.apart (.loc p) (.loc q) e e' .mark b (fun h0 => ?_) hi he' hb k1 rfl k3 hrid.symm
        cases h0
        have k1 : h.loc[p]? = some b := k1
        rw [hb] at k1; cases k1; exact k2 rfl
      · exact (hr.fz e.rid o' h1).2 (.loc p) e .mark hi hb rfl rfl
  · intro i ei b' hi' hb' hal
    obtain ⟨b, h1, h2, _, h3, _⟩ := t.name hr hi' hb'
    refine (hr.apart (.loc p) (c.ρ i) e ei .mark b (fun h0 => ?_) hi h2 hb h1 rfl (h3 hal).1).symm
    cases i with
    | out i => simp [TCtx.ρ] at h0
    | loc k =>
      unfold TCtx.ρ at h0
      simp only at h0
      split at h0
      · rename_i q hq
        cases h0
        exact hp (List.mem_of_getElem? hq)
      · cases h0
        rw [List.getElem?_eq_none (by have := t.len; omega)] at hb; cases hb
theorem MarkL.turn {c : TCtx} {σ : Sig} {h : Hp} {w : World} {loc' : List Blk} (t : TurnOk c h loc') (hr : Rel σ h w) : ∀ {ds : List Deferred} {is is' : List Id}, MkTo c h.loc is is' → MarkL σ h w is ds → MarkL (σ.turn c w) (⟨h.outer, loc'⟩ : Hp) w is' ds
  | [], is, is', m, hl => by
    simp only [MarkL] at hl ⊢
    subst hl
    exact m
  | d :: ds, is, is', m, hl => by
    simp only [MarkL] at hl ⊢
    rcases hl with ⟨i, is2, e, rfl, rfl, h3, h4, h5⟩ | ⟨r, h1, h2, h3⟩
    · simp only [MkTo] at m
      rcases m with ⟨i', is3, rfl, hρ, m⟩ | ⟨p, rfl, hp, hb, m⟩
      · refine .inl ⟨i', is3, e, rfl, rfl, ?_, h4, MarkL.turn t hr m h5⟩
        show σ (c.ρ i') = some e
        rw [hρ]; exact h3
      · exact .inr ⟨e.rid, rfl, t.ghost hr hp hb h3 h4, MarkL.turn t hr m h5⟩
    · exact .inr ⟨r, h1, (t.ext hr).ghost h2, MarkL.turn t hr m h3⟩
theorem Retell.refl (K : Id → Prop) (st : St) : Retell K st st := fun σ _ _ hs => ⟨σ, hs, ExtK.refl _ _ _ _⟩
theorem Retell.trans {K : Id → Prop} {a b c : St} (h : Retell K a b) (k : Retell K b c) : Retell K a c := fun σ ac w hs => by
  obtain ⟨σ1, h1, x1⟩ := h σ ac w hs
  obtain ⟨σ2, h2, x2⟩ := k σ1 ac w h1
  exact ⟨σ2, h2, x1.trans x2⟩
theorem Retell.turn {n : Nat} {fr fr' : Fr} {outer : Id → Option Blk} {loc loc' : List Blk} {marks marks' : List Id} (c : TCtx) (t : TurnOk c ⟨outer, loc⟩ loc') (hf : FrTo c fr fr') (hm : MkTo c loc marks marks') :
    Retell isOut ⟨n, fr, ⟨outer, loc⟩, marks⟩ ⟨n, fr', ⟨outer, loc'⟩, marks'⟩ := fun σ a w hs => by
  have hr : Rel σ (⟨outer, loc⟩ : Hp) w := hs.rel
  refine ⟨σ.turn c w, ⟨t.rel hr, fun k => turn_v hr t.fz _ _ _ (hf.at k) (hs.fr k), hs.size, ?_⟩, t.ext hr⟩
  exact ⟨hs.marks.nodup, hs.marks.lo, hs.marks.list.turn t hr hm⟩
/-! ### Building blocks for such a telling -/

theorem OutOk.lift (h : Hp) : OutOk h.lift := fun i b hb => by
  unfold Hp.lift at hb
  rw [Option.map_eq_some_iff] at hb
  obtain ⟨b0, _, rfl⟩ := hb
  exact ⟨b0, rfl⟩
theorem OutOk.set {o : Id → Option Blk} (h : OutOk o) {j : Id} {b0 : Blk} : OutOk (fun i => if i = j then some (b0.ren .out) else o i) := fun i b hb => by
  simp only at hb
  split at hb
  · cases hb; exact ⟨b0, rfl⟩
  · exact h i b hb
def FzAll (c : TCtx) (loc : List Blk) : List (Nat × List D) → Prop
  | [] => True
  | (p, ds) :: r => (∃ b l, loc[p]? = some b ∧ b.row = some (true, l) ∧ RowTo c l (ds.map D.v)) ∧ FzAll c loc r
def FmAll (c : TCtx) (loc : List Blk) : List (Nat × List D × List D) → Prop
  | [] => True
  | (p, ks, vs) :: r => (∃ es, loc[p]? = some (.map es) ∧ EsTo c es ks vs) ∧ FmAll c loc r
theorem FzAll.get {c : TCtx} {loc : List Blk} : ∀ {l : List (Nat × List D)}, FzAll c loc l → ∀ p ds, assoc l p = some ds → ∃ b r, loc[p]? = some b ∧ b.row = some (true, r) ∧ RowTo c r (ds.map D.v)
  | [], _, p, ds, h => by simp [assoc] at h
  | (q, a) :: l, h, p, ds, hp => by
    simp only [FzAll] at h
    simp only [assoc] at hp
    split at hp
    · rename_i hq
      have := Nat.eq_of_beq_eq_true hq
      subst this
      cases hp
      exact h.1
    · exact FzAll.get h.2 p ds hp
theorem FmAll.get {c : TCtx} {loc : List Blk} : ∀ {l : List (Nat × List D × List D)}, FmAll c loc l → ∀ p ks vs, assoc l p = some (ks, vs) → ∃ es, loc[p]? = some (.map es) ∧ EsTo c es ks vs
  | [], _, p, ks, vs, h => by simp [assoc] at h
  | (q, a, b) :: l, h, p, ks, vs, hp => by
    simp only [FmAll] at h
    simp only [assoc] at hp
    split at hp
    · rename_i hq
      have := Nat.eq_of_beq_eq_true hq
      subst this
      cases hp
      exact h.1
    · exact FmAll.get h.2 p ks vs hp
def hasKey {α : Type} (l : List (Nat × α)) (p : Nat) : Bool := l.any fun q => Nat.beq q.1 p
theorem assoc_hasKey {α : Type} : ∀ {l : List (Nat × α)} {p : Nat} {a : α}, assoc l p = some a → hasKey l p = true
  | [], _, _, h => by simp [assoc] at h
  | (q, b) :: l, p, a, h => by
    simp only [assoc] at h
    split at h
    · rename_i hq; simp [hasKey, hq]
    · have := assoc_hasKey h
      unfold hasKey at this ⊢
      rw [List.any_cons, this, Bool.or_true]
def outsOk (fz : List (Nat × List D)) (fm : List (Nat × List D × List D)) : List Nat → List Blk → Bool
  | p :: pm, b :: bs => (match hasKey fz p, hasKey fm p with
    | false, false => true
    | _, _ => match b with
      | .dead => true
      | _ => false) && outsOk fz fm pm bs
  | _, _ => true
theorem outsOk_get {fz : List (Nat × List D)} {fm : List (Nat × List D × List D)} : ∀ {pm : List Nat} {bs : List Blk}, outsOk fz fm pm bs = true → bs.length = pm.length → ∀ (k p : Nat), pm[k]? = some p → hasKey fz p = true ∨ hasKey fm p = true → bs[k]? = some .dead
  | [], _, _, _, k, p, h, _ => by simp at h
  | _ :: _, [], _, hl, _, _, _, _ => by simp at hl
  | q :: pm, b :: bs, h, hl, k, p, hk, hp => by
    simp only [outsOk, Bool.and_eq_true] at h
    cases k with
    | zero =>
      simp at hk; subst hk
      have h1 := h.1
      split at h1
      · rename_i e1 e2
        rcases hp with hp | hp
        · rw [hp] at e1; cases e1
        · rw [hp] at e2; cases e2
      · split at h1
        · rfl
        · cases h1
    | succ k => simpa using outsOk_get h.2 (by simpa using hl) k p (by simpa using hk) hp
theorem TurnOk.mk' {outer : Id → Option Blk} {loc loc' : List Blk} (pm : List Nat) (L : Nat) (fz : List (Nat × List D)) (fm : List (Nat × List D × List D)) (ho : OutOk outer) (hl : Nat.ble loc.length L = true) (hn : pm.Nodup)
    (hb : BTos ⟨pm, L, fz, fm⟩ loc pm loc') (h1 : FzAll ⟨pm, L, fz, fm⟩ loc fz) (h2 : FmAll ⟨pm, L, fz, fm⟩ loc fm) (h3 : outsOk fz fm pm loc' = true) : TurnOk ⟨pm, L, fz, fm⟩ ⟨outer, loc⟩ loc' :=
  ⟨ho, Nat.le_of_ble_eq_true hl, hn, hb, ⟨fun p ds hp => h1.get p ds hp, fun p ks vs hp => h2.get p ks vs hp⟩, fun k p hk hp => outsOk_get h3 hb.get.1 k p hk (by
    rcases hp with ⟨ds, hp⟩ | ⟨ks, vs, hp⟩
    · exact .inl (assoc_hasKey hp)
    · exact .inr (assoc_hasKey hp))⟩
/-! ### Loops -/

def LoopEnd {X : Type} (S : X → St) (Inv : X → Prop) (μ : X → Nat) (x : X) (st' : St) : Prop := ∃ x', Inv x' ∧ μ x' < μ x ∧ Retell isOut st' (S x')
theorem LoopEnd.intro {X : Type} {S : X → St} {Inv : X → Prop} {μ : X → Nat} {x : X} {st' : St} (x' : X) (h1 : Inv x') (h2 : μ x' < μ x) (h3 : Retell isOut st' (S x')) : LoopEnd S Inv μ x st' := ⟨x', h1, h2, h3⟩
theorem VCode.loopW {P : Program} {ro : Option Nat} {c : Code} {st : St} {Q : Vm.X → St → Prop} {Y : Type} (S : Y → St) (Inv : Y → Prop) (μ : Y → Nat) (x0 : Y) (h0 : Inv x0) (hst : Retell isOut st (S x0))
    (hb : ∀ x, Inv x → VWp P ro isOut c (S x) (fun e st' => match e with
      | .normal => LoopEnd S Inv μ x st'
      | .exit i => Q (.exit i) st'
      | .ret => Q .ret st')) : VCode P ro isOut (.loop c) st Q := by
  refine VCode.intro ?_
  refine VWp.retell hst ?_
  refine VWp.loop (fun st' => ∃ x, Inv x ∧ st' = S x) (fun st' => leastOf (fun m => ∃ x, Inv x ∧ st' = S x ∧ m = μ x)) ⟨x0, h0, rfl⟩ ?_
  rintro st' ⟨x1, hx1, rfl⟩
  obtain ⟨x, hx, hse, hm⟩ := leastOf_spec (p := fun m => ∃ x, Inv x ∧ S x1 = S x ∧ m = μ x) ⟨_, x1, hx1, rfl, rfl⟩
  have key := hb x hx
  rw [hse]
  rw [hse] at hm
  refine VWp.retell_post key ?_
  intro e st2 hq
  cases e with
  | normal =>
    obtain ⟨x', h1, h2, h3⟩ := hq
    refine ⟨S x', h3, ⟨x', h1, rfl⟩, ?_⟩
    have : leastOf (fun m => ∃ x, Inv x ∧ S x' = S x ∧ m = μ x) ≤ μ x' := leastOf_le ⟨x', h1, rfl, rfl⟩
    show leastOf (fun m => ∃ x, Inv x ∧ S x' = S x ∧ m = μ x) < leastOf (fun m => ∃ y, Inv y ∧ S x = S y ∧ m = μ y)
    omega
  | exit i => exact ⟨st2, Retell.refl _ _, hq⟩
  | ret => exact ⟨st2, Retell.refl _ _, hq⟩
attribute [irreducible] LoopEnd

/-! ### Leaving -/

theorem VOut.intro' {h h1 : Hp} {r1 r : V} {h' : Hp} (ho : Outs h h1 r1 r h') : VOut h h1 r1 r h' := ⟨ho⟩
theorem VOut.elim' {h h1 : Hp} {r1 r : V} {h' : Hp} (ho : VOut h h1 r1 r h') : Outs h h1 r1 r h' := ho.ex
theorem VOut.turn {h : Hp} {outer : Id → Option Blk} {loc loc' : List Blk} {r1 r1' r : V} {h' : Hp} (c : TCtx) (t : TurnOk c ⟨outer, loc⟩ loc') (hv : VTo c r1 r1') (ho : VOut h ⟨outer, loc'⟩ r1' r h') : VOut h ⟨outer, loc⟩ r1 r h' := by
  refine VOut.intro' ?_
  intro σ σ' w w' v hr hr2 hx hvr
  exact ho.elim' σ (σ'.turn c w') w w' v hr (t.rel hr2) (hx.trans (t.ext hr2)) (turn_v hr2 t.fz _ _ _ hv hvr)
theorem VOut.data {h : Hp} {loc : List Blk} {r1 r : V} (L : Nat) (fz : List (Nat × List D)) (fm : List (Nat × List D × List D)) (hl : Nat.ble loc.length L = true)
    (h1 : FzAll ⟨[], L, fz, fm⟩ loc fz) (h2 : FmAll ⟨[], L, fz, fm⟩ loc fm) (hv : VTo ⟨[], L, fz, fm⟩ r1 (r.ren .out)) : VOut h ⟨h.lift, loc⟩ r1 r h :=
  VOut.turn ⟨[], L, fz, fm⟩ (loc' := []) (TurnOk.mk' [] L fz fm (OutOk.lift h) hl List.nodup_nil (by simp only [BTos]) h1 h2 rfl) hv (VOut.same rfl)
/-! ### Calls -/

theorem VC.turn {P : Program} {f : FuncId} {args args' : List V} {outer : Id → Option Blk} {loc loc' : List Blk} {r : V} {h2 : Hp} (c : TCtx) (t : TurnOk c ⟨outer, loc⟩ loc') (hid : ∀ i, (⟨outer, loc⟩ : Hp).get i ≠ none → c.ρ i = i) (hv : VTos c args args')
    (hc : VC P f args' ⟨outer, loc'⟩ r h2) : VC P f args ⟨outer, loc⟩ r h2 := by
  obtain ⟨hent, hg, hC⟩ := hc
  refine ⟨hent, ?_, fun σ w xs hr hxs => ?_⟩
  · intro i hi
    refine hg i ?_
    cases i with
    | out i => exact hi
    | loc k =>
      have hρ := hid (.loc k) hi
      have hi' : loc[k]? ≠ none := hi
      have : k < loc'.length := by
        rw [t.blks.get.1]
        cases hp : c.pm[k]? with
        | some p => exact (List.getElem?_eq_some_iff.1 hp).1
        | none =>
          exfalso
          have h2 : c.ρ (.loc k) = .loc (c.L + k) := by simp [TCtx.ρ, hp]
          rw [h2, Id.loc.injEq] at hρ
          exact hi' (List.getElem?_eq_none (by have := t.len; simp only at this; omega))
      show loc'[k]? ≠ none
      rw [List.getElem?_eq_getElem this]; simp
  · refine CallsIn.mono (hC (σ.turn c w) w xs (t.rel hr) (turn_vs hr t.fz _ _ _ hv hxs)) ?_
    rintro e w' ⟨σ', x, rfl, h1, h2, h3⟩
    exact ⟨σ', x, rfl, h1, h2, (t.extAll hid hr).trans h3⟩
theorem rangeLt {n : Nat} {k : Nat} (hk : k < n) : (List.range n)[k]? = some k := List.getElem?_range hk
theorem VC.give {P : Program} {f : FuncId} {args args' : List V} {outer : Id → Option Blk} {loc loc' : List Blk} {r : V} {h2 : Hp} (fz : List (Nat × List D)) (fm : List (Nat × List D × List D)) (ho : OutOk outer)
    (hb : BTos ⟨List.range loc.length, loc.length, fz, fm⟩ loc (List.range loc.length) loc') (h1 : FzAll ⟨List.range loc.length, loc.length, fz, fm⟩ loc fz) (h1' : FmAll ⟨List.range loc.length, loc.length, fz, fm⟩ loc fm) (h3 : outsOk fz fm (List.range loc.length) loc' = true)
    (hv : VTos ⟨List.range loc.length, loc.length, fz, fm⟩ args args') (hc : VC P f args' ⟨outer, loc'⟩ r h2) : VC P f args ⟨outer, loc⟩ r h2 :=
  VC.turn _ (TurnOk.mk' _ _ fz fm ho (by simp) List.nodup_range hb h1 h1' h3) (fun i hi => by
    cases i with
    | out i => rfl
    | loc k =>
      have hlt : k < loc.length := by
        rcases Nat.lt_or_ge k loc.length with h1 | h1
        · exact h1
        · exact absurd (List.getElem?_eq_none h1) hi
      simp [TCtx.ρ, rangeLt hlt]) hv hc
end Go.Vm

namespace Go.Vm

theorem VR_gl_of_slice {σ : Sig} {i : Id} {esz n : Nat} {x : Value} (h : VR σ (.slice i 0 esz n none) x) : VR σ (.gl i esz n) x := by
  simp only [VR] at h ⊢
  obtain ⟨e, cap, o, h1, h2, h3, h4, h5, h6⟩ := h
  exact ⟨h2, .inr ⟨e, cap, o, h1, h3, by omega, h5, h6⟩⟩
def Sig.know (σ : Sig) (i : Id) : Sig := ⟨σ.ent, σ.fz, fun j => j = i ∨ σ.nm j, σ.lo⟩
theorem Sig.le_know (σ : Sig) (i : Id) : σ.le (σ.know i) := ⟨fun _ _ h => h, fun _ _ h => h, fun _ h => .inr h⟩
theorem Rel.renil {σ : Sig} {h : Hp} {w : World} (hr : Rel σ h w) {i : Id} {b b' : Blk} (hb : h.get i = some b) :
    Rel (σ.know h.fresh) ((h.set i .dead).push b') w ∧ Ext σ h w (σ.know h.fresh) ((h.set i .dead).push b') w := by
  have hk := hr.kill hb
  have hfr : (h.set i .dead).fresh = h.fresh := by cases i <;> simp [Hp.fresh, Hp.set]
  have hn : σ h.fresh = none := hr.fresh_none
  have hle := σ.le_know h.fresh
  have hget : ∀ j, ((h.set i .dead).push b').get j = if j = h.fresh then some b' else (h.set i .dead).get j := fun j => by rw [Hp.get_push, hfr]
  constructor
  · refine ⟨?_, ?_, ?_, ?_, ?_⟩
    · intro j ej bj hj hbj
      have hj : σ j = some ej := hj
      rw [hget] at hbj
      have hjf : j ≠ h.fresh := fun e1 => by rw [e1, hn] at hj; cases hj
      rw [if_neg hjf] at hbj
      obtain ⟨h1, o, h2, h3⟩ := hk.blk j ej bj hj hbj
      exact ⟨h1, o, h2, h3.mono hle⟩
    · intro j k ej ek bj bk hne hj hk2 hbj hbk h1 h2
      have hj : σ j = some ej := hj
      have hk2 : σ k = some ek := hk2
      rw [hget] at hbj hbk
      have hjf : j ≠ h.fresh := fun e1 => by rw [e1, hn] at hj; cases hj
      have hkf : k ≠ h.fresh := fun e1 => by rw [e1, hn] at hk2; cases hk2
      rw [if_neg hjf] at hbj
      rw [if_neg hkf] at hbk
      exact hk.apart j k ej ek bj bk hne hj hk2 hbj hbk h1 h2
    · intro j hj
      rw [hget] at hj
      split at hj
      · cases hj
      · exact hk.dom j hj
    · rintro j (rfl | hj)
      · rw [hget, if_pos rfl]; simp
      · rw [hget]
        split
        · simp
        · exact hk.nmd j hj
    · intro r o hro
      obtain ⟨g1, g2⟩ := hk.fz r o hro
      refine ⟨g1, fun j ej bj hj hbj hw => ?_⟩
      have hj : σ j = some ej := hj
      rw [hget] at hbj
      have hjf : j ≠ h.fresh := fun e1 => by rw [e1, hn] at hj; cases hj
      rw [if_neg hjf] at hbj
      exact g2 j ej bj hj hbj hw
  · have x := Ext.kill (σ := σ) (w := w) hb
    refine ⟨hle, rfl, fun _ _ h => h, Nat.le_refl _, rfl, rfl, rfl, fun _ _ _ => rfl, (fun j ej hj hn2 => by have hj : σ j = some ej := hj; rw [hn2] at hj; cases hj), ?_, ?_, ?_, ?_⟩
    · intro j ej bj hj hbj hw
      rw [hget] at hbj
      have hjf : j ≠ h.fresh := fun e1 => by rw [e1, hn] at hj; cases hj
      rw [if_neg hjf] at hbj
      exact x.down j ej bj hj hbj hw
    · intro j ej bj hj hbj hw hal
      have hj : σ j = some ej := hj
      rw [hget] at hbj
      have hjf : j ≠ h.fresh := fun e1 => by rw [e1, hn] at hj; cases hj
      rw [if_neg hjf] at hbj
      exact x.ro j ej bj hj hbj hw hal
    · intro j hj
      have hjf : j ≠ h.fresh := fun e1 => hj (by rw [e1]; exact h.get_fresh)
      refine ⟨?_, fun hn => hn⟩
      rw [hget, if_neg hjf]
      exact (x.old j hj).1
    · rintro j hj (rfl | hq)
      · exact absurd h.get_fresh hj
      · exact hq
section
variable {P : Program} {T : TT} (hT : TOk P T)
include hT

theorem does_append_gl {t ty : TypeId} {e esz bytes : Nat} {zero : List V} {s_ : Nat} {a_ : Bool} {z_ : V} {h : Hp} {x : V} {n k : Nat} {news : List V} {i : Id} {b b' : Blk} {l : List V} (hTt : T t = some ⟨.slice e esz bytes zero, s_, a_, z_⟩)
    (hb : h.get i = some b) (hrow : b.row = some (true, l)) (hx : SegOf h esz x k news) (hfit : n * esz ≤ l.length)
    (hb' : b'.row = some (true, l.take (n * esz) ++ news)) (hbd : (n + k) * bytes ≤ 140737488355328) (h63 : n + k ≤ 9223372036854775807) :
    Does P (opAppend #[t, t] ty) [.gl i esz n, x] h (.gl h.fresh esz (n + k)) ((h.set i .dead).push b') := by
  refine ⟨Hp.grows_trans (h.grows_set _ _) (Hp.grows_push _ _), ?_⟩
  intro σ w xs hr hxs
  obtain ⟨sv, xv, rfl, hsv, hxv⟩ := VRs_two hxs
  obtain ⟨hu, hp, info, z, hinfo, hsize, hbytes, hzero, hzc, hzl, hzsz⟩ := slice_kind hT hTt
  have hsv0 := hsv
  simp only [VR] at hsv
  obtain ⟨_, ⟨h0, hnm, rfl⟩ | ⟨ee, cap, o, hi, hlc, hcap, ho, rfl⟩⟩ := hsv
  · -- nil
    subst h0
    obtain ⟨ys, hyl, hyr, hy1, hy⟩ := hx.real hr hxv
    by_cases hk0 : k = 0
    · subst hk0
      obtain ⟨r1, r2⟩ := hr.renil hb (b' := b')
      have hrun : (Builtin.append_ #[t, t] ty #[.slice none 0 0, xv]).run P w = .ok (.slice none 0 0) w := by
        rcases hy with ⟨rfl, _, _⟩ | ⟨ad2, c2, rfl, _, _⟩ <;> simp [Builtin.append_, run_underlying hu, sizeOf, typeInfo, hinfo, Builtin.lenOf, Builtin.firstCells, loadCells, loadCellsFrom, storeCells]
      exact ⟨_, _, w, run_valN hrun, by simp only [NextRel, VR]; exact ⟨hp, .inl ⟨by simp, .inl rfl, trivial⟩⟩, r1, r2⟩
    · rcases hy with ⟨_, rfl, _⟩ | ⟨ad, c, rfl, hnc, hcell⟩
      · exact absurd rfl hk0
      · have hrun := run_append_nil (P := P) w t ty e info z hu hinfo hzero ad k c ys (by rw [hsize]; exact hyl) (cells_nil_of hyl hnc hcell) (by omega) (by omega) (by rw [hbytes]; simpa using Nat.le_trans hbd (by omega))
        have hk := hr.kill hb
        have hfr : (h.set i .dead).fresh = h.fresh := by cases i <;> simp [Hp.fresh, Hp.set]
        obtain ⟨r1, r2⟩ := grown_new hk (e := e) (esz := esz) (need := k) (c := grownCap w k 0 e) (l := news) (by simpa using hb') hyr hy1 hyl hzsz (grownCap_ge w k 0 e)
        rw [hfr] at r1 r2
        refine ⟨_, _, _, run_valN hrun, ?_, r1, (Ext.kill hb).trans r2⟩
        simp only [NextRel, VR]
        exact ⟨hp, .inr ⟨_, grownCap w k 0 e, 0, Sig.put_same _ _ _, by simpa using grownCap_ge w k 0 e, rfl, fun _ => rfl, by simp⟩⟩
  · by_cases hk0 : k = 0
    · subst hk0
      obtain ⟨ys, hyl, _, _, hy⟩ := hx.real hr hxv
      have hnews : news = [] := List.eq_nil_of_length_eq_zero (by simpa using hx.length)
      subst hnews
      obtain ⟨hlt, ob, hob, hrel⟩ := hr.blk i ee b hi hb
      rw [BlkRel_row hrow] at hrel
      obtain ⟨cur, TT, fz, rfl, hs1, hs2, hfz, hc⟩ := hrel
      have hnone := hr.fresh_none
      have hle := Sig.le_put (e := ee) hnone
      have hlen : (l.take (n * esz) ++ []).length = n * esz := by simp; omega
      have r1 := hr.rename (e' := ee) (b' := b') (o' := .cells cur TT fz) hi hb (Blk.row_rw hrow) (Blk.row_alive hrow) rfl (fun _ _ => rfl) hob rfl ((BlkRel_row hb').2 ⟨cur, TT, fz, rfl, hs1, by rw [hlen]; omega, hfz, fun j v hv => by
        have hv : (l.take (n * esz) ++ [])[j]? = some v := hv
        rw [List.append_nil, List.getElem?_take] at hv
        split at hv
        · obtain ⟨x, g1, g2, g3⟩ := hc j v hv
          exact ⟨x, g1, VR.mono hle _ _ g2, g3⟩
        · cases hv⟩)
      have r2 := Ext.rename (w' := w) hr (e' := ee) (b' := b') hi hb (Blk.row_rw hrow) (Blk.row_rw hb') rfl rfl rfl rfl rfl (fun _ _ => rfl)
      have hrun : (Builtin.append_ #[t, t] ty #[.slice (some ⟨ee.rid, o, none⟩) n cap, xv]).run P w = .ok (.slice (some ⟨ee.rid, o, none⟩) n cap) w := by
        rcases hy with ⟨rfl, _, _⟩ | ⟨ad2, c2, rfl, _, _⟩ <;> simp [Builtin.append_, run_underlying hu, sizeOf, typeInfo, hinfo, Builtin.lenOf, Builtin.firstCells, loadCells, loadCellsFrom, storeCells, hlc]
      refine ⟨_, _, w, run_valN hrun, ?_, r1, r2⟩
      simp only [NextRel, VR]
      exact ⟨hp, .inr ⟨ee, cap, o, Sig.put_same _ _ _, by omega, hcap, ho, rfl⟩⟩
    · have hsl : VR σ (.slice i 0 esz n none) (.slice (some ⟨ee.rid, o, none⟩) n cap) := by
        simp only [VR]; exact ⟨ee, cap, o, hi, hp, hlc, by omega, ho, rfl⟩
      obtain ⟨σ', nx, w', g1, g2, g3, g4⟩ := (does_append (P := P) (ty := ty) hT hTt hb hrow hx (off := 0) (len := n) (by simpa using hfit) (by omega) (b' := b') (by simpa using hb') hbd h63).2 σ w [.slice (some ⟨ee.rid, o, none⟩) n cap, xv] hr (by simp only [VRs]; exact ⟨_, _, rfl, hsl, _, _, rfl, hxv, rfl⟩)
      refine ⟨σ', nx, w', g1, ?_, g3, g4⟩
      cases nx <;> simp only [NextRel] at g2 ⊢ <;> first | exact VR_gl_of_slice g2 | exact g2 | (cases g2)
theorem does_copy_gl {t ty : TypeId} {e esz bytes : Nat} {zero : List V} {s_ : Nat} {a_ : Bool} {z_ : V} {h : Hp} {x : V} {n m k : Nat} {news : List V} {i : Id} {b b' : Blk} {l : List V} (hTt : T t = some ⟨.slice e esz bytes zero, s_, a_, z_⟩)
    (hb : h.get i = some b) (hrow : b.row = some (true, l)) (hx : SegOf h esz x k news) (hfit : n * esz ≤ l.length) (hm : m = min k n)
    (hb' : b'.row = some (true, news.take (m * esz) ++ l.drop (m * esz))) :
    Does P (opCopy #[t, t] ty) [.gl i esz n, x] h (.s (.int .i64 m)) (h.set i b') := by
  refine ⟨h.grows_set _ _, ?_⟩
  intro σ w xs hr hxs
  obtain ⟨sv, xv, rfl, hsv, hxv⟩ := VRs_two hxs
  obtain ⟨hu, hp, info, z, hinfo, hsize, hbytes, hzero, hzc, hzl, hzsz⟩ := slice_kind hT hTt
  simp only [VR] at hsv
  obtain ⟨_, ⟨h0, hnm, rfl⟩ | ⟨ee, cap, o, hi, hlc, hcap, ho, rfl⟩⟩ := hsv
  · subst h0
    have hm0 : m = 0 := by omega
    subst hm0
    obtain ⟨ys, hyl, _, _, hy⟩ := hx.real hr hxv
    have hlen : (Builtin.lenOf xv).run P w = .ok k w := by
      rcases hy with ⟨rfl, rfl, rfl⟩ | ⟨ad, c, rfl, hnc, hcell⟩ <;> simp [Builtin.lenOf]
    have hrun : (Builtin.copy_ #[t, t] ty #[.slice none 0 0, xv]).run P w = .ok (.int .i64 0) w := by
      rcases hy with ⟨rfl, rfl, rfl⟩ | ⟨ad, c, rfl, hnc, hcell⟩ <;> simp [Builtin.copy_, run_underlying hu, sizeOf, typeInfo, hinfo, Builtin.lenOf, Builtin.firstCells, loadCells, loadCellsFrom, storeCells, goInt]
    have hsame : (h.get i).bind Blk.row = (some b').bind Blk.row := by rw [hb]; simp [hrow, hb']
    have hs : ∀ j, (h.set i b').get j = if j = i then some b' else h.get j := fun j => Hp.get_set _ _ _ _ (by rw [hb]; simp)
    have hrl : b'.row = some (true, l) := by simpa using hb'
    refine ⟨σ, _, w, run_valN hrun, rfl, ?_, ?_⟩
    · refine ⟨?_, ?_, ?_, ?_, ?_⟩
      · intro j ej bj hj hbj
        rw [hs] at hbj
        split at hbj
        · rename_i e1; subst e1; cases hbj
          obtain ⟨g1, ob, g2, g3⟩ := hr.blk j ej b hj hb
          exact ⟨g1, ob, g2, (BlkRel_row hrl).2 ((BlkRel_row hrow).1 g3)⟩
        · exact hr.blk j ej bj hj hbj
      · intro j q ej eq bj bq hne hj hq hbj hbq hw1 hal1
        rw [hs] at hbj hbq
        have hbrw : b.rw = true := Blk.row_rw hrow
        split at hbj
        · rename_i e1; subst e1
          rw [if_neg (Ne.symm hne)] at hbq
          exact hr.apart _ q ej eq b bq hne hj hq hb hbq hbrw hal1
        · split at hbq
          · rename_i e2; subst e2
            exact hr.apart j _ ej eq bj b hne hj hq hbj hb hw1 (Blk.row_alive hrow)
          · exact hr.apart j q ej eq bj bq hne hj hq hbj hbq hw1 hal1
      · intro j hj
        rw [hs] at hj
        split at hj
        · cases hj
        · exact hr.dom j hj
      · intro j hj
        rw [hs]
        split
        · simp
        · exact hr.nmd j hj
      · intro r ob hro
        obtain ⟨g1, g2⟩ := hr.fz r ob hro
        refine ⟨g1, fun j ej bj hj hbj hw => ?_⟩
        rw [hs] at hbj
        split at hbj
        · rename_i e1; subst e1; exact g2 j ej b hj hb (Blk.row_rw hrow)
        · exact g2 j ej bj hj hbj hw
    · refine ⟨Sig.le_refl σ, rfl, fun _ _ h => h, Nat.le_refl _, rfl, rfl, rfl, fun _ _ _ => rfl, (fun j ej hj hn => by rw [hj] at hn; cases hn), ?_, ?_, ?_, fun _ _ h => h⟩
      · intro j ej bj hj hbj hw
        rw [hs] at hbj
        split at hbj
        · rename_i e1; subst e1; exact ⟨b, hb, Blk.row_rw hrow⟩
        · exact ⟨bj, hbj, hw⟩
      · intro j ej bj hj hbj hw hal
        rw [hs] at hbj
        split at hbj
        · cases hbj; rw [Blk.row_rw hb'] at hw; cases hw
        · exact ⟨hj, bj, hbj, hal, hw⟩
      · intro j hj
        refine ⟨?_, id⟩
        rw [hs]
        split
        · simp
        · exact hj
  · have hsl : VR σ (.slice i 0 esz n none) (.slice (some ⟨ee.rid, o, none⟩) n cap) := by
      simp only [VR]; exact ⟨ee, cap, o, hi, hp, hlc, by omega, ho, rfl⟩
    exact (does_copy (P := P) (ty := ty) hT hTt hb hrow hx (off := 0) (len := n) (by simpa using hfit) hm (b' := b') (by simpa using hb')).2 σ w [.slice (some ⟨ee.rid, o, none⟩) n cap, xv] hr (by simp only [VRs]; exact ⟨_, _, rfl, hsl, _, _, rfl, hxv, rfl⟩)
end

/-! ### Data that is read -/

theorem flat_len {α : Type} {enc : α → List D} {m : Nat} (hm : ∀ a, (enc a).length = m) : ∀ l : List α, (l.flatMap enc).length = l.length * m
  | [] => by simp
  | a :: l => by rw [List.flatMap_cons, List.length_append, hm, flat_len hm l, List.length_cons, Nat.add_mul]; omega
theorem flat_dropD {α : Type} {enc : α → List D} {m : Nat} (hm : ∀ a, (enc a).length = m) : ∀ (l : List α) (j : Nat), (l.flatMap enc).drop (j * m) = (l.drop j).flatMap enc
  | l, 0 => by simp
  | [], j + 1 => by simp
  | a :: l, j + 1 => by
    rw [List.flatMap_cons, List.drop_succ_cons, ← flat_dropD hm l j, Nat.add_mul, Nat.one_mul, Nat.add_comm, ← List.drop_drop, List.drop_left' (hm a)]
theorem flat_takeD {α : Type} {enc : α → List D} {m : Nat} (hm : ∀ a, (enc a).length = m) : ∀ (l : List α) (j : Nat), (l.flatMap enc).take (j * m) = (l.take j).flatMap enc
  | l, 0 => by simp
  | [], j + 1 => by simp
  | a :: l, j + 1 => by
    rw [List.flatMap_cons, List.take_succ_cons, List.flatMap_cons, ← flat_takeD hm l j, Nat.add_mul, Nat.one_mul, Nat.add_comm, List.take_append, List.take_of_length_le (by rw [hm]; omega), hm]
    congr 2; omega
theorem VAny.ix {α : Type} {enc : α → List D} {m : Nat} (hm : ∀ a, (enc a).length = m) {l : List α} {len : Nat} {n : Int} {K : V → Prop} {a : α} (j : Nat) (hn : n = j) (hlen : len = l.length) (hj : l[j]? = some a) (hK : K (.fp (enc a))) :
    VAny (IdxP m len (l.flatMap enc) n) K := by
  obtain ⟨hlt, rfl⟩ := List.getElem?_eq_some_iff.1 hj
  refine VAny.intro (v := .fp (enc l[j])) ⟨by omega, enc l[j], (l.drop (j + 1)).flatMap enc, ?_, rfl⟩ hK
  rw [hn, Int.toNat_natCast, flat_dropD hm, List.drop_eq_getElem_cons hlt, List.flatMap_cons]
theorem VAny.sub {α : Type} {enc : α → List D} {m : Nat} (hm : ∀ a, (enc a).length = m) {l : List α} {len : Nat} {lo hi : Int} {K : V → Prop} (hlen : len = l.length) (hb : 0 ≤ lo ∧ lo ≤ hi ∧ hi ≤ len)
    (hK : K (.fs m ((l.drop lo.toNat).take (hi - lo).toNat).length (((l.drop lo.toNat).take (hi - lo).toNat).flatMap enc))) : VAny (SubP m len (l.flatMap enc) lo hi) K :=
  VAny.intro (v := .fs m ((l.drop lo.toNat).take (hi - lo).toNat).length (((l.drop lo.toNat).take (hi - lo).toNat).flatMap enc)) ⟨hb, _, _, by rw [flat_dropD hm, flat_takeD hm], by simp; omega, rfl⟩ hK
theorem VAny.subM {α : Type} {enc : α → List D} {m : Nat} (hm : ∀ a, (enc a).length = m) {l : List α} {len : Nat} {lo hi mx : Int} {is : Bool} {K : V → Prop} (hlen : len = l.length) (hi1 : is = true) (hb : 0 ≤ lo ∧ lo ≤ hi ∧ hi ≤ mx ∧ mx ≤ len)
    (hK : K (.fs m ((l.drop lo.toNat).take (hi - lo).toNat).length (((l.drop lo.toNat).take (hi - lo).toNat).flatMap enc))) : VAny (SubM m len (l.flatMap enc) lo hi mx is) K :=
  VAny.intro (v := .fs m ((l.drop lo.toNat).take (hi - lo).toNat).length (((l.drop lo.toNat).take (hi - lo).toNat).flatMap enc)) ⟨⟨hi1, hb.2.2⟩, ⟨hb.1, hb.2.1, by omega⟩, _, _, by rw [flat_dropD hm, flat_takeD hm], by simp; omega, rfl⟩ hK
def V.ls {α : Type} (m : Nat) (enc : α → List D) (l : List α) : V := .fs m l.length (l.flatMap enc)
def D.ls {α : Type} (m : Nat) (enc : α → List D) (l : List α) : D := .sl m l.length (l.flatMap enc)
end Go.Vm

namespace Go.Vm

def frS : List (Nat × V) → Fr → Fr
  | [], fr => fr
  | (d, v) :: l, fr => frS l (fr.set d v)
def frSK : List (Nat × V) → Fr → (Fr → Prop) → Prop
  | [], fr, K => K fr
  | (d, v) :: l, fr, K => v.forceK fun v => fr.setK d v fun fr => frSK l fr K
theorem frSK_eq : ∀ (l : List (Nat × V)) (fr : Fr) (K : Fr → Prop), frSK l fr K = K (frS l fr)
  | [], _, _ => rfl
  | (d, v) :: l, fr, K => by simp only [frSK, V.forceK_eq, Fr.setK_eq, frSK_eq l, frS]
structure LEnd {Y : Type} (n : Nat) (outer : Id → Option Blk) (marks : List Id) (slots : Y → List (Nat × V)) (loc : Y → List Blk) (Inv : Y → Prop) (μ : Y → Nat) (x : Y) (st' : St) : Prop where
  ex : ∃ x', Inv x' ∧ μ x' < μ x ∧ frSK (slots x') .leaf fun fr' => Retell isOut st' ⟨n, fr', ⟨outer, loc x'⟩, marks⟩
theorem LEnd.intro {Y : Type} {n : Nat} {outer : Id → Option Blk} {marks : List Id} {slots : Y → List (Nat × V)} {loc : Y → List Blk} {Inv : Y → Prop} {μ : Y → Nat} {x : Y} {st' : St} (x' : Y) (h1 : Inv x') (h2 : μ x' < μ x)
    (h3 : frSK (slots x') .leaf fun fr' => Retell isOut st' ⟨n, fr', ⟨outer, loc x'⟩, marks⟩) : LEnd n outer marks slots loc Inv μ x st' := ⟨x', h1, h2, h3⟩
theorem VCode.lp {P : Program} {ro : Option Nat} {c : Code} {n : Nat} {fr : Fr} {outer : Id → Option Blk} {loc0 : List Blk} {marks : List Id} {Q : X → St → Prop} {Y : Type} (slots : Y → List (Nat × V)) (loc : Y → List Blk) (Inv : Y → Prop) (μ : Y → Nat) (x0 : Y)
    (h0 : Inv x0) (hst : frSK (slots x0) .leaf fun fr' => Retell isOut ⟨n, fr, ⟨outer, loc0⟩, marks⟩ ⟨n, fr', ⟨outer, loc x0⟩, marks⟩)
    (hb : ∀ x, Inv x → frSK (slots x) .leaf fun fr' => vwp P (tiOf P) ro isOut c ⟨n, fr', ⟨outer, loc x⟩, marks⟩ (fun e st' => match e with
      | .normal => LEnd n outer marks slots loc Inv μ x st'
      | .exit i => Q (.exit i) st'
      | .ret => Q .ret st')) : VCode P ro isOut (.loop c) ⟨n, fr, ⟨outer, loc0⟩, marks⟩ Q := by
  refine VCode.loopW (fun x => ⟨n, frS (slots x) .leaf, ⟨outer, loc x⟩, marks⟩) Inv μ x0 h0 (by rw [frSK_eq] at hst; exact hst) fun x hx => ?_
  have h := hb x hx
  rw [frSK_eq] at h
  refine VWp.mono (vwp_ok (tiOf_ok P) _ _ _ h) fun e st' hq => ?_
  cases e with
  | normal =>
    obtain ⟨x', h1, h2, h3⟩ := hq
    rw [frSK_eq] at h3
    exact LoopEnd.intro x' h1 h2 h3
  | exit i => exact hq
  | ret => exact hq
end Go.Vm

namespace Go.Vm

abbrev I (n : Int) : V := .s (.int .i64 n)
abbrev B (b : Bool) : V := .s (.bool b)
abbrev DI (n : Int) : D := .s (.int .i64 n)
abbrev DB (b : Bool) : D := .s (.bool b)
def encI (n : Int) : List D := [DI n]
theorem encI_len (n : Int) : (encI n).length = 1 := rfl
def ints (l : List Int) : V := .fs 1 l.length (l.flatMap encI)
def dints (l : List Int) : D := .sl 1 l.length (l.flatMap encI)
def encL (l : List Int) : List D := [dints l]
theorem encL_len (l : List Int) : (encL l).length = 1 := rfl
def intss (l : List (List Int)) : V := .fs 1 l.length (l.flatMap encL)
structure Spn where
  lo : Int
  hi : Int
  deriving DecidableEq
def encS (s : Spn) : List D := [DI s.lo, DI s.hi]
theorem encS_len (s : Spn) : (encS s).length = 2 := rfl
def spans (l : List Spn) : V := .fs 2 l.length (l.flatMap encS)
theorem flat_snoc {α : Type} (enc : α → List D) (l : List α) (a : α) : (l ++ [a]).flatMap enc = l.flatMap enc ++ enc a := by simp
end Go.Vm

namespace Go.Vm
section
variable {c : TCtx} {loc : List Blk} {pm : List Nat} {bs : List Blk}
theorem BTos.nil : BTos c loc [] [] := by simp only [BTos]
theorem BTo1.old {j : Nat} {b' : Blk} (hj : Nat.blt j c.L = true) (h : BTo c (loc[j]?) b') : BTo1 c loc j b' := by unfold BTo1; rw [hj]; exact h
theorem BTos.cons {j : Nat} {b' : Blk} (h : BTo1 c loc j b') (r : BTos c loc pm bs) : BTos c loc (j :: pm) (b' :: bs) := by simp only [BTos]; exact ⟨h, r⟩
theorem BTos.flat {j : Nat} {rw : Bool} {l l' : List D} (hj : Nat.blt j c.L = true) (hl : loc[j]? = some (.flat rw l)) (he : l = l') (r : BTos c loc pm bs) : BTos c loc (j :: pm) (.flat rw l' :: bs) :=
  .cons (.old hj (by subst he; exact ⟨_, _, hl, rfl, RowTo.dv c l⟩)) r
theorem BTos.new {j : Nat} (hj : Nat.blt j c.L = false) (r : BTos c loc pm bs) : BTos c loc (j :: pm) (.flat true [] :: bs) :=
  .cons (by unfold BTo1; rw [hj]; trivial) r
theorem BTos.dead {j : Nat} {b : Blk} (hj : Nat.blt j c.L = true) (hl : loc[j]? = some b) (r : BTos c loc pm bs) : BTos c loc (j :: pm) (.dead :: bs) :=
  .cons (.old hj ⟨b, hl⟩) r
theorem BTos.row {j : Nat} {b : Blk} {rw : Bool} {l : List V} {l' : List D} (hj : Nat.blt j c.L = true) (hl : loc[j]? = some b) (hr : b.row = some (rw, l)) (ht : RowTo c l (l'.map D.v)) (r : BTos c loc pm bs) : BTos c loc (j :: pm) (.flat rw l' :: bs) :=
  .cons (.old hj ⟨b, l, hl, hr, ht⟩) r
theorem BTos.cells {j : Nat} {b : Blk} {rw : Bool} {l l' : List V} (hj : Nat.blt j c.L = true) (hl : loc[j]? = some b) (hr : b.row = some (rw, l)) (ht : VTos c l l') (r : BTos c loc pm bs) : BTos c loc (j :: pm) (.cells rw l' :: bs) :=
  .cons (.old hj ⟨b, l, hl, hr, RowTo.vtos ht⟩) r
theorem BTos.map {j : Nat} {es es' : List (V × V)} (hj : Nat.blt j c.L = true) (hl : loc[j]? = some (.map es)) (h1 : RowTo c (es.map (·.1)) (es'.map (·.1))) (h2 : RowTo c (es.map (·.2)) (es'.map (·.2))) (r : BTos c loc pm bs) : BTos c loc (j :: pm) (.map es' :: bs) :=
  .cons (.old hj ⟨es, hl, h1, h2⟩) r
theorem FzAll.nil : FzAll c loc [] := trivial
theorem FmAll.nil : FmAll c loc [] := trivial
theorem FzAll.flat {p : Nat} {ds : List D} {r : List (Nat × List D)} (hl : loc[p]? = some (.flat true ds)) (h : FzAll c loc r) : FzAll c loc ((p, ds) :: r) := by
  simp only [FzAll]; exact ⟨⟨_, _, hl, rfl, RowTo.dv c ds⟩, h⟩
theorem FzAll.row {p : Nat} {ds : List D} {r : List (Nat × List D)} {b : Blk} {l : List V} (hl : loc[p]? = some b) (hr : b.row = some (true, l)) (ht : RowTo c l (ds.map D.v)) (h : FzAll c loc r) : FzAll c loc ((p, ds) :: r) := by
  simp only [FzAll]; exact ⟨⟨b, l, hl, hr, ht⟩, h⟩
end
section
variable {c : TCtx} {v v' : V} {l l' : List V}
theorem VTo.undef : VTo c v .undef := by simp only [VTo]
theorem VTo.sc {x y : S} (h : x = y) : VTo c (.s x) (.s y) := by subst h; simp only [VTo]
theorem VTo.fs {a b : Nat} {l : List D} : VTo c (.fs a b l) (.fs a b l) := by simp only [VTo, VToFs, and_self]
theorem VTo.fp {l : List D} : VTo c (.fp l) (.fp l) := by simp only [VTo, VToFp]
theorem VTo.fm {a b : List D} : VTo c (.fm a b) (.fm a b) := by simp only [VTo, VToFm, and_self]
theorem VTo.fsGl {p a b : Nat} {ds : List D} (h : c.frz p ds) (hl : ds.length = b * a) : VTo c (.gl (.loc p) a b) (.fs a b ds) := by simp only [VTo, VToFs]; exact ⟨trivial, trivial, hl, h⟩
theorem VTo.fsNil {a : Nat} (h : 0 < a) : VTo c .nilslice (.fs a 0 []) := by simp only [VTo, VToFs]; exact ⟨trivial, h, trivial⟩
theorem VTo.fpPtr {p : Nat} {ds : List D} (h : c.frz p ds) : VTo c (.ptr (.loc p) 0) (.fp ds) := by simp only [VTo, VToFp]; exact ⟨ds, h, rfl⟩
theorem VTo.fmMap {p : Nat} {a b : List D} (h : c.frm p a b) : VTo c (.map (.loc p)) (.fm a b) := by simp only [VTo, VToFm]; exact h
theorem VTo.gl {i j : Id} {a b : Nat} (h : j = c.ρ i) : VTo c (.gl j a b) (.gl i a b) := by simp only [VTo, VToGl]; exact ⟨h, trivial, trivial⟩
theorem VTo.glNil {i : Id} {a : Nat} (h : 0 < a) (hn : c.nw i) : VTo c .nilslice (.gl i a 0) := by simp only [VTo, VToGl]; exact ⟨trivial, h, hn⟩
theorem VTo.glNil' {k j a : Nat} (h : 0 < a) (hk : c.pm[k]? = some j) (hj : Nat.ble c.L j = true) : VTo c .nilslice (.gl (.loc k) a 0) :=
  VTo.glNil h (by unfold TCtx.nw; simp only [hk]; exact Nat.le_of_ble_eq_true hj)
theorem VTo.ptr {i j : Id} {o : Nat} (h : j = c.ρ i) : VTo c (.ptr j o) (.ptr i o) := by simp only [VTo]; rw [h]
theorem VTo.map {i j : Id} (h : j = c.ρ i) : VTo c (.map j) (.map i) := by simp only [VTo]; rw [h]
theorem VTo.nilptr : VTo c .nilptr .nilptr := by simp only [VTo]
theorem VTo.nilslice : VTo c .nilslice .nilslice := by simp only [VTo]
theorem VTo.nilfunc : VTo c .nilfunc .nilfunc := by simp only [VTo]
theorem VTo.agg (h : VTos c l l') : VTo c (.agg l) (.agg l') := by simp only [VTo]; exact ⟨_, rfl, h⟩
theorem VTo.tuple (h : VTos c l l') : VTo c (.tuple l) (.tuple l') := by simp only [VTo]; exact ⟨_, rfl, h⟩
theorem VTo.func {fn : Fn} {f f' k k' : List V} (h1 : VTos c f f') (h2 : VTos c k k') : VTo c (.func fn f k) (.func fn f' k') := by simp only [VTo]; exact ⟨_, _, rfl, h1, h2⟩
theorem VTos.nil : VTos c [] [] := by simp only [VTos]
theorem VTos.cons (h : VTo c v v') (k : VTos c l l') : VTos c (v :: l) (v' :: l') := by simp only [VTos]; exact ⟨_, _, rfl, h, k⟩
theorem VTo.slice {i j : Id} {o a b : Nat} {m : Option Nat} (h : j = c.ρ i) : VTo c (.slice j o a b m) (.slice i o a b m) := by simp only [VTo]; rw [h]
end
theorem FrTo.leaf {c : TCtx} {fr : Fr} : FrTo c fr .leaf := by cases fr <;> simp only [FrTo]
theorem FrTo.node {c : TCtx} {l r l' r' : Fr} {v v' : V} (h1 : VTo c v v') (h2 : FrTo c l l') (h3 : FrTo c r r') : FrTo c (.node l v r) (.node l' v' r') := by simp only [FrTo]; exact ⟨h1, h2, h3⟩
theorem FrTo.none {c : TCtx} {l' r' : Fr} (h2 : FrTo c .leaf l') (h3 : FrTo c .leaf r') : FrTo c .leaf (.node l' .undef r') := by simp only [FrTo]; exact ⟨VTo.undef, h2, h3⟩
theorem rens_dvs (ρ : Id → Id) : ∀ l : List D, V.rens ρ (D.vs l) = D.vs l := by
  have key : ∀ d : D, (d.v).ren ρ = d.v := by
    intro d
    exact D.rec (motive_1 := fun d => (d.v).ren ρ = d.v) (motive_2 := fun l => V.rens ρ (D.vs l) = D.vs l) rfl (fun _ => rfl) (fun _ => rfl) rfl rfl rfl rfl (fun _ _ _ _ => rfl) (fun _ _ => rfl) (fun _ _ _ _ => rfl)
      (fun cs h => by simp only [D.v, V.ren, h]) (fun fn f c h1 h2 => by simp only [D.v, V.ren, h1, h2]) rfl (fun d l h1 h2 => by simp only [D.vs, V.rens, h1, h2]) d
  intro l
  induction l with
  | nil => rfl
  | cons d l ih => simp only [D.vs, V.rens, key, ih]
section
variable {P : Program} {T : TT} (hT : TOk P T)
include hT

theorem app1 {α : Type} {enc : α → List D} {t ty : TypeId} {e esz bytes : Nat} {zero : List V} {s_ : Nat} {a_ : Bool} {z_ : V} {h : Hp} {i j : Id} {n : Nat} {l : List α} {rw : Bool} (a : α) (hm : ∀ a, (enc a).length = esz) (hTt : T t = some ⟨.slice e esz bytes zero, s_, a_, z_⟩)
    (hb : h.get i = some (.flat true (l.flatMap enc))) (hj : h.get j = some (.flat rw (enc a))) (hn : n = l.length) (hbd : (l.length + 1) * bytes ≤ 140737488355328) (h63 : l.length ≤ 4611686018427387904) :
    Does P (opAppend #[t, t] ty) [.gl i esz n, .gl j esz 1] h (.gl h.fresh esz (n + 1)) ((h.set i .dead).push (.flat true ((l ++ [a]).flatMap enc))) := by
  subst hn
  refine does_append_gl (b := .flat true (l.flatMap enc)) (l := (l.flatMap enc).map D.v) (news := (enc a).map D.v) hT hTt hb rfl ?_ ?_ ?_ hbd (by omega)
  · simp only [SegOf]
    exact ⟨trivial, trivial, _, rw, (enc a).map D.v, hj, rfl, by simp [hm], by rw [Nat.one_mul, List.take_of_length_le (by simp [hm])]⟩
  · simp [flat_len hm]
  · have : List.take (l.length * esz) (List.map D.v (l.flatMap enc)) = List.map D.v (l.flatMap enc) := List.take_of_length_le (by simp [flat_len hm])
    simp [Blk.row, this]
theorem appN {α : Type} {enc : α → List D} {t ty : TypeId} {e esz bytes : Nat} {zero : List V} {s_ : Nat} {a_ : Bool} {z_ : V} {h : Hp} {i : Id} {n m : Nat} {l l2 : List α} (hm : ∀ a, (enc a).length = esz) (hTt : T t = some ⟨.slice e esz bytes zero, s_, a_, z_⟩)
    (hb : h.get i = some (.flat true (l.flatMap enc))) (hn : n = l.length) (hm2 : m = l2.length) (hbd : (l.length + l2.length) * bytes ≤ 140737488355328) (h63 : l.length + l2.length ≤ 4611686018427387904) :
    Does P (opAppend #[t, t] ty) [.gl i esz n, .fs esz m (l2.flatMap enc)] h (.gl h.fresh esz (n + m)) ((h.set i .dead).push (.flat true ((l ++ l2).flatMap enc))) := by
  subst hn hm2
  refine does_append_gl (b := .flat true (l.flatMap enc)) (l := (l.flatMap enc).map D.v) (news := (l2.flatMap enc).map D.v) hT hTt hb rfl ?_ ?_ ?_ hbd (by omega)
  · simp only [SegOf]
    exact ⟨trivial, trivial, by rw [flat_len hm], by rw [D.vs_eq]⟩
  · simp [flat_len hm]
  · have : List.take (l.length * esz) (List.map D.v (l.flatMap enc)) = List.map D.v (l.flatMap enc) := List.take_of_length_le (by simp [flat_len hm])
    simp [Blk.row, this]
end

theorem VMem.store {P : Program} {t : TypeId} {i : Id} {off : Nat} {v : V} {ti : TI} {cs : List V} {h h' : Hp} {K : V → Hp → Prop} (hTt : tiOf P t = some ti) (hp : v.parts = some cs) (hl : Nat.beq cs.length ti.size = true) (hw : h.wrN i off cs = some h') (hK : K .undef h') :
    VMem P (opStore t) [.ptr i off, v] h K := VMem.intro (does_store (tiOf_ok P) hTt hp (Nat.eq_of_beq_eq_true hl) hw) hK
theorem mul_bd {n b : Nat} (hb : Nat.ble b 1048576 = true) (hn : n ≤ 134217728) : n * b ≤ 140737488355328 :=
  Nat.le_trans (Nat.mul_le_mul hn (Nat.le_of_ble_eq_true hb)) (by decide)
theorem VMem.app1 {P : Program} {α : Type} {enc : α → List D} {t ty : TypeId} {e esz bytes : Nat} {zero : List V} {s_ : Nat} {a_ : Bool} {z_ : V} {h : Hp} {i j : Id} {n : Nat} {l : List α} {rw : Bool} {K : V → Hp → Prop} (a : α) (hm : ∀ a, (enc a).length = esz) (hTt : tiOf P t = some ⟨.slice e esz bytes zero, s_, a_, z_⟩)
    (hb : h.get i = some (.flat true (l.flatMap enc))) (hj : h.get j = some (.flat rw (enc a))) (hn : n = l.length) (hby : Nat.ble bytes 1048576 = true) (h63 : l.length ≤ 67108864)
    (hK : K (.gl h.fresh esz (n + 1)) ((h.set i .dead).push (.flat true ((l ++ [a]).flatMap enc)))) : VMem P (opAppend #[t, t] ty) [.gl i esz n, .gl j esz 1] h K :=
  VMem.intro (Vm.app1 (tiOf_ok P) a hm hTt hb hj hn (mul_bd hby (by omega)) (by omega)) hK
theorem VMem.appN {P : Program} {α : Type} {enc : α → List D} {t ty : TypeId} {e esz bytes : Nat} {zero : List V} {s_ : Nat} {a_ : Bool} {z_ : V} {h : Hp} {i : Id} {n m : Nat} {l l2 : List α} {K : V → Hp → Prop} (hm : ∀ a, (enc a).length = esz) (hTt : tiOf P t = some ⟨.slice e esz bytes zero, s_, a_, z_⟩)
    (hb : h.get i = some (.flat true (l.flatMap enc))) (hn : n = l.length) (hm2 : m = l2.length) (hby : Nat.ble bytes 1048576 = true) (h63 : l.length + l2.length ≤ 67108864)
    (hK : K (.gl h.fresh esz (n + m)) ((h.set i .dead).push (.flat true ((l ++ l2).flatMap enc)))) : VMem P (opAppend #[t, t] ty) [.gl i esz n, .fs esz m (l2.flatMap enc)] h K :=
  VMem.intro (Vm.appN (tiOf_ok P) hm hTt hb hn hm2 (mul_bd hby (by omega)) (by omega)) hK
end Go.Vm

namespace Go.Vm

def Hp.sets (h : Hp) : List (Id × Blk) → Hp
  | [] => h
  | (i, b) :: l => (h.set i b).sets l
def setsO (o : Id → Option Blk) : List (Id × Blk) → (Id → Option Blk)
  | [] => o
  | (i, b) :: l => setsO (fun j => if j = i then some b else o j) l
def Hp.pushes (h : Hp) (bs : List Blk) : Hp := { h with loc := h.loc ++ bs }
def backR (n : Nat) (pm : List Nat) (L : Nat) : Id → Id
  | .out i => .out (.out i)
  | .loc k => if k < n then .out (.loc k) else match pm[k - n]? with
    | some j => .loc j
    | none => .loc (L + k)
theorem Hp.sets_len : ∀ (l : List (Id × Blk)) (h : Hp), (h.sets l).loc.length = h.loc.length
  | [], _ => rfl
  | (i, b) :: l, h => by
    rw [Hp.sets, Hp.sets_len l]
    cases i <;> simp [Hp.set]
def lastOf (i : Id) : List (Id × Blk) → Option Blk → Option Blk
  | [], o => o
  | (j, b) :: l, o => lastOf i l (if i = j then some b else o)
theorem setsO_get (i : Id) : ∀ (l : List (Id × Blk)) (o : Id → Option Blk), setsO o l i = lastOf i l (o i)
  | [], _ => rfl
  | (j, b) :: l, o => by rw [setsO, setsO_get i l, lastOf]
theorem Hp.sets_get (i : Id) : ∀ (l : List (Id × Blk)) (h : Hp), (∀ p ∈ l, h.get p.1 ≠ none) → (h.sets l).get i = lastOf i l (h.get i)
  | [], _, _ => rfl
  | (j, b) :: l, h, hd => by
    rw [Hp.sets, Hp.sets_get i l, lastOf, Hp.get_set _ _ _ _ (hd (j, b) (by simp))]
    intro p hp
    rw [Hp.get_set _ _ _ _ (hd (j, b) (by simp))]
    split
    · simp
    · exact hd p (by simp [hp])
theorem lastOf_map (f : Blk → Blk) (i : Id) : ∀ (l : List (Id × Blk)) (o o' : Option Blk), (lastOf i l o = o ∧ lastOf i (l.map fun p => (p.1, f p.2)) o' = o' ∧ (∀ q, lastOf i l q = q)) ∨ ∃ b, lastOf i l o = some b ∧ lastOf i (l.map fun p => (p.1, f p.2)) o' = some (f b)
  | [], o, o' => .inl ⟨rfl, rfl, fun _ => rfl⟩
  | (j, b) :: l, o, o' => by
    simp only [List.map_cons, lastOf]
    by_cases e : i = j
    · subst e
      simp only [if_true]
      rcases lastOf_map f i l (some b) (some (f b)) with ⟨h1, h2, _⟩ | ⟨b2, h1, h2⟩
      · exact .inr ⟨b, h1, h2⟩
      · exact .inr ⟨b2, h1, h2⟩
    · simp only [if_neg e]
      exact lastOf_map f i l o o'
theorem VOut.upd {h : Hp} {loc : List Blk} {r1 r : V} (upd : List (Id × Blk)) (news : List Blk) (pm : List Nat) (L : Nat) (hL : Nat.ble loc.length L = true) (hd : ∀ p ∈ upd, h.get p.1 ≠ none) (hn : pm.Nodup) (hlen : news.length = pm.length)
    (hnew : ∀ (k : Nat) (b : Blk), news[k]? = some b → ∃ j, pm[k]? = some j ∧ loc[j]? = some (b.ren (backR h.loc.length pm L))) (hr : ∀ (σ : Sig) (x : Value), VR σ r1 x → VR σ (r.ren (backR h.loc.length pm L)) x)
    {outer : Id → Option Blk} (hout : outer = setsO h.lift (upd.map fun p => (p.1, p.2.ren (backR h.loc.length pm L)))) : VOut h ⟨outer, loc⟩ r1 r ((h.sets upd).pushes news) := by
  subst hout
  have hL := Nat.le_of_ble_eq_true hL
  have hslen := Hp.sets_len upd h
  let ρ := backR h.loc.length pm L
  have hgO : ∀ i, (⟨setsO h.lift (upd.map fun p => (p.1, p.2.ren ρ)), loc⟩ : Hp).get (.out i) = lastOf i (upd.map fun p => (p.1, p.2.ren ρ)) (h.lift i) := fun i => setsO_get i _ _
  have hlift : ∀ i, h.lift i = (h.get i).map (Blk.ren .out) := fun i => by unfold Hp.lift; rfl
  have hnone : ∀ (i : Id), h.get i = none → lastOf i (upd.map fun p => (p.1, p.2.ren ρ)) (h.lift i) = none ∧ (h.sets upd).get i = none := by
    intro i hi
    have hne : ∀ (l : List (Id × Blk)) (o : Option Blk), (∀ p ∈ l, h.get p.1 ≠ none) → lastOf i l o = o := by
      intro l
      induction l with
      | nil => intro o _; rfl
      | cons p l ih =>
        intro o hp
        obtain ⟨j, b⟩ := p
        rw [lastOf, if_neg (fun e => hp (j, b) (by simp) (by rw [← e]; exact hi))]
        exact ih o fun p hq => hp p (by simp [hq])
    constructor
    · rw [hne _ _ (by intro p hp; simp only [List.mem_map] at hp; obtain ⟨q, hq, rfl⟩ := hp; exact hd q hq), hlift, hi]; rfl
    · rw [Hp.sets_get i upd h hd, hne _ _ hd, hi]
  have hold : ∀ i, h.get i ≠ none → ρ i = .out i ∧ ((h.sets upd).pushes news).get i = (h.sets upd).get i := by
    intro i hi
    cases i with
    | out i => exact ⟨rfl, rfl⟩
    | loc k =>
      have hk : k < h.loc.length := by
        rcases Nat.lt_or_ge k h.loc.length with h1 | h1
        · exact h1
        · exact absurd (List.getElem?_eq_none h1) hi
      refine ⟨by show backR _ _ _ _ = _; simp [backR, hk], ?_⟩
      show ((h.sets upd).loc ++ news)[k]? = (h.sets upd).loc[k]?
      rw [List.getElem?_append_left (by rw [hslen]; exact hk)]
  have hfresh : ∀ i, h.get i = none → ∀ b, ((h.sets upd).pushes news).get i = some b → ∃ k j, i = .loc (h.loc.length + k) ∧ news[k]? = some b ∧ pm[k]? = some j ∧ ρ i = .loc j ∧ loc[j]? = some (b.ren ρ) := by
    intro i hi b hb
    cases i with
    | out i =>
      have : (h.sets upd).get (.out i) = some b := hb
      rw [(hnone _ hi).2] at this; cases this
    | loc k =>
      have hk : h.loc.length ≤ k := by
        rcases Nat.lt_or_ge k h.loc.length with h1 | h1
        · simp only [Hp.get] at hi; rw [List.getElem?_eq_none_iff] at hi; omega
        · exact h1
      have hb : ((h.sets upd).loc ++ news)[k]? = some b := hb
      rw [List.getElem?_append_right (by rw [hslen]; exact hk), hslen] at hb
      obtain ⟨j, h1, h2⟩ := hnew _ b hb
      refine ⟨k - h.loc.length, j, by congr 1; omega, hb, h1, ?_, h2⟩
      show backR _ _ _ _ = _
      simp [backR, Nat.not_lt.2 hk, h1]
  have hlost : ∀ i, ((h.sets upd).pushes news).get i = none → (⟨setsO h.lift (upd.map fun p => (p.1, p.2.ren ρ)), loc⟩ : Hp).get (ρ i) = none := by
    intro i hi
    have hn : h.get i = none := by
      cases hg : h.get i with
      | none => rfl
      | some b =>
        exfalso
        rw [(hold i (by rw [hg]; simp)).2, Hp.sets_get i upd h hd] at hi
        rcases lastOf_map (Blk.ren ρ) i upd (h.get i) none with ⟨h1, _⟩ | ⟨b, h1, _⟩
        · rw [h1, hg] at hi; cases hi
        · rw [h1] at hi; cases hi
    cases i with
    | out i => show (⟨_, loc⟩ : Hp).get (.out (.out i)) = none; rw [hgO]; exact (hnone _ hn).1
    | loc k =>
      have hk : h.loc.length ≤ k := by
        rcases Nat.lt_or_ge k h.loc.length with h1 | h1
        · simp only [Hp.get] at hn; rw [List.getElem?_eq_none_iff] at hn; omega
        · exact h1
      have hi : ((h.sets upd).loc ++ news)[k]? = none := hi
      rw [List.getElem?_append_right (by rw [hslen]; exact hk), hslen, List.getElem?_eq_none_iff, hlen] at hi
      have hp : pm[k - h.loc.length]? = none := List.getElem?_eq_none hi
      have : ρ (.loc k) = .loc (L + k) := by show backR _ _ _ _ = _; simp [backR, Nat.not_lt.2 hk, hp]
      rw [this]
      exact List.getElem?_eq_none (by simp only; omega)
  refine ⟨Outs.of (ρ := ρ) ⟨?_, ?_, .inl hr, ?_, hlost, ?_⟩⟩
  · intro i hi
    have : h.get i ≠ none := by
      intro h0
      apply hi
      show (⟨_, loc⟩ : Hp).get (.out i) = none
      rw [hgO]; exact (hnone i h0).1
    exact (hold i this).1
  · intro i b hb
    by_cases hi : h.get i = none
    · obtain ⟨k, j, _, _, _, h1, h2⟩ := hfresh i hi b hb
      left; rw [h1]; exact h2
    · obtain ⟨h1, h2⟩ := hold i hi
      rw [h2, Hp.sets_get i upd h hd] at hb
      rcases lastOf_map (Blk.ren ρ) i upd (h.get i) (h.lift i) with ⟨h3, h4, _⟩ | ⟨b2, h3, h4⟩
      · right; left
        refine ⟨h1, ?_⟩
        rw [h3] at hb
        rw [hgO, h4, hlift, hb]; rfl
      · left
        rw [h3] at hb; cases hb
        rw [h1, hgO, h4]
  · intro i j hi hj _ he
    have key : ∀ i, ((h.sets upd).pushes news).get i ≠ none → (h.get i ≠ none ∧ ρ i = .out i) ∨ ∃ k j, i = .loc (h.loc.length + k) ∧ pm[k]? = some j ∧ ρ i = .loc j := by
      intro i hi
      by_cases h0 : h.get i = none
      · cases hb : ((h.sets upd).pushes news).get i with
        | none => exact absurd hb hi
        | some b =>
          obtain ⟨k, j, h1, _, h3, h4, _⟩ := hfresh i h0 b hb
          exact .inr ⟨k, j, h1, h3, h4⟩
      · exact .inl ⟨h0, (hold i h0).1⟩
    rcases key i hi with ⟨_, h1⟩ | ⟨k, a, h1, h2, h3⟩
    · rcases key j hj with ⟨_, g1⟩ | ⟨l, b, g1, g2, g3⟩
      · rw [h1, g1] at he; cases he; rfl
      · rw [h1, g3] at he; cases he
    · rcases key j hj with ⟨_, g1⟩ | ⟨l, b, g1, g2, g3⟩
      · rw [h3, g1] at he; cases he
      · rw [h3, g3] at he; cases he
        rw [h1, g1, nodup_get hn h2 g2]
  · intro i hi
    rw [(hold i hi).2, Hp.sets_get i upd h hd]
    rcases lastOf_map (Blk.ren ρ) i upd (h.get i) none with ⟨h1, _⟩ | ⟨b, h1, _⟩
    · rw [h1]; exact hi
    · rw [h1]; simp
theorem Hp.grows_sets {h : Hp} {upd : List (Id × Blk)} {news : List Blk} (hd : ∀ p ∈ upd, h.get p.1 ≠ none) : h.grows ((h.sets upd).pushes news) := by
  intro i hi
  have h1 : (h.sets upd).get i ≠ none := by
    rw [Hp.sets_get i upd h hd]
    rcases lastOf_map id i upd (h.get i) none with ⟨h1, _⟩ | ⟨b, h1, _⟩
    · rw [h1]; exact hi
    · rw [h1]; simp
  cases i with
  | out i => exact h1
  | loc k =>
    intro h0
    have h0 : ((h.sets upd).loc ++ news)[k]? = none := h0
    rw [List.getElem?_eq_none_iff, List.length_append] at h0
    exact h1 (List.getElem?_eq_none (by omega))
end Go.Vm

namespace Go.Vm

theorem get_out {h : Hp} {i : Id} {b : Blk} (hb : h.get i = some b) (loc : List Blk) : (⟨h.lift, loc⟩ : Hp).get (.out i) = some (b.ren .out) := by rw [get_lift, hb]; rfl
theorem VLd.cell {T : TT} {t : TypeId} {i : Id} {off : Nat} {h : Hp} {rw : Bool} {l : List V} {v : V} {ti : TI} {K : V → Prop} (hT : T t = some ti) (ha : ti.agg = false) (hb : h.get i = some (.cells rw l)) (hl : l[off]? = some v) (hK : K v) : VLd T t (.ptr i off) h K := by
  refine VLd.intro (v := v) ?_ hK
  unfold vload
  simp only [hT, ha, Hp.at, hb, hl]
theorem VLd.flat {T : TT} {t : TypeId} {i : Id} {off : Nat} {h : Hp} {rw : Bool} {l : List D} {d : D} {ti : TI} {K : V → Prop} (hT : T t = some ti) (ha : ti.agg = false) (hb : h.get i = some (.flat rw l)) (hl : l[off]? = some d) (hK : K d.v) : VLd T t (.ptr i off) h K := by
  refine VLd.intro (v := d.v) ?_ hK
  unfold vload
  simp only [hT, ha, Hp.at, hb, hl, Option.map_some]
theorem rdN_flat {h : Hp} {i : Id} {rw : Bool} {l : List D} (hb : h.get i = some (.flat rw l)) : ∀ (n off : Nat), off + n ≤ l.length → h.rdN i off n = some (D.vs ((l.drop off).take n))
  | 0, off, _ => by simp [Hp.rdN, D.vs]
  | n + 1, off, hle => by
    have hk : off < l.length := by omega
    simp only [Hp.rdN, Hp.at, hb, List.getElem?_eq_getElem hk, Option.map_some]
    rw [rdN_flat hb n (off + 1) (by omega), List.drop_eq_getElem_cons hk, List.take_succ_cons, D.vs]
theorem VLd.recd {α : Type} {enc : α → List D} {m : Nat} (hm : ∀ a, (enc a).length = m) {T : TT} {t : TypeId} {i : Id} {off : Nat} {h : Hp} {rw : Bool} {l : List α} {a : α} {ti : TI} {K : V → Prop} (j : Nat) (hT : T t = some ti) (ha : ti.agg = true) (hs : ti.size = m) (hb : h.get i = some (.flat rw (l.flatMap enc)))
    (hj : l[j]? = some a) (ho : off = j * m) (hK : K (.agg (D.vs (enc a)))) : VLd T t (.ptr i off) h K := by
  refine VLd.intro (v := .agg (D.vs (enc a))) ?_ hK
  obtain ⟨hlt, rfl⟩ := List.getElem?_eq_some_iff.1 hj
  unfold vload
  have hle : off + ti.size ≤ (l.flatMap enc).length := by
    rw [flat_len hm, ho, hs, ← Nat.succ_mul]; exact Nat.mul_le_mul_right _ hlt
  simp only [hT, ha, rdN_flat hb ti.size off hle]
  rw [ho, flat_dropD hm, List.drop_eq_getElem_cons hlt, List.flatMap_cons, hs, List.take_left' (hm _)]
theorem flat_cell {α : Type} {enc : α → List D} {m : Nat} (hm : ∀ a, (enc a).length = m) {l : List α} {j c : Nat} {a : α} (hj : l[j]? = some a) (hc : c < m) : (l.flatMap enc)[j * m + c]? = (enc a)[c]? := by
  obtain ⟨hlt, rfl⟩ := List.getElem?_eq_some_iff.1 hj
  rw [← List.getElem?_drop, flat_dropD hm, List.drop_eq_getElem_cons hlt, List.flatMap_cons, List.getElem?_append_left (by rw [hm]; exact hc)]
theorem VLd.recc {α : Type} {enc : α → List D} {m : Nat} (hm : ∀ a, (enc a).length = m) {T : TT} {t : TypeId} {i : Id} {off : Nat} {h : Hp} {rw : Bool} {l : List α} {a : α} {ti : TI} {d : D} {K : V → Prop} (j c : Nat) (hT : T t = some ti) (ha : ti.agg = false) (hb : h.get i = some (.flat rw (l.flatMap enc)))
    (hj : l[j]? = some a) (hc : c < m) (hd : (enc a)[c]? = some d) (ho : off = j * m + c) (hK : K d.v) : VLd T t (.ptr i off) h K :=
  VLd.flat hT ha hb (by rw [ho, flat_cell hm hj hc, hd]) hK
theorem VMem.st1 {P : Program} {t : TypeId} {i : Id} {off : Nat} {v : V} {ti : TI} {h : Hp} {b b' : Blk} {K : V → Hp → Prop} (hTt : tiOf P t = some ti) (hp : v.parts = some [v]) (hl : ti.size = 1) (hb : h.get i = some b) (hw : b.wr1 off v = some b') (hK : K .undef (h.set i b')) :
    VMem P (opStore t) [.ptr i off, v] h K := by
  refine VMem.intro (does_store (cs := [v]) (tiOf_ok P) hTt hp (by simp [hl]) ?_) hK
  simp only [Hp.wrN, Hp.wr1, hb, hw]
theorem flat_set {α : Type} {enc : α → List D} {m : Nat} (hm : ∀ a, (enc a).length = m) {a' : α} {c : Nat} {d : D} : ∀ {l : List α} {j : Nat} {a : α}, l[j]? = some a → c < m → (enc a).set c d = enc a' → (l.flatMap enc).set (j * m + c) d = (l.set j a').flatMap enc
  | [], j, a, h, _, _ => by simp at h
  | x :: l, 0, a, h, hc, hs => by
    simp at h; subst h
    rw [Nat.zero_mul, Nat.zero_add, List.flatMap_cons, List.set_append_left _ _ (by rw [hm]; exact hc), hs, List.set_cons_zero, List.flatMap_cons]
  | x :: l, j + 1, a, h, hc, hs => by
    rw [List.flatMap_cons, List.set_append_right _ _ (by rw [hm, Nat.add_mul]; omega), List.set_cons_succ, List.flatMap_cons, hm]
    congr 1
    rw [show (j + 1) * m + c - m = j * m + c by rw [Nat.add_mul]; omega]
    exact flat_set hm (by simpa using h) hc hs
theorem VMem.setRec {P : Program} {α : Type} {enc : α → List D} {m : Nat} (hm : ∀ a, (enc a).length = m) {t : TypeId} {i : Id} {off : Nat} {x : S} {ti : TI} {h : Hp} {l : List α} {a : α} {K : V → Hp → Prop} (j c : Nat) (a' : α) (hTt : tiOf P t = some ti) (hl : ti.size = 1) (hb : h.get i = some (.flat true (l.flatMap enc)))
    (hj : l[j]? = some a) (hc : c < m) (hs : (enc a).set c (.s x) = enc a') (ho : off = j * m + c) (hK : K .undef (h.set i (.flat true ((l.set j a').flatMap enc)))) : VMem P (opStore t) [.ptr i off, .s x] h K := by
  refine VMem.st1 hTt rfl hl hb ?_ hK
  have hlt : off < (l.flatMap enc).length := by
    obtain ⟨hlt, _⟩ := List.getElem?_eq_some_iff.1 hj
    rw [flat_len hm, ho]
    have : (j + 1) * m ≤ l.length * m := Nat.mul_le_mul_right _ hlt
    rw [Nat.add_mul] at this; omega
  simp only [Blk.wr1, hlt, if_true]
  rw [ho, flat_set hm hj hc hs]
theorem VOut.dec {h : Hp} {loc : List Blk} {b : Bool} {p : Prop} [Decidable p] (hb : b = true ↔ p) : VOut h ⟨h.lift, loc⟩ (.s (.bool b)) (B (decide p)) h :=
  VOut.same (by
    have : b = decide p := by
      cases b
      · exact (decide_eq_false (fun hp => by simpa using hb.2 hp)).symm
      · exact (decide_eq_true (hb.1 rfl)).symm
    rw [this]; rfl)
end Go.Vm

namespace Go.Vm

structure LEndO {Y : Type} (n : Nat) (marks : List Id) (slots : Y → List (Nat × V)) (outer : Y → Id → Option Blk) (loc : Y → List Blk) (Inv : Y → Prop) (μ : Y → Nat) (x : Y) (st' : St) : Prop where
  ex : ∃ x', Inv x' ∧ μ x' < μ x ∧ frSK (slots x') .leaf fun fr' => Retell isOut st' ⟨n, fr', ⟨outer x', loc x'⟩, marks⟩
theorem LEndO.intro {Y : Type} {n n1 : Nat} {marks marks1 : List Id} {slots : Y → List (Nat × V)} {outer : Y → Id → Option Blk} {loc : Y → List Blk} {Inv : Y → Prop} {μ : Y → Nat} {x : Y} {fr1 : Fr} {o1 : Id → Option Blk} {loc1 : List Blk} (x' : Y) (h1 : Inv x') (h2 : μ x' < μ x)
    (ho : o1 = outer x') (h3 : frSK (slots x') .leaf fun fr' => Retell isOut ⟨n1, fr1, ⟨outer x', loc1⟩, marks1⟩ ⟨n, fr', ⟨outer x', loc x'⟩, marks⟩) : LEndO n marks slots outer loc Inv μ x ⟨n1, fr1, ⟨o1, loc1⟩, marks1⟩ := by
  subst ho; exact ⟨x', h1, h2, h3⟩
theorem VCode.lpo {P : Program} {ro : Option Nat} {c : Code} {n : Nat} {fr : Fr} {outer0 : Id → Option Blk} {loc0 : List Blk} {marks : List Id} {Q : X → St → Prop} {Y : Type} (slots : Y → List (Nat × V)) (outer : Y → Id → Option Blk) (loc : Y → List Blk) (Inv : Y → Prop) (μ : Y → Nat) (x0 : Y)
    (h0 : Inv x0) (ho : outer0 = outer x0) (hst : frSK (slots x0) .leaf fun fr' => Retell isOut ⟨n, fr, ⟨outer x0, loc0⟩, marks⟩ ⟨n, fr', ⟨outer x0, loc x0⟩, marks⟩)
    (hb : ∀ x, Inv x → frSK (slots x) .leaf fun fr' => vwp P (tiOf P) ro isOut c ⟨n, fr', ⟨outer x, loc x⟩, marks⟩ (fun e st' => match e with
      | .normal => LEndO n marks slots outer loc Inv μ x st'
      | .exit i => Q (.exit i) st'
      | .ret => Q .ret st')) : VCode P ro isOut (.loop c) ⟨n, fr, ⟨outer0, loc0⟩, marks⟩ Q := by
  subst ho
  refine VCode.loopW (fun x => ⟨n, frS (slots x) .leaf, ⟨outer x, loc x⟩, marks⟩) Inv μ x0 h0 (by rw [frSK_eq] at hst; exact hst) fun x hx => ?_
  have h := hb x hx
  rw [frSK_eq] at h
  refine VWp.mono (vwp_ok (tiOf_ok P) _ _ _ h) fun e st' hq => ?_
  cases e with
  | normal =>
    obtain ⟨x', h1, h2, h3⟩ := hq
    rw [frSK_eq] at h3
    exact LoopEnd.intro x' h1 h2 h3
  | exit i => exact hq
  | ret => exact hq
def outW (o : Id → Option Blk) (i : Id) (b : Blk) : Id → Option Blk := fun j => if j = i then some b else o j
theorem OutOk.outW {o : Id → Option Blk} (h : OutOk o) {i : Id} {b : Blk} (hb : b.ren .out = b) : OutOk (outW o i b) := by
  intro j c hc
  unfold Vm.outW at hc
  split at hc
  · cases hc; exact ⟨b, hb.symm⟩
  · exact h j c hc
theorem outW_id {o : Id → Option Blk} {i : Id} {b : Blk} (h : o i = some b) : o = outW o i b := by
  funext j
  unfold outW
  split
  · rename_i e; rw [e, h]
  · rfl
theorem outW_same (o : Id → Option Blk) (i : Id) (a b : Blk) : outW (outW o i a) i b = outW o i b := by
  funext j
  unfold outW
  split <;> rfl
theorem outW_get (o : Id → Option Blk) (i : Id) (b : Blk) (loc : List Blk) : (⟨outW o i b, loc⟩ : Hp).get (.out i) = some b := by
  show outW o i b i = some b
  unfold outW; rw [if_pos rfl]
theorem zeroAt_flat {α : Type} {enc : α → List D} {m : Nat} (hm : ∀ a, (enc a).length = m) (hm0 : 0 < m) (a : α) : ∀ n : Nat, zeroAt ((enc a).map D.v) m (n * m) = ((List.replicate n a).flatMap enc).map D.v := by
  intro n
  apply List.ext_getElem?
  intro i
  unfold zeroAt
  rcases Nat.lt_or_ge i (n * m) with h | h
  · rw [List.getElem?_map, List.getElem?_range h, Option.map_some, List.getElem?_map]
    have h1 : i / m < n := Nat.div_lt_of_lt_mul (by rw [Nat.mul_comm]; exact h)
    have h2 : i % m < m := Nat.mod_lt _ hm0
    have h3 : (List.replicate n a)[i / m]? = some a := by rw [List.getElem?_replicate, if_pos h1]
    have h4 := flat_cell hm h3 h2
    rw [Nat.mul_comm, Nat.div_add_mod] at h4
    rw [h4]
    have h5 : i % m < (enc a).length := by rw [hm]; exact h2
    rw [List.getElem?_eq_getElem h5, Option.map_some, List.getD_eq_getElem?_getD, List.getElem?_map, List.getElem?_eq_getElem h5]
    rfl
  · rw [List.getElem?_eq_none (by simpa using h), List.getElem?_eq_none]
    rw [List.length_map, flat_len hm, List.length_replicate]; exact h
theorem VMem.make {P : Program} {α : Type} {enc : α → List D} {t : TypeId} {e esz bytes : Nat} {zero : List V} {s_ : Nat} {a_ : Bool} {z_ : V} {h : Hp} {n : Nat} {l c : Int} {K : V → Hp → Prop} (a : α) (hm : ∀ a, (enc a).length = esz) (hTt : tiOf P t = some ⟨.slice e esz bytes zero, s_, a_, z_⟩)
    (hz : zero = (enc a).map D.v) (he : Nat.blt 0 esz = true) (hl : l = n) (hc : c = n) (hby : Nat.ble bytes 1048576 = true) (h63 : n ≤ 134217728) (hK : K (.gl h.fresh esz n) (h.push (.flat true ((List.replicate n a).flatMap enc)))) :
    VMem P (opMakeSlice t) [.s (.int .i64 l), .s (.int .i64 c)] h K := by
  subst hl hc
  refine VMem.intro (?_ : Does P _ _ h (.gl h.fresh esz (n : Int).toNat) _) hK
  have hbd := mul_bd hby h63
  refine does_makeSlice (zs := ((List.replicate n a).flatMap enc).map D.v) (tiOf_ok P) hTt ⟨by omega, Int.le_refl _⟩ (by have h7 := Int.ofNat_le.2 hbd; rw [Int.natCast_mul] at h7; exact h7) (by omega) rfl ?_
  rw [Int.toNat_natCast, hz, zeroAt_flat hm (by simpa using he)]
end Go.Vm

namespace Go.Vm

structure VCut (P : Program) (ro : Option Nat) (K : Id → Prop) (c : Code) (st : St) (Q : X → St → Prop) : Prop where
  out : VWp P ro K c st Q
def vcut (P : Program) (ro : Option Nat) (K : Id → Prop) (n : Nat) : Code → St → (X → St → Prop) → Prop :=
  Nat.rec (motive := fun _ => Code → St → (X → St → Prop) → Prop)
    (fun c st Q => VCut P ro K c st Q)
    (fun _ ih c st Q => Code.rec (motive := fun _ => Prop)
      (vwp P (tiOf P) ro K c st Q) (fun _ _ _ => vwp P (tiOf P) ro K c st Q)
      (fun a b _ _ => vwp P (tiOf P) ro K a st (fun e st' => vseqQ (ih b) Q e st'))
      (fun _ _ _ _ _ => vwp P (tiOf P) ro K c st Q) (fun _ _ _ => vwp P (tiOf P) ro K c st Q) (fun _ _ => vwp P (tiOf P) ro K c st Q)
      (fun _ _ _ _ _ _ => vwp P (tiOf P) ro K c st Q) (fun _ => vwp P (tiOf P) ro K c st Q) (fun _ _ => vwp P (tiOf P) ro K c st Q)
      (fun _ => vwp P (tiOf P) ro K c st Q) (fun _ => vwp P (tiOf P) ro K c st Q) (vwp P (tiOf P) ro K c st Q) (fun _ => vwp P (tiOf P) ro K c st Q) c) n
theorem vcut_ok {P : Program} {ro : Option Nat} {K : Id → Prop} : ∀ (n : Nat) (c : Code) (st : St) (Q : X → St → Prop), vcut P ro K n c st Q → VWp P ro K c st Q
  | 0, c, st, Q, h => VCut.out h
  | n + 1, c, st, Q, h => by
    cases c with
    | seq a b =>
      refine VWp.seq (VWp.mono (vwp_ok (tiOf_ok P) a st _ h) fun x st' hx => ?_)
      cases x with
      | normal => exact vcut_ok n b st' Q hx
      | exit i => exact hx
      | ret => exact hx
    | _ => exact vwp_ok (tiOf_ok P) _ st Q h
theorem VCut.at {P : Program} {ro : Option Nat} {c : Code} {n : Nat} {fr : Fr} {outer : Id → Option Blk} {loc0 : List Blk} {marks : List Id} {Q : X → St → Prop} (slots : List (Nat × V)) (loc : List Blk)
    (hst : frSK slots .leaf fun fr' => Retell isOut ⟨n, fr, ⟨outer, loc0⟩, marks⟩ ⟨n, fr', ⟨outer, loc⟩, marks⟩)
    (hb : frSK slots .leaf fun fr' => vwp P (tiOf P) ro isOut c ⟨n, fr', ⟨outer, loc⟩, marks⟩ Q) : VCut P ro isOut c ⟨n, fr, ⟨outer, loc0⟩, marks⟩ Q := by
  rw [frSK_eq] at hst hb
  exact ⟨VWp.retell hst (vwp_ok (tiOf_ok P) _ _ _ hb)⟩
theorem VCut.at' {P : Program} {ro : Option Nat} {c : Code} {n : Nat} {fr : Fr} {outer : Id → Option Blk} {loc0 : List Blk} {marks : List Id} {Q : X → St → Prop} (m : Nat) (slots : List (Nat × V)) (loc : List Blk)
    (hst : frSK slots .leaf fun fr' => Retell isOut ⟨n, fr, ⟨outer, loc0⟩, marks⟩ ⟨n, fr', ⟨outer, loc⟩, marks⟩)
    (hb : frSK slots .leaf fun fr' => vcut P ro isOut m c ⟨n, fr', ⟨outer, loc⟩, marks⟩ Q) : VCut P ro isOut c ⟨n, fr, ⟨outer, loc0⟩, marks⟩ Q := by
  rw [frSK_eq] at hst hb
  exact ⟨VWp.retell hst (vcut_ok _ _ _ _ hb)⟩
theorem VCut.go {P : Program} {ro : Option Nat} {K : Id → Prop} {c : Code} {st : St} {Q : X → St → Prop} (m : Nat) (h : vcut P ro K m c st Q) : VCut P ro K c st Q := ⟨vcut_ok _ _ _ _ h⟩
def vbodyC (P : Program) (fn : Func) (m : Nat) (c : Code) (n : Nat) (args : List V) (h : Hp) (r : V) (h' : Hp) : Prop :=
  frOfK 0 (args.map (V.ren .out)) .leaf fun fr => vcut P none isOut m c ⟨n, fr, ⟨h.lift, []⟩, []⟩ (vfin (tiOf P) fn.results.toList h r h')
theorem VC.bodyC {P : Program} {f : FuncId} {fn : Func} {c : Code} {n : Nat} {args : List V} {h : Hp} {r : V} {h' : Hp} (m : Nat) (hf : P.funcs[f]? = some fn) (hb : fn.body = some c) (hn : fn.ntmps = n)
    (hent : ∀ as0 w, (callFunc f as0).run P w = .ok (.enter f as0) w) (hgr : h.grows h') (hl : Nat.ble args.length n = true) (hw : vbodyC P fn m c n args h r h') : VC P f args h r h' := by
  subst hn
  unfold vbodyC at hw
  rw [frOfK_eq] at hw
  have he : h.enter = ⟨h.lift, []⟩ := by unfold Hp.enter Hp.lift; rfl
  refine VC.intro (tiOf_ok P) hf hb hent hgr (Nat.le_of_ble_eq_true hl) ?_
  rw [he]
  exact VWp.mono (vcut_ok _ _ _ _ hw) fun _ _ => vfin_ok
end Go.Vm

namespace Go.Vm
theorem RowTo.snoc {c : TCtx} {α : Type} {enc : α → List D} {l : List α} {a : α} {news : List V} (h : RowTo c news ((enc a).map D.v)) : RowTo c ((l.flatMap enc).map D.v ++ news) (((l ++ [a]).flatMap enc).map D.v) := by
  rw [flat_snoc, List.map_append]
  exact (RowTo.dv c _).append h
theorem VTo.fsGl' {c : TCtx} {p a b b' : Nat} {ds : List D} (h : c.frz p ds) (hb : b = b') (hl : ds.length = b' * a) : VTo c (.gl (.loc p) a b) (.fs a b' ds) := by subst hb; exact VTo.fsGl h hl
theorem RowTo.one {c : TCtx} {p : Nat} {b : Nat} {l : List Int} (h : c.frz p (l.flatMap encI)) (hb : b = l.length) : RowTo c [.gl (.loc p) 1 b] ((encL l).map D.v) := by
  refine RowTo.cons ?_ (RowTo.nil c)
  exact VTo.fsGl' h hb (by rw [flat_len encI_len])
end Go.Vm

namespace Go.Vm

theorem VTo.fsSl {c : TCtx} {p a b b' : Nat} {m : Option Nat} {ds : List D} (h : c.frz p ds) (hb : b = b') (hl : ds.length = b' * a) : VTo c (.slice (.loc p) 0 a b m) (.fs a b' ds) := by
  subst hb
  simp only [VTo, VToFs]
  exact ⟨trivial, trivial, hl, ds, h, by omega, by rw [List.drop_zero, List.take_of_length_le (by omega)]⟩
theorem VTo.yld {c : TCtx} {i j : Id} (h : j = c.ρ i) : VTo c (.yld j) (.yld i) := by simp only [VTo]; rw [h]
theorem get_outNe {o : Id → Option Blk} {i j : Id} {c : Blk} {r : Option Blk} {loc : List Blk} (hne : j ≠ i) (hb : (⟨o, loc⟩ : Hp).get (.out j) = r) : (⟨outW o i c, loc⟩ : Hp).get (.out j) = r := by
  show outW o i c j = _
  unfold outW
  rw [if_neg hne]; exact hb
theorem VMem.app1B {P : Program} {α : Type} {enc : α → List D} {t ty : TypeId} {e esz bytes : Nat} {zero : List V} {s_ : Nat} {a_ : Bool} {z_ : V} {h : Hp} {i j : Id} {n : Nat} {l : List α} {rw : Bool} {K : V → Hp → Prop} (a : α) (hm : ∀ a, (enc a).length = esz) (hTt : tiOf P t = some ⟨.slice e esz bytes zero, s_, a_, z_⟩)
    (hb : h.get i = some (.flat true (l.flatMap enc))) (hj : h.get j = some (.flat rw (enc a))) (hn : n = l.length) (hby : Nat.ble bytes 1048576 = true) (h63 : l.length ≤ 134217727)
    (hK : K (.gl h.fresh esz (n + 1)) ((h.set i .dead).push (.flat true ((l ++ [a]).flatMap enc)))) : VMem P (opAppend #[t, t] ty) [.gl i esz n, .gl j esz 1] h K :=
  VMem.intro (Vm.app1 (tiOf_ok P) a hm hTt hb hj hn (mul_bd hby (by omega)) (by omega)) hK
def Iter (P : Program) (f : FuncId) (caps : List V) (m : Nat) (ys : Nat → V) : Prop :=
  ∀ (h : Hp) (i : Id) (I : Nat → Hp → Prop), (∀ j g, j < m → I j g → ∃ g', VY P i [ys j] g (.s (.bool true)) g' ∧ I (j + 1) g') → I 0 h → ∃ h', VC P f ([.yld i] ++ caps) h (.tuple []) h' ∧ I m h'
theorem VOut.lifted {h h' : Hp} {r : V} (hg : h.grows h') : VOut h ⟨h'.lift, []⟩ (r.ren .out) r h' := by
  have hget : ∀ i, (⟨h'.lift, []⟩ : Hp).get (.out i) = (h'.get i).map (Blk.ren .out) := fun i => get_lift h' [] i
  refine VOut.intro' (Outs.of (ρ := .out) ⟨fun _ _ => rfl, fun i b hb => .inl (by rw [hget, hb]; rfl), .inr rfl, fun i j _ _ _ he => by cases he; rfl, fun i hi => by rw [hget, hi]; rfl, hg⟩)
theorem get_setO {g : Hp} {iy j : Id} {b c : Blk} (hne : j ≠ iy) (hb : g.get j = some b) (loc : List Blk) : (⟨outW g.lift iy c, loc⟩ : Hp).get (.out j) = some (b.ren .out) := by
  show outW g.lift iy c j = _
  unfold outW
  rw [if_neg hne]
  exact get_out hb []
structure VBegin (P : Program) (l : Nat) (i : Id) (body : Code) (h : Hp) (r : V) (h' : Hp) (st : St) : Prop where
  ex : ∃ lr1, st.h.get (.out i) = some (.loop lr1) ∧ lr1.state = .ready ∧ VWp P (some l) isOut body { st with h := st.h.set (.out i) (.loop { lr1 with state := .busy }) } (RFin i h r h')
theorem VBegin.intro {P : Program} {l : Nat} {i : Id} {body : Code} {h : Hp} {r : V} {h' : Hp} {n : Nat} {fr : Fr} {o : Id → Option Blk} {loc : List Blk} {ms : List Id} {lr1 : LoopV} (h1 : (⟨o, loc⟩ : Hp).get (.out i) = some (.loop lr1)) (h2 : lr1.state = .ready)
    (h3 : vwp P (tiOf P) (some l) isOut body ⟨n, fr, ⟨outW o i (.loop { lr1 with state := .busy }), loc⟩, ms⟩ (RFin i h r h')) : VBegin P l i body h r h' ⟨n, fr, ⟨o, loc⟩, ms⟩ :=
  ⟨lr1, h1, h2, vwp_ok (tiOf_ok P) _ _ _ h3⟩
def beginQ (P : Program) (l : Nat) (i : Id) (body : Code) (h : Hp) (r : V) (h' : Hp) (x : X) (st : St) : Prop :=
  X.rec (motive := fun _ => Prop) (VBegin P l i body h r h' st) (fun _ => False) False x
structure VRound (P : Program) (l : Nat) (i : Id) (assign body : Code) (h : Hp) (r : V) (h' : Hp) (st : St) : Prop where
  ex : VWp P (some l) isOut assign st (beginQ P l i body h r h')
theorem VRound.tell {P : Program} {l : Nat} {i : Id} {assign body : Code} {h : Hp} {r : V} {h' : Hp} {n : Nat} {fr : Fr} {g : Hp} (slots : List (Nat × V))
    (hst : frSK slots .leaf fun fr' => Retell isOut ⟨n, fr, ⟨g.lift, []⟩, []⟩ ⟨n, fr', ⟨g.lift, []⟩, []⟩)
    (hb : frSK slots .leaf fun fr' => vwp P (tiOf P) (some l) isOut assign ⟨n, fr', ⟨g.lift, []⟩, []⟩ (beginQ P l i body h r h')) : VRound P l i assign body h r h' ⟨n, fr, g.enter, []⟩ := by
  have he : g.enter = ⟨g.lift, []⟩ := by unfold Hp.enter Hp.lift; rfl
  rw [he]
  rw [frSK_eq] at hst hb
  exact ⟨VWp.retell hst (vwp_ok (tiOf_ok P) _ _ _ hb)⟩
theorem VRound.vy {P : Program} {i : Id} {args : List V} {h h' : Hp} {r : V} {lr : LoopV} (hb : h.get i = some (.loop lr)) (hst : lr.state = .ready) (hn : args.length = lr.params.size) (hp : ∀ t ∈ lr.params.toList, t < lr.n) (hgr : h.grows h')
    (hw : ∀ l, VRound P l i lr.assign lr.body h r h' ⟨lr.n, frPar lr.params.toList (args.map (V.ren .out)) (PT.map (V.ren .out) lr.fr), h.enter, []⟩) : VY P i args h r h' :=
  VY.intro hb hst hn hp hgr fun l => VWp.mono (hw l).ex fun x st hq => by
    cases x with
    | normal => exact ⟨trivial, hq.ex⟩
    | exit i => exact hq.elim
    | ret => exact hq.elim
theorem RFin.on {i : Id} {h h' : Hp} {n : Nat} {fr : Fr} {o : Id → Option Blk} {loc : List Blk} {ms : List Id} {lr : LoopV} (h1 : (⟨o, loc⟩ : Hp).get (.out i) = some (.loop lr)) (h2 : VOut h ⟨outW o i (.loop { lr with state := .ready, pending := none }), loc⟩ (.s (.bool true)) (.s (.bool true)) h') :
    RFin i h (.s (.bool true)) h' .normal ⟨n, fr, ⟨o, loc⟩, ms⟩ := RFin.mk ⟨lr, h1, rfl, h2.elim'⟩
theorem VCode.tell {P : Program} {ro : Option Nat} {c : Code} {n : Nat} {fr : Fr} {outer : Id → Option Blk} {loc0 : List Blk} {marks marks' : List Id} {Q : X → St → Prop} (slots : List (Nat × V)) (loc : List Blk)
    (hst : frSK slots .leaf fun fr' => Retell isOut ⟨n, fr, ⟨outer, loc0⟩, marks⟩ ⟨n, fr', ⟨outer, loc⟩, marks'⟩)
    (hb : frSK slots .leaf fun fr' => VCode P ro isOut c ⟨n, fr', ⟨outer, loc⟩, marks'⟩ Q) : VCode P ro isOut c ⟨n, fr, ⟨outer, loc0⟩, marks⟩ Q := by
  rw [frSK_eq] at hst hb
  exact VCode.intro (VWp.retell hst hb.elim)
end Go.Vm

namespace Go.Vm

def Hp.bare : Hp := ⟨fun _ => none, []⟩
section
variable {σ : Sig} {h : Hp} {w : World} {c : TCtx}
theorem Rel.bare (hr : Rel σ h w) : Rel ⟨fun _ => none, (σ.turn c w).fz, fun _ => False, σ.lo⟩ Hp.bare w :=
  { blk := fun i e b hi _ => by cases hi
    apart := fun i j ei ej bi bj _ hi _ _ _ _ _ => by cases hi
    dom := fun i _ => rfl
    nmd := fun i hi => False.elim hi
    fz := fun r o hro => by
      refine ⟨?_, fun i e b hi _ _ => by cases hi⟩
      rcases turn_fz_any (c := c) hro with ⟨p, e, _, _, _, ho⟩ | ho
      · exact ho
      · exact (hr.fz r o ho).1 }
theorem VRs.bare {ds : List D} {xs : List Value} {σ' : Sig} (hf : σ'.fz = σ.fz) (h : VRs σ (D.vs ds) xs) : VRs σ' (D.vs ds) xs := by
  have := DRs.of_v _ _ h
  rw [← hf] at this
  exact DRs.v _ _ this
end
end Go.Vm

namespace Go.Vm
open Go.ChangeShapes Go.WideShapes Go.ChangeAt Go.RowKit

def fzW (w : World) : Nat → Option Obj := fun r => w.heap[r]?
def Opens (P : Program) (t : TypeId) {α : Type} (enc : α → List D) : Prop :=
  ∀ (W : World) (H : Type) (en : TypeId × Value → H) (sp : Nat → Bool) (hd : Bool) (fuel : Nat) (cs : List Value) (x : DataW H × List MemPlace), DataW.trod en P W 0 sp hd fuel t cs = some x → ∃ a : α, DRs (fzW W) (enc a) cs ∧ ∀ v ∈ cs, v.oneCell' = true
theorem DRs.append {fz : Nat → Option Obj} : ∀ {l m : List D} {xs ys : List Value}, DRs fz l xs → DRs fz m ys → DRs fz (l ++ m) (xs ++ ys)
  | [], _, _, _, h, k => by simp only [DRs] at h; subst h; simpa using k
  | _ :: vs, _, _, _, h, k => by
    simp only [DRs] at h
    obtain ⟨x, xs, rfl, h2, h3⟩ := h
    simp only [List.cons_append, DRs]
    exact ⟨x, _, rfl, h2, DRs.append h3 k⟩
theorem DRs.length {fz : Nat → Option Obj} : ∀ {l : List D} {xs : List Value}, DRs fz l xs → xs.length = l.length
  | [], _, h => by simp only [DRs] at h; subst h; rfl
  | _ :: vs, _, h => by
    simp only [DRs] at h
    obtain ⟨x, xs, rfl, _, h3⟩ := h; simp [DRs.length h3]
section
variable {P : Program}
theorem Opens.int {t : TypeId} {k : IntKind} (ht : P.underlying t = some (.int k)) : Opens P t (fun n : Int => [D.s (.int k n)]) := by
  intro W H en sp hd fuel cs x h
  obtain ⟨n, rfl, _, _⟩ := DataW.trod_int ht h
  exact ⟨n, by simp [DRs, DR, S.val], by simp [Value.oneCell']⟩
theorem Opens.bool {t : TypeId} (ht : P.underlying t = some .bool) : Opens P t (fun b : Bool => [D.s (.bool b)]) := by
  intro W H en sp hd fuel cs x h
  obtain ⟨n, rfl, _⟩ := DataW.trod_bool ht h
  exact ⟨n, by simp [DRs, DR, S.val], by simp [Value.oneCell']⟩
theorem cell_at {w : World} {a : Addr} {v : Value} (h : w.cell? a = some v) : a.spot = none ∧ ∃ cur T f, w.heap[a.block]? = some (.cells cur T f) ∧ cur[a.off]? = some v := by
  unfold World.cell? at h
  split at h
  · rename_i c T f hc
    split at h
    · cases h
    · rename_i hs
      exact ⟨by simpa using hs, c, T, f, hc, h⟩
  · cases h
theorem add_off (a : Addr) (i : Nat) (h : a.spot = none) : (a.add i).block = a.block ∧ (a.add i).off = a.off + i ∧ (a.add i).spot = none := by
  unfold Addr.add
  by_cases hi : i = 0 <;> simp [hi, h]
theorem add_spot {a : Addr} {i : Nat} (h : (a.add i).spot = none) (hi : i = 0) : a.spot = none := by
  unfold Addr.add at h
  simpa [hi] using h
theorem Opens.slice {α : Type} {enc : α → List D} {t e : TypeId} {m : Nat} (ht : P.underlying t = some (.slice e)) (hm : ∀ a, (enc a).length = m) (hc : P.cellsOf e = m) (hpos : 0 < m) (he : Opens P e enc) :
    Opens P t (fun l : List α => [D.sl m l.length (l.flatMap enc)]) := by
  intro W H en sp hd fuel cs x h
  rcases Deep.open_slice ht h with ⟨rfl, _⟩ | ⟨a, len, cap, mm, n, Dd, Pl, rfl, hb, hl, hcap, hmm, _, hx⟩
  · refine ⟨[], ?_, by simp [Value.oneCell']⟩
    simp only [DRs, DR]
    exact ⟨_, [], rfl, ⟨hpos, by simp, .inl ⟨rfl, .inl rfl⟩⟩, rfl⟩
  · rw [hc] at hx
    have hlm : len ≤ mm := by rw [hmm]; split <;> omega
    -- the elements
    have key : ∀ k, k ≤ len → ∃ (l : List α) (ys : List Value), l.length = k ∧ DRs (fzW W) (l.flatMap enc) ys ∧ ∀ j y, ys[j]? = some y → W.cell? (a.add j) = some y ∧ y.oneCell' = true := by
      intro k
      induction k with
      | zero => intro _; exact ⟨[], [], rfl, by simp [DRs], by simp⟩
      | succ k ih =>
        intro hk
        obtain ⟨l, ys, h1, h2, h3⟩ := ih (by omega)
        obtain ⟨cs', g1, g2⟩ := hx k (by omega)
        obtain ⟨y, g3, g4⟩ := he W H en sp hd n cs' _ g2
        obtain ⟨_, g5, g6⟩ := World.cells?_some g1
        refine ⟨l ++ [y], ys ++ cs', by simp [h1], by simpa using DRs.append h2 g3, fun j z hz => ?_⟩
        have hyl : ys.length = k * m := by rw [DRs.length h2, flat_len hm, h1]
        rcases Nat.lt_or_ge j ys.length with hj | hj
        · rw [List.getElem?_append_left hj] at hz
          exact h3 j z hz
        · rw [List.getElem?_append_right hj] at hz
          have hjl : j - ys.length < m := by
            have := (List.getElem?_eq_some_iff.1 hz).1
            omega
          have := g6 (j - ys.length) (by omega)
          rw [hz, Deep.add_add] at this
          rw [show k * m + (j - ys.length) = j by omega] at this
          exact ⟨this, g4 z (List.mem_of_getElem? hz)⟩
    obtain ⟨l, ys, h1, h2, h3⟩ := key len (Nat.le_refl _)
    refine ⟨l, ?_, by simp [Value.oneCell']⟩
    have hyl : ys.length = len * m := by rw [DRs.length h2, flat_len hm, h1]
    simp only [DRs, DR]
    refine ⟨_, [], rfl, ⟨hpos, by rw [flat_len hm], ?_⟩, rfl⟩
    rw [h1]
    rcases Nat.eq_zero_or_pos len with hz | hz
    · subst hz
      exact .inl ⟨rfl, .inr ⟨a, cap, rfl⟩⟩
    · right
      have hp0 : 0 < ys.length := by rw [hyl]; exact Nat.mul_pos hz hpos
      obtain ⟨y0, hy0⟩ : ∃ y, ys[0]? = some y := ⟨_, List.getElem?_eq_getElem hp0⟩
      have h30 := (h3 0 y0 hy0).1
      have hs := add_spot (cell_at h30).1 rfl
      obtain ⟨_, cur, T, f, q1, q2⟩ := cell_at h30
      rw [(add_off a 0 hs).1] at q1
      refine ⟨a.block, a.off, cap, cur, T, f, ys, q1, hl, ?_, h2, fun i y hi => ?_⟩
      · cases a; simp only at hs; subst hs; rfl
      · obtain ⟨r1, r2⟩ := h3 i y hi
        obtain ⟨_, cur', T', f', r3, r4⟩ := cell_at r1
        rw [(add_off a i hs).1, q1] at r3
        cases r3
        rw [(add_off a i hs).2.1] at r4
        exact ⟨r4, r2⟩
theorem take_all {m0 m1 : Nat} {cs : List Value} (h : cs.length = m0 + m1) : cs = (cs.drop 0).take m0 ++ (cs.drop m0).take m1 := by
  rw [List.drop_zero, List.take_of_length_le (l := cs.drop m0) (by simp; omega), List.take_append_drop]
theorem Opens.struct3 {α β γ : Type} {ea : α → List D} {eb : β → List D} {ec : γ → List D} {t : TypeId} {f0 f1 f2 : Field} (m0 m1 m2 : Nat) (ht : P.underlying t = some (.struct #[f0, f1, f2])) (hc : P.cellsOf t = m0 + (m1 + m2)) (h0 : f0.offset = 0) (h1 : f1.offset = m0) (h2 : f2.offset = m0 + m1)
    (c0 : P.cellsOf f0.type = m0) (c1 : P.cellsOf f1.type = m1) (c2 : P.cellsOf f2.type = m2) (ha : Opens P f0.type ea) (hb : Opens P f1.type eb) (hcc : Opens P f2.type ec) : Opens P t (fun x : α × β × γ => ea x.1 ++ (eb x.2.1 ++ ec x.2.2)) := by
  intro W H en sp hd fuel cs x h
  obtain ⟨y0, y1, y2, n, _, hl, g0, g1, g2⟩ := Deep.trod_struct3 ht h
  rw [h0, c0] at g0
  rw [h1, c1] at g1
  rw [h2, c2] at g2
  obtain ⟨a, a1, a2⟩ := ha W H en sp hd n _ _ g0
  obtain ⟨b, b1, b2⟩ := hb W H en sp hd n _ _ g1
  obtain ⟨c, d1, d2⟩ := hcc W H en sp hd n _ _ g2
  have e := take_all (m0 := m0) (m1 := m1 + m2) (cs := cs) (by rw [hl, hc])
  have e2 : (cs.drop m0).take (m1 + m2) = (cs.drop m0).take m1 ++ (cs.drop (m0 + m1)).take m2 := by rw [List.take_add, List.drop_drop]
  refine ⟨(a, b, c), ?_, fun v hv => ?_⟩
  · rw [e, e2]; exact DRs.append a1 (DRs.append b1 d1)
  · rw [e, e2] at hv
    rcases List.mem_append.1 hv with hv | hv
    · exact a2 v hv
    · rcases List.mem_append.1 hv with hv | hv
      · exact b2 v hv
      · exact d2 v hv
theorem Opens.as {α β : Type} {ea : α → List D} {t : TypeId} (h : Opens P t ea) (g : α → β) (eb : β → List D) (he : ∀ a, ea a = eb (g a)) : Opens P t eb := by
  intro W H en sp hd fuel cs x hx
  obtain ⟨a, h1, h2⟩ := h W H en sp hd fuel cs x hx
  exact ⟨g a, by rw [← he]; exact h1, h2⟩
def OpenV (P : Program) (t : TypeId) {α : Type} (d : α → D) : Prop :=
  ∀ (W : World) (base : Nat) (H : Type) (en : TypeId × Value → H) (v : Value) (dd : DataW H) (ps : List MemPlace), Value.okWide P W .any base t v → DataW.Trod en P W 0 (fun _ => true) true t v dd ps → ∃ a : α, DR (fzW W) (d a) v
theorem OpenV.struct {α : Type} {enc : α → List D} {t : TypeId} {fs : Array Field} (ht : P.underlying t = some (.struct fs)) (h : Opens P t enc) : OpenV P t (fun a => .agg (enc a)) := by
  intro W base H en v dd ps hok ⟨fuel, ht2⟩
  unfold Value.okWide at hok
  rw [ht] at hok
  obtain ⟨cs, rfl, _⟩ := hok
  obtain ⟨a, h1, _⟩ := h W H en _ _ fuel _ _ ht2
  exact ⟨a, by simp only [DR]; exact ⟨cs, rfl, h1⟩⟩
theorem OpenV.slice {α : Type} {d : α → D} {t e : TypeId} (ht : P.underlying t = some (.slice e)) (h : Opens P t (fun a : α => [d a])) : OpenV P t d := by
  intro W base H en v dd ps hok ⟨fuel, ht2⟩
  obtain ⟨a, h1, _⟩ := h W H en _ _ fuel _ _ ht2
  refine ⟨a, ?_⟩
  simp only [DRs] at h1
  obtain ⟨y, ys, h2, h3, rfl⟩ := h1
  unfold Value.okWide at hok
  rw [ht] at hok
  simp only [Cell.okWide, ht] at hok
  cases v <;> simp [Cell.ok, ht] at hok <;> (simp only [Value.cells] at h2; simp at h2; rw [h2]; exact h3)
theorem OpenV.int {t : TypeId} {k : IntKind} (ht : P.underlying t = some (.int k)) : OpenV P t (fun n : Int => D.s (.int k n)) := by
  intro W base H en v dd ps hok ⟨fuel, ht2⟩
  obtain ⟨n, h2, _, _⟩ := DataW.trod_int ht ht2
  unfold Value.okWide at hok
  rw [ht] at hok
  simp only [Cell.okWide, ht] at hok
  refine ⟨n, ?_⟩
  cases v <;> simp [Cell.ok, ht] at hok
  simp [Value.cells] at h2
  simp only [DR, S.val]
  rw [h2.1, h2.2]
def OpenAll (P : Program) (ts : List TypeId) {γ : Type} (ds : γ → List D) : Prop :=
  ∀ (W : World) (base : Nat) (H : Type) (en : TypeId × Value → H) (vs : List Value) (dd : List (DataW H)) (ps : List MemPlace), (∀ (j : Nat) (t : TypeId) (v : Value), ts[j]? = some t → vs[j]? = some v → Value.okWide P W .any base t v) →
    DataW.TrodAll en P W 0 (fun _ => true) true ts vs dd ps → ∃ g : γ, DRs (fzW W) (ds g) vs
theorem OpenAll.nil : OpenAll P [] (fun _ : Unit => []) := by
  intro W base H en vs dd ps _ h
  obtain ⟨rfl, _⟩ := trodAll_nil h
  exact ⟨(), by simp [DRs]⟩
theorem OpenAll.cons {α γ : Type} {t : TypeId} {ts : List TypeId} {d : α → D} {ds : γ → List D} (h : OpenV P t d) (k : OpenAll P ts ds) : OpenAll P (t :: ts) (fun x : α × γ => d x.1 :: ds x.2) := by
  intro W base H en vs dd ps hok htr
  obtain ⟨v, vs', d', ds', p, q, rfl, rfl, rfl, h1, h2⟩ := trodAll_cons htr
  obtain ⟨a, ha⟩ := h W base H en v d' p (hok 0 t v rfl rfl) h1
  obtain ⟨g, hg⟩ := k W base H en vs' ds' q (fun j t' v' hj hv => hok (j + 1) t' v' (by simpa using hj) (by simpa using hv)) h2
  exact ⟨(a, g), by simp only [DRs]; exact ⟨v, vs', rfl, ha, hg⟩⟩
theorem Below.trodAll (hl : laidOutB P = true) {H : Type} {en : TypeId × Value → H} {W W' : World} (hb : Below W.heap.size W W') : ∀ {ts : List TypeId} {vs : List Value} {dd : List (DataW H)} {ps : List MemPlace}, (∀ t ∈ ts, P.readableRec t = true ∧ t < P.types.size) →
    (∀ p ∈ ps, p.block < W.heap.size) → DataW.TrodAll en P W 0 (fun _ => true) true ts vs dd ps → DataW.TrodAll en P W' 0 (fun b => decide (b < W.heap.size)) true ts vs dd ps
  | [], vs, dd, ps, _, _, h => by
    obtain ⟨rfl, rfl, rfl⟩ := trodAll_nil h
    exact trodAll_mk0
  | t :: ts, vs, dd, ps, ht, hlt, h => by
    obtain ⟨v, vs', d', ds', p, q, rfl, rfl, rfl, h1, h2⟩ := trodAll_cons h
    obtain ⟨r1, r2⟩ := ht t (by simp)
    exact trodAll_cons_mk (Below.trod hl r1 r2 h1 hb fun x hx => hlt x (by simp [hx])) (Below.trodAll hl hb (fun t' h' => ht t' (by simp [h'])) (fun x hx => hlt x (by simp [hx])) h2)
theorem trodAll_len {H : Type} {en : TypeId × Value → H} {w : World} {base : Nat} {sp : Nat → Bool} {hd : Bool} : ∀ {ts : List TypeId} {vs : List Value} {dd : List (DataW H)} {ps : List MemPlace}, DataW.TrodAll en P w base sp hd ts vs dd ps → dd.length = ts.length
  | [], _, _, _, h => by obtain ⟨_, rfl, _⟩ := trodAll_nil h; rfl
  | t :: ts, _, _, _, h => by
    obtain ⟨v, vs', d', ds', p, q, rfl, rfl, rfl, _, h2⟩ := trodAll_cons h
    simp [trodAll_len h2]
theorem contract_of_vc {f : FuncId} {fn : Func} {s : ChangeSpec} {tb : TypeId} {γ : Type} {ds : γ → List D} (hA : OpenAll P fn.params.toList ds) (hvc : ∀ g, VC P f (D.vs (ds g)) Hp.bare (.s (.bool true)) Hp.bare) (hl : laidOutB P = true)
    (hrec : ∀ t ∈ fn.params.toList, P.readableRec t = true ∧ t < P.types.size) (hres : fn.resultTypes = #[tb]) (hb : P.underlying tb = some .bool) (hvars : s.vars = [])
    (hfn : ∀ (H : Type) (dd : List (DataW H)), dd.length = fn.params.size → s.fn H dd = { results := [.lit (.bool true)], args := dd })
    {H : Type} {enc : TypeId × Value → H} {W : World} {base : Nat} {args : Array Value} {dd gs : List (DataW H)} {before : List MemPlace}
    (hval : ∀ (j : Nat) t v, fn.params[j]? = some t → args[j]? = some v → Value.okWide P W .any base t v) (hW : DataW.Whole enc P fn.params.toList s.vars false W args.toList dd gs before) :
    Calls P f args W fun e W' => ∃ v, e = .returned v ∧ s.post enc P fn false true false false W args v W' := by
  have hW' := hW
  have hlt := hW.lt
  obtain ⟨p, q, hA0, hV, rfl, _, _⟩ := hW
  rw [hvars] at hV
  obtain ⟨rfl, rfl⟩ := trodVars_none hV
  rw [List.append_nil] at hW' hlt
  obtain ⟨g, hg⟩ := hA W base H enc args.toList dd p (fun j t v hj hv => hval j t v (by simpa using hj) (by simpa using hv)) hA0
  obtain ⟨_, _, hC⟩ := hvc g
  have hrel : Rel ⟨fun _ => none, fzW W, fun _ => False, 0⟩ Hp.bare W :=
    { blk := fun i e b hi _ => by cases hi
      apart := fun i j ei ej bi bj _ hi _ _ _ _ _ => by cases hi
      dom := fun i _ => rfl
      nmd := fun i hi => False.elim hi
      fz := fun r o hro => ⟨hro, fun i e b hi _ _ => by cases hi⟩ }
  have hcall := hC _ W args.toList hrel (DRs.v _ _ hg)
  rw [show args.toList.toArray = args by simp] at hcall
  refine (callsIn_wide.1 hcall).mono ?_
  rintro e W' ⟨σ', x, rfl, h1, h2, h3⟩
  have hbel : Below W.heap.size W W' := ⟨h3.os, h3.tape, h3.output, h3.size, fun k hk => h3.frame k hk (fun i e b hi _ _ => by cases hi)⟩
  simp only [VR, S.val] at h1
  subst h1
  have hlen : dd.length = fn.params.size := by
    have := trodAll_len hA0
    simpa using this
  refine ⟨_, rfl, dd, [], p, [], p, [], hW', ?_, ?_, ?_, ?_, fun h => by cases h⟩
  · rw [List.append_nil, hfn H dd hlen, hres]
    exact trodAll_cons_mk (shut_bool hb true) trodAll_mk0
  · rw [List.append_nil, hfn H dd hlen]
    exact Below.trodAll hl hbel hrec hlt hA0
  · rw [List.append_nil, hfn H dd hlen, hvars]
    exact rfl
  · exact hbel.frame _
end
end Go.Vm

namespace Go.Vm

def IterN (P : Program) (f : FuncId) (first caps : List V) (m : Nat) (ys : Nat → Option (List V)) : Prop :=
  ∀ (h : Hp) (i : Id) (I : Nat → Hp → Prop) (E : Hp → Prop), (∀ k g, k < m → I k g → match ys k with
    | none => I (k + 1) g
    | some vs => (∃ g', VY P i vs g (.s (.bool true)) g' ∧ I (k + 1) g') ∨ ∃ g', VY P i vs g (.s (.bool false)) g' ∧ E g') → I 0 h → ∃ h', VC P f (first ++ [.yld i] ++ caps) h (.tuple []) h' ∧ (I m h' ∨ E h')
theorem RFin.off {i : Id} {h h' : Hp} {n : Nat} {fr : Fr} {o : Id → Option Blk} {loc : List Blk} {ms : List Id} {lr : LoopV} {x : X} (hx : x.jump.isNone = false) (h1 : (⟨o, loc⟩ : Hp).get (.out i) = some (.loop lr)) (h2 : VOut h ⟨outW o i (.loop { lr with state := .done, pending := x.jump }), loc⟩ (.s (.bool false)) (.s (.bool false)) h') :
    RFin i h (.s (.bool false)) h' x ⟨n, fr, ⟨o, loc⟩, ms⟩ := RFin.mk ⟨lr, h1, by rw [hx], by rw [hx]; exact h2.elim'⟩
def Told (Q : X → St → Prop) (x : X) (st : St) : Prop := ∃ st'', Retell isOut st st'' ∧ Q x st''
theorem Told.mk {Q : X → St → Prop} {x : X} {n : Nat} {fr : Fr} {outer : Id → Option Blk} {loc0 : List Blk} {marks marks' : List Id} (slots : List (Nat × V)) (loc : List Blk)
    (hst : frSK slots .leaf fun fr' => Retell isOut ⟨n, fr, ⟨outer, loc0⟩, marks⟩ ⟨n, fr', ⟨outer, loc⟩, marks'⟩)
    (hb : frSK slots .leaf fun fr' => Q x ⟨n, fr', ⟨outer, loc⟩, marks'⟩) : Told Q x ⟨n, fr, ⟨outer, loc0⟩, marks⟩ := by
  rw [frSK_eq] at hst hb
  exact ⟨_, hst, hb⟩
theorem VCode.iterN {P : Program} {g : Operand} {ps : Array Tmp} {assign body : Code} {n : Nat} {fr : Fr} {h : Hp} {marks : List Id} {Q : X → St → Prop} {f : FuncId} {first caps : List V} (m : Nat) (ys : Nat → Option (List V)) (J : Nat → Hp → Prop) (E : X → Hp → Prop) (LR : LoopV) (iy : Id)
    (hg : ev fr g = .func (.func f) first caps) (hit : IterN P f first caps m ys) (hLR : LR = { state := .ready, pending := none, n, fr, params := ps, assign, body, mark := h.fresh }) (hiy : iy = (h.push .mark).fresh)
    (h0 : J 0 ((h.push .mark).push (.loop LR)))
    (hskip : ∀ k g, k < m → ys k = none → J k g → J (k + 1) g)
    (hr : ∀ k g vs, k < m → ys k = some vs → J k g → g.get iy = some (.loop LR) → (∃ g', VY P iy vs g (.s (.bool true)) g' ∧ J (k + 1) g' ∧ g'.get iy = some (.loop LR)) ∨ ∃ g' x, x.jump.isNone = false ∧ VY P iy vs g (.s (.bool false)) g' ∧ E x g' ∧ g'.get iy = some (.loop { LR with state := .done, pending := x.jump }))
    (hq : ∀ g, J m g → g.get iy = some (.loop LR) → Told Q .normal ⟨n, fr, g.set iy (.loop { LR with state := .exhausted }), h.fresh :: marks⟩)
    (hx : ∀ x g, x.jump.isNone = false → E x g → g.get iy = some (.loop { LR with state := .done, pending := x.jump }) → Told Q x ⟨n, fr, g.set iy (.loop { LR with state := .exhausted, pending := x.jump }), h.fresh :: marks⟩) : VCode P none isOut (.rangeFunc g ps assign body) ⟨n, fr, h, marks⟩ Q := by
  have hfr : ((h.push .mark).push (.loop LR)).get iy = some (.loop LR) := by rw [hiy, Hp.get_push, if_pos rfl]
  obtain ⟨h2, hv, hj⟩ := hit ((h.push .mark).push (.loop LR)) iy (fun j g => J j g ∧ g.get iy = some (.loop LR)) (fun g => ∃ x : X, x.jump.isNone = false ∧ E x g ∧ g.get iy = some (.loop { LR with state := .done, pending := x.jump })) (fun k g hk hJ => by
    cases hy : ys k with
    | none => exact ⟨hskip k g hk hy hJ.1, hJ.2⟩
    | some vs =>
      rcases hr k g vs hk hy hJ.1 hJ.2 with ⟨g', k1, k2, k3⟩ | ⟨g', x, k0, k1, k2, k3⟩
      · exact .inl ⟨g', k1, k2, k3⟩
      · exact .inr ⟨g', k1, x, k0, k2, k3⟩) ⟨h0, hfr⟩
  subst hiy
  refine VCode.intro (VWp.retell_post (Q' := Told Q) ?_ fun x st' hst => hst)
  rcases hj with ⟨hj, hl⟩ | ⟨x, hxj, hj, hl⟩
  · refine (VWp.rangeFunc (lr := LR) (h2 := h2) (r := .tuple []) (f := f) (first := first) (caps := caps) hg (by subst hLR; exact hv) hl (by rw [hLR]; simp) ?_)
    have := hq h2 hj hl
    rw [hLR] at this ⊢
    exact this
  · refine (VWp.rangeFunc (lr := { LR with state := .done, pending := x.jump }) (h2 := h2) (r := .tuple []) (f := f) (first := first) (caps := caps) hg (by subst hLR; exact hv) hl (by simp) ?_)
    have := hx x h2 hxj hj hl
    cases x with
    | normal => cases hxj
    | exit id => exact this
    | ret => exact this
/-! ### Within a round -/

structure VWpA (P : Program) (l : Nat) (i : Id) (c : Code) (st : St) (Q : X → St → Prop) : Prop where
  ex : ∀ σ a w, StRel σ st a w → (∃ e, σ (.out i) = some e ∧ e.rid = l) → c.wpIn (Fl (some l)) 0 P (VPost isOut σ st.h w Q) a w
section
variable {P : Program} {l : Nat} {i : Id} {st : St} {Q : X → St → Prop}
theorem VWpA.of {c : Code} (h : VWp P (some l) isOut c st Q) : VWpA P l i c st Q := ⟨fun σ a w hs _ => h σ a w hs⟩
theorem VWpA.seq {a b : Code} (h : VWp P (some l) isOut a st (X.then (fun st' => VWpA P l i b st' Q) Q)) : VWpA P l i (.seq a b) st Q := by
  refine ⟨fun σ ac w hs hi => ?_⟩
  refine wpIn_seq (wpIn_mono (h σ ac w hs) ?_)
  rintro e a' w' ⟨x, σ', st', rfl, hq, hs', hx⟩
  cases x with
  | normal =>
    obtain ⟨e, he, hr⟩ := hi
    exact wpIn_mono (hq.ex σ' a' w' hs' ⟨e, hx.le (.out i) e trivial he, hr⟩) fun e a2 w2 ⟨x2, σ2, st2, h1, h2, h3, h4⟩ => ⟨x2, σ2, st2, h1, h2, h3, hx.trans h4⟩
  | exit id => exact ⟨.exit id, σ', st', rfl, hq, hs', hx⟩
  | ret => exact ⟨.ret, σ', st', rfl, hq, hs', hx⟩
theorem VWpA.block {id : Nat} {c : Code} (h : VWpA P l i c st (X.inBlock id Q)) : VWpA P l i (.block id c) st Q := by
  refine ⟨fun σ ac w hs hi => ?_⟩
  refine wpIn_block (wpIn_mono (h.ex σ ac w hs hi) ?_)
  rintro e a' w' ⟨x, σ', st', rfl, hq, hs', hx⟩
  cases x with
  | normal => exact ⟨.normal, σ', st', rfl, hq, hs', hx⟩
  | exit i =>
    simp only [X.real, Exit.inBlock]
    simp only [X.inBlock] at hq
    split
    · rename_i e1; rw [if_pos e1] at hq; exact ⟨.normal, σ', st', rfl, hq, hs', hx⟩
    · rename_i e1; rw [if_neg e1] at hq; exact ⟨.exit i, σ', st', rfl, hq, hs', hx⟩
  | ret => exact ⟨.ret, σ', st', rfl, hq, hs', hx⟩
end

theorem VYA.intro {P : Program} {i : Id} {args : List V} {h : Hp} {r : V} {h' : Hp} {lr : LoopV} (hb : h.get i = some (.loop lr)) (hst : lr.state = .ready) (hn : args.length = lr.params.size) (hp : ∀ t ∈ lr.params.toList, t < lr.n) (hgr : h.grows h')
    (hw : ∀ l, VWp P (some l) isOut lr.assign ⟨lr.n, frPar lr.params.toList (args.map (V.ren .out)) (PT.map (V.ren .out) lr.fr), h.enter, []⟩ (fun x st => (match x with | .normal => True | _ => False) ∧
      ∃ lr1, st.h.get (.out i) = some (.loop lr1) ∧ lr1.state = .ready ∧ VWpA P l i lr.body { st with h := st.h.set (.out i) (.loop { lr1 with state := .busy }) } (RFin i h r h'))) : VY P i args h r h' := by
  refine ⟨hgr, fun σ w e xs hr hi hxs => ?_⟩
  obtain ⟨R, hR, hRs, hRp, hRpa, hRa, hRb, hRf, hRn, _⟩ := hr.loopSet hi hb
  have hlen := VRs.length hxs
  let σc : Sig := σ.enter.at w.heap.size
  have hrc : Rel σc h.enter w := hr.enter.at _
  have hy := run_yield (P := P) (args := xs.toArray) hR (by rw [hRpa]; simp [hlen, hn])
  refine ⟨_, _, _, _, hy, roundIn_of_wpIn trivial ?_⟩
  rw [hRa, hRb, hRpa]
  have hargs : VRs σc (args.map (V.ren .out)) xs := VRs.mono (σ.enter.at_le w.heap.size) _ _ (by rw [← V.rens_eq]; exact (VRs_ren σ.enter .out args xs).2 hxs)
  have hfr0 : FrRel σc (PT.map (V.ren .out) lr.fr) R.tmps := FrRel.mono (σ.enter.at_le w.heap.size) ((FrRel_ren σ.enter .out lr.fr R.tmps).2 hRf)
  obtain ⟨f1, f2⟩ := FrRel.par lr.params.toList _ xs _ R.tmps hp hRn hfr0 hargs
  have hz : (lr.params.zip xs.toArray).foldl (fun tmps (t, a) => tmps.setIfInBounds t a) R.tmps = (lr.params.toList.zip xs).foldl (fun tmps p => tmps.setIfInBounds p.1 p.2) R.tmps := by
    rw [← Array.foldl_toList]; simp
  rw [hz]
  have hs0 : StRel σc ⟨lr.n, frPar lr.params.toList (args.map (V.ren .out)) (PT.map (V.ren .out) lr.fr), h.enter, []⟩ { tmps := (lr.params.toList.zip xs).foldl (fun tmps p => tmps.setIfInBounds p.1 p.2) R.tmps, defers := [] } w :=
    ⟨hrc, f1, f2, MarksRel.nil (Nat.le_refl _)⟩
  refine wpIn_mono (hw e.rid σc _ w hs0) ?_
  rintro en a1 w1 ⟨x, σ1, st1, rfl, ⟨hx, lr1, hb1, hst1, hbody⟩, hs1, hx1⟩
  cases x with
  | exit id => exact hx.elim
  | ret => exact hx.elim
  | normal =>
    have hi1 : σ1 (.out i) = some e := hx1.le (.out i) e trivial hi
    obtain ⟨R1, hR1, hR1s, hR1p, _, _, _, _, _, hset1⟩ := hs1.rel.loopSet hi1 hb1
    have hbr := run_beginRound (P := P) hR1 (by rw [hR1s]; exact hst1)
    refine ⟨_, hbr, ?_⟩
    obtain ⟨hr2, hx2⟩ := hset1 .busy lr1.pending
    have hw2 : w1.putObj e.rid (.loop { R1 with state := .busy }) = w1.putObj e.rid (.loop { R1 with state := .busy, pending := lr1.pending }) := by rw [← hR1p]
    rw [hw2]
    have hs2 : StRel σ1 { st1 with h := st1.h.set (.out i) (.loop { lr1 with state := .busy }) } a1 (w1.putObj e.rid (.loop { R1 with state := .busy, pending := lr1.pending })) := ⟨hr2, hs1.fr, hs1.size, hs1.marks.ext hx2⟩
    refine wpIn_mono (hbody.ex σ1 a1 _ hs2 ⟨e, hi1, rfl⟩) ?_
    rintro en a3 w3 ⟨x, σ3, st3, rfl, hfin, hs3, hx3⟩
    unfold RFin at hfin
    obtain ⟨lr3, hb3, hrr, hL⟩ := hfin
    have hi3 : σ3 (.out i) = some e := hx3.le (.out i) e trivial hi1
    obtain ⟨R3, hR3, _, _, _, _, _, _, _, hset3⟩ := hs3.rel.loopSet hi3 hb3
    obtain ⟨hr4, hx4⟩ := hset3 (if x.jump.isNone then .ready else .done) x.jump
    have hxT := ((hx1.trans (hx2.weak fun _ _ => trivial)).trans hx3).trans (hx4.weak (K' := isOut) fun _ _ => trivial)
    obtain ⟨σ5, g1, g2, g3⟩ := hL _ _ _ _ (.bool x.jump.isNone) hr (hr4.at _) hxT.at (by rw [hrr]; rfl)
    cases x with
    | normal => exact ⟨_, _, run_endRound none hR3, σ5, _, rfl, g1, g2, g3⟩
    | ret => exact ⟨_, _, run_endRound (some .ret) hR3, σ5, _, rfl, g1, g2, g3⟩
    | exit id => exact ⟨_, _, run_endRound (some (.exit id)) hR3, σ5, _, rfl, g1, g2, g3⟩
theorem VWpA.rangeFunc {P : Program} {l : Nat} {i : Id} {g : Operand} {ps : Array Tmp} {assign body : Code} {n : Nat} {fr : Fr} {h : Hp} {marks : List Id} {Q : X → St → Prop} {f : FuncId} {first caps : List V} {r : V} {h2 : Hp} {lr lr0 : LoopV}
    (hg : ev fr g = .func (.func f) first caps) (h0 : h.get (.out i) = some (.loop lr0))
    (hc : VC P f (first ++ [.yld h.fresh] ++ caps) (h.push (.loop { state := .ready, pending := none, n, fr, params := ps, assign, body, mark := lr0.mark })) r h2)
    (hl : h2.get h.fresh = some (.loop lr)) (hs : lr.state ≠ .busy)
    (hq : match lr.pending with
      | none => Q .normal ⟨n, fr, h2.set h.fresh (.loop { lr with state := .exhausted }), marks⟩
      | some .ret => Q .ret ⟨n, fr, h2.set h.fresh (.loop { lr with state := .exhausted }), marks⟩
      | some (.exit id) => Q (.exit id) ⟨n, fr, h2.set h.fresh (.loop { lr with state := .exhausted }), marks⟩
      | _ => False) : VWpA P l i (.rangeFunc g ps assign body) ⟨n, fr, h, marks⟩ Q := by
  refine ⟨fun σ a w hst hround => ?_⟩
  have hr : Rel σ h w := hst.rel
  obtain ⟨e0, he0, hrid⟩ := hround
  obtain ⟨_, o0, ho0, hrel0⟩ := hr.blk (.out i) e0 _ he0 h0
  obtain ⟨fn0, tmps0, em, rfl, hm, _, _⟩ := hrel0
  refine wpIn_rangeFunc fun fn _ => ?_
  let R0 : Loop := { state := .ready, pending := none, fn, tmps := a.tmps, params := ps, assign, body, defers := em.rid }
  have hle1 : σ.le (σ.put h.fresh ⟨w.heap.size, 0, 0⟩) := Sig.le_put hr.fresh_none
  have r1 := hr.push (b := .loop { state := .ready, pending := none, n, fr, params := ps, assign, body, mark := lr0.mark }) (o := .loop R0) (base := 0) (tot := 0)
    ⟨fn, a.tmps, em, rfl, hle1 _ _ hm, hst.fr.mono hle1, hst.size⟩
  have x1 := Ext.push hr (b := .loop { state := .ready, pending := none, n, fr, params := ps, assign, body, mark := lr0.mark }) (o := .loop R0) (base := 0) (tot := 0) rfl
  have hv := ev_ok hst.fr g
  rw [hg] at hv
  simp only [VR] at hv
  obtain ⟨f', c', hfe, hf1, hf2⟩ := hv
  obtain ⟨hent, _, hV⟩ := hc
  have hyl : VRs (σ.put h.fresh ⟨w.heap.size, 0, 0⟩) [.yld h.fresh] [.func (.yield w.heap.size) #[] #[]] := by
    simp only [VRs, VR]
    exact ⟨_, _, rfl, ⟨_, Sig.put_same _ _ _, by simp⟩, rfl⟩
  have hargs := VRs.append (VRs.append (VRs.mono hle1 _ _ hf1) hyl) (VRs.mono hle1 _ _ hf2)
  have hcall := hV _ _ _ r1 hargs
  have harr : (f'.toList ++ [Value.func (.yield w.heap.size) #[] #[]] ++ c'.toList).toArray = f' ++ #[Value.func (.yield w.heap.size) #[] #[]] ++ c' := by apply Array.ext'; simp
  rw [harr] at hcall
  have hrun : (Instr.enterLoop fn a.tmps ps assign body (some l)).run P w = .ok (w.heap.size, []) (w.alloc (.loop R0)) := by
    unfold Instr.enterLoop
    rw [hrid] at ho0
    simp only [Sem.run_bind, run_getLoop ho0, run_newObj_alloc, Result.andThen, Sem.run_pure]; rfl
  refine ⟨w.heap.size, [], w.alloc (.loop R0), { target := .fn (.func f) c', args := f' ++ #[Value.func (.yield w.heap.size) #[] #[]] }, w.alloc (.loop R0), f, f' ++ #[Value.func (.yield w.heap.size) #[] #[]] ++ c', w.alloc (.loop R0),
    hrun, ?_, fun _ _ => trivial, ?_, fun hx => by simp [Fl, Fence.wide] at hx, ?_⟩
  · simp only [resolve, rangeCall, hfe, Deferred.ofValue]
    simp [Act.eval]
  · simp only [invoke]; exact hent _ _
  · refine CallsIn.mono (F := Fl (some l)) hcall ?_
    rintro en w3 ⟨σ3, y, rfl, _, hr3, hx3⟩
    have hle3 := hx3.leAll
    obtain ⟨R, hR, hRs, hRp, _, _, _, _, _, hset⟩ := hr3.loopSet (hle3 _ _ (Sig.put_same _ _ _)) hl
    obtain ⟨hr4, hx4⟩ := hset .exhausted lr.pending
    have hend : (Instr.endLoop w.heap.size).run P w3 = .ok R.pending (w3.putObj w.heap.size (.loop { R with state := .exhausted })) := run_endLoop (by simpa using hR) (by rw [hRs]; exact hs)
    refine ⟨R.pending, _, hend, ?_⟩
    have hw4 : w3.putObj w.heap.size (.loop { R with state := .exhausted }) = w3.putObj w.heap.size (.loop { R with state := .exhausted, pending := lr.pending }) := by
      rw [← hRp]
    rw [hw4, hRp]
    have hleT : σ.le σ3 := Sig.le_trans hle1 hle3
    have hxA : ExtK allIds σ h w σ3 (h2.set h.fresh (.loop { lr with state := .exhausted })) (w3.putObj w.heap.size (.loop { R with state := .exhausted, pending := lr.pending })) :=
      (x1.toK.trans hx3).trans hx4
    have hst' : StRel σ3 ⟨n, fr, h2.set h.fresh (.loop { lr with state := .exhausted }), marks⟩ { a with defers := [] ++ a.defers } (w3.putObj w.heap.size (.loop { R with state := .exhausted, pending := lr.pending })) :=
      ⟨hr4, hst.fr.mono hleT, hst.size, hst.marks.ext hxA⟩
    have hxT : ExtK isOut σ h w σ3 (h2.set h.fresh (.loop { lr with state := .exhausted })) (w3.putObj w.heap.size (.loop { R with state := .exhausted, pending := lr.pending })) :=
      hxA.weak fun _ _ => trivial
    cases hp : lr.pending with
    | none => rw [hp] at hq hst' hxT; exact ⟨.normal, _, _, rfl, hq, hst', hxT⟩
    | some c =>
      rw [hp] at hq hst' hxT
      cases c <;> first | exact hq.elim | skip
      · exact wpIn_exit ⟨.exit _, _, _, rfl, hq, hst', hxT⟩
      · exact wpIn_ret ⟨.ret, _, _, rfl, hq, hst', hxT⟩
theorem VWpA.retell_post {P : Program} {l : Nat} {i : Id} {c : Code} {st : St} {Q Q' : X → St → Prop} (h : VWpA P l i c st Q') (hq : ∀ x st', Q' x st' → Told Q x st') : VWpA P l i c st Q := by
  refine ⟨fun σ a w hs hi => ?_⟩
  refine wpIn_mono (h.ex σ a w hs hi) ?_
  rintro e a' w' ⟨x, σ', st', rfl, hq', hs', hx⟩
  obtain ⟨st'', hr, hq''⟩ := hq x st' hq'
  obtain ⟨σ'', hs'', hx''⟩ := hr σ' a' w' hs'
  exact ⟨x, σ'', st'', rfl, hq'', hs'', hx.trans hx''⟩
theorem VWpA.iterN {P : Program} {l : Nat} {i : Id} {g : Operand} {ps : Array Tmp} {assign body : Code} {n : Nat} {fr : Fr} {h : Hp} {marks : List Id} {Q : X → St → Prop} {f : FuncId} {first caps : List V} {lr0 : LoopV} (m : Nat) (ys : Nat → Option (List V)) (J : Nat → Hp → Prop) (E : X → Hp → Prop) (LR : LoopV) (iy : Id)
    (hg : ev fr g = .func (.func f) first caps) (h00 : h.get (.out i) = some (.loop lr0)) (hit : IterN P f first caps m ys) (hLR : LR = { state := .ready, pending := none, n, fr, params := ps, assign, body, mark := lr0.mark }) (hiy : iy = h.fresh)
    (h0 : J 0 (h.push (.loop LR)))
    (hskip : ∀ k g, k < m → ys k = none → J k g → J (k + 1) g)
    (hr : ∀ k g vs, k < m → ys k = some vs → J k g → g.get iy = some (.loop LR) → (∃ g', VY P iy vs g (.s (.bool true)) g' ∧ J (k + 1) g' ∧ g'.get iy = some (.loop LR)) ∨ ∃ g' x, x.jump.isNone = false ∧ VY P iy vs g (.s (.bool false)) g' ∧ E x g' ∧ g'.get iy = some (.loop { LR with state := .done, pending := x.jump }))
    (hq : ∀ g, J m g → g.get iy = some (.loop LR) → Told Q .normal ⟨n, fr, g.set iy (.loop { LR with state := .exhausted }), marks⟩)
    (hx : ∀ x g, x.jump.isNone = false → E x g → g.get iy = some (.loop { LR with state := .done, pending := x.jump }) → Told Q x ⟨n, fr, g.set iy (.loop { LR with state := .exhausted, pending := x.jump }), marks⟩) : VWpA P l i (.rangeFunc g ps assign body) ⟨n, fr, h, marks⟩ Q := by
  have hfr : (h.push (.loop LR)).get iy = some (.loop LR) := by rw [hiy, Hp.get_push, if_pos rfl]
  obtain ⟨h2, hv, hj⟩ := hit (h.push (.loop LR)) iy (fun j g => J j g ∧ g.get iy = some (.loop LR)) (fun g => ∃ x : X, x.jump.isNone = false ∧ E x g ∧ g.get iy = some (.loop { LR with state := .done, pending := x.jump })) (fun k g hk hJ => by
    cases hy : ys k with
    | none => exact ⟨hskip k g hk hy hJ.1, hJ.2⟩
    | some vs =>
      rcases hr k g vs hk hy hJ.1 hJ.2 with ⟨g', k1, k2, k3⟩ | ⟨g', x, k0, k1, k2, k3⟩
      · exact .inl ⟨g', k1, k2, k3⟩
      · exact .inr ⟨g', k1, x, k0, k2, k3⟩) ⟨h0, hfr⟩
  subst hiy
  refine VWpA.retell_post (Q' := Told Q) ?_ fun x st' hst => hst
  rcases hj with ⟨hj, hl⟩ | ⟨x, hxj, hj, hl⟩
  · refine VWpA.rangeFunc (lr := LR) (h2 := h2) (r := .tuple []) (f := f) (first := first) (caps := caps) hg h00 (by subst hLR; exact hv) hl (by rw [hLR]; simp) ?_
    have := hq h2 hj hl
    rw [hLR] at this ⊢
    exact this
  · refine VWpA.rangeFunc (lr := { LR with state := .done, pending := x.jump }) (h2 := h2) (r := .tuple []) (f := f) (first := first) (caps := caps) hg h00 (by subst hLR; exact hv) hl (by simp) ?_
    have := hx x h2 hxj hj hl
    cases x with
    | normal => cases hxj
    | exit id => exact this
    | ret => exact this
structure VBeginA (P : Program) (l : Nat) (i : Id) (body : Code) (h : Hp) (r : V) (h' : Hp) (st : St) : Prop where
  ex : ∃ lr1, st.h.get (.out i) = some (.loop lr1) ∧ lr1.state = .ready ∧ VWpA P l i body { st with h := st.h.set (.out i) (.loop { lr1 with state := .busy }) } (RFin i h r h')
theorem VBeginA.intro {P : Program} {l : Nat} {i : Id} {body : Code} {h : Hp} {r : V} {h' : Hp} {n : Nat} {fr : Fr} {o : Id → Option Blk} {loc : List Blk} {ms : List Id} {lr1 : LoopV} (h1 : (⟨o, loc⟩ : Hp).get (.out i) = some (.loop lr1)) (h2 : lr1.state = .ready)
    (h3 : VWpA P l i body ⟨n, fr, ⟨outW o i (.loop { lr1 with state := .busy }), loc⟩, ms⟩ (RFin i h r h')) : VBeginA P l i body h r h' ⟨n, fr, ⟨o, loc⟩, ms⟩ :=
  ⟨lr1, h1, h2, h3⟩
def beginQA (P : Program) (l : Nat) (i : Id) (body : Code) (h : Hp) (r : V) (h' : Hp) (x : X) (st : St) : Prop :=
  X.rec (motive := fun _ => Prop) (VBeginA P l i body h r h' st) (fun _ => False) False x
structure VRoundA (P : Program) (l : Nat) (i : Id) (assign body : Code) (h : Hp) (r : V) (h' : Hp) (st : St) : Prop where
  ex : VWp P (some l) isOut assign st (beginQA P l i body h r h')
theorem VRoundA.tell {P : Program} {l : Nat} {i : Id} {assign body : Code} {h : Hp} {r : V} {h' : Hp} {n : Nat} {fr : Fr} {g : Hp} (slots : List (Nat × V))
    (hst : frSK slots .leaf fun fr' => Retell isOut ⟨n, fr, ⟨g.lift, []⟩, []⟩ ⟨n, fr', ⟨g.lift, []⟩, []⟩)
    (hb : frSK slots .leaf fun fr' => vwp P (tiOf P) (some l) isOut assign ⟨n, fr', ⟨g.lift, []⟩, []⟩ (beginQA P l i body h r h')) : VRoundA P l i assign body h r h' ⟨n, fr, g.enter, []⟩ := by
  have he : g.enter = ⟨g.lift, []⟩ := by unfold Hp.enter Hp.lift; rfl
  rw [he]
  rw [frSK_eq] at hst hb
  exact ⟨VWp.retell hst (vwp_ok (tiOf_ok P) _ _ _ hb)⟩
theorem VRoundA.vy {P : Program} {i : Id} {args : List V} {h h' : Hp} {r : V} {lr : LoopV} (hb : h.get i = some (.loop lr)) (hst : lr.state = .ready) (hn : args.length = lr.params.size) (hp : ∀ t ∈ lr.params.toList, t < lr.n) (hgr : h.grows h')
    (hw : ∀ l, VRoundA P l i lr.assign lr.body h r h' ⟨lr.n, frPar lr.params.toList (args.map (V.ren .out)) (PT.map (V.ren .out) lr.fr), h.enter, []⟩) : VY P i args h r h' :=
  VYA.intro hb hst hn hp hgr fun l => VWp.mono (hw l).ex fun x st hq => by
    cases x with
    | normal => exact ⟨trivial, hq.ex⟩
    | exit i => exact hq.elim
    | ret => exact hq.elim
theorem VWpA.go {P : Program} {l : Nat} {i : Id} {a b : Code} {st : St} {Q : X → St → Prop} (h : vwp P (tiOf P) (some l) isOut a st (X.then (fun st' => VWpA P l i b st' Q) Q)) : VWpA P l i (.seq a b) st Q := VWpA.seq (vwp_ok (tiOf_ok P) _ _ _ h)
theorem VWpA.tell {P : Program} {l : Nat} {i : Id} {c : Code} {n : Nat} {fr : Fr} {outer : Id → Option Blk} {loc0 : List Blk} {marks marks' : List Id} {Q : X → St → Prop} (slots : List (Nat × V)) (loc : List Blk)
    (hst : frSK slots .leaf fun fr' => Retell isOut ⟨n, fr, ⟨outer, loc0⟩, marks⟩ ⟨n, fr', ⟨outer, loc⟩, marks'⟩)
    (hb : frSK slots .leaf fun fr' => VWpA P l i c ⟨n, fr', ⟨outer, loc⟩, marks'⟩ Q) : VWpA P l i c ⟨n, fr, ⟨outer, loc0⟩, marks⟩ Q := by
  rw [frSK_eq] at hst hb
  refine ⟨fun σ a w hs hi => ?_⟩
  obtain ⟨σ', hs', hx⟩ := hst σ a w hs
  obtain ⟨e, he, hr⟩ := hi
  exact wpIn_mono (hb.ex σ' a w hs' ⟨e, hx.le (.out i) e trivial he, hr⟩) fun en a2 w2 ⟨x2, σ2, st2, h1, h2, h3, h4⟩ => ⟨x2, σ2, st2, h1, h2, h3, hx.trans h4⟩
theorem all_lt {l : List Nat} {n : Nat} (h : l.all (fun t => Nat.blt t n) = true) : ∀ t ∈ l, t < n := fun t ht => by
  have := List.all_eq_true.1 h t ht
  exact Nat.le_of_ble_eq_true this
theorem VRound.vy' {P : Program} {i : Id} {args : List V} {h h' : Hp} {r : V} {lr : LoopV} (hb : h.get i = some (.loop lr)) (hst : lr.state = .ready) (hn : args.length = lr.params.size) (hp : lr.params.toList.all (fun t => Nat.blt t lr.n) = true) (hgr : h.grows h')
    (hw : ∀ l, VRound P l i lr.assign lr.body h r h' ⟨lr.n, frPar lr.params.toList (args.map (V.ren .out)) (PT.map (V.ren .out) lr.fr), h.enter, []⟩) : VY P i args h r h' := VRound.vy hb hst hn (all_lt hp) hgr hw
theorem VRoundA.vy' {P : Program} {i : Id} {args : List V} {h h' : Hp} {r : V} {lr : LoopV} (hb : h.get i = some (.loop lr)) (hst : lr.state = .ready) (hn : args.length = lr.params.size) (hp : lr.params.toList.all (fun t => Nat.blt t lr.n) = true) (hgr : h.grows h')
    (hw : ∀ l, VRoundA P l i lr.assign lr.body h r h' ⟨lr.n, frPar lr.params.toList (args.map (V.ren .out)) (PT.map (V.ren .out) lr.fr), h.enter, []⟩) : VY P i args h r h' := VRoundA.vy hb hst hn (all_lt hp) hgr hw
/-! ### How a round leaves the caller's memory -/
theorem VOut.back {h : Hp} {loc : List Blk} {iy : Id} {b0 b : Blk} {r1 r : V} (hb : h.lift iy = some b) (hr : r1 = r.ren .out) : VOut h ⟨outW (outW h.lift iy b0) iy b, loc⟩ r1 r h := by
  rw [outW_same, ← outW_id hb]
  exact VOut.same hr
theorem VOut.liftS {h h' : Hp} {loc : List Blk} {x : S} {outer : Id → Option Blk} (ho : outer = h'.lift) (hg : h.grows h') : VOut h ⟨outer, loc⟩ (.s x) (.s x) h' := by
  subst ho
  exact VOut.turn ⟨[], loc.length, [], []⟩ (loc' := []) (r1' := .s x) (TurnOk.mk' [] loc.length [] [] (OutOk.lift h') (Nat.ble_eq_true_of_le (Nat.le_refl _)) List.nodup_nil BTos.nil trivial trivial rfl) (VTo.sc rfl) (VOut.lifted (r := .s x) hg)
theorem lift_set {h : Hp} {i : Id} {b : Blk} (hi : h.get i ≠ none) : (h.set i b).lift = outW h.lift i (b.ren .out) := by
  funext j
  unfold outW
  have e : ∀ g : Hp, g.lift j = (g.get j).map (Blk.ren .out) := fun g => get_lift g [] j
  rw [e, e, Hp.get_set _ _ _ _ hi]
  split <;> rfl
theorem outW_comm {o : Id → Option Blk} {i j : Id} {a b : Blk} (hne : i ≠ j) : outW (outW o i a) j b = outW (outW o j b) i a := by
  funext k
  unfold outW
  by_cases e : k = i
  · subst e; simp only [if_neg hne, if_true]
  · simp only [if_neg e]
theorem Rnd.stop {P : Program} {iy : Id} {vs : List V} {g : Hp} {LR : LoopV} {E : X → Hp → Prop} {A : Prop} (x : X) (hx : x.jump.isNone = false) (hl : g.get iy = some (.loop LR)) (g1 : Hp) (h1 : g1.get iy ≠ none)
    (hv : VY P iy vs g (.s (.bool false)) (g1.set iy (.loop { LR with state := .done, pending := x.jump }))) (hE : E x (g1.set iy (.loop { LR with state := .done, pending := x.jump }))) :
    A ∨ ∃ g' x, x.jump.isNone = false ∧ VY P iy vs g (.s (.bool false)) g' ∧ E x g' ∧ g'.get iy = some (.loop { LR with state := .done, pending := x.jump }) :=
  .inr ⟨_, x, hx, hv, hE, (Hp.get_set g1 _ _ _ h1).trans (if_pos rfl)⟩
theorem Rnd.go {P : Program} {iy : Id} {vs : List V} {g : Hp} {LR : LoopV} {E : X → Hp → Prop} {J : Hp → Prop} (hl : g.get iy = some (.loop LR)) (g1 : Hp) (hl1 : g1.get iy = some (.loop LR))
    (hv : VY P iy vs g (.s (.bool true)) g1) (hJ : J g1) :
    (∃ g', VY P iy vs g (.s (.bool true)) g' ∧ J g' ∧ g'.get iy = some (.loop LR)) ∨ ∃ g' x, x.jump.isNone = false ∧ VY P iy vs g (.s (.bool false)) g' ∧ E x g' ∧ g'.get iy = some (.loop { LR with state := .done, pending := x.jump }) :=
  .inl ⟨g1, hv, hJ, hl1⟩
end Go.Vm

namespace Go.Vm

theorem zv {p : Prop} (h : p := by repeat' (first | exact VTo.undef | exact FrTo.leaf | refine FrTo.node ?_ ?_ ?_ | refine FrTo.none ?_ ?_ | exact VTo.sc (by first | rfl | (congr 1; omega) | (congr 1; simp; omega)) | exact VTos_dv _ _ | refine VTos.cons ?_ ?_ | exact VTos.nil | refine VTo.agg ?_ | refine VTo.tuple ?_ | refine VTo.func ?_ ?_ | exact VTo.fs | exact VTo.fp | exact VTo.nilptr | exact VTo.nilslice | exact VTo.nilfunc | exact VTo.ptr rfl | exact VTo.gl rfl | exact VTo.map rfl | exact VTo.yld rfl | exact VTo.fmMap rfl | exact VTo.fm | exact VTo.glNil' (by decide) rfl rfl | exact VTo.fsNil (by decide) | exact VTo.fsSl rfl rfl (by simp [flat_len encE_len]) | exact VTo.fpPtr rfl | exact VTo.fsGl rfl (by first | rfl | assumption | exact flat_len encI_len _ | exact flat_len encT_len _ | exact flat_len encS_len _ | exact flat_len encP_len _ | exact flat_len encL_len _ | exact flat_len encE_len _ | exact flat_len (fun _ => rfl) _ | (simp [flat_len encP_len]; done) | simp [flat_len encI_len, flat_len encS_len]))) : p := h
theorem zb {p : Prop} (h : p := by repeat' (first | exact BTos.nil | refine BTos.flat rfl rfl (by first | rfl | simp) ?_ | refine BTos.new rfl ?_ | refine BTos.dead rfl rfl ?_ | refine BTos.esE rfl rfl ?_ | refine BTos.row rfl rfl rfl (RowTo.snoc (RowTo.one rfl (by simp))) ?_ | refine BTos.cells rfl rfl rfl zv ?_)) : p := h
theorem zf {p : Prop} (h : p := by repeat' (first | exact FzAll.nil | refine FzAll.flat rfl ?_ | refine FzAll.row rfl rfl (RowTo.one rfl (by simp)) ?_)) : p := h
theorem zr {p : Prop} (h : p := by repeat' (first | exact FzAll.nil | refine FzAll.flat rfl ?_ | refine FzAll.row rfl rfl (RowTo.one rfl (by simp)) ?_ | refine FzAll.row rfl rfl (RowTo.vtos zv) ?_)) : p := h
theorem zm {p : Prop} (h : p := by first | rfl | (repeat' (first | exact MkTo.nil | refine MkTo.keep rfl ?_ | refine MkTo.drop (by decide) rfl ?_))) : p := h
theorem zs1 {T : TT} {t : TypeId} {a v : V} {h : Hp} {K : V → Prop} (k : K v) (e : vload T t a h = some v := by exact rfl) : VLd T t a h K := VLd.intro e k
theorem zs2 {n : Int} {K : Int → Prop} (k : K n) (e : -9223372036854775808 ≤ n ∧ n ≤ 9223372036854775807 := by first | omega | (dsimp only; omega)) : VArith .i64 n K := VArith.i64 e k
theorem zs3 {b : Bool} {K : Prop} (k : K) (e : b = true := by first | exact rfl | assumption | (simp; omega) | (simp; done)) : VNeed b K := VNeed.intro e k
theorem zs4 {P : Program} {t : TypeId} {i : Id} {off : Nat} {v : V} {ti : TI} {cs : List V} {h h' : Hp} {K : V → Hp → Prop} (k : K .undef h') (hTt : tiOf P t = some ti := by exact rfl) (hp : v.parts = some cs := by exact rfl) (hl : Nat.beq cs.length ti.size = true := by exact rfl) (hw : h.wrN i off cs = some h' := by exact rfl) :
    VMem P (opStore t) [.ptr i off, v] h K := VMem.store hTt hp hl hw k
theorem zs5 {a b : Option Blk} {K : Prop} (k : K) (e : a = b := by (conv => lhs; whnf); (conv => rhs; whnf); try rfl) : VSame a b K := VSame.intro e k
theorem zs6 {P : Program} {ro : Option Nat} {K : Id → Prop} {id : Nat} {ops : Array Oper} {n : Nat} {fr : Fr} {h : Hp} {marks : List Id} {Q : X → St → Prop} (cs : List (Nat × Nat))
    (hv : vopsD P (tiOf P) n ops.toList cs 0 ops.toList fr h [] fun fr h => Q .normal ⟨n, fr, h, marks⟩) (hm : P.follows .mixedOrders = true := by kernel_rfl) (hc : drawOk' ops cs = true := by kernel_rfl) : VDraw P (tiOf P) ro K id ops ⟨n, fr, h, marks⟩ Q := VDraw.go cs hm hc hv
theorem zi1 {p : Prop} [Decidable p] {A B : Prop} (h1 : p → A) (h2 : ¬ p → B) : VIte (decide p) A B := VIte.dec h1 h2
theorem zi2 {p : Prop} [Decidable p] {A B : Prop} (h1 : ¬ p → A) (h2 : p → B) : VIte (!decide p) A B := VIte.ndec h1 h2
theorem zi3 {a b : Int} {A B : Prop} (h1 : a = b → A) (h2 : a ≠ b → B) : VIte (a == b) A B := VIte.beq h1 h2
theorem zi4 {a b : Int} {A B : Prop} (h1 : a ≠ b → A) (h2 : a = b → B) : VIte (a != b) A B := VIte.bne h1 h2
theorem zi5 {b : Bool} {A B : Prop} (h1 : b = true → A) (h2 : b = false → B) : VIte b A B := VIte.intro h1 h2
end Go.Vm

namespace Go.Vm
section
variable {P : Program} {T : TT} (hT : TOk P T)
include hT
theorem appNilX {α : Type} {enc : α → List D} {t ty : TypeId} {e esz bytes : Nat} {zero : List V} {s_ : Nat} {a_ : Bool} {z_ : V} {h : Hp} {m : Nat} {l2 : List α} {x : V} (hTt : T t = some ⟨.slice e esz bytes zero, s_, a_, z_⟩)
    (hx0 : SegOf h esz x l2.length ((l2.flatMap enc).map D.v)) (hm2 : m = l2.length) (hbd : l2.length * bytes ≤ 140737488355328) (h63 : l2.length ≤ 4611686018427387904) :
    Does P (opAppend #[t, t] ty) [.nilslice, x] h (.gl h.fresh esz m) (h.push (.flat true (l2.flatMap enc))) := by
  subst hm2
  obtain ⟨hu, hp, _⟩ := slice_kind hT hTt
  refine ⟨h.grows_push _, fun σ w xs hr hxs => ?_⟩
  obtain ⟨sv, xv, rfl, hsv, hxv⟩ := VRs_two hxs
  simp only [VR] at hsv; subst hsv
  obtain ⟨hu, hp, info, z, hinfo, hsize, hbytes, hzero, hzc, hzl, hzsz⟩ := slice_kind hT hTt
  have hx := hx0
  obtain ⟨ys, hyl, hyr, hy1, hy⟩ := hx.real hr hxv
  by_cases hk0 : l2.length = 0
  · have hl0 : l2 = [] := List.eq_nil_of_length_eq_zero hk0
    subst hl0
    have hrun : (Builtin.append_ #[t, t] ty #[.slice none 0 0, xv]).run P w = .ok (.slice none 0 0) w := by
      rcases hy with ⟨rfl, _, _⟩ | ⟨ad2, c2, rfl, _, _⟩ <;> simp [Builtin.append_, run_underlying hu, sizeOf, typeInfo, hinfo, Builtin.lenOf, Builtin.firstCells, loadCells, loadCellsFrom, storeCells]
    have hle := σ.le_know h.fresh
    have hn : σ h.fresh = none := hr.fresh_none
    have hget : ∀ j, (h.push (.flat true (([] : List α).flatMap enc))).get j = if j = h.fresh then some (.flat true (([] : List α).flatMap enc)) else h.get j := fun j => Hp.get_push _ _ _
    refine ⟨σ.know h.fresh, _, w, run_valN hrun, by simp only [NextRel, VR]; exact ⟨hp, .inl ⟨rfl, .inl rfl, trivial⟩⟩, ⟨?_, ?_, ?_, ?_, ?_⟩, ⟨hle, rfl, fun _ _ h => h, Nat.le_refl _, rfl, rfl, rfl, fun _ _ _ => rfl, (fun j ej hj hn2 => by have hj : σ j = some ej := hj; rw [hn2] at hj; cases hj), ?_, ?_, ?_, ?_⟩⟩
    · intro j ej bj hj hbj
      have hj : σ j = some ej := hj
      rw [hget, if_neg (fun e1 => by rw [e1, hn] at hj; cases hj)] at hbj
      obtain ⟨h1, o, h2, h3⟩ := hr.blk j ej bj hj hbj
      exact ⟨h1, o, h2, h3.mono hle⟩
    · intro j k ej ek bj bk hne hj hk2 hbj hbk h1 h2
      have hj : σ j = some ej := hj
      have hk2 : σ k = some ek := hk2
      rw [hget, if_neg (fun e1 => by rw [e1, hn] at hj; cases hj)] at hbj
      rw [hget, if_neg (fun e1 => by rw [e1, hn] at hk2; cases hk2)] at hbk
      exact hr.apart j k ej ek bj bk hne hj hk2 hbj hbk h1 h2
    · intro j hj
      rw [hget] at hj
      split at hj
      · cases hj
      · exact hr.dom j hj
    · rintro j (rfl | hj)
      · rw [hget, if_pos rfl]; simp
      · rw [hget]
        split
        · simp
        · exact hr.nmd j hj
    · intro r o hro
      obtain ⟨g1, g2⟩ := hr.fz r o hro
      refine ⟨g1, fun j ej bj hj hbj hw => ?_⟩
      have hj : σ j = some ej := hj
      rw [hget, if_neg (fun e1 => by rw [e1, hn] at hj; cases hj)] at hbj
      exact g2 j ej bj hj hbj hw
    · intro j ej bj hj hbj hw
      have hj : σ j = some ej := hj
      rw [hget, if_neg (fun e1 => by rw [e1, hn] at hj; cases hj)] at hbj
      exact ⟨bj, hbj, hw⟩
    · intro j ej bj hj hbj hw hal
      have hj : σ j = some ej := hj
      rw [hget, if_neg (fun e1 => by rw [e1, hn] at hj; cases hj)] at hbj
      exact ⟨hj, bj, hbj, hal, hw⟩
    · intro j hj
      have hjf : j ≠ h.fresh := fun e1 => hj (by rw [e1]; exact h.get_fresh)
      exact ⟨by rw [hget, if_neg hjf]; exact hj, fun hn => hn⟩
    · rintro j hj (rfl | hq)
      · exact absurd h.get_fresh hj
      · exact hq
  · rcases hy with ⟨_, h0, _⟩ | ⟨ad, c, rfl, hnc, hcell⟩
    · exact absurd h0 hk0
    · have hrun := run_append_nil (P := P) w t ty e info z hu hinfo hzero ad l2.length c ys (by rw [hsize]; exact hyl) (cells_nil_of hyl hnc hcell) (by omega) (by omega) (by rw [hbytes]; omega)
      obtain ⟨r1, r2⟩ := grown_new hr (b' := .flat true (l2.flatMap enc)) (e := e) (esz := esz) (need := l2.length) (c := grownCap w l2.length 0 e) rfl hyr hy1 hyl hzsz (grownCap_ge w l2.length 0 e)
      refine ⟨_, _, _, run_valN hrun, ?_, r1, r2⟩
      simp only [NextRel, VR]
      exact ⟨hp, .inr ⟨_, grownCap w l2.length 0 e, 0, Sig.put_same _ _ _, grownCap_ge w l2.length 0 e, rfl, fun _ => rfl, rfl⟩⟩
end
end Go.Vm

namespace Go.Vm

structure Later (p : Prop) : Prop where
  out : p
end Go.Vm

namespace Go.Vm

theorem EsRel.modify {σ : Sig} {k v : V} {f : MapEntry → MapEntry} (hf : ∀ m, VR σ k (f m).key ∧ VR σ v (f m).val) : ∀ {es : List (V × V)} {ms : List MapEntry} {i : Nat}, es[i]? = some (k, v) → EsRel σ es ms → EsRel σ es (ms.modify i f)
  | [], ms, i, h, _ => by simp at h
  | (k', v') :: es, ms, 0, h, hr => by
    simp only [EsRel] at hr ⊢
    obtain ⟨m', ms', rfl, g1, g2, g3⟩ := hr
    simp only [List.getElem?_cons_zero, Option.some.injEq, Prod.mk.injEq] at h
    obtain ⟨rfl, rfl⟩ := h
    exact ⟨f m', ms', rfl, (hf m').1, (hf m').2, g3⟩
  | (k', v') :: es, ms, i + 1, h, hr => by
    simp only [EsRel] at hr ⊢
    obtain ⟨m', ms', rfl, g1, g2, g3⟩ := hr
    exact ⟨m', ms'.modify i f, rfl, g1, g2, EsRel.modify hf (by simpa using h) g3⟩
theorem EsRel.at {σ : Sig} {k v : V} : ∀ {es : List (V × V)} {ms : List MapEntry} {i : Nat}, es[i]? = some (k, v) → EsRel σ es ms → ∃ m, ms[i]? = some m ∧ VR σ k m.key ∧ VR σ v m.val
  | [], ms, i, h, _ => by simp at h
  | (k', v') :: es, ms, 0, h, hr => by
    simp only [EsRel] at hr
    obtain ⟨m', ms', rfl, g1, g2, g3⟩ := hr
    simp only [List.getElem?_cons_zero, Option.some.injEq, Prod.mk.injEq] at h
    obtain ⟨rfl, rfl⟩ := h
    exact ⟨m', rfl, g1, g2⟩
  | (k', v') :: es, ms, i + 1, h, hr => by
    simp only [EsRel] at hr
    obtain ⟨m', ms', rfl, g1, g2, g3⟩ := hr
    obtain ⟨m, h1, h2⟩ := EsRel.at (i := i) (by simpa using h) g3
    exact ⟨m, by simpa using h1, h2⟩
def intsV (l : List Int) : V := .agg (l.map fun n => .s (.int .i64 n))
end Go.Vm

