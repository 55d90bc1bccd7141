/- Part 4 of the proof that calendars and herds are as the given statements say. No condition. -/
import Derived.Test.YtoeendggmalcpaaBp3
set_option linter.unusedVariables false
set_option linter.unusedSimpArgs false
namespace Go.Vm

def shL (L : Nat) : Id → Id
  | .loc k => .loc (k + L)
  | .out i => .out i
inductive BareV : V → Prop
  | s (x : S) : BareV (.s x)
  | gl (k esz len : Nat) : BareV (.gl (.loc k) esz len)
  | tup (k esz len : Nat) (x : S) : BareV (.tuple [.gl (.loc k) esz len, .s x])
inductive BareB : Blk → Prop
  | flat (cs : List S) : BareB (.flat true (cs.map D.s))
  | cells (l : List V) : (∀ v ∈ l, BareV v) → BareB (.cells true l)
theorem BareB.rw : ∀ {b : Blk}, BareB b → b.rw = true
  | _, .flat _ => rfl
  | _, .cells _ _ => rfl
section
variable {σ σ' : Sig} {ρ : Id → Id}
theorem BareV.tell (hent : ∀ k e, σ' (.loc k) = some e → σ (ρ (.loc k)) = some e) (hnm : ∀ k, σ'.nm (.loc k) → σ.nm (ρ (.loc k))) {v : V} {x : Value} (hb : BareV v) (h : VR σ' v x) : VR σ (v.ren ρ) x := by
  cases hb with
  | s => simpa only [V.ren, VR] using h
  | gl k esz len =>
    simp only [V.ren, VR] at h ⊢
    obtain ⟨hp, h⟩ := h
    refine ⟨hp, ?_⟩
    rcases h with ⟨q1, q2, q3⟩ | ⟨e, cap, o, q1, q2⟩
    · exact .inl ⟨q1, hnm _ q2, q3⟩
    · exact .inr ⟨e, cap, o, hent _ _ q1, q2⟩
  | tup k esz len s =>
    simp only [V.ren, V.rens, VR, VRs] at h ⊢
    obtain ⟨a, rfl, y, ys, ha, ⟨hp, hy⟩, hz⟩ := h
    refine ⟨a, rfl, y, ys, ha, ⟨hp, ?_⟩, hz⟩
    rcases hy with ⟨q1, q2, q3⟩ | ⟨e, cap, o, q1, q2⟩
    · exact .inl ⟨q1, hnm _ q2, q3⟩
    · exact .inr ⟨e, cap, o, hent _ _ q1, q2⟩
theorem BareB.tell (hent : ∀ k e, σ' (.loc k) = some e → σ (ρ (.loc k)) = some e) (hnm : ∀ k, σ'.nm (.loc k) → σ.nm (ρ (.loc k))) {b : Blk} {e : Ent} {o : Obj} (hb : BareB b) (h : BlkRel σ' e b o) : BlkRel σ e (b.ren ρ) o := by
  cases hb with
  | flat cs =>
    obtain ⟨cur, T, f, q1, q2, q3, q4, q5⟩ := h
    refine ⟨cur, T, f, q1, q2, q3, q4, fun i v hv => ?_⟩
    obtain ⟨y, q6, q7, q8⟩ := q5 i v hv
    refine ⟨y, q6, ?_, q8⟩
    simp only [List.getElem?_map, Option.map_map, Option.map_eq_some_iff] at hv
    obtain ⟨s', _, rfl⟩ := hv
    simpa only [Function.comp, D.v, VR] using q7
  | cells l hl =>
    obtain ⟨cur, T, f, q1, q2, q3, q4, q5⟩ := h
    refine ⟨cur, T, f, q1, q2, by rw [List.length_map]; exact q3, q4, fun i v hv => ?_⟩
    dsimp only at hv
    rw [List.getElem?_map, Option.map_eq_some_iff] at hv
    obtain ⟨v0, hv0, rfl⟩ := hv
    obtain ⟨y, q6, q7, q8⟩ := q5 i v0 hv0
    exact ⟨y, q6, BareV.tell hent hnm (hl _ (List.mem_of_getElem? hv0)) q7, q8⟩
end

theorem VC.lendG {P : Program} {f : FuncId} {args : List V} {outer : Id → Option Blk} {loc : List Blk} {r : V} {blks : List Blk} (ds : List D) (fz : List (Nat × List D)) (fm : List (Nat × List D × List D))
    (h0 : FzAll ⟨[], loc.length, fz, fm⟩ loc fz) (h0' : FmAll ⟨[], loc.length, fz, fm⟩ loc fm) (hv : VTos ⟨[], loc.length, fz, fm⟩ args (D.vs ds)) (hr0 : BareV r) (hB : ∀ b ∈ blks, BareB b) (hc : VC P f (D.vs ds) Hp.bare r ⟨fun _ => none, blks⟩) :
    VC P f args ⟨outer, loc⟩ (r.ren (shL loc.length)) ⟨outer, loc ++ blks.map (Blk.ren (shL loc.length))⟩ := by
  obtain ⟨hent, _, hC⟩ := hc
  have h1 : FzOk ⟨[], loc.length, fz, fm⟩ ⟨outer, loc⟩ := ⟨fun p ds hp => h0.get p ds hp, fun p ks vs hp => h0'.get p ks vs hp⟩
  generalize hL : loc.length = L at *
  have hnewG : ∀ k, (⟨outer, loc ++ blks.map (Blk.ren (shL L))⟩ : Hp).get (.loc (k + L)) = (blks[k]?).map (Blk.ren (shL L)) := fun k => by
    show (loc ++ blks.map (Blk.ren (shL L)))[k + L]? = _
    rw [List.getElem?_append_right (by omega), List.getElem?_map, show k + L - loc.length = k by omega]
  have holdG : ∀ i, (∀ k, i ≠ .loc (k + L)) → (⟨outer, loc ++ blks.map (Blk.ren (shL L))⟩ : Hp).get i = (⟨outer, loc⟩ : Hp).get i := fun i hi => by
    cases i with
    | out j => rfl
    | loc k =>
      have : k < loc.length := by
        rcases Nat.lt_or_ge k loc.length with h | h
        · exact h
        · exact absurd (by rw [show k - L + L = k by omega]) (hi (k - L))
      show (loc ++ _)[k]? = loc[k]?
      rw [List.getElem?_append_left this]
  have hfreshG : ∀ k, (⟨outer, loc⟩ : Hp).get (.loc (k + L)) = none := fun k => List.getElem?_eq_none (by show loc.length ≤ k + L; omega)
  refine ⟨hent, fun i hi => ?_, fun σ w xs hr hxs => ?_⟩
  · rw [holdG i fun k hk => hi (by rw [hk]; exact hfreshG k)]; exact hi
  have hx2 := turn_vs hr h1 _ _ _ hv hxs
  have hx3 : VRs ⟨fun _ => none, (σ.turn ⟨[], L, fz, fm⟩ w).fz, fun _ => False, σ.lo⟩ (D.vs ds) xs := VRs.bare (σ := σ.turn ⟨[], L, fz, fm⟩ w) rfl hx2
  refine CallsIn.mono (hC _ w xs (Rel.bare hr) hx3) ?_
  rintro e w' ⟨σ', x, rfl, g1, g2, g3⟩
  have hfr : ∀ r, r < w.heap.size → w'.heap[r]? = w.heap[r]? := fun r hlt => g3.frame r hlt (fun i e b hi _ _ => by cases hi)
  have hheap : ∀ r o, w.heap[r]? = some o → w'.heap[r]? = some o := fun r o ho => by rw [hfr r (Array.getElem?_eq_some_iff.1 ho).1]; exact ho
  have hnone : ∀ k, σ (.loc (k + L)) = none := fun k => hr.dom _ (hfreshG k)
  have hnmn : ∀ k, ¬ σ.nm (.loc (k + L)) := fun k hq => hr.nmd _ hq (hfreshG k)
  have hin : ∀ k e, σ' (.loc k) = some e → ∃ b, blks[k]? = some b ∧ BareB b := fun k e he => by
    cases hk : blks[k]? with
    | none => rw [g2.dom (.loc k) hk] at he; cases he
    | some b => exact ⟨b, rfl, hB b (List.mem_of_getElem? hk)⟩
  have hnew : ∀ k e, σ' (.loc k) = some e → w.heap.size ≤ e.rid := fun k e he => by
    obtain ⟨b, hb, hbb⟩ := hin k e he
    rcases g3.wr (.loc k) e b he hb hbb.rw with h2 | ⟨j, ej, bj, h2, _⟩
    · exact h2
    · cases h2
  obtain ⟨old, hold⟩ : ∃ old : Id → Option Nat, ∀ i, (∀ k, old i = some k ↔ i = .loc (k + L)) := ⟨fun i => match i with | .loc k => if L ≤ k then some (k - L) else none | .out _ => none, fun i k => by
    cases i with
    | out j => simp
    | loc m =>
      dsimp only
      split
      · simp only [Option.some.injEq, Id.loc.injEq]; omega
      · simp only [Id.loc.injEq, reduceCtorEq, false_iff]; omega⟩
  have holdN : ∀ i, old i = none → ∀ k, i ≠ .loc (k + L) := fun i hi k hk => by rw [(hold i k).2 hk] at hi; cases hi
  have holdS : ∀ k, old (.loc (k + L)) = some k := fun k => (hold _ k).2 rfl
  let σ2 : Sig := ⟨fun i => match old i with | some k => σ' (.loc k) | none => σ i, σ.fz, fun i => (∃ k, i = .loc (k + L) ∧ σ'.nm (.loc k)) ∨ σ.nm i, σ.lo⟩
  have s2n : ∀ k, σ2 (.loc (k + L)) = σ' (.loc k) := fun k => by
    show (match old (.loc (k + L)) with | some k => σ' (.loc k) | none => σ (.loc (k + L))) = _
    rw [holdS k]
  have s2o : ∀ i, old i = none → σ2 i = σ i := fun i hi => by
    show (match old i with | some k => σ' (.loc k) | none => σ i) = _
    rw [hi]
  have hleE : ∀ i e, σ i = some e → σ2 i = some e := fun i e hi => by
    cases ho : old i with
    | none => rw [s2o i ho]; exact hi
    | some k =>
      rw [(hold i k).1 ho, hnone] at hi
      cases hi
  have hle : σ.le σ2 := ⟨hleE, fun _ _ h => h, fun _ h => .inr h⟩
  have hent2 : ∀ i e, σ2 i = some e → (∃ k, i = .loc (k + L) ∧ σ' (.loc k) = some e) ∨ (old i = none ∧ σ i = some e) := fun i e hi => by
    cases ho : old i with
    | none => rw [s2o i ho] at hi; exact .inr ⟨rfl, hi⟩
    | some k =>
      have := (hold i k).1 ho
      subst this
      rw [s2n] at hi
      exact .inl ⟨k, rfl, hi⟩
  have holdB : ∀ i b, old i = none → (⟨outer, loc ++ blks.map (Blk.ren (shL L))⟩ : Hp).get i = some b → (⟨outer, loc⟩ : Hp).get i = some b := fun i b ho hb => by rwa [holdG i (holdN i ho)] at hb
  have htE : ∀ k e, σ' (.loc k) = some e → σ2 (shL L (.loc k)) = some e := fun k e he => by
    show σ2 (.loc (k + L)) = _
    rw [s2n]; exact he
  have htN : ∀ k, σ'.nm (.loc k) → σ2.nm (shL L (.loc k)) := fun k hk => .inl ⟨k, rfl, hk⟩
  have hnewB : ∀ k b, (⟨outer, loc ++ blks.map (Blk.ren (shL L))⟩ : Hp).get (.loc (k + L)) = some b → ∃ b0, blks[k]? = some b0 ∧ b = b0.ren (shL L) := fun k b hb => by
    rw [hnewG, Option.map_eq_some_iff] at hb
    obtain ⟨b0, h1, h2⟩ := hb
    exact ⟨b0, h1, h2.symm⟩
  refine ⟨σ2, x, rfl, BareV.tell htE htN hr0 g1, ⟨fun i e b hi hb => ?_, fun i j ei ej bi bj hne hi hj hbi hbj hw hal => ?_, fun i hi => ?_, fun i hi => ?_, fun r o hro => ?_⟩, ⟨fun i e _ hi => hle i e hi, fun i _ hi => hle.nm i hi, rfl, fun _ _ h => h, fun _ _ h => .inl h, g3.size, g3.os, g3.tape, g3.output, fun r hlt _ => hfr r hlt, fun i e b hi hb hw => ?_, fun i e b hi hb hw hal => ?_, fun i _ hi => ?_, fun i _ hi hq => ?_⟩⟩
  · rcases hent2 i e hi with ⟨k, rfl, hi2⟩ | ⟨ho, hi⟩
    · obtain ⟨b0, hb0, rfl⟩ := hnewB k b hb
      obtain ⟨k1, o, k2, k3⟩ := g2.blk (.loc k) e b0 hi2 hb0
      exact ⟨k1, o, k2, BareB.tell htE htN (hB b0 (List.mem_of_getElem? hb0)) k3⟩
    · obtain ⟨k1, o, k2, k3⟩ := hr.blk i e b hi (holdB i b ho hb)
      exact ⟨Nat.lt_of_lt_of_le k1 g3.size, o, hheap _ _ k2, k3.mono hle⟩
  · rcases hent2 i ei hi with ⟨k, rfl, hi2⟩ | ⟨ho, hi⟩
    · rcases hent2 j ej hj with ⟨k', rfl, hj2⟩ | ⟨ho', hj⟩
      · obtain ⟨b0, hb0, rfl⟩ := hnewB k bi hbi
        obtain ⟨b0', hb0', rfl⟩ := hnewB k' bj hbj
        exact g2.apart (.loc k) (.loc k') ei ej b0 b0' (fun h => hne (by injection h with h; rw [h])) hi2 hj2 hb0 hb0' (by rwa [Blk.ren_rw] at hw) (by rwa [Blk.ren_alive] at hal)
      · have k1 := hnew k ei hi2
        have k2 := (hr.blk j ej bj hj (holdB j bj ho' hbj)).1
        omega
    · rcases hent2 j ej hj with ⟨k', rfl, hj2⟩ | ⟨ho', hj⟩
      · have k1 := hnew k' ej hj2
        have k2 := (hr.blk i ei bi hi (holdB i bi ho hbi)).1
        omega
      · exact hr.apart i j ei ej bi bj hne hi hj (holdB i bi ho hbi) (holdB j bj ho' hbj) hw hal
  · cases ho : old i with
    | none =>
      rw [s2o i ho]
      rw [holdG i (holdN i ho)] at hi
      exact hr.dom i hi
    | some k =>
      have := (hold i k).1 ho
      subst this
      rw [s2n]
      rw [hnewG, Option.map_eq_none_iff] at hi
      exact g2.dom (.loc k) hi
  · rcases hi with ⟨k, rfl, hi⟩ | hi
    · rw [hnewG]
      intro h
      rw [Option.map_eq_none_iff] at h
      exact g2.nmd (.loc k) hi h
    · have h2 := hr.nmd i hi
      rw [holdG i fun k hk => h2 (by rw [hk]; exact hfreshG k)]; exact h2
  · obtain ⟨k1, k2⟩ := hr.fz r o hro
    refine ⟨hheap _ _ k1, fun i e b hi hb hw => ?_⟩
    rcases hent2 i e hi with ⟨k, rfl, hi2⟩ | ⟨ho, hi⟩
    · have := hnew k e hi2
      have := (Array.getElem?_eq_some_iff.1 k1).1
      omega
    · exact k2 i e b hi (holdB i b ho hb) hw
  · rcases hent2 i e hi with ⟨k, rfl, hi2⟩ | ⟨ho, hi⟩
    · exact .inl (hnew k e hi2)
    · exact .inr ⟨i, e, b, hi, holdB i b ho hb, hw, rfl⟩
  · rcases hent2 i e hi with ⟨k, rfl, hi⟩ | ⟨ho, hi⟩
    · obtain ⟨b0, hb0, rfl⟩ := hnewB k b hb
      rw [Blk.ren_rw, (hB b0 (List.mem_of_getElem? hb0)).rw] at hw
      cases hw
    · exact ⟨i, b, hi, holdB i b ho hb, hal, hw⟩
  · have hne : ∀ k, i ≠ .loc (k + L) := fun k h0 => hi (by rw [h0]; exact hfreshG k)
    refine ⟨by rw [holdG i hne]; exact hi, fun hn => ?_⟩
    have ho : old i = none := by
      cases ho : old i with
      | none => rfl
      | some k => exact absurd ((hold i k).1 ho) (hne k)
    rw [s2o i ho]; exact hn
  · rcases hq with ⟨k, h0, _⟩ | hq
    · exact absurd (by rw [h0]; exact hfreshG k) hi
    · exact hq
end Go.Vm

namespace Go.Vm
def IterS (P : Program) (f : FuncId) (first caps : List V) (m : Nat) (ys : Nat → Option (List V)) : Prop :=
  ∀ (h : Hp) (i : Id) (I : Nat → Hp → Prop), (∀ k g, k < m → I k g → match ys k with
    | none => I (k + 1) g
    | some vs => ∃ g', VY P i vs g (.s (.bool true)) g' ∧ I (k + 1) g') → I 0 h → ∃ h', VC P f (first ++ [.yld i] ++ caps) h (.tuple []) h' ∧ I m h'
theorem blt_of {a b : Nat} (h : a < b) : Nat.blt a b = true := by rw [Nat.blt_eq]; exact h
end Go.Vm

