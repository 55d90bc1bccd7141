/- Part 4 of the proof that two base points leave no enclaves. No condition. -/
import Derived.Test.YtajnkenbhmkjaaaGreatBn3
set_option linter.unusedVariables false
set_option linter.unusedSimpArgs false
namespace Go.Vm
theorem zw {p : Prop} (h : p := by repeat' (first | refine FrTo.node ?_ ?_ ?_ | refine FrTo.none ?_ ?_ | exact FrTo.leaf | exact VTo.undef | exact VTo.sc (by first | rfl | (congr 1; omega) | (congr 1; simp; omega)) | exact VTos_dv _ _ | refine VTos.cons ?_ ?_ | exact VTos.nil | refine VTo.agg ?_ | refine VTo.tuple ?_ | refine VTo.func ?_ ?_ | exact VTo.fs | exact VTo.fp | exact VTo.nilptr | exact VTo.nilslice | exact VTo.nilfunc | exact VTo.ptr rfl | exact VTo.gl rfl | exact VTo.map rfl | exact VTo.yld rfl | exact VTo.fmMap rfl | exact VTo.fm | exact VTo.glNil' (by decide) rfl rfl | exact VTo.fsNil (by decide) | exact VTo.fsSl rfl rfl (by simp [flat_len encE_len]) | exact VTo.fpPtr rfl | exact VTo.fsGl rfl (by first | rfl | assumption | exact flat_len encI_len _ | exact flat_len encT_len _ | exact flat_len encS_len _ | exact flat_len encP_len _ | exact flat_len encL_len _ | exact flat_len encE_len _ | exact flat_len (fun _ => rfl) _ | (simp [flat_len encP_len]; done) | simp [flat_len encI_len, flat_len encS_len]))) : p := h
theorem VCode.lpC {P : Program} {ro : Option Nat} {c : Code} {n : Nat} {fr : Fr} {outer : Id → Option Blk} {loc0 : List Blk} {marks : List Id} {Q : X → St → Prop} {Y : Type} (m : Nat) (slots : Y → List (Nat × V)) (loc : Y → List Blk) (Inv : Y → Prop) (μ : Y → Nat) (x0 : Y)
    (h0 : Inv x0) (hst : frSK (slots x0) .leaf fun fr' => Retell isOut ⟨n, fr, ⟨outer, loc0⟩, marks⟩ ⟨n, fr', ⟨outer, loc x0⟩, marks⟩)
    (hb : ∀ x, Inv x → frSK (slots x) .leaf fun fr' => vcut P ro isOut m c ⟨n, fr', ⟨outer, loc x⟩, marks⟩ (fun e st' => match e with
      | .normal => LEnd n outer marks slots loc Inv μ x st'
      | .exit i => Q (.exit i) st'
      | .ret => Q .ret st')) : VCode P ro isOut (.loop c) ⟨n, fr, ⟨outer, loc0⟩, marks⟩ Q := by
  refine VCode.loopW (fun x => ⟨n, frS (slots x) .leaf, ⟨outer, loc x⟩, marks⟩) Inv μ x0 h0 (by rw [frSK_eq] at hst; exact hst) fun x hx => ?_
  have h := hb x hx
  rw [frSK_eq] at h
  refine VWp.mono (vcut_ok _ _ _ _ h) fun e st' hq => ?_
  cases e with
  | normal =>
    obtain ⟨x', h1, h2, h3⟩ := hq
    rw [frSK_eq] at h3
    exact LoopEnd.intro x' h1 h2 h3
  | exit i => exact hq
  | ret => exact hq
theorem VCut.block {P : Program} {ro : Option Nat} {K : Id → Prop} {id : Nat} {c d : Code} {st : St} {Q : X → St → Prop} (m : Nat) (h : vcut P ro K m c st (vblockQ id (vseqQ (vwp P (tiOf P) ro K d) Q))) : VCut P ro K (.seq (.block id c) d) st Q := by
  refine ⟨VWp.seq (VWp.block (VWp.mono (vcut_ok m c st _ h) fun x st' hx => ?_))⟩
  cases x with
  | normal => exact vwp_ok (tiOf_ok P) _ _ _ hx
  | exit i =>
    simp only [X.inBlock]
    simp only [vblockQ] at hx
    cases hb : Nat.beq i id with
    | true =>
      rw [if_pos (Nat.eq_of_beq_eq_true hb)]
      rw [hb] at hx
      exact vwp_ok (tiOf_ok P) _ _ _ hx
    | false =>
      rw [if_neg (Nat.ne_of_beq_eq_false hb)]
      rw [hb] at hx
      exact hx
  | ret => exact hx
theorem OutOk.outR {o : Id → Option Blk} (h : OutOk o) {i : Id} {b : Blk} (hb : ∃ c : Blk, b = c.ren .out) : OutOk (Vm.outW o i b) := by
  intro j c hc
  unfold Vm.outW at hc
  split at hc
  · cases hc; exact hb
  · exact h j c hc
theorem vops_tail {P : Program} {T : TT} (hT : TOk P T) {ro : Option Nat} {ops : Array Oper} {n : Nat} {marks : List Id} {QQ : Exit → Act → World → Prop} {σ0 : Sig} {h0 : Hp} {w0 : World} {K : Fr → Hp → Prop}
    (is2 : List Nat) (hfin : ∀ σ fr h a w, K fr h → StRel σ ⟨n, fr, h, marks⟩ a w → ExtK allIds σ0 h0 w0 σ h w → wpOpsIn (Fl ro) 0 P ops QQ is2 a w) :
    ∀ (is : List Nat) (os : List Oper), is.map (fun i => ops[i]?) = os.map some → ∀ (fr : Fr) (h : Hp) (σ : Sig) (a : Act) (w : World), vops P T n ops.toList os fr h K → StRel σ ⟨n, fr, h, marks⟩ a w → ExtK allIds σ0 h0 w0 σ h w →
      wpOpsIn (Fl ro) 0 P ops QQ (is ++ is2) a w
  | [], os, hio, fr, h, σ, a, w, hv, hs, hx => by
    have : os = [] := by cases os <;> simp at hio ⊢
    subst this
    exact hfin σ fr h a w hv hs hx
  | i :: is, [], hio, _, _, _, _, _, _, _, _ => by simp at hio
  | i :: is, o :: os, hio, fr, h, σ, a, w, hv, hs, hx => by
    simp only [List.map_cons, List.cons.injEq] at hio
    obtain ⟨hi, hio⟩ := hio
    have ih := vops_tail hT (ro := ro) is2 hfin is os hio
    simp only [List.cons_append, wpOpsIn, hi]
    have run : ∀ (fr : Fr), StRel σ ⟨n, fr, h, marks⟩ a w → vopK P T o (ev fr) h (fun v h' => vput n fr o.dst v fun fr' => vops P T n ops.toList os fr' h' K) → o.wpIn (Fl ro) 0 P a w (wpOpsIn (Fl ro) 0 P ops QQ (is ++ is2)) QQ := by
      intro fr hs hk
      obtain ⟨v, h', hk, hD⟩ := vopK_ok hT (ro := ro) hk
      refine hD.2 σ a w _ _ hs.rel (fun x => ev_ok hs.fr x) ?_
      intro σ' x w' hvx hr' hext
      have hs' : StRel σ' ⟨n, fr, h', marks⟩ a w' := ⟨hr', hs.fr.mono hext.leAll, hs.size, hs.marks.ext hext⟩
      obtain ⟨fr', hk', hs2⟩ := hs'.putO hvx hk
      exact ih fr' h' σ' _ w' hk' hs2 (hx.trans hext)
    have skip : ∀ (fr : Fr), StRel σ ⟨n, fr, h, marks⟩ a w → vput n fr o.dst (.tuple []) (fun fr' => vops P T n ops.toList os fr' h K) → wpOpsIn (Fl ro) 0 P ops QQ (is ++ is2) (a.put o.dst undef) w := by
      intro fr hs hk
      obtain ⟨fr', hk', hs2⟩ := hs.putO (x := undef) (v := .tuple []) (by simp only [VR]; exact ⟨#[], rfl, by simp [VRs]⟩) hk
      exact ih fr' h σ _ w hk' hs2 hx
    change vops1 P T n ops.toList o (vops P T n ops.toList os) fr h K at hv
    unfold vops1 at hv
    split at hv
    · rename_i hg
      have hw : Region.wanted o (yielded ops a.tmps) = true := by simp [Region.wanted, hg]
      rw [if_pos hw]
      exact run fr hs hv
    · rename_i j want hg
      split at hv
      · rename_i d hgs
        split at hv
        · rename_i b hb
          have hy := yielded_of hs hgs hb
          have hw : Region.wanted o (yielded ops a.tmps) = (b == want) := by simp [Region.wanted, hg, hy]
          rw [hw]
          have hs2 := hs.set_same hb
          cases b with
          | true =>
            have hv := hv.elim.1 rfl
            rw [Fr.setK_eq] at hv
            cases want with
            | true => rw [if_pos (by rfl)]; exact run _ hs2 hv
            | false => rw [if_neg (by simp)]; exact ⟨fun _ _ => trivial, skip _ hs2 hv⟩
          | false =>
            have hv := hv.elim.2 rfl
            rw [Fr.setK_eq] at hv
            cases want with
            | true => rw [if_neg (by simp)]; exact ⟨fun _ _ => trivial, skip _ hs2 hv⟩
            | false => rw [if_pos (by rfl)]; exact run _ hs2 hv
        · rename_i l hb
          have h1 := hs.fr d
          rw [hb] at h1
          have hy := yielded_no hgs h1
          have hw : Region.wanted o (yielded ops a.tmps) = false := by simp [Region.wanted, hg, hy]
          rw [hw, if_neg (by simp)]
          exact ⟨fun _ _ => trivial, skip _ hs hv⟩
        · exact hv.elim
      · exact hv.elim
structure RCut (P : Program) (T : TT) (all rest : List Oper) (st : St) (K : St → Prop) : Prop where
  ex : ∃ st', st'.n = st.n ∧ Retell isOut st st' ∧ vops P T st'.n all rest st'.fr st'.h fun fr h => K ⟨st'.n, fr, h, st'.marks⟩
theorem VWp.regionCut {P : Program} {T : TT} (hT : TOk P T) {ro : Option Nat} {id : Nat} {ops : Array Oper} {st : St} {Q : X → St → Prop} (m : Nat)
    (h : vops P T st.n ops.toList (ops.toList.take m) st.fr st.h fun fr h => RCut P T ops.toList (ops.toList.drop m) ⟨st.n, fr, h, st.marks⟩ fun st' => Q .normal st') : VWp P ro isOut (.region id ops false) st Q := by
  intro σ a w hs
  have hall : (List.range ops.size).map (fun i => ops[i]?) = ops.toList.map some := by
    apply List.ext_getElem?
    intro i
    simp only [List.getElem?_map]
    by_cases hi : i < ops.size
    · rw [List.getElem?_range hi]; simp [hi]
    · rw [List.getElem?_eq_none (by simp; omega), List.getElem?_eq_none (by simp; omega)]; rfl
  have h1 : ((List.range ops.size).take m).map (fun i => ops[i]?) = (ops.toList.take m).map some := by rw [List.map_take, hall, List.map_take]
  have h2 : ((List.range ops.size).drop m).map (fun i => ops[i]?) = (ops.toList.drop m).map some := by rw [List.map_drop, hall, List.map_drop]
  refine wpIn_region ?_
  rw [← List.take_append_drop m (List.range ops.size)]
  refine vops_tail hT (marks := st.marks) (σ0 := σ) (h0 := st.h) (w0 := w) _ ?_ _ _ h1 st.fr st.h σ a w h hs (ExtK.refl _ _ _ _)
  intro σ1 fr1 hp1 a1 w1 hk hs1 hx1
  obtain ⟨⟨n2, fr2, hp2, marks2⟩, hn, hR, hv⟩ := hk.ex
  obtain ⟨σ2, hs2, hx2⟩ := hR σ1 a1 w1 hs1
  refine vops_ok hT (marks := marks2) (σ0 := σ2) (h0 := hp2) (w0 := w1) ?_ _ _ h2 fr2 hp2 σ2 a1 w1 hv hs2 (ExtK.refl _ _ _ _)
  intro σ' fr h' a' w' hq hs' hx
  exact ⟨.normal, σ', _, rfl, hq, hs', ((hx1.weak fun _ _ => trivial).trans hx2).trans (hx.weak fun _ _ => trivial)⟩
theorem RCut.at {P : Program} {T : TT} {all rest : List Oper} {n : Nat} {fr : Fr} {outer : Id → Option Blk} {loc0 : List Blk} {marks marks' : List Id} {K : St → Prop} (slots : List (Nat × V)) (loc : List Blk)
    (hst : frSK slots .leaf fun fr' => Retell isOut ⟨n, fr, ⟨outer, loc0⟩, marks⟩ ⟨n, fr', ⟨outer, loc⟩, marks'⟩)
    (hb : frSK slots .leaf fun fr' => vops P T n all rest fr' ⟨outer, loc⟩ fun fr h => K ⟨n, fr, h, marks'⟩) : RCut P T all rest ⟨n, fr, ⟨outer, loc0⟩, marks⟩ K := by
  rw [frSK_eq] at hst hb
  exact ⟨⟨n, frS slots .leaf, ⟨outer, loc⟩, marks'⟩, rfl, hst, hb⟩
theorem VCut.region {P : Program} {ro : Option Nat} {id : Nat} {ops : Array Oper} {d : Code} {n : Nat} {fr : Fr} {h : Hp} {marks : List Id} {Q : X → St → Prop} (m : Nat)
    (hv : vops P (tiOf P) n ops.toList (ops.toList.take m) fr h fun fr h => RCut P (tiOf P) ops.toList (ops.toList.drop m) ⟨n, fr, h, marks⟩ fun st' => vwp P (tiOf P) ro isOut d st' Q) : VCut P ro isOut (.seq (.region id ops false) d) ⟨n, fr, h, marks⟩ Q := by
  refine ⟨VWp.seq (VWp.mono (VWp.regionCut (tiOf_ok P) (Q := fun e st' => X.rec (motive := fun _ => Prop) (vwp P (tiOf P) ro isOut d st' Q) (fun _ => False) False e) m hv) fun x st' hx => ?_)⟩
  cases x with
  | normal => exact vwp_ok (tiOf_ok P) _ _ _ hx
  | exit i => exact hx.elim
  | ret => exact hx.elim
end Go.Vm

namespace Go.Vm
theorem dats_ints (l : List Int) : V.dats ((l.flatMap encI).map D.v) = some (l.flatMap encI) := by
  induction l with
  | nil => rfl
  | cons a l ih =>
    show V.dats (.s (.int .i64 a) :: (l.flatMap encI).map D.v) = _
    simp only [V.dats, V.dat, ih]
    rfl
theorem VMkD.makeI {P : Program} {o : Oper} {ρ : Operand → V} {t e : TypeId} {l c : Operand} {bytes : Nat} {s_ : Nat} {a_ : Bool} {z_ : V} {n : Int} {K : AK → List V → Blk → Prop} (N : Nat) (hn : n = N) (ho : o.op = .makeSlice t l c) (hl : ρ l = .s (.int .i64 n)) (hc : ρ c = .s (.int .i64 n))
    (hTt : tiOf P t = some ⟨.slice e 1 bytes [.s (.int .i64 0)], s_, a_, z_⟩) (hby : Nat.ble bytes 1048576 = true) (h63 : N ≤ 134217728)
    (hK : K (.sl 1 N) (((List.replicate N (0 : Int)).flatMap encI).map D.v) (.flat true ((List.replicate N (0 : Int)).flatMap encI))) : VMkD P o ρ K := by
  subst hn
  have hbd := mul_bd hby h63
  have h1 := mkD_ok (tiOf_ok P) ho hl hc hTt (by omega) (by have h7 := Int.ofNat_le.2 hbd; rw [Int.natCast_mul] at h7; exact h7) (by omega)
  have hz : zeroAt [V.s (.int .i64 0)] 1 ((N : Int).toNat * 1) = ((List.replicate N (0 : Int)).flatMap encI).map D.v := by
    rw [Int.toNat_natCast]
    exact zeroAt_flat (enc := encI) encI_len (by decide) 0 N
  rw [hz, Int.toNat_natCast] at h1
  refine ⟨_, _, h1, ?_⟩
  have hb : mkBlk (((List.replicate N (0 : Int)).flatMap encI).map D.v) = .flat true ((List.replicate N (0 : Int)).flatMap encI) := by unfold mkBlk; rw [dats_ints]
  rw [hb]
  exact hK
end Go.Vm

namespace Go.Vm
theorem EsRel.modifySet {σ : Sig} {k v : V} {f : MapEntry → MapEntry} (hf : ∀ m, VR σ k (f m).key ∧ VR σ v (f m).val) : ∀ {es : List (V × V)} {ms : List MapEntry} {i : Nat}, EsRel σ es ms → EsRel σ (es.set i (k, v)) (ms.modify i f)
  | [], ms, i, hr => by
    simp only [EsRel] at hr
    subst hr
    cases i <;> simp [EsRel]
  | (k', v') :: es, ms, 0, hr => by
    simp only [EsRel] at hr ⊢
    obtain ⟨m', ms', rfl, g1, g2, g3⟩ := hr
    exact ⟨f m', ms', rfl, (hf m').1, (hf m').2, g3⟩
  | (k', v') :: es, ms, i + 1, hr => by
    simp only [EsRel] at hr
    obtain ⟨m', ms', rfl, g1, g2, g3⟩ := hr
    exact ⟨m', ms'.modify i f, rfl, g1, g2, EsRel.modifySet hf g3⟩
theorem does_mapSetI {P : Program} {T : TT} (hT : TOk P T) {t : TypeId} {ti : TI} {kt et : Nat} {zero : V} {sh : Sh} {i : Id} {l : Int} {u v : V} {es : List (V × V)} {h : Hp} {b : Bool} {j : Nat} (h1 : T t = some ti) (h2 : ti.kind = .map kt et zero) (h3 : eqTop P kt = some sh)
    (h4 : veqSh sh (V.s (.int .i64 l)) (V.s (.int .i64 l)) = some b) (hf : Found sh (V.s (.int .i64 l)) es (some (j, u))) (hj : es[j]? = some (V.s (.int .i64 l), u)) (hb : h.get i = some (.map es)) : Does P (opMapUpdate t) [.map i, V.s (.int .i64 l), v] h .undef (h.set i (.map (es.set j (V.s (.int .i64 l), v)))) := by
  refine ⟨h.grows_set _ _, fun σ w xs hr hx => ?_⟩
  obtain ⟨hu, _⟩ := map_kind hT h1 h2
  simp only [VRs] at hx
  obtain ⟨m, _, rfl, hm, k, _, rfl, hk, x, _, rfl, hv, rfl⟩ := hx
  simp only [VR] at hm
  obtain ⟨e, he, rfl⟩ := hm
  obtain ⟨hlt, o, ho, ms, cl, rfl, hes⟩ := hr.blk i e _ he hb
  obtain ⟨r', hfk, hfr⟩ := findKey_ok (w := w) h3 hk hes hf
  simp only [FRes] at hfr
  obtain ⟨y, rfl, hy⟩ := hfr
  obtain ⟨m0, hm0, hk0, hv0⟩ := EsRel.at hj hes
  have hm0' : ms[j]? = some m0 := by rw [← Array.getElem?_toList]; exact hm0
  have hke : m0.key = k := by simp only [VR] at hk0 hk; rw [hk0, hk]
  have hc : (Instr.checkKey false 10000 kt k).run P w = .ok () w := eqTop_check h3 hk h4
  have hg : (getObj e.rid).run P w = .ok (.map ms cl) w := by simp [getObj, Sem.run, ho]
  let o' : Obj := .map (ms.modify j fun e => { e with key := k, val := x }) cl
  have hrel : BlkRel σ e (.map (es.set j (V.s (.int .i64 l), v))) o' := ⟨_, _, rfl, by
    rw [Array.toList_modify]
    exact EsRel.modifySet (f := fun e => { e with key := k, val := x }) (fun _ => ⟨hk, hv⟩) hes⟩
  have hsz : (w.putObj e.rid o').heap.size = w.heap.size := by simp [World.putObj]
  have hsame : ∀ r, r ≠ e.rid → (w.putObj e.rid o').heap[r]? = w.heap[r]? := fun r hne => World.putObj_heap_other hne
  refine ⟨σ, .skip, w.putObj e.rid o', run_skipN ?_, by simp [NextRel], hr.upd he hb rfl (fun _ => rfl) hsz hsame (World.putObj_heap_same hlt) hrel, Ext.upd he hb rfl (fun _ => rfl) hsz rfl rfl rfl hsame⟩
  show (Instr.mapUpdate t (.map (some e.rid)) k x).run P w = _
  unfold Instr.mapUpdate
  have hset : (setObj e.rid o').run P w = .ok () (w.putObj e.rid o') := by simp [setObj, Sem.run, ho, World.putObj]
  have hks : (Instr.keyThatStays (((ms[j]?).map (·.key)).getD k) k).run P w = .ok k w := by
    have hb : Instr.sameBits 10000 k k = true := by simp only [VR] at hk; rw [hk]; simp [Instr.sameBits, S.val]
    rw [hm0']
    simp only [Option.map_some, Option.getD_some, hke, Instr.keyThatStays, hb, if_true]
    rfl
  simp only [Sem.run_bind, run_underlying hu, Result.andThen_ok, hg, hc, hfk, hks]
  exact hset
end Go.Vm

namespace Go.Vm
theorem rdN_cells {h : Hp} {i : Id} {rw : Bool} {l : List V} (hb : h.get i = some (.cells rw l)) : ∀ (n off : Nat), off + n ≤ l.length → h.rdN i off n = some ((l.drop off).take n)
  | 0, off, _ => by simp [Hp.rdN]
  | n + 1, off, hle => by
    have hk : off < l.length := by omega
    simp only [Hp.rdN, Hp.at, hb, List.getElem?_eq_getElem hk]
    rw [rdN_cells hb n (off + 1) (by omega), List.drop_eq_getElem_cons hk, List.take_succ_cons]
end Go.Vm

namespace Go.Vm
theorem VMem.appCell {P : Program} {t ty : TypeId} {e bytes : Nat} {zero : List V} {s_ : Nat} {a_ : Bool} {z_ : V} {h : Hp} {i j : Id} {n : Nat} {b : Blk} {l : List V} {v : V} {rw : Bool} {K : V → Hp → Prop} (hTt : tiOf P t = some ⟨.slice e 1 bytes zero, s_, a_, z_⟩)
    (hb : h.get i = some b) (hrow : b.row = some (true, l)) (hj : h.get j = some (.cells rw [v])) (hn : n = l.length) (hby : Nat.ble bytes 1048576 = true) (h63 : l.length ≤ 67108864)
    (hK : K (.gl h.fresh 1 (n + 1)) ((h.set i .dead).push (.cells true (l ++ [v])))) : VMem P (opAppend #[t, t] ty) [.gl i 1 n, .gl j 1 1] h K := by
  subst hn
  have hbd := mul_bd (n := l.length + 1) hby (by omega)
  refine VMem.intro (does_append_gl (b := b) (l := l) (news := [v]) (tiOf_ok P) hTt hb hrow ?_ ?_ ?_ hbd (by omega)) hK
  · simp only [SegOf]
    exact ⟨trivial, trivial, _, rw, [v], hj, rfl, by simp, by simp⟩
  · omega
  · have : List.take (l.length * 1) l = l := List.take_of_length_le (by omega)
    simp [Blk.row]
end Go.Vm

namespace Go.Vm
structure TurnO (c : TCtx) (h : Hp) (o' : Id → Option Blk) (loc' : List Blk) : Prop where
  outer : ∀ i b', o' i = some b' → ((∃ b0 : Blk, b' = b0.ren .out) ∧ h.outer i = some b') ∨ ∃ b, h.outer i = some b ∧ BTo c (some b) b'
  onone : ∀ i, o' i = none → h.outer i = none
  len : h.loc.length ≤ c.L
  nodup : c.pm.Nodup
  blks : BTos c h.loc c.pm loc'
  fz : FzOk c h
  out : ∀ (k p : Nat), c.pm[k]? = some p → ((∃ ds, c.frz p ds) ∨ ∃ ks vs, c.frm p ks vs) → loc'[k]? = some .dead
section
variable {c : TCtx} {σ : Sig} {h : Hp} {w : World} {o' : Id → Option Blk} {loc' : List Blk}

theorem TurnO.name (t : TurnO c h o' loc') (hr : Rel σ h w) {i : Id} {e : Ent} {b' : Blk} (hi : (σ.turn c w) i = some e) (hb : (⟨o', loc'⟩ : Hp).get i = some b') :
    ∃ b, h.get (c.ρ i) = some b ∧ σ (c.ρ i) = some e ∧ (b'.rw = true → b.rw = true) ∧ (b'.alive = true → b.alive = true ∧ b'.rw = b.rw) ∧ ∀ o, BlkRel σ e b o → BlkRel (σ.turn c w) e b' o := by
  have hi : σ (c.ρ i) = some e := hi
  cases i with
  | out i =>
    have hb : o' i = some b' := hb
    rcases t.outer i b' hb with ⟨⟨b0, rfl⟩, hb2⟩ | ⟨b, hb2, hto⟩
    · refine ⟨_, hb2, hi, id, fun h => ⟨h, rfl⟩, fun o hrel => ?_⟩
      exact (BlkRel_ren _ _ _ _ _).2 (BlkRel_weak ((BlkRel_ren σ .out e b0 o).1 hrel) ⟨fun _ _ h => h, fun _ _ h => turn_fz_old hr h, fun _ h => .inl h⟩)
    · obtain ⟨h1, h2, h3⟩ := BTo.ok hr t.fz hto
      exact ⟨b, hb2, hi, h1, h2, h3 e⟩
  | loc k =>
    have hb : loc'[k]? = some b' := hb
    obtain ⟨j, hj, hto⟩ := (t.blks.get).2 k b' hb
    have hρ : c.ρ (.loc k) = .loc j := by simp [TCtx.ρ, hj]
    rw [hρ] at hi ⊢
    unfold BTo1 at hto
    split at hto
    · cases hg : h.loc[j]? with
      | none => have := hr.dom (.loc j) hg; rw [this] at hi; cases hi
      | some b =>
        rw [hg] at hto
        obtain ⟨h1, h2, h3⟩ := BTo.ok hr t.fz hto
        exact ⟨b, hg, hi, h1, h2, h3 e⟩
    · rename_i hlt
      have hge : c.L ≤ j := by
        rcases Nat.lt_or_ge j c.L with h1 | h1
        · have : Nat.blt j c.L = true := by rw [Nat.blt_eq]; exact h1
          rw [this] at hlt; cases hlt
        · exact h1
      have : h.loc[j]? = none := List.getElem?_eq_none (Nat.le_trans t.len hge)
      have := hr.dom (.loc j) this; rw [this] at hi; cases hi
theorem TurnO.inj (t : TurnO c h o' loc') (hr : Rel σ h w) {i j : Id} {ei ej : Ent} (hi : σ (c.ρ i) = some ei) (hj : σ (c.ρ j) = some ej) (he : c.ρ i = c.ρ j) : i = j := by
  have key : ∀ k e, σ (c.ρ (.loc k)) = some e → ∃ p, c.pm[k]? = some p ∧ c.ρ (.loc k) = .loc p := by
    intro k e hk
    cases hp : c.pm[k]? with
    | some p => exact ⟨p, rfl, by simp [TCtx.ρ, hp]⟩
    | none =>
      exfalso
      have hρ : c.ρ (.loc k) = .loc (c.L + k) := by simp [TCtx.ρ, hp]
      rw [hρ] at hk
      have : h.loc[c.L + k]? = none := List.getElem?_eq_none (by have := t.len; omega)
      have := hr.dom (.loc (c.L + k)) this; rw [this] at hk; cases hk
  cases i with
  | out i => cases j with
    | out j => simpa [TCtx.ρ] using he
    | loc j => obtain ⟨p, _, hp⟩ := key j ej hj; rw [hp] at he; simp [TCtx.ρ] at he
  | loc i =>
    obtain ⟨p, hp1, hp⟩ := key i ei hi
    cases j with
    | out j => rw [hp] at he; simp [TCtx.ρ] at he
    | loc j =>
      obtain ⟨q, hq1, hq⟩ := key j ej hj
      rw [hp, hq] at he
      cases he
      rw [nodup_get t.nodup hp1 hq1]
theorem TurnO.fzn (t : TurnO c h o' loc') {r : Nat} {o : Obj} (hro : (σ.turn c w).fz r = some o) : σ.fz r = some o ∨ w.heap.size ≤ r ∨ ∃ j ej bj, σ j = some ej ∧ h.get j = some bj ∧ bj.rw = true ∧ ej.rid = r := by
  rcases turn_fz_any hro with ⟨p, e, hp, he, rfl, ho⟩ | ho
  · right; right
    rcases hp with ⟨ds, hp⟩ | ⟨ks, vs, hp⟩
    · obtain ⟨b, l, h1, h2, _⟩ := t.fz.row p ds hp
      exact ⟨.loc p, e, b, he, h1, Blk.row_rw h2, rfl⟩
    · obtain ⟨es, h1, _⟩ := t.fz.map p ks vs hp
      exact ⟨.loc p, e, _, he, h1, rfl, rfl⟩
  · exact .inl ho
theorem TurnO.ext (t : TurnO c h o' loc') (hr : Rel σ h w) : ExtK isOut σ h w (σ.turn c w) (⟨o', loc'⟩ : Hp) w where
  le := fun i e hk hi => by
    cases i with
    | out i => exact hi
    | loc k => exact hk.elim
  nm := fun i hk hi => by
    cases i with
    | out i => exact .inl hi
    | loc k => exact hk.elim
  lo := rfl
  fz := fun _ _ h => turn_fz_old hr h
  fzn := fun _ _ h => t.fzn h
  size := Nat.le_refl _
  os := rfl
  tape := rfl
  output := rfl
  frame := fun _ _ _ => rfl
  wr := fun i e b' hi hb hw => by
    obtain ⟨b, h1, h2, h3, _, _⟩ := t.name hr hi hb
    exact .inr ⟨_, e, b, h2, h1, h3 hw, rfl⟩
  ro := fun i e b' hi hb hw hal => by
    obtain ⟨b, h1, h2, _, h3, _⟩ := t.name hr hi hb
    obtain ⟨g1, g2⟩ := h3 hal
    exact ⟨_, b, h2, h1, g1, by rw [← g2]; exact hw⟩
  old := fun i hk hi => by
    cases i with
    | out i => exact ⟨fun h0 => hi (t.onone i h0), fun h => h⟩
    | loc k => exact hk.elim
  oldn := fun i hk hi h => by
    cases i with
    | out i =>
      rcases h with h | h
      · exact h
      · exact h.elim
    | loc k => exact hk.elim
end
theorem TurnO.mk' {outer o' : Id → Option Blk} {loc loc' : List Blk} (pm : List Nat) (L : Nat) (fz : List (Nat × List D)) (ho : ∀ i b', o' i = some b' → ((∃ b0 : Blk, b' = b0.ren .out) ∧ outer i = some b') ∨ ∃ b, outer i = some b ∧ BTo ⟨pm, L, fz, []⟩ (some b) b') (hn0 : ∀ i, o' i = none → outer i = none) (hl : Nat.ble loc.length L = true) (hn : pm.Nodup)
    (hb : BTos ⟨pm, L, fz, []⟩ loc pm loc') (h1 : FzAll ⟨pm, L, fz, []⟩ loc fz) (h3 : outsOk fz [] pm loc' = true) : TurnO ⟨pm, L, fz, []⟩ ⟨outer, loc⟩ o' loc' :=
  ⟨ho, hn0, Nat.le_of_ble_eq_true hl, hn, hb, ⟨fun p ds hp => h1.get p ds hp, fun p ks vs hp => by cases hp⟩, fun k p hk hp => outsOk_get h3 hb.get.1 k p hk (by
    rcases hp with ⟨ds, hp⟩ | ⟨ks, vs, hp⟩
    · exact .inl (assoc_hasKey hp)
    · exact .inr (assoc_hasKey hp))⟩
end Go.Vm

namespace Go.Vm
theorem VCode.lpoC {P : Program} {ro : Option Nat} {c : Code} {n : Nat} {fr : Fr} {outer0 : Id → Option Blk} {loc0 : List Blk} {marks marks0 : List Id} {Q : X → St → Prop} {Y : Type} (m : Nat) (slots : Y → List (Nat × V)) (outer : Y → Id → Option Blk) (loc : Y → List Blk) (Inv : Y → Prop) (μ : Y → Nat) (x0 : Y)
    (h0 : Inv x0) (hst : frSK (slots x0) .leaf fun fr' => Retell isOut ⟨n, fr, ⟨outer0, loc0⟩, marks0⟩ ⟨n, fr', ⟨outer x0, loc x0⟩, marks⟩)
    (hb : ∀ x, Inv x → frSK (slots x) .leaf fun fr' => vcut P ro isOut m c ⟨n, fr', ⟨outer x, loc x⟩, marks⟩ (fun e st' => match e with
      | .normal => LEndO n marks slots outer loc Inv μ x st'
      | .exit i => Q (.exit i) st'
      | .ret => Q .ret st')) : VCode P ro isOut (.loop c) ⟨n, fr, ⟨outer0, loc0⟩, marks0⟩ Q := by
  refine VCode.loopW (fun x => ⟨n, frS (slots x) .leaf, ⟨outer x, loc x⟩, marks⟩) Inv μ x0 h0 (by rw [frSK_eq] at hst; exact hst) fun x hx => ?_
  have h := hb x hx
  rw [frSK_eq] at h
  refine VWp.mono (vcut_ok _ _ _ _ h) fun e st' hq => ?_
  cases e with
  | normal =>
    obtain ⟨x', h1, h2, h3⟩ := hq
    rw [frSK_eq] at h3
    exact LoopEnd.intro x' h1 h2 h3
  | exit i => exact hq
  | ret => exact hq
end Go.Vm

namespace Go.Vm
theorem iterN_seq {P : Program} {i : Id} {ys : Nat → Option (List V)} {h : Hp} {I : Nat → Hp → Prop} {E : Hp → Prop} : ∀ (m : Nat), (∀ k g, k < m → I k g → match ys k with
    | none => I (k + 1) g
    | some vs => (∃ g', VY P i vs g (.s (.bool true)) g' ∧ I (k + 1) g') ∨ ∃ g', VY P i vs g (.s (.bool false)) g' ∧ E g') → I 0 h →
    ∃ (s : Nat) (g : Nat → Hp), g 0 = h ∧ s ≤ m ∧ (∀ k, k < s → (ys k = none ∧ g (k + 1) = g k) ∨ ∃ vs, ys k = some vs ∧ VY P i vs (g k) (.s (.bool true)) (g (k + 1))) ∧
      ((s = m ∧ I m (g m)) ∨ (s < m ∧ ∃ vs g', ys s = some vs ∧ VY P i vs (g s) (.s (.bool false)) g' ∧ E g'))
  | 0, _, h0 => ⟨0, fun _ => h, rfl, Nat.le_refl _, fun k hk => absurd hk (Nat.not_lt_zero _), .inl ⟨rfl, h0⟩⟩
  | m + 1, hs, h0 => by
    obtain ⟨s, g, g0, hsm, g1, g2⟩ := iterN_seq m (fun k g hk hi => hs k g (by omega) hi) h0
    rcases g2 with ⟨rfl, hI⟩ | ⟨hlt, vs, g', a, b, c⟩
    · have := hs s (g s) (Nat.lt_succ_self _) hI
      have ext : ∀ gn : Hp, ∃ g2 : Nat → Hp, (∀ k, k ≤ s → g2 k = g k) ∧ g2 (s + 1) = gn := fun gn => ⟨fun k => if k = s + 1 then gn else g k, fun k hk => by simp only [if_neg (show ¬ k = s + 1 by omega)], by simp⟩
      cases hy : ys s with
      | none =>
        rw [hy] at this
        obtain ⟨g2, e1, e2⟩ := ext (g s)
        refine ⟨s + 1, g2, by rw [e1 0 (Nat.zero_le _)]; exact g0, Nat.le_refl _, fun k hk => ?_, .inl ⟨rfl, by rw [e2]; exact this⟩⟩
        rcases Nat.lt_or_ge k s with h1 | h1
        · rw [e1 k (by omega), e1 (k + 1) (by omega)]; exact g1 k h1
        · obtain rfl : k = s := by omega
          rw [e1 k (Nat.le_refl _), e2]; exact .inl ⟨hy, rfl⟩
      | some vs =>
        rw [hy] at this
        rcases this with ⟨g', a, b⟩ | ⟨g', a, b⟩
        · obtain ⟨g2, e1, e2⟩ := ext g'
          refine ⟨s + 1, g2, by rw [e1 0 (Nat.zero_le _)]; exact g0, Nat.le_refl _, fun k hk => ?_, .inl ⟨rfl, by rw [e2]; exact b⟩⟩
          rcases Nat.lt_or_ge k s with h1 | h1
          · rw [e1 k (by omega), e1 (k + 1) (by omega)]; exact g1 k h1
          · obtain rfl : k = s := by omega
            rw [e1 k (Nat.le_refl _), e2]; exact .inr ⟨vs, hy, a⟩
        · exact ⟨s, g, g0, Nat.le_succ _, g1, .inr ⟨Nat.lt_succ_self _, vs, g', hy, a, b⟩⟩
    · exact ⟨s, g, g0, by omega, g1, .inr ⟨by omega, vs, g', a, b, c⟩⟩
def IterS (P : Program) (f : FuncId) (first caps : List V) (m : Nat) (ys : Nat → Option (List V)) : Prop :=
  ∀ (h : Hp) (i : Id) (I : Nat → Hp → Prop), (∀ k g, k < m → I k g → match ys k with
    | none => I (k + 1) g
    | some vs => ∃ g', VY P i vs g (.s (.bool true)) g' ∧ I (k + 1) g') → I 0 h → ∃ h', VC P f (first ++ [.yld i] ++ caps) h (.tuple []) h' ∧ I m h'
theorem iterS_seq {P : Program} {i : Id} {ys : Nat → Option (List V)} {h : Hp} {I : Nat → Hp → Prop} {m : Nat} (hs : ∀ k g, k < m → I k g → match ys k with
    | none => I (k + 1) g
    | some vs => ∃ g', VY P i vs g (.s (.bool true)) g' ∧ I (k + 1) g') (h0 : I 0 h) :
    ∃ g : Nat → Hp, g 0 = h ∧ (∀ k, k < m → (ys k = none ∧ g (k + 1) = g k) ∨ ∃ vs, ys k = some vs ∧ VY P i vs (g k) (.s (.bool true)) (g (k + 1))) ∧ I m (g m) := by
  obtain ⟨s, g, g0, hsm, g1, g2⟩ := iterN_seq (P := P) (i := i) (ys := ys) (I := I) (E := fun _ => False) m (fun k g hk hi => by
    have := hs k g hk hi
    revert this
    cases ys k with
    | none => exact fun h => h
    | some vs => exact fun h => .inl h) h0
  rcases g2 with ⟨rfl, hI⟩ | ⟨_, _, _, _, _, hF⟩
  · exact ⟨g, g0, g1, hI⟩
  · exact hF.elim
theorem VCode.iterS {P : Program} {g : Operand} {ps : Array Tmp} {assign body : Code} {n : Nat} {fr : Fr} {h : Hp} {marks : List Id} {Q : X → St → Prop} {f : FuncId} {first caps : List V} (m : Nat) (ys : Nat → Option (List V)) (J : Nat → Hp → Prop) (LR : LoopV) (iy : Id)
    (hg : ev fr g = .func (.func f) first caps) (hit : IterS P f first caps m ys) (hLR : LR = { state := .ready, pending := none, n, fr, params := ps, assign, body, mark := h.fresh }) (hiy : iy = (h.push .mark).fresh)
    (h0 : J 0 ((h.push .mark).push (.loop LR)))
    (hskip : ∀ k g, k < m → ys k = none → J k g → J (k + 1) g)
    (hr : ∀ k g vs, k < m → ys k = some vs → J k g → g.get iy = some (.loop LR) → ∃ g', VY P iy vs g (.s (.bool true)) g' ∧ J (k + 1) g' ∧ g'.get iy = some (.loop LR))
    (hq : ∀ g, J m g → g.get iy = some (.loop LR) → Told Q .normal ⟨n, fr, g.set iy (.loop { LR with state := .exhausted }), h.fresh :: marks⟩) : VCode P none isOut (.rangeFunc g ps assign body) ⟨n, fr, h, marks⟩ Q := by
  have hfr : ((h.push .mark).push (.loop LR)).get iy = some (.loop LR) := by rw [hiy, Hp.get_push, if_pos rfl]
  obtain ⟨h2, hv, hj, hl⟩ := hit ((h.push .mark).push (.loop LR)) iy (fun j g => J j g ∧ g.get iy = some (.loop LR)) (fun k g hk hJ => by
    cases hy : ys k with
    | none => exact ⟨hskip k g hk hy hJ.1, hJ.2⟩
    | some vs =>
      obtain ⟨g', k1, k2, k3⟩ := hr k g vs hk hy hJ.1 hJ.2
      exact ⟨g', k1, k2, k3⟩) ⟨h0, hfr⟩
  subst hiy
  refine VCode.intro (VWp.retell_post (Q' := Told Q) ?_ fun x st' hst => hst)
  refine (VWp.rangeFunc (lr := LR) (h2 := h2) (r := .tuple []) (f := f) (first := first) (caps := caps) hg (by subst hLR; exact hv) hl (by rw [hLR]; simp) ?_)
  have := hq h2 hj hl
  rw [hLR] at this ⊢
  exact this
theorem blt_of {a b : Nat} (h : a < b) : Nat.blt a b = true := by rw [Nat.blt_eq]; exact h
theorem outer_fix1 {o : Vm.Id → Option Blk} {iy i1 : Vm.Id} {b0 b b1 : Blk} (h : o iy = some b) (n1 : iy ≠ i1) : outW (outW (outW o iy b0) i1 b1) iy b = outW o i1 b1 := by
  funext j
  unfold outW
  by_cases e : j = iy
  · subst e; rw [if_pos rfl, if_neg n1, h]
  · rw [if_neg e, if_neg e]
theorem outer_fix3 {o : Vm.Id → Option Blk} {iy i1 i2 i3 : Vm.Id} {b0 b b1 b2 b3 : Blk} (h : o iy = some b) (n1 : iy ≠ i1) (n2 : iy ≠ i2) (n3 : iy ≠ i3) : outW (outW (outW (outW (outW o iy b0) i1 b1) i2 b2) i3 b3) iy b = outW (outW (outW o i1 b1) i2 b2) i3 b3 := by
  funext j
  unfold outW
  by_cases e : j = iy
  · subst e; rw [if_pos rfl, if_neg n3, if_neg n2, if_neg n1, h]
  · rw [if_neg e, if_neg e]
theorem grows_set2 {h : Hp} {a b : Id} {A B : Blk} : h.grows ((h.set a A).set b B) := fun i hi => Hp.grows_set _ _ _ i (Hp.grows_set _ _ _ i hi)
end Go.Vm

namespace Go.Vm
theorem Later.lit {P : Program} {T : TT} {n : Nat} {all rest : List Oper} {o : Oper} {fr : Fr} {h : Hp} {K : Fr → Hp → Prop} (k : AK) (cs : List V) (hg : o.guard = none) (hp : vpure T o (ev fr) = .no) (ha : valloc T o (ev fr) = some (k, cs))
    (hk : (h.push (mkBlk cs)).forceK fun h' => vput n fr o.dst (k.mk h.fresh) fun fr' => vops P T n all rest fr' h' K) : Later (vops P T n all (o :: rest) fr h K) := by
  refine ⟨?_⟩
  show vops1 P T n all o (fun fr h K => vops P T n all rest fr h K) fr h K
  unfold vops1
  simp only [hg, vopK, hp, ha]
  exact hk
theorem Later.blk {P : Program} {T : TT} {n : Nat} {all rest : List Oper} {o : Oper} {fr : Fr} {h : Hp} {K : Fr → Hp → Prop} (k : AK) (ds : List D) (hg : o.guard = none) (hp : vpure T o (ev fr) = .no) (ha : valloc T o (ev fr) = some (k, ds.map D.v))
    (hd : ∀ d ∈ ds, d.v.dat = some d) (hk : (h.push (.flat true ds)).forceK fun h' => Later (vput n fr o.dst (k.mk h.fresh) fun fr' => vops P T n all rest fr' h' K)) : Later (vops P T n all (o :: rest) fr h K) := by
  refine Later.lit k (ds.map D.v) hg hp ha ?_
  have e : ∀ l : List D, (∀ d ∈ l, d.v.dat = some d) → V.dats (l.map D.v) = some l := by
    intro l
    induction l with
    | nil => intro _; rfl
    | cons d l ih =>
      intro h
      rw [List.map_cons, V.dats, h d List.mem_cons_self, ih fun x hx => h x (List.mem_cons_of_mem _ hx)]
  have e2 : mkBlk (ds.map D.v) = .flat true ds := by unfold mkBlk; rw [e ds hd]
  rw [e2]
  rw [Hp.forceK_eq] at hk ⊢
  exact hk.out
theorem Later.val {P : Program} {T : TT} {n d : Nat} {all rest : List Oper} {o : Oper} {fr : Fr} {h : Hp} {K : Fr → Hp → Prop} (v : V) (hg : o.guard = none) (hp : vpure T o (ev fr) = .val v) (hd : o.dst = some d) (hlt : Nat.blt d n = true)
    (hk : fr.setK d v fun fr' => Later (vops P T n all rest fr' h K)) : Later (vops P T n all (o :: rest) fr h K) := by
  refine ⟨?_⟩
  show vops1 P T n all o (fun fr h K => vops P T n all rest fr h K) fr h K
  unfold vops1
  simp only [hg, vopK, hp]
  unfold vput
  simp only [hd, hlt]
  rw [V.forceK_eq, Fr.setK_eq]
  rw [Fr.setK_eq] at hk
  exact hk.out
theorem Later.go {p : Prop} (h : p) : Later p := ⟨h⟩
end Go.Vm

