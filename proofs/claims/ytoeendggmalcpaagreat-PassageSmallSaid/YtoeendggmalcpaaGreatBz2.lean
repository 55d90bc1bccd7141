/- Part 2 of the proof that small nets are as the given statement says. No condition. -/
import Derived.Test.YtoeendggmalcpaaGreatBz1
set_option linter.unusedVariables false
set_option linter.unusedSimpArgs false
namespace Go.Vm
open Classical

/-! ### What an operation looks at -/

def opnds (o : Oper) : List Operand:=match o.op with
  | .move x|.assign x|.box _ x|.load _ x|.nilCheck x|.unOp _ _ x|.convert _ _ x|.fieldAddr _ x _|.field _ x _|.extract x _=>[x]
  | .pick c a b=>[c,a,b]
  | .build _ ps|.buildSlice _ _ ps=>ps.toList.map (·.2)
  | .store _ a v|.binOp _ _ a v _|.makeSlice _ a v|.indexAddr _ a v|.index _ a v|.lookup _ a v _=>[a,v]
  | .makeFunc _ first captured=>first.toList ++ captured.toList
  | .slice _ x none none none=>[x]
  | .slice _ x (some l) none none=>[x,l]
  | .slice _ x none (some l) none=>[x,l]
  | .slice _ x (some l) (some m) none=>[x,l,m]
  | .mapUpdate _ m k v=>[m,k,v]
  | .alloc _=>[]
  | .call c=>match c.callee with
    | .value f=>f :: c.args.toList
    | .builtin _=>c.args.toList
    | _=>c.operands.toList
  | op=>op.operands.toList
theorem opnds_sub (o : Oper) : ∀ x ∈ opnds o,x ∈ o.op.operands:=by
  intro x hx
  unfold opnds at hx
  split at hx <;> rename_i ho <;> (try rw [ho]) <;> simp only [Op.operands] <;> (try (simp at hx ⊢;exact hx)) <;> (try (simp at hx ⊢;done))
  · split at hx <;> rename_i hc
    · simp only [Call.operands,hc];simpa using hx
    · simp only [Call.operands,hc];simpa using hx
    · simpa using hx
  · have h2 : x ∈ o.op.operands:=by simpa using hx
    simpa only [Op.operands] using h2
def isTmp (t : Nat) : Operand → Bool
  | .tmp d=>Nat.beq d t
  | _=>false
def evT (o : Oper) (fr : Fr) (x : Operand) : V:=match x with
  | .tmp t=>match (opnds o).any (isTmp t) with
    | true=>fr.at t
    | false=>.undef
  | x=>ev fr x
theorem looks_of {ops : Array Oper} {o : Oper} {t : Nat} (h : (opnds o).any (isTmp t) = true) : t ∈ o.looksAt ops:=by
  rw [List.any_eq_true] at h
  obtain ⟨x,hx,ht⟩:=h
  cases x <;> simp [isTmp] at ht
  subst ht
  exact List.mem_append_left _ (List.mem_filterMap.2 ⟨.tmp _,by simpa using opnds_sub o _ hx,rfl⟩)
theorem evT_ok {σ : Sig} {ops : Array Oper} {o : Oper} {fr : Fr} {a : Act} (h : ∀ t ∈ o.looksAt ops,VR σ (fr.at t) (a.tmps.getD t undef)) (x : Operand) : VR σ (evT o fr x) (a.eval x):=by
  cases x with
  | tmp t =>
    simp only [evT]
    split
    · rename_i hx;exact h t (looks_of hx)
    · simp [VR]
  | const v=>exact VR_ofValue σ 4 v
  | global g=>simp [evT,ev,VR]
  | func f=>simp [evT,ev,VR,VRs,Act.eval]
/-! ### Records of what the order of the text comes to -/

inductive Kd where
  | lite
  | load (β : Id)
  | alloc (cs : List V)
  | glob
structure Rec where
  o : Oper
  run : Bool
  kd : Kd
  v : V
  fr : Fr
  h : Hp
  h' : Hp
def PureOk (P : Program) (o : Oper) (ρv : Operand → V) (v : V) : Prop :=
  (∀ c,o.op ≠ .defer c) ∧ ∀ (σ : Sig) (w : World) (ρ : Operand → Value),FzIn σ w → (∀ x,VR σ (ρv x) (ρ x)) → ∃ x,(execOp ρ o).run P w = .ok (.value x) w ∧ VR σ v x
def LdOk (P : Program) (o : Oper) (ρv : Operand → V) (β : Id) (b : Option Blk) (v : V) : Prop :=
  (∀ c,o.op ≠ .defer c) ∧ ∀ (σ : Sig) (w : World) (ρ : Operand → Value),(∀ e bl,σ β = some e → b = some bl → e.rid < w.heap.size ∧ ∃ ob,w.heap[e.rid]? = some ob ∧ BlkRel σ e bl ob) →
    (∀ x,VR σ (ρv x) (ρ x)) → ∃ x,(execOp ρ o).run P w = .ok (.value x) w ∧ VR σ v x
def RecOk (P : Program) (ro : Option Nat) (r : Rec) : Prop :=
  match r.run with
  | false=>r.kd = .lite ∧ r.v = .tuple [] ∧ r.h' = r.h
  | true=>match r.kd with
    | .lite=>PureOk P r.o (evT r.o r.fr) r.v ∧ r.h' = r.h
    | .load β=>LdOk P r.o (evT r.o r.fr) β (r.h.get β) r.v ∧ r.h' = r.h
    | .alloc cs=>∃ k,AllocOk P r.o (evT r.o r.fr) k cs ∧ r.v = k.mk r.h.fresh ∧ r.h' = r.h.push (mkBlk cs)
    | .glob=>OpDoes P ro r.o (evT r.o r.fr) r.h r.v r.h'
def WantOk (ops : Array Oper) (r : Rec) : Prop :=
  match r.o.guard with
  | none=>r.run = true
  | some (j,want)=>∃ d,gslot ops.toList j = some d ∧ ((∃ b,r.fr.at d = .s (.bool b) ∧ r.run = (b == want)) ∨ ∃ l,r.fr.at d = .tuple l ∧ r.run = false)
def hatOf (recs : List Rec) (hN : Hp) (j : Nat) : Hp:=match recs[j]? with|some r=>r.h|none=>hN
def fatOf (recs : List Rec) (frN : Fr) (j : Nat) : Fr:=match recs[j]? with|some r=>r.fr|none=>frN
structure Tc (P : Program) (ro : Option Nat) (ops : Array Oper) (n : Nat) (recs : List Rec) (hN : Hp) (frN : Fr) (D : Nat → Nat → Prop) : Prop where
  len : recs.length = ops.size
  op : ∀ (j : Nat) (r : Rec),recs[j]? = some r → ops[j]? = some r.o
  hs : ∀ (j : Nat) (r : Rec),recs[j]? = some r → hatOf recs hN (j + 1) = r.h'
  fs : ∀ (j : Nat) (r : Rec),recs[j]? = some r → ∀ x,(fatOf recs frN (j + 1)).at x = if r.o.dst = some x then r.v else r.fr.at x
  dst : ∀ (j : Nat) (r : Rec) (x : Nat),recs[j]? = some r → r.o.dst = some x → x < n
  ok : ∀ (j : Nat) (r : Rec),recs[j]? = some r → RecOk P ro r
  want : ∀ (j : Nat) (r : Rec),recs[j]? = some r → WantOk ops r
  back : ∀ (j : Nat) (o : Oper) (e : Edge),ops[j]? = some o → e ∈ o.after → Region.binds .any e = true → e.on < j ∧ D e.on j
  clo : ∀ i j,D i j → i < j ∧ ∃ (o : Oper) (e : Edge),ops[j]? = some o ∧ e ∈ o.after ∧ Region.binds .any e = true ∧ (i = e.on ∨ D i e.on)
  apart : ∀ (i j : Nat) (oi oj : Oper),i < j → ops[i]? = some oi → ops[j]? = some oj → ¬ D i j → oi.apart ops oj = true
  globs : ∀ (i j : Nat) (ri rj : Rec),i < j → recs[i]? = some ri → recs[j]? = some rj → ri.kd = .glob → rj.kd = .glob → D i j
  c1 : ∀ (i j : Nat) (ri rj : Rec) (β : Id),i < j → recs[i]? = some ri → recs[j]? = some rj → ¬ D i j → ri.kd = .glob → rj.kd = .load β → ri.h'.get β = ri.h.get β
  c2 : ∀ (i j : Nat) (ri rj : Rec) (β : Id),i < j → recs[i]? = some ri → recs[j]? = some rj → ¬ D i j → ri.kd = .load β → rj.kd = .glob → rj.h'.get β = rj.h.get β
  c3 : ∀ (i j : Nat) (ri rj : Rec) (cs : List V),i < j → recs[i]? = some ri → recs[j]? = some rj → ¬ D i j → ri.kd = .alloc cs → rj.kd = .glob → rj.h'.get ri.h.fresh = rj.h.get ri.h.fresh
section
variable {P : Program} {ro : Option Nat} {ops : Array Oper} {n : Nat} {recs : List Rec} {hN : Hp} {frN : Fr} {D : Nat → Nat → Prop}

theorem hat_rec {j : Nat} {r : Rec} (h : recs[j]? = some r) : hatOf recs hN j = r.h:=by simp [hatOf,h]
theorem fat_rec {j : Nat} {r : Rec} (h : recs[j]? = some r) : fatOf recs frN j = r.fr:=by simp [fatOf,h]
def Cr (recs : List Rec) (i : Id) (a : Nat) : Prop:=∃ r cs,recs[a]? = some r ∧ r.kd = .alloc cs ∧ i = r.h.fresh
def Fix (recs : List Rec) (hN : Hp) (k : Nat) (i : Id) : Prop:=(hatOf recs hN (k + 1)).get i = (hatOf recs hN k).get i
def dm (recs : List Rec) (hN : Hp) (j : Nat) : Id → Prop:=fun i=>(hatOf recs hN j).get i ≠ none
theorem fix_end {k : Nat} (hk : recs[k]? = none) (i : Id) : Fix recs hN k i:=by
  have : recs[k + 1]? = none:=by rw [List.getElem?_eq_none_iff] at hk ⊢;omega
  simp [Fix,hatOf,hk,this]
theorem Tc.fix (T : Tc P ro ops n recs hN frN D) {k : Nat} {r : Rec} (hk : recs[k]? = some r) (hg : r.kd ≠ .glob) {i : Id} (ha : ∀ cs,r.kd = .alloc cs → i ≠ r.h.fresh) : Fix recs hN k i:=by
  unfold Fix
  rw [T.hs k r hk,hat_rec hk]
  have h:=T.ok k r hk
  unfold RecOk at h
  split at h
  · rw [h.2.2]
  · split at h
    · rw [h.2]
    · rw [h.2]
    · rename_i cs hkd
      obtain ⟨_,_,_,h2⟩:=h
      rw [h2,Hp.get_push,if_neg (ha _ hkd)]
    · rename_i hkd;exact absurd hkd hg
theorem Tc.alloc_get (T : Tc P ro ops n recs hN frN D) {k : Nat} {r : Rec} {cs : List V} (hk : recs[k]? = some r) (ha : r.kd = .alloc cs) : (hatOf recs hN (k + 1)).get r.h.fresh = some (mkBlk cs):=by
  rw [T.hs k r hk]
  have h:=T.ok k r hk
  unfold RecOk at h
  split at h
  · rw [ha] at h;simp at h
  · rw [ha] at h
    obtain ⟨_,_,_,h2⟩:=h
    rw [h2,Hp.get_push,if_pos rfl]
theorem Tc.grow1 (T : Tc P ro ops n recs hN frN D) (k : Nat) (i : Id) (hi : dm recs hN k i) : dm recs hN (k + 1) i:=by
  unfold dm at hi ⊢
  cases hk : recs[k]? with
  | none=>rw [fix_end hk i];exact hi
  | some r =>
    by_cases hg : r.kd = .glob
    · have h:=T.ok k r hk
      unfold RecOk at h
      rw [hg] at h
      split at h
      · simp at h
      · rw [T.hs k r hk]
        rw [hat_rec hk] at hi
        exact h.1 i hi
    · by_cases ha : ∃ cs,r.kd = .alloc cs ∧ i = r.h.fresh
      · obtain ⟨cs,h1,rfl⟩:=ha
        rw [T.alloc_get hk h1];simp
      · rw [T.fix hk hg (fun cs h1 h2=>ha ⟨cs,h1,h2⟩)];exact hi
theorem Tc.grow (T : Tc P ro ops n recs hN frN D) {p q : Nat} (hpq : p ≤ q) {i : Id} (hi : dm recs hN p i) : dm recs hN q i:=by
  induction hpq with
  | refl=>exact hi
  | step _ ih=>exact T.grow1 _ i ih
theorem dm_loc {j k : Nat} : dm recs hN j (.loc k) ↔ k < (hatOf recs hN j).loc.length:=by
  unfold dm
  simp only [Hp.get,ne_eq,List.getElem?_eq_none_iff]
  omega
theorem Tc.len_mono (T : Tc P ro ops n recs hN frN D) {p q : Nat} (hpq : p ≤ q) : (hatOf recs hN p).loc.length ≤ (hatOf recs hN q).loc.length:=by
  rcases Nat.lt_or_ge (hatOf recs hN q).loc.length (hatOf recs hN p).loc.length with h|h
  · have h1 : dm recs hN p (.loc (hatOf recs hN q).loc.length):=dm_loc.2 h
    have h2:=dm_loc.1 (T.grow hpq h1)
    omega
  · exact h
theorem Cr.eq {i : Id} {a : Nat} (h : Cr recs i a) : i = .loc (hatOf recs hN a).loc.length:=by
  obtain ⟨r,cs,h1,_,rfl⟩:=h
  rw [hat_rec h1];rfl
theorem Tc.cr_after (T : Tc P ro ops n recs hN frN D) {i : Id} {a p : Nat} (h : Cr recs i a) (hp : a + 1 ≤ p) : dm recs hN p i:=by
  refine T.grow hp ?_
  obtain ⟨r,cs,h1,h2,rfl⟩:=h
  unfold dm;rw [T.alloc_get h1 h2];simp
theorem Tc.cr_before (T : Tc P ro ops n recs hN frN D) {i : Id} {a p : Nat} (h : Cr recs i a) (hp : p ≤ a) : ¬ dm recs hN p i:=by
  rw [h.eq (hN:=hN),dm_loc]
  have:=T.len_mono hp
  omega
theorem Tc.cr_uniq (T : Tc P ro ops n recs hN frN D) {i : Id} {a b : Nat} (h : Cr recs i a) (k : Cr recs i b) : a = b:=by
  rcases Nat.lt_trichotomy a b with h1|h1|h1
  · exact absurd (T.cr_after h h1) (T.cr_before k (Nat.le_refl _))
  · exact h1
  · exact absurd (T.cr_after k h1) (T.cr_before h (Nat.le_refl _))
theorem fix_chain {i : Id} {p q : Nat} (hpq : p ≤ q) (h : ∀ k,p ≤ k → k < q → Fix recs hN k i) : (hatOf recs hN q).get i = (hatOf recs hN p).get i:=by
  induction hpq with
  | refl=>rfl
  | @step m hm ih=>rw [show (hatOf recs hN (m + 1)).get i = _ from h m hm (Nat.lt_succ_self _),ih fun k h1 h2=>h k h1 (by omega)]
theorem Tc.fixed (T : Tc P ro ops n recs hN frN D) {i : Id} {k : Nat} (hg : ∀ r,recs[k]? = some r → r.kd = .glob → Fix recs hN k i) (ha : ¬ Cr recs i k) : Fix recs hN k i:=by
  cases hk : recs[k]? with
  | none=>exact fix_end hk i
  | some r =>
    by_cases h1 : r.kd = .glob
    · exact hg r hk h1
    · exact T.fix hk h1 fun cs h2 h3=>ha ⟨r,cs,hk,h2,h3⟩
/-! ### What is known when these operations have run -/

noncomputable def gS (recs : List Rec) (hN : Hp) (S : Nat → Prop) (G : Nat) : Id → Option Blk:=fun i =>
  if h : ∃ a,Cr recs i a then (if S (Classical.choose h) then (hatOf recs hN (max G (Classical.choose h + 1))).get i else none) else (hatOf recs hN G).get i
theorem Tc.gS_cr (T : Tc P ro ops n recs hN frN D) {S : Nat → Prop} {G : Nat} {i : Id} {a : Nat} (h : Cr recs i a) : gS recs hN S G i = if S a then (hatOf recs hN (max G (a + 1))).get i else none:=by
  have hx : ∃ a,Cr recs i a:=⟨a,h⟩
  unfold gS
  rw [dif_pos hx,T.cr_uniq (Classical.choose_spec hx) h]
theorem gS_nc {S : Nat → Prop} {G : Nat} {i : Id} (h : ¬ ∃ a,Cr recs i a) : gS recs hN S G i = (hatOf recs hN G).get i:=by
  unfold gS;rw [dif_neg h]
def VerOk (recs : List Rec) (hN : Hp) (G : Nat) (i : Id) (p : Nat) : Prop:=(∀ a,Cr recs i a → a + 1 ≤ p) ∧ ∀ k,p ≤ k → k < G → Fix recs hN k i
def LastIn (recs : List Rec) (fr0 : Fr) (S : Nat → Prop) (x : Nat) (v : V) : Prop :=
  (v = fr0.at x ∧ ∀ (k : Nat) (r : Rec),S k → recs[k]? = some r → r.o.dst ≠ some x) ∨
  ∃ (k : Nat) (r : Rec),S k ∧ recs[k]? = some r ∧ r.o.dst = some x ∧ v = r.v ∧ ∀ (k' : Nat) (r' : Rec),S k' → recs[k']? = some r' → r'.o.dst = some x → k' ≤ k
theorem LastIn.congr {fr0 : Fr} {S S' : Nat → Prop} {x : Nat} {v : V} (h : LastIn recs fr0 S x v) (hc : ∀ (k : Nat) (r : Rec),recs[k]? = some r → r.o.dst = some x → (S k ↔ S' k)) : LastIn recs fr0 S' x v:=by
  rcases h with ⟨h1,h2⟩|⟨k,r,h1,h2,h3,h4,h5⟩
  · exact .inl ⟨h1,fun k r hk hr hd=>h2 k r ((hc k r hr hd).2 hk) hr hd⟩
  · exact .inr ⟨k,r,(hc k r h2 h3).1 h1,h2,h3,h4,fun k' r' hk hr hd=>h5 k' r' ((hc k' r' hr hd).2 hk) hr hd⟩
theorem Tc.lastF (T : Tc P ro ops n recs hN frN D) (x : Nat) : ∀ j,LastIn recs (fatOf recs frN 0) (· < j) x ((fatOf recs frN j).at x)
  | 0=>.inl ⟨rfl,fun k r hk _ _=>absurd hk (Nat.not_lt_zero k)⟩
  | j + 1=>by
    have ih:=T.lastF x j
    cases hj : recs[j]? with
    | none =>
      have hj1 : recs[j + 1]? = none:=by rw [List.getElem?_eq_none_iff] at hj ⊢;omega
      have e : fatOf recs frN (j + 1) = fatOf recs frN j:=by simp [fatOf,hj,hj1]
      rw [e]
      refine ih.congr fun k r hr _=>⟨fun h=>Nat.lt_succ_of_lt h,fun h=>?_⟩
      rcases Nat.lt_succ_iff_lt_or_eq.1 h with h1|rfl
      · exact h1
      · rw [hr] at hj;cases hj
    | some r =>
      rw [T.fs j r hj]
      by_cases hd : r.o.dst = some x
      · rw [if_pos hd]
        exact .inr ⟨j,r,Nat.lt_succ_self j,hj,hd,rfl,fun k' _ hk _ _=>Nat.le_of_lt_succ hk⟩
      · rw [if_neg hd,← fat_rec (frN:=frN) hj]
        refine ih.congr fun k r' hr hd'=>⟨fun h=>Nat.lt_succ_of_lt h,fun h=>?_⟩
        rcases Nat.lt_succ_iff_lt_or_eq.1 h with h1|rfl
        · exact h1
        · rw [hr] at hj;cases hj;exact absurd hd' hd
structure Inv (P : Program) (recs : List Rec) (hN : Hp) (frN : Fr) (n : Nat) (marks : List Id) (σ0 : Sig) (w0 : World) (S : Nat → Prop) (σ : Sig) (G : Nat) (a : Act) (w : World) : Prop where
  iG : ∀ (g : Nat) (r : Rec),recs[g]? = some r → r.kd = .glob → (S g ↔ g < G)
  rel : Rel σ (gS recs hN S G) w
  slot : ∀ x v,LastIn recs (fatOf recs frN 0) S x v → VR σ v (a.tmps.getD x undef)
  wfv : ∀ (k : Nat) (r : Rec),S k → recs[k]? = some r → Vin (dm recs hN (k + 1)) r.v
  wfb : ∀ i b p,σ i ≠ none → VerOk recs hN G i p → gS recs hN S G i = some b → Bin (dm recs hN p) b
  size : n ≤ a.tmps.size
  mks : MarksRel σ (gS recs hN S G) w marks a.defers
  ext : ExtK allIds σ0 (hatOf recs hN 0) w0 σ (gS recs hN S G) w
  wf0 : ∀ x,Vin (dm recs hN 0) ((fatOf recs frN 0).at x)
structure Cls (D : Nat → Nat → Prop) (S : Nat → Prop) (j : Nat) : Prop where
  new : ¬ S j
  down : ∀ i,D i j → S i
  clo : ∀ k i,S k → D i k → S i
section
variable {marks : List Id} {σ0 : Sig} {w0 : World} {S : Nat → Prop} {σ : Sig} {G : Nat} {a : Act} {w : World}

theorem Tc.read (T : Tc P ro ops n recs hN frN D) {j : Nat} {r : Rec} (hj : recs[j]? = some r) (hc : Cls D S j) {x : Nat} (hx : x ∈ r.o.looksAt ops) : LastIn recs (fatOf recs frN 0) S x (r.fr.at x):=by
  have h:=T.lastF x j
  rw [fat_rec hj] at h
  refine h.congr fun k rk hk hd=>⟨fun hlt=>?_,fun hs=>?_⟩
  · by_cases hD : D k j
    · exact hc.down k hD
    · have:=(Oper.apart_spec (T.apart k j _ _ hlt (T.op k rk hk) (T.op j r hj) hD)).1 x hd
      exact absurd hx this
  · rcases Nat.lt_trichotomy k j with h1|h1|h1
    · exact h1
    · subst h1;exact absurd hs hc.new
    · by_cases hD : D j k
      · exact absurd (hc.clo k j hs hD) hc.new
      · have:=(Oper.apart_spec (T.apart j k _ _ h1 (T.op j r hj) (T.op k rk hk) hD)).2.2 x hd
        exact absurd hx this
theorem LastIn.wf (T : Tc P ro ops n recs hN frN D) (I : Inv P recs hN frN n marks σ0 w0 S σ G a w) {x j : Nat} {v : V} (h : LastIn recs (fatOf recs frN 0) S x v) (hw : ∀ (k : Nat) (r : Rec),S k → recs[k]? = some r → r.o.dst = some x → k < j) :
    Vin (dm recs hN j) v:=by
  rcases h with ⟨rfl,_⟩|⟨k,r,h1,h2,h3,rfl,_⟩
  · exact (I.wf0 x).mono fun i hi=>T.grow (Nat.zero_le j) hi
  · exact (I.wfv k r h1 h2).mono fun i hi=>T.grow (hw k r h1 h2 h3) hi
theorem Inv.opnds (T : Tc P ro ops n recs hN frN D) (I : Inv P recs hN frN n marks σ0 w0 S σ G a w) {j : Nat} {r : Rec} (hj : recs[j]? = some r) (hc : Cls D S j) (x : Operand) :
    VR (σ.on (dm recs hN j)) (evT r.o r.fr x) (a.eval x):=by
  refine evT_ok (ops:=ops) (fun t ht=>?_) x
  have hl:=T.read hj hc ht
  refine Vin.vr (LastIn.wf T I hl ?_) (I.slot t _ hl)
  intro k rk hs hk hd
  rcases Nat.lt_trichotomy k j with h1|h1|h1
  · exact h1
  · subst h1;exact absurd hs hc.new
  · by_cases hD : D j k
    · exact absurd (hc.clo k j hs hD) hc.new
    · have:=(Oper.apart_spec (T.apart j k _ _ h1 (T.op j r hj) (T.op k rk hk) hD)).2.2 t hd
      exact absurd ht this
theorem Inv.want (T : Tc P ro ops n recs hN frN D) (I : Inv P recs hN frN n marks σ0 w0 S σ G a w) {j : Nat} {r : Rec} (hj : recs[j]? = some r) (hc : Cls D S j) : Region.wanted r.o (yielded ops a.tmps) = r.run:=by
  have h:=T.want j r hj
  unfold WantOk at h
  unfold Region.wanted
  split at h
  · rename_i hg;rw [hg,h]
  · rename_i jj want hg
    obtain ⟨d,h1,hcase⟩:=h
    have hlk : d ∈ r.o.looksAt ops:=by
      unfold Oper.looksAt
      rw [hg]
      refine List.mem_append_right _ ?_
      unfold gslot at h1
      split at h1
      · rename_i o ho
        have ho' : ops[jj]? = some o:=by simpa using ho
        simp [ho',h1]
      · cases h1
    have hv:=I.slot d _ (T.read hj hc hlk)
    rcases hcase with ⟨b,h2,h3⟩|⟨l,h2,h3⟩
    · rw [hg,h3]
      rw [h2] at hv
      simp only [VR,Vm.S.val] at hv
      have hy : yielded ops a.tmps jj = some b:=by
        unfold gslot at h1
        split at h1
        · rename_i o ho
          have ho' : ops[jj]? = some o:=by simpa using ho
          have h5 : a.tmps[d]? = some (.bool b):=by
            rw [Array.getD_eq_getD_getElem?] at hv
            cases hx : a.tmps[d]? with
            | none=>rw [hx] at hv;simp [undef] at hv
            | some y=>rw [hx] at hv;simp at hv;rw [hv]
          simp [yielded,ho',h1,h5]
        · cases h1
      show (yielded ops a.tmps jj == some want) = (b == want)
      rw [hy]
      cases b <;> cases want <;> rfl
    · rw [hg,h3]
      rw [h2] at hv
      show (yielded ops a.tmps jj == some want) = false
      rw [yielded_no h1 hv]
      rfl
theorem Cls.ran (T : Tc P ro ops n recs hN frN D) {j : Nat} {r : Rec} (hj : recs[j]? = some r) (hc : Cls D S j) {x : Nat} {v : V} (hd : r.o.dst = some x) (h : LastIn recs (fatOf recs frN 0) (fun k=>k = j ∨ S k) x v) : v = r.v:=by
  rcases h with ⟨_,h2⟩|⟨k,rk,h1,h2,h3,rfl,h5⟩
  · exact absurd hd (h2 j r (.inl rfl) hj)
  · rcases h1 with rfl|h1
    · rw [hj] at h2;cases h2;rfl
    · have hle:=h5 j r (.inl rfl) hj hd
      rcases Nat.lt_or_eq_of_le hle with hlt|rfl
      · by_cases hD : D j k
        · exact absurd (hc.clo k j h1 hD) hc.new
        · exact absurd h3 ((Oper.apart_spec (T.apart j k _ _ hlt (T.op j r hj) (T.op k rk h2) hD)).2.1 x hd)
      · exact absurd h1 hc.new
theorem put_getD {a : Act} {dst : Option Nat} {x : Value} {i : Nat} (hsz : ∀ d,dst = some d → d < a.tmps.size) : (a.put dst x).tmps.getD i undef = if dst = some i then x else a.tmps.getD i undef:=by
  cases dst with
  | none=>simp [Act.put]
  | some d =>
    simp only [Act.put,Option.some.injEq]
    by_cases e : d = i
    · subst e
      rw [if_pos rfl,Array.getD_eq_getD_getElem?,Array.getElem?_setIfInBounds_self_of_lt (hsz _ rfl)];rfl
    · rw [if_neg e,Array.getD_eq_getD_getElem?,Array.getElem?_setIfInBounds_ne e,← Array.getD_eq_getD_getElem?]
theorem Inv.slots (T : Tc P ro ops n recs hN frN D) (I : Inv P recs hN frN n marks σ0 w0 S σ G a w) {j : Nat} {r : Rec} (hj : recs[j]? = some r) (hc : Cls D S j) {σ' : Sig} (hle : σ.le σ') {y : Value} (hy : VR σ' r.v y) :
    ∀ x v,LastIn recs (fatOf recs frN 0) (fun k=>k = j ∨ S k) x v → VR σ' v ((a.put r.o.dst y).tmps.getD x undef):=by
  intro x v hl
  rw [put_getD fun d hd=>Nat.lt_of_lt_of_le (T.dst j r d hj hd) I.size]
  by_cases hd : r.o.dst = some x
  · rw [if_pos hd,hc.ran T hj hd hl];exact hy
  · rw [if_neg hd]
    refine VR.mono hle _ _ (I.slot x v (hl.congr fun k rk hk hdk=>⟨fun h=>?_,.inr⟩))
    rcases h with rfl|h
    · rw [hj] at hk;cases hk;exact absurd hdk hd
    · exact h
theorem put_defers (a : Act) (dst : Option Nat) (x : Value) : (a.put dst x).defers = a.defers:=by cases dst <;> rfl
theorem put_size (a : Act) (dst : Option Nat) (x : Value) : (a.put dst x).tmps.size = a.tmps.size:=by cases dst <;> simp [Act.put]
theorem Inv.ver (T : Tc P ro ops n recs hN frN D) (I : Inv P recs hN frN n marks σ0 w0 S σ G a w) {i : Id} {j : Nat} (hi : σ i ≠ none) (hv : VerOk recs hN G i j) (hG : ∀ k,G ≤ k → k < j → (∀ a,Cr recs i a → a + 1 ≤ k) → Fix recs hN k i) : gS recs hN S G i = (hatOf recs hN j).get i:=by
  have key : ∀ p,(∀ a,Cr recs i a → a + 1 ≤ p) → G ≤ p → (p ≤ j ∨ p = G ∨ ∃ a,Cr recs i a ∧ p = a + 1) → (hatOf recs hN p).get i = (hatOf recs hN j).get i:=by
    intro p hcp hp hor
    rcases Nat.le_total p j with h1|h1
    · exact (fix_chain h1 fun k h2 h3=>hG k (Nat.le_trans hp h2) h3 fun a ha=>Nat.le_trans (hcp a ha) h2).symm
    · refine fix_chain h1 fun k h2 h3=>?_
      rcases hor with h4|h4|⟨a,h4,h5⟩
      · omega
      · exact hv.2 k h2 (by omega)
      · have:=hv.1 a h4;omega
  by_cases hcr : ∃ a,Cr recs i a
  · obtain ⟨b,hb⟩:=hcr
    have hS : S b:=by
      rcases Classical.em (S b) with h|h
      · exact h
      · exact absurd (I.rel.dom i (by rw [T.gS_cr hb,if_neg h])) hi
    rw [T.gS_cr hb,if_pos hS]
    refine key _ (fun c hc=>by rw [T.cr_uniq hc hb];omega) (Nat.le_max_left _ _) ?_
    rcases Nat.le_total G (b + 1) with h1|h1
    · right;right;exact ⟨b,hb,by omega⟩
    · right;left;omega
  · rw [gS_nc hcr]
    exact key G (fun c hc=>absurd ⟨c,hc⟩ hcr) (Nat.le_refl _) (.inr (.inl rfl))
/-! ### One more operation -/

theorem Inv.lite (T : Tc P ro ops n recs hN frN D) (I : Inv P recs hN frN n marks σ0 w0 S σ G a w) {j : Nat} {r : Rec} (hj : recs[j]? = some r) (hc : Cls D S j) (hg : r.kd ≠ .glob) (ha : ∀ cs,r.kd ≠ .alloc cs)
    {x : Value} (hx : VR (σ.on (dm recs hN j)) r.v x ∨ r.v = .undef) : Inv P recs hN frN n marks σ0 w0 (fun k=>k = j ∨ S k) σ G (a.put r.o.dst x) w:=by
  have hgs : gS recs hN (fun k=>k = j ∨ S k) G = gS recs hN S G:=by
    funext i
    by_cases hcr : ∃ b,Cr recs i b
    · obtain ⟨b,hb⟩:=hcr
      have hne : b ≠ j:=by
        rintro rfl
        obtain ⟨r',cs,h1,h2,_⟩:=hb
        rw [hj] at h1;cases h1
        exact ha _ h2
      rw [T.gS_cr hb,T.gS_cr hb]
      by_cases hS : S b
      · rw [if_pos hS,if_pos (.inr hS)]
      · rw [if_neg hS,if_neg (fun h=>h.elim hne hS)]
    · rw [gS_nc hcr,gS_nc hcr]
  have hv : VR σ r.v x:=by
    rcases hx with hx|hx
    · exact VR.mono (Sig.on_le _ _) _ _ hx
    · rw [hx];simp [VR]
  have hf : ∀ k r',k = j → recs[k]? = some r' → r' = r:=fun k r' h1 h2=>by rw [h1,hj] at h2;cases h2;rfl
  refine ⟨?_,by rw [hgs];exact I.rel,I.slots T hj hc (Sig.le_refl σ) hv,?_,?_,by rw [put_size];exact I.size,by rw [put_defers,hgs];exact I.mks,by rw [hgs];exact I.ext,I.wf0⟩
  · intro g rg hrg hk
    rw [← I.iG g rg hrg hk]
    refine ⟨fun h=>h.elim (fun e=>?_) id,.inr⟩
    rw [hf g rg e hrg] at hk;exact absurd hk hg
  · intro k rk hs hk
    rcases hs with e|hs
    · rw [hf k rk e hk,e]
      rcases hx with hx|hx
      · exact ⟨_,x,Sig.within_on.mono fun i hi=>T.grow1 j i hi,hx⟩
      · exact ⟨⟨fun _=>none,fun _=>none,fun _=>False,0⟩,x,⟨fun i hi=>absurd rfl hi,fun i hi=>hi.elim⟩,by rw [hx];simp [VR]⟩
    · exact I.wfv k rk hs hk
  · rw [hgs];exact I.wfb
theorem Inv.cut (T : Tc P ro ops n recs hN frN D) (I : Inv P recs hN frN n marks σ0 w0 S σ G a w) {j : Nat} (hv : ∀ i,σ i ≠ none → dm recs hN j i → VerOk recs hN G i j ∧ ∀ k,G ≤ k → k < j → (∀ a,Cr recs i a → a + 1 ≤ k) → Fix recs hN k i) :
    Rel (σ.on (dm recs hN j)) (hatOf recs hN j).get w where
  blk:=fun i e b hi hb=>by
    obtain ⟨hd,hi⟩:=Sig.on_some hi
    obtain ⟨h1,h2⟩:=hv i (by rw [hi];simp) hd
    have hg:=I.ver T (by rw [hi];simp) h1 h2
    rw [hb] at hg
    obtain ⟨h3,o,h4,h5⟩:=I.rel.blk i e b hi hg
    exact ⟨h3,o,h4,(I.wfb i b j (by rw [hi];simp) h1 hg).br h5⟩
  apart:=fun i k ei ek bi bk hne hi hk hbi hbk h1 h2=>by
    obtain ⟨hdi,hi⟩:=Sig.on_some hi
    obtain ⟨hdk,hk⟩:=Sig.on_some hk
    obtain ⟨v1,v2⟩:=hv i (by rw [hi];simp) hdi
    obtain ⟨u1,u2⟩:=hv k (by rw [hk];simp) hdk
    exact I.rel.apart i k ei ek bi bk hne hi hk (by rw [I.ver T (by rw [hi];simp) v1 v2];exact hbi) (by rw [I.ver T (by rw [hk];simp) u1 u2];exact hbk) h1 h2
  dom:=fun i hi=>by
    show (if dm recs hN j i then σ i else none) = none
    rw [if_neg]
    intro hd;exact hd hi
  nmd:=fun i hi=>hi.1
  fz:=fun r o hro=>by
    obtain ⟨f1,f2⟩:=I.rel.fz r o hro
    refine ⟨f1,fun i e b hi hb hw=>?_⟩
    obtain ⟨hd,hi⟩:=Sig.on_some hi
    obtain ⟨h1,h2⟩:=hv i (by rw [hi];simp) hd
    exact f2 i e b hi (by rw [I.ver T (by rw [hi];simp) h1 h2];exact hb) hw
theorem Tc.crLt (T : Tc P ro ops n recs hN frN D) {i : Id} {a j : Nat} (h : Cr recs i a) (hd : dm recs hN j i) : a + 1 ≤ j:=by
  rcases Nat.lt_or_ge a j with h1|h1
  · exact h1
  · exact absurd hd (T.cr_before h h1)
theorem Inv.loadVer (T : Tc P ro ops n recs hN frN D) (I : Inv P recs hN frN n marks σ0 w0 S σ G a w) {j : Nat} {r : Rec} (hj : recs[j]? = some r) (hc : Cls D S j) {β : Id} (hk : r.kd = .load β) (hd : dm recs hN j β) :
    VerOk recs hN G β j ∧ ∀ k,G ≤ k → k < j → (∀ a,Cr recs β a → a + 1 ≤ k) → Fix recs hN k β:=by
  refine ⟨⟨fun a ha=>T.crLt ha hd,fun k h1 h2=>?_⟩,fun k h1 h2 hcr=>?_⟩
  · refine T.fixed (fun rk hrk hg=>?_) (fun ha=>absurd (T.crLt ha hd) (by omega))
    have hS : S k:=(I.iG k rk hrk hg).2 h2
    have hne : k ≠ j:=fun e=>hc.new (e ▸ hS)
    have hD : ¬ D j k:=fun h=>hc.new (hc.clo k j hS h)
    have:=T.c2 j k r rk β (by omega) hj hrk hD hk hg
    unfold Fix;rw [T.hs k rk hrk,hat_rec hrk];exact this
  · refine T.fixed (fun rk hrk hg=>?_) (fun ha=>absurd (hcr k ha) (by omega))
    · have hS : ¬ S k:=fun h=>absurd ((I.iG k rk hrk hg).1 h) (by omega)
      have hD : ¬ D k j:=fun h=>hS (hc.down k h)
      have:=T.c1 k j rk r β h2 hrk hj hD hg hk
      unfold Fix;rw [T.hs k rk hrk,hat_rec hrk];exact this
theorem Inv.globVer (T : Tc P ro ops n recs hN frN D) (I : Inv P recs hN frN n marks σ0 w0 S σ G a w) {j : Nat} {r : Rec} (hj : recs[j]? = some r) (hc : Cls D S j) (hk : r.kd = .glob) :
    G ≤ j ∧ ∀ i,dm recs hN j i → VerOk recs hN G i j ∧ ∀ k,G ≤ k → k < j → (∀ a,Cr recs i a → a + 1 ≤ k) → Fix recs hN k i:=by
  have hG : G ≤ j:=Nat.le_of_not_lt fun h=>hc.new ((I.iG j r hj hk).2 h)
  refine ⟨hG,fun i hd=>⟨⟨fun a ha=>T.crLt ha hd,fun k h1 h2=>by omega⟩,fun k h1 h2 hcr=>?_⟩⟩
  refine T.fixed (fun rk hrk hg=>?_) (fun ha=>absurd (hcr k ha) (by omega))
  have hS:=hc.down k (T.globs k j rk r h2 hrk hj hg hk)
  exact absurd ((I.iG k rk hrk hg).1 hS) (by omega)
theorem mkBlk_alive (cs : List V) : (mkBlk cs).alive = true:=by unfold mkBlk;split <;> rfl
theorem Rel.pushG {σ : Sig} {g : Id → Option Blk} {w : World} (hr : Rel σ g w) {i : Id} (hn : σ i = none) {b : Blk} {o : Obj} {base tot : Nat} (hrel : BlkRel (σ.put i ⟨w.heap.size,base,tot⟩) ⟨w.heap.size,base,tot⟩ b o) :
    Rel (σ.put i ⟨w.heap.size,base,tot⟩) (fun j=>if j = i then some b else g j) (w.alloc o) where
  blk:=fun j ej bj hj hbj=>by
    rw [Sig.put_ent] at hj
    by_cases e1 : j = i
    · rw [if_pos e1] at hj hbj
      cases hj;cases hbj
      exact ⟨by simp,o,heap_alloc_new w o,hrel⟩
    · rw [if_neg e1] at hj hbj
      obtain ⟨hlt,o2,ho2,hrel2⟩:=hr.blk j ej bj hj hbj
      exact ⟨by simp;omega,o2,by rw [heap_alloc_old w o _ hlt];exact ho2,hrel2.mono (Sig.le_put hn)⟩
  apart:=fun j k ej ek bj bk hne hj hk hbj hbk hw1 hal1=>by
    rw [Sig.put_ent] at hj hk
    by_cases e1 : j = i
    · rw [if_pos e1] at hj hbj
      cases hj;cases hbj
      rw [if_neg (fun e2=>hne (e1.trans e2.symm))] at hk hbk
      have:=(hr.blk k ek bk hk hbk).1
      simp only;omega
    · rw [if_neg e1] at hj hbj
      by_cases e2 : k = i
      · rw [if_pos e2] at hk hbk
        cases hk;cases hbk
        have:=(hr.blk j ej bj hj hbj).1
        simp only;omega
      · rw [if_neg e2] at hk hbk
        exact hr.apart j k ej ek bj bk hne hj hk hbj hbk hw1 hal1
  dom:=fun j hj=>by
    rw [Sig.put_ent]
    by_cases e1 : j = i
    · rw [if_pos e1] at hj;cases hj
    · rw [if_neg e1] at hj ⊢;exact hr.dom j hj
  nmd:=fun j hj=>by
    show (if j = i then some b else g j) ≠ none
    split
    · simp
    · exact hr.nmd j hj
  fz:=fun r o2 hro=>by
    obtain ⟨h1,h2⟩:=hr.fz r o2 hro
    have hlt : r < w.heap.size:=(Array.getElem?_eq_some_iff.1 h1).1
    refine ⟨by rw [heap_alloc_old w o r hlt];exact h1,fun j ej bj hj hbj hw1=>?_⟩
    rw [Sig.put_ent] at hj
    by_cases e1 : j = i
    · rw [if_pos e1] at hj;cases hj;simp only;omega
    · rw [if_neg e1] at hj hbj;exact h2 j ej bj hj hbj hw1
theorem ExtK.pushG {σ : Sig} {g : Id → Option Blk} {w : World} {i : Id} (hn : σ i = none) (hg : g i = none) {b : Blk} {o : Obj} {base tot : Nat} (hbw : b.rw = true) : ExtK allIds σ g w (σ.put i ⟨w.heap.size,base,tot⟩) (fun j=>if j = i then some b else g j) (w.alloc o) where
  le:=fun j e _ hj=>Sig.le_put hn j e hj
  nm:=fun _ _ h=>h
  lo:=rfl
  fz:=fun _ _ h=>h
  fzn:=fun _ _ h=>.inl h
  size:=by simp
  os:=rfl
  tape:=rfl
  output:=rfl
  frame:=fun r hlt _=>heap_alloc_old w o r hlt
  wr:=fun j ej bj hj hbj hw=>by
    rw [Sig.put_ent] at hj
    by_cases e1 : j = i
    · rw [if_pos e1] at hj;cases hj;exact .inl (Nat.le_refl _)
    · rw [if_neg e1] at hj hbj;exact .inr ⟨j,ej,bj,hj,hbj,hw,rfl⟩
  ro:=fun j ej bj hj hbj hwj hal=>by
    rw [Sig.put_ent] at hj
    by_cases e1 : j = i
    · rw [if_pos e1] at hbj;cases hbj;rw [hbw] at hwj;cases hwj
    · rw [if_neg e1] at hbj hj;exact ⟨j,bj,hj,hbj,hal,hwj⟩
  old:=fun j _ hj=>by
    have e1 : j ≠ i:=fun e1=>hj (by rw [e1];exact hg)
    exact ⟨by simp only [if_neg e1];exact hj,fun hn=>by rw [Sig.put_ent,if_neg e1];exact hn⟩
  oldn:=fun _ _ _ h=>h
theorem Inv.alloc (T : Tc P ro ops n recs hN frN D) (I : Inv P recs hN frN n marks σ0 w0 S σ G a w) {j : Nat} {r : Rec} {cs : List V} (hj : recs[j]? = some r) (hc : Cls D S j) (hk : r.kd = .alloc cs)
    {x : Value} {arr : Array Value} {Ty : TypeId} (hv : VRs (σ.on (dm recs hN j)) cs arr.toList) (h1 : ∀ y ∈ arr.toList,y.oneCell' = true) {k : AK} (hrv : r.v = k.mk r.h.fresh) (hx : ∀ (σ1 : Sig) (id : Id),σ1 id = some ⟨w.heap.size,0,arr.size⟩ → VR σ1 (k.mk id) x) :
    Inv P recs hN frN n marks σ0 w0 (fun k=>k = j ∨ S k) (σ.put r.h.fresh ⟨w.heap.size,0,arr.size⟩) G (a.put r.o.dst x) (w.alloc (.cells arr Ty)):=by
  have hcr : Cr recs r.h.fresh j:=⟨r,cs,hj,hk,rfl⟩
  have hg0 : gS recs hN S G r.h.fresh = none:=by rw [T.gS_cr hcr,if_neg hc.new]
  have hn : σ r.h.fresh = none:=I.rel.dom _ hg0
  have hgs : gS recs hN (fun k=>k = j ∨ S k) G = fun i=>if i = r.h.fresh then some (mkBlk cs) else gS recs hN S G i:=by
    funext i
    by_cases e : i = r.h.fresh
    · subst e
      rw [if_pos rfl,T.gS_cr hcr,if_pos (.inl rfl)]
      rw [← T.alloc_get hj hk]
      rcases Nat.le_total G (j + 1) with h2|h2
      · rw [Nat.max_eq_right h2]
      · rw [Nat.max_eq_left h2]
        refine fix_chain h2 fun k h3 h4=>T.fixed (fun rk hrk hg=>?_) (fun h5=>by have:=T.cr_uniq h5 hcr;omega)
        have hS : S k:=(I.iG k rk hrk hg).2 h4
        have hD : ¬ D j k:=fun h=>hc.new (hc.clo k j hS h)
        have:=T.c3 j k r rk cs (by omega) hj hrk hD hk hg
        unfold Fix;rw [T.hs k rk hrk,hat_rec hrk];exact this
    · rw [if_neg e]
      by_cases hx : ∃ b,Cr recs i b
      · obtain ⟨b,hb⟩:=hx
        have hne : b ≠ j:=by rintro rfl;exact e ((hb.eq (hN:=hN)).trans (hcr.eq (hN:=hN)).symm)
        rw [T.gS_cr hb,T.gS_cr hb]
        by_cases hS : S b
        · rw [if_pos hS,if_pos (.inr hS)]
        · rw [if_neg hS,if_neg (fun h=>h.elim hne hS)]
      · rw [gS_nc hx,gS_nc hx]
  have hle:=Sig.le_put (e:=⟨w.heap.size,0,arr.size⟩) hn
  have hrow : ∀ τ : Sig,VRs τ cs arr.toList → BlkRel τ ⟨w.heap.size,0,arr.size⟩ (mkBlk cs) (.cells arr Ty):=fun τ ht=>(BlkRel_row (mkBlk_row cs)).2 (RowRel.new ht h1 rfl)
  refine ⟨?_,?_,?_,?_,?_,by rw [put_size];exact I.size,by rw [put_defers,hgs];exact I.mks.ext (ExtK.pushG hn hg0 (mkBlk_rw cs)),?_,I.wf0⟩
  · intro g rg hrg hkg
    rw [← I.iG g rg hrg hkg]
    refine ⟨fun h=>h.elim (fun e=>?_) id,.inr⟩
    rw [e,hj] at hrg;cases hrg;rw [hk] at hkg;cases hkg
  · rw [hgs]
    exact I.rel.pushG hn (hrow _ (VRs.mono hle _ _ (VRs.mono (Sig.on_le _ _) _ _ hv)))
  · refine I.slots T hj hc hle ?_
    rw [hrv];exact hx _ _ (Sig.put_same _ _ _)
  · intro k2 rk hs hrk
    rcases hs with e|hs
    · subst e
      rw [hj] at hrk;cases hrk
      rw [hrv]
      refine ⟨⟨fun i=>if i = r.h.fresh then some ⟨w.heap.size,0,arr.size⟩ else none,σ.fz,fun _=>False,0⟩,x,⟨fun i hi=>?_,fun i hi=>hi.elim⟩,hx _ _ (if_pos rfl)⟩
      by_cases e : i = r.h.fresh
      · rw [e];exact T.cr_after hcr (Nat.le_refl _)
      · simp only [if_neg e] at hi;exact absurd rfl hi
    · exact I.wfv k2 rk hs hrk
  · intro i b p hi hp hb
    rw [hgs] at hb
    simp only at hb
    by_cases e : i = r.h.fresh
    · rw [if_pos e] at hb;cases hb
      have hjp:=hp.1 j (by rw [e];exact hcr)
      exact ⟨_,_,_,Sig.within_on.mono fun i hi=>T.grow (by omega) hi,hrow _ hv⟩
    · rw [if_neg e] at hb
      rw [Sig.put_ent,if_neg e] at hi
      exact I.wfb i b p hi hp hb
  · rw [hgs]
    exact I.ext.trans (ExtK.pushG hn hg0 (mkBlk_rw cs))
theorem Inv.glob (T : Tc P ro ops n recs hN frN D) (I : Inv P recs hN frN n marks σ0 w0 S σ G a w) {j : Nat} {r : Rec} (hj : recs[j]? = some r) (hc : Cls D S j) (hk : r.kd = .glob)
    {σ' : Sig} {x : Value} {w' : World} (hx : VR σ' r.v x) (hr : Rel σ' r.h'.get w') (he : ExtK allIds (σ.on (dm recs hN j)) r.h.get w σ' r.h'.get w') :
    ∃ σ2,Inv P recs hN frN n marks σ0 w0 (fun k=>k = j ∨ S k) σ2 (j + 1) (a.put r.o.dst x) w':=by
  obtain ⟨hG,hver⟩:=I.globVer T hj hc hk
  rw [← hat_rec (hN:=hN) hj] at he
  rw [← T.hs j r hj] at hr he
  -- the names: those of the glob, and those that were made early
  let σ2 : Sig:=⟨fun i=>if dm recs hN (j + 1) i then σ' i else σ i,σ'.fz,fun i=>(dm recs hN (j + 1) i ∧ σ'.nm i) ∨ (¬ dm recs hN (j + 1) i ∧ σ.nm i),σ.lo⟩
  have hdom : ∀ i e,σ' i = some e → dm recs hN (j + 1) i:=fun i e hi hn=>by rw [hr.dom i hn] at hi;cases hi
  -- in the new memory, but not in the old one: nothing had that name
  have hcase : ∀ i,gS recs hN S G i ≠ none → dm recs hN (j + 1) i → dm recs hN j i:=by
    intro i hgn hd
    by_cases hd0 : dm recs hN j i
    · exact hd0
    · exfalso
      by_cases hcr : ∃ b,Cr recs i b
      · obtain ⟨b,hb⟩:=hcr
        have h1:=T.crLt hb hd
        have : b ≠ j:=by rintro rfl;obtain ⟨r',cs,h2,h3,_⟩:=hb;rw [hj] at h2;cases h2;rw [hk] at h3;cases h3
        exact hd0 (T.cr_after hb (by omega))
      · rw [gS_nc hcr] at hgn
        exact hd0 (T.grow hG hgn)
  have hleE : ∀ i e,σ i = some e → σ2 i = some e:=fun i e hi=>by
    show (if dm recs hN (j + 1) i then σ' i else σ i) = some e
    by_cases hd : dm recs hN (j + 1) i
    · rw [if_pos hd]
      by_cases hd0 : dm recs hN j i
      · exact he.le i e trivial (Sig.on_of hi hd0)
      · exact absurd (hcase i (fun h=>by rw [I.rel.dom i h] at hi;cases hi) hd) hd0
    · rw [if_neg hd];exact hi
  have hleN : ∀ i,σ.nm i → σ2.nm i:=fun i hi=>by
    by_cases hd : dm recs hN (j + 1) i
    · exact .inl ⟨hd,he.nm i trivial ⟨hcase i (I.rel.nmd i hi) hd,hi⟩⟩
    · exact .inr ⟨hd,hi⟩
  have hle : σ.le σ2:=⟨hleE,he.fz,hleN⟩
  have hle' : σ'.le σ2:=⟨fun i e hi=>by
    show (if dm recs hN (j + 1) i then σ' i else σ i) = some e
    rw [if_pos (hdom i e hi)];exact hi,fun _ _ h=>h,fun i hi=>.inl ⟨hr.nmd i hi,hi⟩⟩
  have hS' : ∀ b i,Cr recs i b → (b = j ∨ S b ↔ S b):=fun b i hb=>by
    refine ⟨fun h=>h.elim (fun e=>?_) id,.inr⟩
    subst e
    obtain ⟨r',cs,h2,h3,_⟩:=hb;rw [hj] at h2;cases h2;rw [hk] at h3;cases h3
  -- late names
  have late : ∀ i e,¬ dm recs hN (j + 1) i → σ i = some e → ∃ b,Cr recs i b ∧ S b ∧ j < b ∧ gS recs hN (fun k=>k = j ∨ S k) (j + 1) i = (hatOf recs hN (b + 1)).get i ∧ gS recs hN S G i = (hatOf recs hN (b + 1)).get i:=by
    intro i e hd hi
    have hgn : gS recs hN S G i ≠ none:=fun h=>by rw [I.rel.dom i h] at hi;cases hi
    by_cases hcr : ∃ b,Cr recs i b
    · obtain ⟨b,hb⟩:=hcr
      have hSb : S b:=by
        rcases Classical.em (S b) with h|h
        · exact h
        · rw [T.gS_cr hb,if_neg h] at hgn;exact absurd rfl hgn
      have hjb : j < b:=by
        rcases Nat.lt_or_ge j b with h|h
        · exact h
        · exact absurd (T.cr_after hb (by omega)) hd
      refine ⟨b,hb,hSb,hjb,?_,?_⟩
      · rw [T.gS_cr hb,if_pos (.inr hSb),Nat.max_eq_right (by omega)]
      · rw [T.gS_cr hb,if_pos hSb,Nat.max_eq_right (by omega)]
    · rw [gS_nc hcr] at hgn
      exact absurd (T.grow (by omega) hgn) hd
  have soon : ∀ i,dm recs hN (j + 1) i → σ' i ≠ none → gS recs hN (fun k=>k = j ∨ S k) (j + 1) i = (hatOf recs hN (j + 1)).get i:=by
    intro i hd hi
    by_cases hcr : ∃ b,Cr recs i b
    · obtain ⟨b,hb⟩:=hcr
      have h1:=T.crLt hb hd
      have hne : b ≠ j:=by rintro rfl;obtain ⟨r',cs,h2,h3,_⟩:=hb;rw [hj] at h2;cases h2;rw [hk] at h3;cases h3
      have hSb : S b:=by
        rcases Classical.em (S b) with h|h
        · exact h
        · exfalso
          have hd0 : dm recs hN j i:=T.cr_after hb (by omega)
          have hsn : σ i = none:=I.rel.dom i (by rw [T.gS_cr hb,if_neg h])
          exact hi ((he.old i trivial hd0).2 (by show (if dm recs hN j _ then σ _ else none) = none;rw [if_pos hd0];exact hsn))
      rw [T.gS_cr hb,if_pos (.inr hSb),Nat.max_eq_left (by omega)]
    · exact gS_nc hcr
  have keep : ∀ i e b,σ i = some e → dm recs hN j i → (gS recs hN S G i = some b ↔ (hatOf recs hN j).get i = some b):=fun i e b hi hd=>by
    obtain ⟨h1,h2⟩:=hver i hd
    rw [I.ver T (by rw [hi];simp) h1 h2]
  have cases2 : ∀ i e b,σ2 i = some e → gS recs hN (fun k=>k = j ∨ S k) (j + 1) i = some b →
      (dm recs hN (j + 1) i ∧ σ' i = some e ∧ (hatOf recs hN (j + 1)).get i = some b) ∨ (¬ dm recs hN (j + 1) i ∧ σ i = some e ∧ gS recs hN S G i = some b ∧ ∃ a,Cr recs i a ∧ j < a ∧ b.rw = true ∧ b.alive = true):=by
    intro i e b hi hb
    by_cases hd : dm recs hN (j + 1) i
    · have hi' : σ' i = some e:=by
        have : (if dm recs hN (j + 1) i then σ' i else σ i) = some e:=hi
        rwa [if_pos hd] at this
      exact .inl ⟨hd,hi',by rw [← soon i hd (by rw [hi'];simp)];exact hb⟩
    · have hi' : σ i = some e:=by
        have : (if dm recs hN (j + 1) i then σ' i else σ i) = some e:=hi
        rwa [if_neg hd] at this
      obtain ⟨c,hcr,_,hjc,h1,h2⟩:=late i e hd hi'
      refine .inr ⟨hd,hi',by rw [h2,← h1];exact hb,c,hcr,hjc,?_⟩
      obtain ⟨rc,cs,h3,h4,rfl⟩:=hcr
      rw [h1,T.alloc_get h3 h4] at hb
      cases hb
      exact ⟨mkBlk_rw cs,mkBlk_alive cs⟩
  -- a block of the glob's memory and a late one lie apart
  have lateApart : ∀ i k ei ek bi bk,σ' i = some ei → (hatOf recs hN (j + 1)).get i = some bi → bi.alive = true ∨ bi.rw = true → ¬ dm recs hN (j + 1) k → σ k = some ek → gS recs hN S G k = some bk → bk.rw = true → bk.alive = true → ei.rid ≠ ek.rid:=by
    intro i k ei ek bi bk hi hbi hor hdk hk2 hbk hkw hka
    have hlt:=(I.rel.blk k ek bk hk2 hbk).1
    have hdm : ∀ m e,(σ.on (dm recs hN j)) m = some e → m ≠ k:=fun m e hm e2=>hdk (by rw [← e2];exact T.grow1 j m (Sig.on_some hm).1)
    by_cases hrw : bi.rw = true
    · rcases he.wr i ei bi hi hbi hrw with h1|⟨m,em,bm,h1,h2,h3,h4⟩
      · omega
      · have hm:=Sig.on_some h1
        rw [← h4]
        exact I.rel.apart m k em ek bm bk (hdm m em h1) hm.2 hk2 ((keep m em bm hm.2 hm.1).2 h2) hbk h3 hka
    · have hal : bi.alive = true:=hor.elim id fun h=>absurd h hrw
      obtain ⟨m,bm,h1,h2,h3,h4⟩:=he.ro i ei bi hi hbi (by simpa using hrw) hal
      have hm:=Sig.on_some h1
      exact fun e=>I.rel.apart k m ek ei bk bm (hdm m ei h1).symm hk2 hm.2 hbk ((keep m ei bm hm.2 hm.1).2 h2) hkw h3 e.symm
  have hframe : ∀ i e b,¬ dm recs hN (j + 1) i → σ i = some e → gS recs hN S G i = some b → b.rw = true → b.alive = true → w'.heap[e.rid]? = w.heap[e.rid]?:=by
    intro i e b hd hi hb hw ha
    refine he.frame e.rid (I.rel.blk i e b hi hb).1 ?_
    intro m em bm hm hbm hmw
    have h1:=Sig.on_some hm
    exact I.rel.apart m i em e bm b (fun e2=>hd (by rw [← e2];exact T.grow1 j m h1.1)) h1.2 hi ((keep m em bm h1.2 h1.1).2 hbm) hb hmw ha
  suffices hboth : (ExtK allIds σ (gS recs hN S G) w σ2 (gS recs hN (fun k=>k = j ∨ S k) (j + 1)) w' → Inv P recs hN frN n marks σ0 w0 (fun k=>k = j ∨ S k) σ2 (j + 1) (a.put r.o.dst x) w') ∧ ExtK allIds σ (gS recs hN S G) w σ2 (gS recs hN (fun k=>k = j ∨ S k) (j + 1)) w' from ⟨σ2,hboth.1 hboth.2⟩
  refine ⟨fun hX=>⟨?_,⟨?_,?_,?_,?_,?_⟩,I.slots T hj hc hle (VR.mono hle' _ _ hx),?_,?_,by rw [put_size];exact I.size,by rw [put_defers];exact I.mks.ext hX,I.ext.trans hX,I.wf0⟩,⟨?_,fun i _ h=>hleN i h,rfl,he.fz,?_,he.size,he.os,he.tape,he.output,?_,?_,?_,?_,?_⟩⟩
  · intro g rg hrg hkg
    constructor
    · rintro (h|h)
      · omega
      · rcases Nat.lt_or_ge g (j + 1) with h1|h1
        · exact h1
        · exact absurd (hc.clo g j h (T.globs j g r rg (by omega) hj hrg hk hkg)) hc.new
    · intro h
      rcases Nat.lt_or_eq_of_le (Nat.le_of_lt_succ h) with h1|h1
      · exact .inr (hc.down g (T.globs g j rg r h1 hrg hj hkg hk))
      · exact .inl h1
  · intro i e b hi hb
    rcases cases2 i e b hi hb with ⟨_,h1,h2⟩|⟨h1,h2,h3,_,_,_,h4,h5⟩
    · obtain ⟨g1,o,g2,g3⟩:=hr.blk i e b h1 h2
      exact ⟨g1,o,g2,g3.mono hle'⟩
    · obtain ⟨g1,o,g2,g3⟩:=I.rel.blk i e b h2 h3
      exact ⟨Nat.lt_of_lt_of_le g1 he.size,o,by rw [hframe i e b h1 h2 h3 h4 h5];exact g2,g3.mono hle⟩
  · intro i k ei ek bi bk hne hi hk2 hbi hbk hw hal
    rcases cases2 i ei bi hi hbi with ⟨_,h1,h2⟩|⟨h1,h2,h3,_,_,_,h4,h5⟩
    · rcases cases2 k ek bk hk2 hbk with ⟨_,g1,g2⟩|⟨g1,g2,g3,_,_,_,g4,g5⟩
      · exact hr.apart i k ei ek bi bk hne h1 g1 h2 g2 hw hal
      · exact lateApart i k ei ek bi bk h1 h2 (.inr hw) g1 g2 g3 g4 g5
    · rcases cases2 k ek bk hk2 hbk with ⟨_,g1,g2⟩|⟨g1,g2,g3,_,_,_,g4,g5⟩
      · exact (lateApart k i ek ei bk bi g1 g2 (.inl hal) h1 h2 h3 h4 h5).symm
      · exact I.rel.apart i k ei ek bi bk hne h2 g2 h3 g3 hw hal
  · intro i hi
    show (if dm recs hN (j + 1) i then σ' i else σ i) = none
    by_cases hd : dm recs hN (j + 1) i
    · rw [if_pos hd]
      rcases Classical.em (σ' i = none) with h|h
      · exact h
      · rw [soon i hd h] at hi;exact absurd hi hd
    · rw [if_neg hd]
      cases hs : σ i with
      | none=>rfl
      | some e =>
        obtain ⟨c,⟨rc,cs,h3,h4,h5⟩,_,_,h1,_⟩:=late i e hd hs
        rw [h1,h5,T.alloc_get h3 h4] at hi;cases hi
  · rintro i (⟨hd,hi⟩|⟨hd,hi⟩)
    · by_cases hcr : ∃ b,Cr recs i b
      · obtain ⟨b,hb⟩:=hcr
        have h1:=T.crLt hb hd
        have hne : b ≠ j:=by rintro rfl;obtain ⟨r',cs,h2,h3,_⟩:=hb;rw [hj] at h2;cases h2;rw [hk] at h3;cases h3
        have hSb : S b:=by
          rcases Classical.em (S b) with h|h
          · exact h
          · exfalso
            have hd0 : dm recs hN j i:=T.cr_after hb (by omega)
            exact I.rel.nmd i (he.oldn i trivial hd0 hi).2 (by rw [T.gS_cr hb,if_neg h])
        rw [T.gS_cr hb,if_pos (.inr hSb),Nat.max_eq_left (by omega)]
        exact hr.nmd i hi
      · rw [gS_nc hcr];exact hr.nmd i hi
    · have hgn:=I.rel.nmd i hi
      by_cases hcr : ∃ b,Cr recs i b
      · obtain ⟨b,hb⟩:=hcr
        rw [T.gS_cr hb] at hgn ⊢
        by_cases hSb : S b
        · rw [if_pos (.inr hSb)]
          exact T.cr_after hb (Nat.le_max_right _ _)
        · rw [if_neg hSb] at hgn;exact absurd rfl hgn
      · rw [gS_nc hcr] at hgn
        exact absurd (T.grow (by omega) hgn) hd
  · intro rr o hro
    obtain ⟨f1,f2⟩:=hr.fz rr o hro
    refine ⟨f1,fun i e b hi hb hw=>?_⟩
    rcases cases2 i e b hi hb with ⟨_,h1,h2⟩|⟨h1,h2,h3,_,_,_,h4,h5⟩
    · exact f2 i e b h1 h2 hw
    · rcases he.fzn rr o hro with g|g|⟨m,em,bm,g1,g2,g3,g4⟩
      · exact (I.rel.fz rr o g).2 i e b h2 h3 hw
      · have:=(I.rel.blk i e b h2 h3).1
        omega
      · have hm:=Sig.on_some g1
        rw [← g4]
        exact (I.rel.apart m i em e bm b (fun e2=>h1 (by rw [← e2];exact T.grow1 j m hm.1)) hm.2 h2 ((keep m em bm hm.2 hm.1).2 g2) h3 g3 h5).symm
  · intro k rk hs hrk
    rcases hs with e|hs
    · subst e
      rw [hj] at hrk;cases hrk
      exact ⟨σ',x,⟨fun i hi=>(by cases h0 : σ' i with|none=>exact absurd h0 hi|some e=>exact hdom i e h0),hr.nmd⟩,hx⟩
    · exact I.wfv k rk hs hrk
  · intro i b p hi hp hb
    cases hs : σ2 i with
    | none=>exact absurd hs hi
    | some e =>
      rcases cases2 i e b hs hb with ⟨h0,h1,h2⟩|⟨h1,h2,h3,c,hcc,hjc,h4,h5⟩
      · rcases Nat.lt_or_ge j p with hlt|hge
        · obtain ⟨_,o,_,g3⟩:=hr.blk i e b h1 h2
          exact ⟨σ',e,o,⟨fun m hm=>T.grow hlt (by cases h0 : σ' m with|none=>exact absurd h0 hm|some e=>exact hdom m e h0),fun m hm=>T.grow hlt (hr.nmd m hm)⟩,g3⟩
        · -- untouched since p
          have hfx:=fun k h3 h4=>hp.2 k h3 h4
          have hch : (hatOf recs hN (j + 1)).get i = (hatOf recs hN p).get i:=fix_chain (by omega) hfx
          have hdp : dm recs hN p i:=by unfold dm;rw [← hch];exact h0
          have hdj:=T.grow hge hdp
          have hsi : σ i ≠ none:=fun h=>by
            have:=(he.old i trivial hdj).2 (by show (if dm recs hN j _ then σ _ else none) = none;rw [if_pos hdj];exact h)
            rw [this] at h1;cases h1
          have hvp : VerOk recs hN G i p:=⟨hp.1,fun k h3 h4=>hp.2 k h3 (by omega)⟩
          obtain ⟨g1,g2⟩:=hver i hdj
          refine I.wfb i b p hsi hvp ?_
          rw [I.ver T hsi g1 g2,← h2,show (hatOf recs hN (j + 1)).get i = _ from hfx j hge (Nat.lt_succ_self j)]
      · have hcp:=hp.1 c hcc
        exact I.wfb i b p (by rw [h2];simp) ⟨hp.1,fun k h6 h7=>by omega⟩ h3
  · exact fun i e _ hi=>hle i e hi
  · intro rr o hro
    rcases he.fzn rr o hro with g|g|⟨m,em,bm,g1,g2,g3,g4⟩
    · exact .inl g
    · exact .inr (.inl g)
    · have hm:=Sig.on_some g1
      exact .inr (.inr ⟨m,em,bm,hm.2,(keep m em bm hm.2 hm.1).2 g2,g3,g4⟩)
  · intro rr hrr hnr
    refine he.frame rr hrr fun m em bm hm hbm hmw=>?_
    have h1:=Sig.on_some hm
    exact hnr m em bm h1.2 ((keep m em bm h1.2 h1.1).2 hbm) hmw
  · intro i e b hi hb hw
    rcases cases2 i e b hi hb with ⟨_,h1,h2⟩|⟨h1,h2,h3,_,_,_,h4,h5⟩
    · rcases he.wr i e b h1 h2 hw with g1|⟨m,em,bm,g1,g2,g3,g4⟩
      · exact .inl g1
      · have hm:=Sig.on_some g1
        exact .inr ⟨m,em,bm,hm.2,(keep m em bm hm.2 hm.1).2 g2,g3,g4⟩
    · exact .inr ⟨i,e,b,h2,h3,hw,rfl⟩
  · intro i e b hi hb hw hal
    rcases cases2 i e b hi hb with ⟨_,h1,h2⟩|⟨h1,h2,h3,_,_,_,h4,h5⟩
    · obtain ⟨m,bm,g1,g2,g3,g4⟩:=he.ro i e b h1 h2 hw hal
      have hm:=Sig.on_some g1
      exact ⟨m,bm,hm.2,(keep m e bm hm.2 hm.1).2 g2,g3,g4⟩
    · rw [h4] at hw;cases hw
  · intro i _ hi
    constructor
    · by_cases hcr : ∃ b,Cr recs i b
      · obtain ⟨b,hb⟩:=hcr
        rw [T.gS_cr hb] at hi ⊢
        by_cases hSb : S b
        · rw [if_pos (.inr hSb)];exact T.cr_after hb (Nat.le_max_right _ _)
        · rw [if_neg hSb] at hi;exact absurd rfl hi
      · rw [gS_nc hcr] at hi ⊢
        exact T.grow (by omega) hi
    · intro hn
      show (if dm recs hN (j + 1) i then σ' i else σ i) = none
      by_cases hd : dm recs hN (j + 1) i
      · rw [if_pos hd]
        by_cases hd0 : dm recs hN j i
        · exact (he.old i trivial hd0).2 (by show (if dm recs hN j _ then σ _ else none) = none;rw [if_pos hd0];exact hn)
        · exfalso
          by_cases hcr : ∃ b,Cr recs i b
          · obtain ⟨b,hb⟩:=hcr
            have h1:=T.crLt hb hd
            have : b ≠ j:=by rintro rfl;obtain ⟨r',cs,h2,h3,_⟩:=hb;rw [hj] at h2;cases h2;rw [hk] at h3;cases h3
            exact hd0 (T.cr_after hb (by omega))
          · rw [gS_nc hcr] at hi
            exact hd0 (T.grow hG hi)
      · rw [if_neg hd];exact hn
  · rintro i _ hi (⟨hd,h⟩|⟨_,h⟩)
    · exact (he.oldn i trivial (hcase i hi hd) h).2
    · exact h
end
end
end Go.Vm

namespace Go.Vm
section
variable {P : Program} {ro : Option Nat} {ops : Array Oper} {n : Nat} {recs : List Rec} {hN : Hp} {frN : Fr} {D : Nat → Nat → Prop}
variable {marks : List Id} {σ0 : Sig} {w0 : World} {S : Nat → Prop} {σ : Sig} {G : Nat} {a : Act} {w : World} {QQ : Exit → Act → World → Prop}

theorem op_run {P : Program} {ro : Option Nat} {o : Oper} {a : Act} {w w' : World} {x : Value} {next : Act → World → Prop} {Q : Exit → Act → World → Prop} (hd : ∀ c,o.op ≠ .defer c)
    (hr : (execOp a.eval o).run P w = .ok (.value x) w') (h : next (a.put o.dst x) w') : o.wpIn (Fl ro) 0 P a w next Q:=by
  refine ⟨fun _ _=>trivial,?_⟩
  rw [semAt_fl hd,hr]
  exact h
theorem Inv.step (T : Tc P ro ops n recs hN frN D) (I : Inv P recs hN frN n marks σ0 w0 S σ G a w) {j : Nat} {r : Rec} (hj : recs[j]? = some r) (hc : Cls D S j) {next : Act → World → Prop}
    (hn : ∀ σ' G' a' w',Inv P recs hN frN n marks σ0 w0 (fun k=>k = j ∨ S k) σ' G' a' w' → next a' w') : wpOpIn (Fl ro) 0 P ops QQ j next a w:=by
  unfold wpOpIn
  rw [T.op j r hj]
  simp only
  rw [I.want T hj hc]
  have hok:=T.ok j r hj
  unfold RecOk at hok
  split at hok
  · rename_i hrun
    rw [hrun,if_neg (by simp)]
    exact ⟨fun _ _=>trivial,hn _ _ _ _ (I.lite T hj hc (by rw [hok.1];simp) (by rw [hok.1];simp) (.inl (by rw [hok.2.1];simp only [VR];exact ⟨#[],rfl,by simp [VRs]⟩)))⟩
  · rename_i hrun
    rw [hrun,if_pos rfl]
    have hρ:=I.opnds T hj hc
    split at hok
    · rename_i hk
      obtain ⟨⟨hd,hp⟩,_⟩:=hok
      obtain ⟨x,hx,hv⟩:=hp (σ.on (dm recs hN j)) w _ (fun r o h=>I.rel.fzIn r o h) hρ
      exact op_run hd hx (hn _ _ _ _ (I.lite T hj hc (by rw [hk];simp) (by rw [hk];simp) (.inl hv)))
    · rename_i β hk
      obtain ⟨⟨hd,hp⟩,_⟩:=hok
      have hblk : ∀ e bl,(σ.on (dm recs hN j)) β = some e → r.h.get β = some bl → e.rid < w.heap.size ∧ ∃ ob,w.heap[e.rid]? = some ob ∧ BlkRel (σ.on (dm recs hN j)) e bl ob:=by
        intro e bl he hb
        obtain ⟨hdm,he⟩:=Sig.on_some he
        obtain ⟨h1,h2⟩:=I.loadVer T hj hc hk hdm
        rw [← hat_rec (hN:=hN) hj] at hb
        have hg:=I.ver T (by rw [he];simp) h1 h2
        rw [hb] at hg
        obtain ⟨g1,o,g2,g3⟩:=I.rel.blk β e bl he hg
        exact ⟨g1,o,g2,(I.wfb β bl j (by rw [he];simp) h1 hg).br g3⟩
      obtain ⟨x,hx,hv⟩:=hp (σ.on (dm recs hN j)) w _ hblk hρ
      exact op_run hd hx (hn _ _ _ _ (I.lite T hj hc (by rw [hk];simp) (by rw [hk];simp) (.inl hv)))
    · rename_i cs hk
      obtain ⟨k,⟨hd,hp⟩,hv,_⟩:=hok
      obtain ⟨x,arr,Ty,hx,hvs,h1,hxx⟩:=hp _ w _ hρ
      exact op_run hd hx (hn _ _ _ _ (I.alloc T hj hc hk hvs h1 hv hxx))
    · rename_i hk
      obtain ⟨hG,hver⟩:=I.globVer T hj hc hk
      have hcut:=I.cut T (j:=j) fun i _ hd=>hver i hd
      rw [hat_rec hj] at hcut
      refine hok.2 (σ.on (dm recs hN j)) a w next QQ hcut hρ fun σ' x w' hv hr he=>?_
      obtain ⟨σ2,h2⟩:=I.glob T hj hc hk hv hr he
      exact hn _ _ _ _ h2
theorem listed_set {listed : Array Bool} {j k : Nat} (hj : j < listed.size) : (listed.setIfInBounds j true).getD k false = true ↔ k = j ∨ listed.getD k false = true:=by
  by_cases e : j = k
  · subst e;simp [hj]
  · rw [getD_set_ne false e]
    exact ⟨.inr,fun h=>h.elim (fun h=>absurd h.symm e) id⟩
theorem Tc.closed (T : Tc P ro ops n recs hN frN D) {S : Nat → Prop} (hS : ∀ (k : Nat) (o : Oper) (e : Edge),S k → ops[k]? = some o → e ∈ o.after → Region.binds .any e = true → S e.on) : ∀ k i,S k → D i k → S i:=by
  intro k
  induction k using Nat.strongRecOn with
  | _ k ih =>
    intro i hk hd
    obtain ⟨_,o,e,ho,he,hb,hor⟩:=T.clo i k hd
    have h1:=hS k o e hk ho he hb
    rcases hor with rfl|h2
    · exact h1
    · exact ih e.on (T.back k o e ho he hb).1 i h1 h2
theorem inv_any (T : Tc P ro ops n recs hN frN D) (hfin : ∀ σ G a w,Inv P recs hN frN n marks σ0 w0 (fun k=>k < ops.size) σ G a w → QQ .normal a w) :
    ∀ (fuel : Nat) (listed : Array Bool) (σ : Sig) (G : Nat) (a : Act) (w : World),listed.size = ops.size → (ops.size ≤ fuel + (listed.toList.filter id).length) →
      (∀ (k : Nat) (o : Oper) (e : Edge),listed.getD k false = true → ops[k]? = some o → e ∈ o.after → Region.binds .any e = true → listed.getD e.on false = true) →
      Inv P recs hN frN n marks σ0 w0 (fun k=>listed.getD k false = true) σ G a w → wpAnyIn (Fl ro) 0 P .any ops QQ fuel listed a w:=by
  have done : ∀ (listed : Array Bool) (σ : Sig) (G : Nat) (a : Act) (w : World),listed.size = ops.size → (∀ k,k < ops.size → listed.getD k false = true) →
      Inv P recs hN frN n marks σ0 w0 (fun k=>listed.getD k false = true) σ G a w → QQ .normal a w:=by
    intro listed σ G a w hsz hall I
    refine hfin σ G a w ?_
    have : (fun k=>listed.getD k false = true) = (fun k=>k < ops.size):=by
      funext k
      refine propext ⟨fun h=>?_,hall k⟩
      rcases Nat.lt_or_ge k ops.size with h1|h1
      · exact h1
      · rw [Array.getD_eq_getD_getElem?,Array.getElem?_eq_none (by omega)] at h;simp at h
    rw [← this];exact I
  have none_ready : ∀ (listed : Array Bool),listed.size = ops.size → Region.ready .any ops listed = [] → ∀ k,k < ops.size → listed.getD k false = true:=by
    intro listed hsz hr k
    induction k using Nat.strongRecOn with
    | _ k ih =>
      intro hk
      cases hl : listed.getD k true with
      | true =>
        rw [Array.getD_eq_getD_getElem?,Array.getElem?_eq_getElem (by omega)] at hl ⊢
        simpa using hl
      | false =>
        exfalso
        have : k ∈ Region.ready .any ops listed:=by
          rw [mem_ready]
          refine ⟨hl,ops[k],by simp [hk],fun e he hb=>?_⟩
          have hlt:=(T.back k ops[k] e (by simp [hk]) he hb).1
          exact ih e.on hlt (by omega)
        rw [hr] at this;cases this
  intro fuel
  induction fuel with
  | zero =>
    intro listed σ G a w hsz hle hcl I
    have hall : ∀ k,k < ops.size → listed.getD k false = true:=by
      have h1 : (listed.toList.filter id).length = listed.toList.length:=by
        have:=List.length_filter_le id listed.toList
        simp at hle this ⊢;omega
      have h2:=List.length_filter_eq_length_iff.1 h1
      intro k hk
      rw [Array.getD_eq_getD_getElem?,Array.getElem?_eq_getElem (by omega)]
      exact h2 _ (by simp)
    refine ⟨?_,done listed σ G a w hsz hall I⟩
    cases hr : Region.ready .any ops listed with
    | nil=>rfl
    | cons j _ =>
      have hm : j ∈ Region.ready .any ops listed:=by rw [hr];simp
      obtain ⟨h1,o,ho,_⟩:=mem_ready.1 hm
      have hlt : j < ops.size:=(Array.getElem?_eq_some_iff.1 ho).1
      have h2:=hall j hlt
      rw [Array.getD_eq_getD_getElem?,Array.getElem?_eq_getElem (by omega)] at h1 h2
      simp at h1 h2;rw [h1] at h2;cases h2
  | succ fuel ih =>
    intro listed σ G a w hsz hle hcl I
    refine ⟨fun hr=>done listed σ G a w hsz (none_ready listed hsz hr) I,fun j hj=>?_⟩
    obtain ⟨hnew,o,ho,hed⟩:=mem_ready.1 hj
    have hlt : j < ops.size:=(Array.getElem?_eq_some_iff.1 ho).1
    have hjr : j < recs.length:=by rw [T.len];exact hlt
    have hnew' : listed.getD j false = false:=by
      rw [Array.getD_eq_getD_getElem?,Array.getElem?_eq_getElem (by omega)] at hnew ⊢
      simpa using hnew
    have hclo:=T.closed hcl
    have hc : Cls D (fun k=>listed.getD k false = true) j:=⟨by rw [hnew'];simp,fun i hi=>by
      obtain ⟨_,o',e,ho',he,hb,hor⟩:=T.clo i j hi
      rw [ho] at ho';cases ho'
      rcases hor with rfl|h2
      · exact hed e he hb
      · exact hclo e.on i (hed e he hb) h2,hclo⟩
    refine I.step T (List.getElem?_eq_getElem hjr) hc fun σ' G' a' w' I'=>?_
    have hS : (fun k=>k = j ∨ listed.getD k false = true) = (fun k=>(listed.setIfInBounds j true).getD k false = true):=by
      funext k;exact propext (listed_set (by omega)).symm
    rw [hS] at I'
    refine ih _ σ' G' a' w' (by simpa using hsz) ?_ ?_ I'
    · have : ((listed.setIfInBounds j true).toList.filter id).length = (listed.toList.filter id).length + 1:=by
        rw [Array.toList_setIfInBounds]
        have hjl : j < listed.toList.length:=by simpa [hsz] using hlt
        have hjf : listed.toList[j] = false:=by
          rw [Array.getD_eq_getD_getElem?,Array.getElem?_eq_getElem (by omega)] at hnew'
          simpa using hnew'
        rw [List.set_eq_take_append_cons_drop,if_pos hjl]
        conv=>rhs;rw [← List.take_append_drop j listed.toList,List.drop_eq_getElem_cons hjl,hjf]
        simp [List.filter_append]
        omega
      omega
    · intro k o' e hk ho' he hb
      rw [listed_set (by omega)] at hk ⊢
      rcases hk with rfl|hk
      · rw [ho] at ho';cases ho';exact .inr (hed e he hb)
      · exact .inr (hcl k o' e hk ho' he hb)
end
end Go.Vm

namespace Go.Vm

/-! ### What is checked of the operations themselves -/

def emask (ms : List Nat) : List Edge → Nat
  | []=>0
  | e :: es=>match Region.binds .any e with
    | true=>(2 ^ e.on ||| ms.getD e.on 0) ||| emask ms es
    | false=>emask ms es
def masksGo : List Oper → List Nat → List Nat
  | [],acc=>acc
  | o :: os,acc=>masksGo os (acc ++ [emask acc o.after.toList])
def masksOf (ops : Array Oper) : List Nat:=masksGo ops.toList []
def isGlob (o : Oper) : Bool:=match o.op with
  | .store ..|.slice _ _ none none none|.mapUpdate ..|.makeMap ..=>true
  | .call c=>match c.callee with
    | .builtin .append|.builtin .copy|.builtin .clear|.value _=>true
    | _=>false
  | _=>false
def isLoad (o : Oper) : Bool:=match o.op with
  | .load ..|.lookup ..=>true
  | _=>false
def isAlloc (o : Oper) : Bool:=match o.op with
  | .alloc ..|.box ..|.buildSlice ..|.makeSlice ..=>true
  | _=>false
def inCs (cs : List (Nat × Nat)) (i j : Nat) : Bool:=cs.any fun p=>match Nat.beq p.1 i with
  | true=>Nat.beq p.2 j
  | false=>false
def chkOne (ms : List Nat) (j : Nat) (o : Oper) : Bool:=(o.after.toList.all fun e=>!Region.binds .any e || Nat.blt e.on j) && Nat.beq (ms.getD j 0) (emask ms o.after.toList)
def chkPair (ops : Array Oper) (ms : List Nat) (cs : List (Nat × Nat)) (i : Nat) (oi : Oper) (j : Nat) (oj : Oper) : Bool :=
  (ms.getD j 0).testBit i || (oi.apart ops oj && !(isGlob oi && isGlob oj) && (!(isGlob oi && isLoad oj || (isLoad oi || isAlloc oi) && isGlob oj) || inCs cs i j))
def chkRow (ops : Array Oper) (ms : List Nat) (cs : List (Nat × Nat)) (i : Nat) (oi : Oper) : Nat → List Oper → Bool
  | _,[]=>true
  | j,oj :: os=>chkPair ops ms cs i oi j oj && chkRow ops ms cs i oi (j + 1) os
def chkAll (ops : Array Oper) (ms : List Nat) (cs : List (Nat × Nat)) : Nat → List Oper → Bool
  | _,[]=>true
  | i,o :: os=>chkOne ms i o && chkRow ops ms cs i o (i + 1) os && chkAll ops ms cs (i + 1) os
def drawOk (ops : Array Oper) (ms : List Nat) (cs : List (Nat × Nat)) : Bool:=chkAll ops ms cs 0 ops.toList
theorem chkRow_ok {ops : Array Oper} {ms : List Nat} {cs : List (Nat × Nat)} {i : Nat} {oi : Oper} : ∀ {os : List Oper} {j : Nat},chkRow ops ms cs i oi j os = true → ∀ k o,os[k]? = some o → chkPair ops ms cs i oi (j + k) o = true
  | [],_,_,k,o,hk=>by simp at hk
  | oj :: os,j,h,k,o,hk=>by
    simp only [chkRow,Bool.and_eq_true] at h
    cases k with
    | zero=>simp at hk;subst hk;exact h.1
    | succ k =>
      have:=chkRow_ok h.2 k o (by simpa using hk)
      rwa [show j + 1 + k = j + (k + 1) by omega] at this
theorem chkAll_ok {ops : Array Oper} {ms : List Nat} {cs : List (Nat × Nat)} : ∀ {os : List Oper} {i : Nat},chkAll ops ms cs i os = true →
    (∀ k o,os[k]? = some o → chkOne ms (i + k) o = true) ∧ ∀ k l ok ol,k < l → os[k]? = some ok → os[l]? = some ol → chkPair ops ms cs (i + k) ok (i + l) ol = true
  | [],_,_=>⟨fun k o hk=>by simp at hk,fun k l ok ol _ hk=>by simp at hk⟩
  | o :: os,i,h=>by
    simp only [chkAll,Bool.and_eq_true] at h
    obtain ⟨⟨h1,h2⟩,h3⟩:=h
    obtain ⟨g1,g2⟩:=chkAll_ok h3
    refine ⟨fun k o' hk=>?_,fun k l ok ol hkl hk hl=>?_⟩
    · cases k with
      | zero=>simp at hk;subst hk;exact h1
      | succ k =>
        have:=g1 k o' (by simpa using hk)
        rwa [show i + 1 + k = i + (k + 1) by omega] at this
    · cases l with
      | zero=>omega
      | succ l =>
        cases k with
        | zero =>
          simp at hk;subst hk
          have:=chkRow_ok h2 l ol (by simpa using hl)
          rwa [show i + 1 + l = i + (l + 1) by omega] at this
        | succ k =>
          have:=g2 k l ok ol (by omega) (by simpa using hk) (by simpa using hl)
          rwa [show i + 1 + k = i + (k + 1) by omega,show i + 1 + l = i + (l + 1) by omega] at this
theorem emask_bit {ms : List Nat} {i : Nat} : ∀ {es : List Edge},(emask ms es).testBit i = true ↔ ∃ e ∈ es,Region.binds .any e = true ∧ (i = e.on ∨ (ms.getD e.on 0).testBit i = true)
  | []=>by simp [emask]
  | e :: es=>by
    simp only [emask]
    split
    · rename_i hb
      rw [Nat.testBit_or,Nat.testBit_or,Nat.testBit_two_pow,Bool.or_eq_true,Bool.or_eq_true,emask_bit]
      constructor
      · rintro ((h|h)|⟨e',h1,h2⟩)
        · exact ⟨e,by simp,hb,.inl (of_decide_eq_true h).symm⟩
        · exact ⟨e,by simp,hb,.inr h⟩
        · exact ⟨e',by simp [h1],h2⟩
      · rintro ⟨e',h1,h2,h3⟩
        rcases List.mem_cons.1 h1 with rfl|h1
        · rcases h3 with rfl|h3
          · exact .inl (.inl (by simp))
          · exact .inl (.inr h3)
        · exact .inr ⟨e',h1,h2,h3⟩
    · rename_i hb
      rw [emask_bit]
      constructor
      · rintro ⟨e',h1,h2⟩;exact ⟨e',by simp [h1],h2⟩
      · rintro ⟨e',h1,h2,h3⟩
        rcases List.mem_cons.1 h1 with rfl|h1
        · rw [hb] at h2;cases h2
        · exact ⟨e',h1,h2,h3⟩
/-! ### The computation -/

structure VSame (a b : Option Blk) (K : Prop) : Prop where
  ex : a = b ∧ K
theorem VSame.intro {a b : Option Blk} {K : Prop} (h : a = b) (k : K) : VSame a b K:=⟨h,k⟩
structure VMkD (P : Program) (o : Oper) (ρ : Operand → V) (K : AK → List V → Blk → Prop) : Prop where
  ex : ∃ k cs,AllocOk P o ρ k cs ∧ K k cs (mkBlk cs)
def vopD (P : Program) (T : TT) (o : Oper) (ρ : Operand → V) (h : Hp) (K : Kd → V → Hp → Prop) : Prop :=
  match vpure T o ρ with
  | .val v=>K .lite v h
  | .ite b x y=>VIte b (K .lite x h) (K .lite y h)
  | .need b v=>VNeed b (K .lite v h)
  | .arith k n=>VArith k n (fun m=>K .lite (.s (.int k m)) h)
  | .any p=>VAny p (fun v=>v.forceK fun v=>K .lite v h)
  | .no=>match valloc T o ρ with
    | some (k,cs)=>match isAlloc o with
      | true=>(h.push (mkBlk cs)).forceK fun h'=>K (.alloc cs) (k.mk h.fresh) h'
      | false=>False
    | none=>match o.op with
      | .load t a=>match ρ a with
        | .ptr β off=>VLd T t (.ptr β off) h fun v=>K (.load β) v h
        | .fp cs=>VLd T t (.fp cs) h fun v=>K .lite v h
        | _=>False
      | .lookup t m k c=>match ρ m with
        | .map i=>VLook P T t c i (ρ k) h fun v=>K (.load i) v h
        | .fm ks vs=>VLookF P T t c ks vs (ρ k) fun v=>K .lite v h
        | _=>False
      | .binOp op t x y _=>match ρ x with
        | .agg xs=>match ρ y with
          | .agg ys=>VAgg P op t (.agg xs) (.agg ys) fun v=>K .lite v h
          | _=>False
        | _=>False
      | .makeSlice _ _ _=>VMkD P o ρ fun k cs b=>(h.push b).forceK fun h'=>K (.alloc cs) (k.mk h.fresh) h'
      | _=>match isGlob o with
        | true=>vglob P o ρ h fun v h'=>K .glob v h'
        | false=>False
structure Acc where
  i : Nat
  kd : Kd
  h : Hp
  h' : Hp
def same2 (ki : Kd) (hi hi' : Hp) (kj : Kd) (hj hj' : Hp) (K : Prop) : Prop:=match ki with
  | .glob=>match kj with
    | .load β=>VSame (hi'.get β) (hi.get β) K
    | _=>K
  | .load β=>match kj with
    | .glob=>VSame (hj'.get β) (hj.get β) K
    | _=>K
  | .alloc _=>match kj with
    | .glob=>VSame (hj'.get hi.fresh) (hj.get hi.fresh) K
    | _=>K
  | .lite=>K
def vsame1 (cs : List (Nat × Nat)) (j : Nat) (kd : Kd) (h h' : Hp) (a : Acc) (ih : Prop → Prop) (K : Prop) : Prop:=match a with
  | ⟨i,ki,hi,hi'⟩=>match inCs cs i j with
    | true=>same2 ki hi hi' kd h h' (ih K)
    | false=>ih K
def vsame (cs : List (Nat × Nat)) (j : Nat) (kd : Kd) (h h' : Hp) (acc : List Acc) : Prop → Prop :=
  List.rec (motive:=fun _=>Prop → Prop) (fun K=>K) (fun a _ ih=>vsame1 cs j kd h h' a ih) acc
def vacc (cs : List (Nat × Nat)) (j : Nat) (kd : Kd) (h h' : Hp) (acc : List Acc) : List Acc:=match cs.any fun p=>Nat.beq p.1 j with
  | true=>⟨j,kd,h,h'⟩ :: acc
  | false=>acc
def vstep (cs : List (Nat × Nat)) (j : Nat) (kd : Kd) (h h' : Hp) (acc : List Acc) (K : List Acc → Prop) : Prop:=match cs with
  | []=>K []
  | c :: cs=>vsame (c :: cs) j kd h h' acc (K (vacc (c :: cs) j kd h h' acc))
def vopsD1 (P : Program) (T : TT) (n : Nat) (all : List Oper) (cs : List (Nat × Nat)) (o : Oper) (ih : Nat → Fr → Hp → List Acc → (Fr → Hp → Prop) → Prop) (j : Nat) (fr : Fr) (h : Hp) (acc : List Acc) (K : Fr → Hp → Prop) : Prop:=match o.guard with
    | none=>vopD P T o (evT o fr) h fun kd v h'=>vstep cs j kd h h' acc fun acc=>vput n fr o.dst v fun fr'=>ih (j + 1) fr' h' acc K
    | some (g,want)=>match gslot all g with
      | some d=>match fr.at d with
        | .s (.bool b)=>VIte b
            (fr.setK d (.s (.bool true)) fun fr=>match want with
              | true=>vopD P T o (evT o fr) h fun kd v h'=>vstep cs j kd h h' acc fun acc=>vput n fr o.dst v fun fr'=>ih (j + 1) fr' h' acc K
              | false=>vstep cs j .lite h h acc fun acc=>vput n fr o.dst (.tuple []) fun fr'=>ih (j + 1) fr' h acc K)
            (fr.setK d (.s (.bool false)) fun fr=>match want with
              | false=>vopD P T o (evT o fr) h fun kd v h'=>vstep cs j kd h h' acc fun acc=>vput n fr o.dst v fun fr'=>ih (j + 1) fr' h' acc K
              | true=>vstep cs j .lite h h acc fun acc=>vput n fr o.dst (.tuple []) fun fr'=>ih (j + 1) fr' h acc K)
        | .tuple _=>vstep cs j .lite h h acc fun acc=>vput n fr o.dst (.tuple []) fun fr'=>ih (j + 1) fr' h acc K
        | _=>False
      | none=>False
def vopsD (P : Program) (T : TT) (n : Nat) (all : List Oper) (cs : List (Nat × Nat)) (j : Nat) (os : List Oper) : Fr → Hp → List Acc → (Fr → Hp → Prop) → Prop :=
  List.rec (motive:=fun _=>Nat → Fr → Hp → List Acc → (Fr → Hp → Prop) → Prop) (fun _ fr h _ K=>K fr h) (fun o _ ih=>vopsD1 P T n all cs o ih) os j
def Same (ki : Kd) (hi hi' : Hp) (kj : Kd) (hj hj' : Hp) : Prop:=match ki,kj with
  | .glob,.load β=>hi'.get β = hi.get β
  | .load β,.glob=>hj'.get β = hj.get β
  | .alloc _,.glob=>hj'.get hi.fresh = hj.get hi.fresh
  | _,_=>True
theorem same2_ok {ki kj : Kd} {hi hi' hj hj' : Hp} {K : Prop} (h : same2 ki hi hi' kj hj hj' K) : Same ki hi hi' kj hj hj' ∧ K:=by
  cases ki <;> cases kj <;> first|exact ⟨trivial,h⟩|exact h.ex
theorem vsame_ok {cs : List (Nat × Nat)} {j : Nat} {kd : Kd} {h h' : Hp} {K : Prop} : ∀ {acc : List Acc},vsame cs j kd h h' acc K → K ∧ ∀ a ∈ acc,inCs cs a.i j = true → Same a.kd a.h a.h' kd h h'
  | [],hk=>⟨hk,fun a ha=>by cases ha⟩
  | ⟨i,ki,hi,hi'⟩ :: acc,hk=>by
    have hk : vsame1 cs j kd h h' ⟨i,ki,hi,hi'⟩ (vsame cs j kd h h' acc) K:=hk
    unfold vsame1 at hk
    simp only at hk
    split at hk
    · rename_i hc
      obtain ⟨h1,h2⟩:=same2_ok hk
      obtain ⟨h3,h4⟩:=vsame_ok h2
      refine ⟨h3,fun a ha hin=>?_⟩
      rcases List.mem_cons.1 ha with rfl|ha
      · exact h1
      · exact h4 a ha hin
    · rename_i hc
      obtain ⟨h3,h4⟩:=vsame_ok hk
      refine ⟨h3,fun a ha hin=>?_⟩
      rcases List.mem_cons.1 ha with rfl|ha
      · rw [hc] at hin;cases hin
      · exact h4 a ha hin
def TrOk (P : Program) (ro : Option Nat) (ops : Array Oper) (n : Nat) : List Oper → Fr → Hp → List Rec → Fr → Hp → Prop
  | [],fr,h,recs,frN,hN=>recs = [] ∧ frN = fr ∧ hN = h
  | o :: os,fr,h,recs,frN,hN=>∃ r rs fr',recs = r :: rs ∧ r.o = o ∧ r.h = h ∧ (∀ x,r.fr.at x = fr.at x) ∧ RecOk P ro r ∧ WantOk ops r ∧ (∀ x,o.dst = some x → x < n) ∧
      (∀ x,fr'.at x = if o.dst = some x then r.v else r.fr.at x) ∧ (r.kd = .glob → isGlob o = true) ∧ (∀ β,r.kd = .load β → isLoad o = true) ∧ (∀ cs,r.kd = .alloc cs → isAlloc o = true) ∧ TrOk P ro ops n os fr' r.h' rs frN hN
theorem vput_at {n : Nat} {fr : Fr} {dst : Option Nat} {v : V} {K : Fr → Prop} (h : vput n fr dst v K) : ∃ fr',K fr' ∧ (∀ x,dst = some x → x < n) ∧ ∀ x,fr'.at x = if dst = some x then v else fr.at x:=by
  rcases vput_elim h with ⟨rfl,hk⟩|⟨d,rfl,hd,hk⟩
  · exact ⟨_,hk,by simp,fun x=>by simp⟩
  · refine ⟨_,hk,fun x hx=>by cases hx;exact hd,fun x=>?_⟩
    rw [Fr.at_set]
    by_cases e : x = d
    · subst e;simp
    · rw [if_neg e,if_neg (fun h=>e (by cases h;rfl))]
theorem load_ldok {P : Program} {T : TT} (hT : TOk P T) {o : Oper} {t : TypeId} {a : Operand} {ρv : Operand → V} {β : Id} {off : Nat} {h : Hp} {v : V} (ho : o.op = .load t a) (ha : ρv a = .ptr β off) (hl : vload T t (.ptr β off) h = some v) :
    LdOk P o ρv β (h.get β) v:=by
  refine ⟨by rw [ho];simp,fun σ w ρ hb hρ=>?_⟩
  have hp:=hρ a
  rw [ha] at hp
  simp only [VR] at hp
  obtain ⟨e,hi,hpe⟩:=hp
  have cell : ∀ {off : Nat} {v : V},h.at β off = some v → ∃ x,w.cell? ⟨e.rid,e.base + off,none⟩ = some x ∧ VR σ v x ∧ x.oneCell' = true:=by
    intro off v hv
    obtain ⟨b,rw,l,hbl,hrow,hl⟩:=Hp.at_row hv
    obtain ⟨_,ob,hob,hrel⟩:=hb e b hi hbl
    rw [BlkRel_row hrow] at hrel
    obtain ⟨cur,T,fz,rfl,_,_,_,hc⟩:=hrel
    obtain ⟨x,hx,hvr,h1⟩:=hc off v hl
    exact ⟨x,by simp [World.cell?,hob,hx],hvr,h1⟩
  have cells : ∀ (n off : Nat) (l : List V),h.rdN β off n = some l →
      ∃ xs : List Value,xs.length = n ∧ VRs σ l xs ∧ ∀ j x,xs[j]? = some x → w.cell? ⟨e.rid,e.base + (off + j),none⟩ = some x:=by
    intro n
    induction n with
    | zero=>intro off l hl;simp [Hp.rdN] at hl;subst hl;exact ⟨[],rfl,by simp [VRs],by simp⟩
    | succ n ih =>
      intro off l hl
      simp only [Hp.rdN] at hl
      split at hl
      · rename_i v hv
        split at hl
        · rename_i r hr2
          simp at hl;subst hl
          obtain ⟨x,hx,hvr,h1⟩:=cell hv
          obtain ⟨xs,hn,hvs,hxs⟩:=ih (off + 1) r hr2
          refine ⟨x :: xs,by simp [hn],by simp only [VRs];exact ⟨x,xs,rfl,hvr,hvs⟩,?_⟩
          intro j y hy
          cases j with
          | zero=>simp at hy;subst hy;simpa using hx
          | succ j =>
            have:=hxs j y (by simpa using hy)
            rwa [show off + 1 + j = off + (j + 1) by omega] at this
        · cases hl
      · cases hl
  unfold vload at hl
  simp only at hl
  split at hl
  · rename_i ti hTt
    split at hl
    · rename_i hag0
      split at hl
      · rename_i l hrd
        simp at hl;subst hl
        obtain ⟨d,info,z,hu,hinfo,hsize,hagg,_,_,_⟩:=hT.ok _ _ hTt
        obtain ⟨ys,hn,hyr,hcell⟩:=cells _ _ _ hrd
        have hag : (isAgg t).run P w = .ok true w:=by rw [hag0] at hagg;cases d <;> simp_all [isAgg,run_underlying hu,descAgg]
        have hrun:=run_loadCells_list (P:=P) w ⟨e.rid,e.base + off,none⟩ ys (fun j y hj=>by rw [add_at,Nat.add_assoc];exact hcell j y hj)
        rw [hn] at hrun
        refine ⟨.agg ys.toArray,?_,by simp only [VR];exact ⟨_,rfl,by simpa using hyr⟩⟩
        simp only [execOp,ho]
        simp [Instr.loadAt,Instr.sureAddr,loadVar,hpe,hag,sizeOf,typeInfo,hinfo,hsize,hrun]
      · cases hl
    · rename_i hag0
      obtain ⟨d,hu,hagg,_⟩:=kind_of hT hTt
      obtain ⟨y,hy,hyr,_⟩:=cell hl
      have : (isAgg t).run P w = .ok false w:=by rw [hag0] at hagg;cases d <;> simp_all [isAgg,run_underlying hu,descAgg]
      refine ⟨y,?_,hyr⟩
      simp only [execOp,ho]
      simp [Instr.loadAt,Instr.sureAddr,loadVar,hpe,this,hy]
  · cases hl
theorem vopD_ok {P : Program} {T : TT} (hT : TOk P T) {ro : Option Nat} {o : Oper} {fr : Fr} {h : Hp} {K : Kd → V → Hp → Prop} (hk : vopD P T o (evT o fr) h K) :
    ∃ kd v h',K kd v h' ∧ RecOk P ro ⟨o,true,kd,v,fr,h,h'⟩ ∧ (kd = .glob → isGlob o = true) ∧ (∀ β,kd = .load β → isLoad o = true) ∧ (∀ cs,kd = .alloc cs → isAlloc o = true):=by
  have lite : ∀ {v : V},K .lite v h → (vpure T o (evT o fr)).is v → ∃ kd v h',K kd v h' ∧ RecOk P ro ⟨o,true,kd,v,fr,h,h'⟩ ∧ (kd = .glob → isGlob o = true) ∧ (∀ β,kd = .load β → isLoad o = true) ∧ (∀ cs,kd = .alloc cs → isAlloc o = true) :=
    fun {v} hk hv=>⟨.lite,v,h,hk,⟨⟨(pure_real hT hv).1,fun σ w ρ _ hρ=>(pure_real hT hv).2 σ w ρ hρ⟩,rfl⟩,by simp,by simp,by simp⟩
  unfold vopD at hk
  split at hk
  · rename_i v hv;exact lite hk (.inl hv)
  · rename_i b x y hv
    have hk:=hk.elim
    cases b with
    | true=>exact lite (hk.1 rfl) (.inr (.inr (.inr (.inl ⟨true,x,y,hv,rfl⟩))))
    | false=>exact lite (hk.2 rfl) (.inr (.inr (.inr (.inl ⟨false,x,y,hv,rfl⟩))))
  · rename_i b v hv
    have hk:=hk.elim'
    exact lite hk.2 (.inr (.inl ⟨b,hv,hk.1⟩))
  · rename_i k n hv
    have hk:=hk.elim'
    exact lite hk (.inr (.inr (.inl ⟨k,n,hv,rfl⟩)))
  · rename_i p hv
    obtain ⟨v,hp,hk⟩:=hk.elim'
    rw [V.forceK_eq] at hk
    exact lite hk (.inr (.inr (.inr (.inr ⟨p,hv,hp⟩))))
  · split at hk
    · rename_i k cs ha
      split at hk
      · rename_i hal
        rw [Hp.forceK_eq] at hk
        exact ⟨_,_,_,hk,⟨k,valloc_ok hT ha,rfl,rfl⟩,by simp,by simp,fun _ _=>hal⟩
      · exact hk.elim
    · split at hk
      · rename_i t a ho
        split at hk
        · rename_i β off hpa
          obtain ⟨v,hl,hk⟩:=hk.elim'
          exact ⟨_,v,h,hk,⟨load_ldok hT ho hpa hl,rfl⟩,by simp,fun _ _=>by simp [isLoad,ho],by simp⟩
        · rename_i cs hpa
          obtain ⟨v,hl,hk⟩:=hk.elim'
          exact ⟨.lite,v,h,hk,⟨loadf_real (P:=P) hT ho hpa hl,rfl⟩,by simp,by simp,by simp⟩
        · exact hk.elim
      · rename_i t m k c ho
        split at hk
        · rename_i i hm
          obtain ⟨es,v,hb,hL,hk⟩:=hk.elim'
          obtain ⟨hd,hr⟩:=look_real hT ho hm hL
          exact ⟨_,v,h,hk,⟨⟨hd,fun σ w ρ hx hρ=>hr σ w ρ (fun e he=>(hx e _ he hb).2) hρ⟩,rfl⟩,by simp,fun _ _=>by simp [isLoad,ho],by simp⟩
        · rename_i ks vs hm
          obtain ⟨v,hL,hk⟩:=hk.elim'
          exact ⟨.lite,v,h,hk,⟨lookf_real (P:=P) hT ho hm hL,rfl⟩,by simp,by simp,by simp⟩
        · exact hk.elim
      · rename_i op t x y yt ho
        split at hk
        · rename_i xs hx
          split at hk
          · rename_i ys hy
            obtain ⟨v,hv,hk⟩:=hk
            exact ⟨.lite,v,h,hk,⟨⟨(vaggeq_real (P:=P) ho hx hy hv).1,fun σ w ρ _ hρ=>(vaggeq_real (P:=P) ho hx hy hv).2 σ w ρ hρ⟩,rfl⟩,by simp,by simp,by simp⟩
          · exact hk.elim
        · exact hk.elim
      · rename_i _ _ _ ho
        obtain ⟨k,cs,ha,hk⟩:=hk.ex
        rw [Hp.forceK_eq] at hk
        exact ⟨_,_,_,hk,⟨k,ha,rfl,rfl⟩,by simp,by simp,fun _ _=>by simp [isAlloc,ho]⟩
      · split at hk
        · rename_i hg
          obtain ⟨v,h',hk,hD⟩:=vglob_ok (ro:=ro) hk
          exact ⟨_,v,h',hk,hD,fun _=>hg,by simp,by simp⟩
        · exact hk.elim
theorem mkD_ok {P : Program} {T : TT} (hT : TOk P T) {o : Oper} {t : TypeId} {l c : Operand} {ρv : Operand → V} {n : Int} {e esz bytes : Nat} {zero : List V} {s_ : Nat} {a_ : Bool} {z_ : V} (ho : o.op = .makeSlice t l c) (hl : ρv l = .s (.int .i64 n)) (hc : ρv c = .s (.int .i64 n))
    (hTt : T t = some ⟨.slice e esz bytes zero,s_,a_,z_⟩) (hn : 0 ≤ n) (hby : n * bytes ≤ 140737488355328) (h63 : n ≤ 9223372036854775807) : AllocOk P o ρv (.sl esz n.toNat) (zeroAt zero esz (n.toNat * esz)):=by
  refine ⟨by rw [ho];simp,fun σ w ρ hρ=>?_⟩
  have hx:=hρ l
  have hy:=hρ c
  rw [hl] at hx
  rw [hc] at hy
  simp only [VR,S.val] at hx hy
  obtain ⟨hu,hp,info,z,hinfo,hsize,hbytes,hzero,hzc,hzl,hzsz⟩:=slice_kind hT hTt
  obtain ⟨hz1,hz2⟩:=zeroAt_ok (σ:=σ) (n:=n.toNat * esz) hzc hzl hp
  have hw1 : IntKind.i64.wrap n = n:=by unfold IntKind.wrap;simp [IntKind.bits,IntKind.signed];omega
  have hnb : ¬ ((281474976710656 : Int) < info.bytes * n):=by rw [hbytes,Int.mul_comm];omega
  have c1 : ¬ (n < 0):=by omega
  have c3 : ¬ (n < n):=by omega
  refine ⟨.slice (some ⟨w.heap.size,0,none⟩) n.toNat n.toNat,(Array.range (n.toNat * esz)).map (z.cells[· % z.cells.size]!),e,?_,hz1,hz2,fun σ' id hid=>by simp only [AK.mk,VR];exact ⟨hp,.inr ⟨_,n.toNat,0,hid,Nat.le_refl _,by simp,fun _=>rfl,rfl⟩⟩⟩
  simp only [execOp,ho,hx,hy]
  by_cases h0 : n.toNat * esz = 0
  · have hh : (Array.map (fun x=>z.cells[x % z.cells.size]!) (Array.range (n.toNat * esz))) = (#[] : Array Value):=by rw [h0];simp
    have hc0 : n.toNat = 0:=by rcases Nat.mul_eq_zero.1 h0 with h1|h1;exact h1;omega
    rw [hh]
    simp [Instr.makeSlice,run_underlying hu,asInt,asIntOf,sizeOf,typeInfo,hinfo,hsize,hw1,c1,c3,hnb,newRow,hc0]
    try rw [show (Array.map (fun _=>(default : Value)) (Array.range 0)) = (#[] : Array Value) by simp]
  · have hcne : ¬ (n.toNat = 0):=fun h1=>h0 (by rw [h1,Nat.zero_mul])
    have hene : ¬ (esz = 0):=by omega
    simp [Instr.makeSlice,run_underlying hu,asInt,asIntOf,sizeOf,typeInfo,zeroValue,hinfo,hsize,hzero,hw1,c1,c3,hnb,newRow,hcne,hene]
    try exact fun h1=>absurd h1 h0
end Go.Vm

namespace Go.Vm

def Conds (cs : List (Nat × Nat)) (j : Nat) (acc : List Acc) (recs : List Rec) : Prop :=
  (∀ a ∈ acc,∀ (k : Nat) (r : Rec),recs[k]? = some r → inCs cs a.i (j + k) = true → Same a.kd a.h a.h' r.kd r.h r.h') ∧
  ∀ (k l : Nat) (rk rl : Rec),k < l → recs[k]? = some rk → recs[l]? = some rl → inCs cs (j + k) (j + l) = true → Same rk.kd rk.h rk.h' rl.kd rl.h rl.h'
theorem vacc_mem {cs : List (Nat × Nat)} {j l : Nat} {kd : Kd} {h h' : Hp} {acc : List Acc} (hin : inCs cs j l = true) : (⟨j,kd,h,h'⟩ : Acc) ∈ vacc cs j kd h h' acc:=by
  have : (cs.any fun p=>Nat.beq p.1 j) = true:=by
    unfold inCs at hin
    rw [List.any_eq_true] at hin ⊢
    obtain ⟨p,hp,h1⟩:=hin
    refine ⟨p,hp,?_⟩
    split at h1
    · assumption
    · cases h1
  unfold vacc;rw [this];simp
theorem vacc_sub {cs : List (Nat × Nat)} {j : Nat} {kd : Kd} {h h' : Hp} {acc : List Acc} {a : Acc} (ha : a ∈ acc) : a ∈ vacc cs j kd h h' acc:=by
  unfold vacc
  split
  · exact List.mem_cons_of_mem _ ha
  · exact ha
theorem Conds.cons {cs : List (Nat × Nat)} {j : Nat} {acc : List Acc} {r : Rec} {rs : List Rec} (h1 : ∀ a ∈ acc,inCs cs a.i j = true → Same a.kd a.h a.h' r.kd r.h r.h')
    (h2 : Conds cs (j + 1) (vacc cs j r.kd r.h r.h' acc) rs) : Conds cs j acc (r :: rs):=by
  refine ⟨fun a ha k rk hk hin=>?_,fun k l rk rl hkl hk hl hin=>?_⟩
  · cases k with
    | zero=>simp at hk;subst hk;exact h1 a ha hin
    | succ k=>exact h2.1 a (vacc_sub ha) k rk (by simpa using hk) (by rwa [show j + 1 + k = j + (k + 1) by omega])
  · cases l with
    | zero=>omega
    | succ l =>
      cases k with
      | zero =>
        simp at hk;subst hk
        exact h2.1 _ (vacc_mem (by simpa using hin)) l rl (by simpa using hl) (by rw [show j + 1 + l = j + (l + 1) by omega];simpa using hin)
      | succ k =>
        exact h2.2 k l rk rl (by omega) (by simpa using hk) (by simpa using hl) (by rw [show j + 1 + k = j + (k + 1) by omega,show j + 1 + l = j + (l + 1) by omega];exact hin)
theorem vstep_ok {cs : List (Nat × Nat)} {j : Nat} {kd : Kd} {h h' : Hp} {acc : List Acc} {K : List Acc → Prop} (hk : vstep cs j kd h h' acc K) : ∃ acc',K acc' ∧
    ∀ (r : Rec) (rs : List Rec),r.kd = kd → r.h = h → r.h' = h' → Conds cs (j + 1) acc' rs → Conds cs j acc (r :: rs):=by
  cases cs with
  | nil =>
    refine ⟨[],hk,fun r rs _ _ _ _=>⟨fun a _ k rk _ hin=>?_,fun k l rk rl _ _ _ hin=>?_⟩⟩
    · simp [inCs] at hin
    · simp [inCs] at hin
  | cons c cs =>
    obtain ⟨h1,h2⟩:=vsame_ok hk
    refine ⟨_,h1,fun r rs e1 e2 e3 hc=>?_⟩
    subst e1 e2 e3
    exact hc.cons h2
theorem Fr.at_same {fr : Fr} {d : Nat} {v : V} (h : fr.at d = v) (x : Nat) : (fr.set d v).at x = fr.at x:=by
  rw [Fr.at_set]
  by_cases e : x = d
  · subst e;rw [if_pos rfl,h]
  · rw [if_neg e]
theorem vopsD_ok {P : Program} {T : TT} (hT : TOk P T) {ro : Option Nat} {ops : Array Oper} {n : Nat} {cs : List (Nat × Nat)} {K : Fr → Hp → Prop} : ∀ (os : List Oper) (j : Nat) (fr : Fr) (h : Hp) (acc : List Acc),
    vopsD P T n ops.toList cs j os fr h acc K → ∃ recs frN hN,TrOk P ro ops n os fr h recs frN hN ∧ K frN hN ∧ Conds cs j acc recs
  | [],j,fr,h,acc,hk=>⟨[],fr,h,⟨rfl,rfl,rfl⟩,hk,fun a _ k r hr=>by simp at hr,fun k l rk rl _ hr=>by simp at hr⟩
  | o :: os,j,fr,h,acc,hv=>by
    have ih:=vopsD_ok hT (ro:=ro) (ops:=ops) (n:=n) (cs:=cs) (K:=K) os (j + 1)
    have run : ∀ fr1 : Fr,(∀ x,fr1.at x = fr.at x) → (∀ r : Rec,r.o = o → r.run = true → r.fr = fr1 → WantOk ops r) → vopD P T o (evT o fr1) h (fun kd v h'=>vstep cs j kd h h' acc fun acc=>vput n fr1 o.dst v fun fr'=>vopsD P T n ops.toList cs (j + 1) os fr' h' acc K) →
        ∃ recs frN hN,TrOk P ro ops n (o :: os) fr h recs frN hN ∧ K frN hN ∧ Conds cs j acc recs:=by
      intro fr1 hfr hw hk
      obtain ⟨kd,v,h',hk,hrec,k1,k2,k3⟩:=vopD_ok hT (ro:=ro) hk
      obtain ⟨acc',hk,hsame⟩:=vstep_ok hk
      obtain ⟨fr',hk,hdst,hat⟩:=vput_at hk
      obtain ⟨recs,frN,hN,h1,h2,h3⟩:=ih fr' h' _ hk
      exact ⟨⟨o,true,kd,v,fr1,h,h'⟩ :: recs,frN,hN,⟨_,recs,fr',rfl,rfl,rfl,hfr,hrec,hw _ rfl rfl rfl,hdst,hat,k1,k2,k3,h1⟩,h2,hsame _ _ rfl rfl rfl h3⟩
    have skip : ∀ fr1 : Fr,(∀ x,fr1.at x = fr.at x) → (∀ r : Rec,r.o = o → r.run = false → r.fr = fr1 → WantOk ops r) → (vstep cs j .lite h h acc fun acc=>vput n fr1 o.dst (.tuple []) fun fr'=>vopsD P T n ops.toList cs (j + 1) os fr' h acc K) →
        ∃ recs frN hN,TrOk P ro ops n (o :: os) fr h recs frN hN ∧ K frN hN ∧ Conds cs j acc recs:=by
      intro fr1 hfr hw hk
      obtain ⟨acc',hk,hsame⟩:=vstep_ok hk
      obtain ⟨fr',hk,hdst,hat⟩:=vput_at hk
      obtain ⟨recs,frN,hN,h1,h2,h3⟩:=ih fr' h _ hk
      exact ⟨⟨o,false,.lite,.tuple [],fr1,h,h⟩ :: recs,frN,hN,⟨_,recs,fr',rfl,rfl,rfl,hfr,⟨rfl,rfl,rfl⟩,hw _ rfl rfl rfl,hdst,hat,by simp,by simp,by simp,h1⟩,h2,hsame _ _ rfl rfl rfl h3⟩
    change vopsD1 P T n ops.toList cs o (fun j=>vopsD P T n ops.toList cs j os) j fr h acc K at hv
    unfold vopsD1 at hv
    split at hv
    · rename_i hg
      exact run fr (fun _=>rfl) (fun r h1 h2 h3=>by unfold WantOk;rw [h1,hg];exact h2) hv
    · rename_i g want hg
      split at hv
      · rename_i d hgs
        split at hv
        · rename_i b hb
          have hw : ∀ c : Bool,c = b → ∀ r : Rec,r.o = o → r.run = (c == want) → r.fr = fr.set d (.s (.bool c)) → WantOk ops r:=by
            intro c hc r h1 h2 h3
            unfold WantOk
            rw [h1,hg]
            exact ⟨d,hgs,.inl ⟨c,by rw [h3,Fr.at_set,if_pos rfl],h2⟩⟩
          cases b with
          | true =>
            have hv:=hv.elim.1 rfl
            rw [Fr.setK_eq] at hv
            cases want with
            | true=>exact run _ (Fr.at_same hb) (fun r h1 h2 h3=>hw true rfl r h1 h2 h3) hv
            | false=>exact skip _ (Fr.at_same hb) (fun r h1 h2 h3=>hw true rfl r h1 h2 h3) hv
          | false =>
            have hv:=hv.elim.2 rfl
            rw [Fr.setK_eq] at hv
            cases want with
            | true=>exact skip _ (Fr.at_same hb) (fun r h1 h2 h3=>hw false rfl r h1 h2 h3) hv
            | false=>exact run _ (Fr.at_same hb) (fun r h1 h2 h3=>hw false rfl r h1 h2 h3) hv
        · rename_i l hb
          exact skip fr (fun _=>rfl) (fun r h1 h2 h3=>by unfold WantOk;rw [h1,hg];exact ⟨d,hgs,.inr ⟨l,by rw [h3];exact hb,h2⟩⟩) hv
        · exact hv.elim
      · exact hv.elim
structure TrAt (P : Program) (ro : Option Nat) (ops : Array Oper) (n : Nat) (os : List Oper) (recs : List Rec) (frN : Fr) (hN : Hp) (k : Nat) (r : Rec) : Prop where
  op : os[k]? = some r.o
  hs : hatOf recs hN (k + 1) = r.h'
  fs : ∀ x,(fatOf recs frN (k + 1)).at x = if r.o.dst = some x then r.v else r.fr.at x
  ok : RecOk P ro r
  want : WantOk ops r
  dst : ∀ x,r.o.dst = some x → x < n
  k1 : r.kd = .glob → isGlob r.o = true
  k2 : ∀ β,r.kd = .load β → isLoad r.o = true
  k3 : ∀ cs,r.kd = .alloc cs → isAlloc r.o = true
theorem TrOk.all {P : Program} {ro : Option Nat} {ops : Array Oper} {n : Nat} : ∀ {os : List Oper} {fr : Fr} {h : Hp} {recs : List Rec} {frN : Fr} {hN : Hp},TrOk P ro ops n os fr h recs frN hN →
    recs.length = os.length ∧ hatOf recs hN 0 = h ∧ (∀ x,(fatOf recs frN 0).at x = fr.at x) ∧ ∀ (k : Nat) (r : Rec),recs[k]? = some r → TrAt P ro ops n os recs frN hN k r
  | [],fr,h,recs,frN,hN,ht=>by
    obtain ⟨rfl,rfl,rfl⟩:=ht
    exact ⟨rfl,rfl,fun _=>rfl,fun k r hr=>by simp at hr⟩
  | o :: os,fr,h,recs,frN,hN,ht=>by
    obtain ⟨r,rs,fr',rfl,ho,hh,hfr,hok,hw,hd,hat,k1,k2,k3,ht⟩:=ht
    obtain ⟨h1,h2,h3,h4⟩:=TrOk.all ht
    have hh' : ∀ k,hatOf (r :: rs) hN (k + 1) = hatOf rs hN k:=fun k=>by simp [hatOf]
    have hf' : ∀ k,fatOf (r :: rs) frN (k + 1) = fatOf rs frN k:=fun k=>by simp [fatOf]
    refine ⟨by simp [h1],by simp [hatOf,hh],fun x=>by simp [fatOf,hfr],fun k r' hr=>?_⟩
    cases k with
    | zero =>
      simp at hr;subst hr
      exact ⟨by simp [ho],by rw [hh',h2],fun x=>by rw [hf',h3,hat,ho],hok,hw,by rw [ho];exact hd,by rw [ho];exact k1,by rw [ho];exact k2,by rw [ho];exact k3⟩
    | succ k =>
      obtain ⟨a1,a2,a3,a4,a5,a6,a7,a8,a9⟩:=h4 k r' (by simpa using hr)
      exact ⟨by simpa using a1,by rw [hh',a2],fun x=>by rw [hf',a3],a4,a5,a6,a7,a8,a9⟩
def Dm (ms : List Nat) (i j : Nat) : Prop:=(ms.getD j 0).testBit i = true
theorem tc_of {P : Program} {ro : Option Nat} {ops : Array Oper} {n : Nat} {fr : Fr} {h : Hp} {recs : List Rec} {frN : Fr} {hN : Hp} {ms : List Nat} {cs : List (Nat × Nat)}
    (hc : drawOk ops ms cs = true) (ht : TrOk P ro ops n ops.toList fr h recs frN hN) (hcd : Conds cs 0 [] recs) (hl : ms.length ≤ ops.size) : Tc P ro ops n recs hN frN (Dm ms):=by
  obtain ⟨g1,g2⟩:=chkAll_ok hc
  obtain ⟨t1,t2,t3,t4⟩:=ht.all
  have one : ∀ (j : Nat) (o : Oper),ops[j]? = some o → (∀ e ∈ o.after,Region.binds .any e = true → e.on < j) ∧ ms.getD j 0 = emask ms o.after.toList:=by
    intro j o ho
    have:=g1 j o (by simpa using ho)
    rw [Nat.zero_add] at this
    unfold chkOne at this
    rw [Bool.and_eq_true] at this
    refine ⟨fun e he hb=>?_,Nat.eq_of_beq_eq_true this.2⟩
    have h1:=List.all_eq_true.1 this.1 e (by simpa using he)
    rw [hb] at h1
    simpa [Nat.blt_eq] using h1
  have pair : ∀ (i j : Nat) (oi oj : Oper),i < j → ops[i]? = some oi → ops[j]? = some oj → ¬ Dm ms i j → oi.apart ops oj = true ∧ (isGlob oi && isGlob oj) = false ∧ ((isGlob oi && isLoad oj || (isLoad oi || isAlloc oi) && isGlob oj) = true → inCs cs i j = true):=by
    intro i j oi oj hij hi hj hD
    have:=g2 i j oi oj hij (by simpa using hi) (by simpa using hj)
    rw [Nat.zero_add,Nat.zero_add] at this
    unfold chkPair at this
    rw [Bool.or_eq_true] at this
    rcases this with h1|h1
    · exact absurd h1 hD
    · rw [Bool.and_eq_true,Bool.and_eq_true] at h1
      refine ⟨h1.1.1,Bool.not_eq_true' _ ▸ h1.1.2,fun h2=>?_⟩
      have h3:=h1.2
      rw [h2] at h3
      simpa using h3
  have hops : ∀ (j : Nat) (r : Rec),recs[j]? = some r → ops[j]? = some r.o:=fun j r hr=>by simpa using (t4 j r hr).op
  have clo : ∀ j i,Dm ms i j → i < j ∧ ∃ (o : Oper) (e : Edge),ops[j]? = some o ∧ e ∈ o.after ∧ Region.binds .any e = true ∧ (i = e.on ∨ Dm ms i e.on):=by
    intro j
    induction j using Nat.strongRecOn with
    | _ j ih =>
      intro i hD
      cases ho : ops[j]? with
      | none =>
        exfalso
        have : ops.size ≤ j:=by simpa using ho
        unfold Dm at hD
        rw [List.getD_eq_getElem?_getD,List.getElem?_eq_none (by omega)] at hD
        simp at hD
      | some o =>
        obtain ⟨h1,h2⟩:=one j o ho
        have hD':=hD
        unfold Dm at hD'
        rw [h2,emask_bit] at hD'
        obtain ⟨e,h3,h4,h5⟩:=hD'
        have hlt:=h1 e (by simpa using h3) h4
        refine ⟨?_,o,e,rfl,by simpa using h3,h4,h5⟩
        rcases h5 with rfl|h5
        · exact hlt
        · exact Nat.lt_trans (ih e.on hlt i h5).1 hlt
  refine ⟨by rw [t1];simp,hops,fun j r hr=>(t4 j r hr).hs,fun j r hr=>(t4 j r hr).fs,fun j r x hr hd=>(t4 j r hr).dst x hd,fun j r hr=>(t4 j r hr).ok,fun j r hr=>(t4 j r hr).want,?_,fun i j=>clo j i,?_,?_,?_,?_,?_⟩
  · intro j o e ho he hb
    obtain ⟨h1,h2⟩:=one j o ho
    refine ⟨h1 e he hb,?_⟩
    unfold Dm
    rw [h2,emask_bit]
    exact ⟨e,by simpa using he,hb,.inl rfl⟩
  · intro i j oi oj hij hi hj hD;exact (pair i j oi oj hij hi hj hD).1
  · intro i j ri rj hij hi hj hgi hgj
    rcases Classical.em (Dm ms i j) with h1|h1
    · exact h1
    · have:=(pair i j _ _ hij (hops i ri hi) (hops j rj hj) h1).2.1
      rw [(t4 i ri hi).k1 hgi,(t4 j rj hj).k1 hgj] at this
      cases this
  · intro i j ri rj β hij hi hj hD hgi hgj
    have:=(pair i j _ _ hij (hops i ri hi) (hops j rj hj) hD).2.2 (by rw [(t4 i ri hi).k1 hgi,(t4 j rj hj).k2 β hgj];rfl)
    have hs:=hcd.2 i j ri rj hij hi hj (by simpa using this)
    unfold Same at hs
    rw [hgi,hgj] at hs
    exact hs
  · intro i j ri rj β hij hi hj hD hgi hgj
    have:=(pair i j _ _ hij (hops i ri hi) (hops j rj hj) hD).2.2 (by rw [(t4 i ri hi).k2 β hgi,(t4 j rj hj).k1 hgj];simp)
    have hs:=hcd.2 i j ri rj hij hi hj (by simpa using this)
    unfold Same at hs
    rw [hgi,hgj] at hs
    exact hs
  · intro i j ri rj c hij hi hj hD hgi hgj
    have:=(pair i j _ _ hij (hops i ri hi) (hops j rj hj) hD).2.2 (by rw [(t4 i ri hi).k3 c hgi,(t4 j rj hj).k1 hgj];simp)
    have hs:=hcd.2 i j ri rj hij hi hj (by simpa using this)
    unfold Same at hs
    rw [hgi,hgj] at hs
    exact hs
theorem VWp.drawn {P : Program} {T : TT} (hT : TOk P T) {ro : Option Nat} {K : Id → Prop} {id : Nat} {ops : Array Oper} {st : St} {Q : X → St → Prop} (ms : List Nat) (cs : List (Nat × Nat))
    (hm : P.follows .mixedOrders = true) (hl : Nat.ble ms.length ops.size = true) (hc : drawOk ops ms cs = true)
    (h : vopsD P T st.n ops.toList cs 0 ops.toList st.fr st.h [] fun fr h=>Q .normal { st with fr:=fr,h:=h }) : VWp P ro K (.region id ops true) st Q:=by
  intro σ a w hs
  obtain ⟨recs,frN,hN,ht,hq,hcd⟩:=vopsD_ok hT (ro:=ro) (ops:=ops) _ _ _ _ _ h
  have Tt:=tc_of hc ht hcd (Nat.le_of_ble_eq_true hl)
  obtain ⟨t1,t2,t3,t4⟩:=ht.all
  refine wpIn_region_any hm ?_
  have hdomσ : σ.within (dm recs hN 0):=⟨fun i hi h0=>by
    rw [t2] at h0
    exact hi (hs.rel.dom i h0),fun i hi h0=>by
    rw [t2] at h0
    exact hs.rel.nmd i hi h0⟩
  have hgs : gS recs hN (fun _=>False) 0 = st.h.get:=by
    funext i
    by_cases hcr : ∃ b,Cr recs i b
    · obtain ⟨b,hb⟩:=hcr
      rw [Tt.gS_cr hb,if_neg (fun h=>h),← t2]
      have:=Tt.cr_before hb (Nat.zero_le b)
      unfold dm at this
      cases hx : (hatOf recs hN 0).get i with
      | none=>rfl
      | some b=>rw [hx] at this;simp at this
    · rw [gS_nc hcr,t2]
  have I0 : Inv P recs hN frN st.n st.marks σ w (fun _=>False) σ 0 a { w with drawn:=w.drawn + 1 }:=by
    refine ⟨fun g r _ _=>by simp,?_,?_,fun k r hk=>hk.elim,?_,hs.size,?_,?_,?_⟩
    · rw [hgs];exact hs.rel.heap_eq rfl
    · intro x v hl
      rcases hl with ⟨rfl,_⟩|⟨k,r,hk,_⟩
      · rw [t3];exact hs.fr x
      · exact hk.elim
    · intro i b p hi hp hb
      rw [hgs] at hb
      cases hsi : σ i with
      | none=>exact absurd hsi hi
      | some e =>
        obtain ⟨_,o,_,hr⟩:=hs.rel.blk i e b hsi hb
        exact ⟨σ,e,o,hdomσ.mono fun m hm=>Tt.grow (Nat.zero_le p) hm,hr⟩
    · rw [hgs];exact hs.marks.ext (Ext.drew (σ:=σ) (h:=st.h) (w:=w)).toK
    · rw [hgs,t2];exact (Ext.drew (σ:=σ) (h:=st.h) (w:=w)).toK
    · intro x
      rw [t3]
      exact ⟨σ,_,hdomσ,hs.fr x⟩
  have hlist : (fun k=>(Array.replicate ops.size false).getD k false = true) = fun _=>False:=by
    funext k
    refine propext ⟨fun h=>?_,False.elim⟩
    rw [Array.getD_eq_getD_getElem?,Array.getElem?_replicate] at h
    split at h <;> simp at h
  refine inv_any Tt (n:=st.n) (marks:=st.marks) (σ0:=σ) (w0:=w) ?_ ops.size _ σ 0 a _ (by simp) (by omega) ?_ (by rw [hlist];exact I0)
  · intro σ' G a' w' I
    have hlen : recs.length = ops.size:=by rw [t1];simp
    have hend : ∀ p,recs.length ≤ p → hatOf recs hN p = hN:=fun p hp=>by unfold hatOf;rw [List.getElem?_eq_none hp]
    have hall : ∀ i p,G ≤ p → (∀ a,Cr recs i a → a + 1 ≤ p) → (hatOf recs hN p).get i = hN.get i:=by
      intro i p hp hcp
      rcases Nat.le_total recs.length p with h1|h1
      · rw [hend p h1]
      · have e:=hend recs.length (Nat.le_refl _)
        conv=>rhs;rw [← e]
        refine (fix_chain h1 fun k h2 h3=>Tt.fixed (fun r hr hg=>?_) (fun hcr=>by have:=hcp k hcr;omega)).symm
        have:=(I.iG k r hr hg).1 (by omega)
        omega
    have hgS : gS recs hN (fun k=>k < ops.size) G = hN.get:=by
      funext i
      by_cases hcr : ∃ b,Cr recs i b
      · obtain ⟨b,hb⟩:=hcr
        have hlt : b < ops.size:=by
          obtain ⟨r,_,hr,_⟩:=hb
          rw [← hlen];exact (List.getElem?_eq_some_iff.1 hr).1
        rw [Tt.gS_cr hb,if_pos hlt]
        exact hall i _ (Nat.le_max_left _ _) fun c hc=>by rw [Tt.cr_uniq hc hb];exact Nat.le_max_right _ _
      · rw [gS_nc hcr]
        exact hall i G (Nat.le_refl _) fun c hc=>absurd ⟨c,hc⟩ hcr
    have hrel:=I.rel
    have hext:=I.ext
    have hmks:=I.mks
    rw [hgS] at hrel hext hmks
    rw [t2] at hext
    refine ⟨.normal,σ',_,rfl,hq,⟨hrel,fun x=>?_,I.size,hmks⟩,hext.weak fun _ _=>trivial⟩
    refine I.slot x _ ?_
    have:=Tt.lastF x ops.size
    rwa [show fatOf recs frN ops.size = frN by unfold fatOf;rw [List.getElem?_eq_none (by omega)]] at this
  · intro k o e hk
    have : (fun k=>(Array.replicate ops.size false).getD k false = true) k:=hk
    rw [hlist] at this
    exact this.elim
theorem VDraw.run {P : Program} {ro : Option Nat} {K : Id → Prop} {id : Nat} {ops : Array Oper} {n : Nat} {fr : Fr} {h : Hp} {marks : List Id} {Q : X → St → Prop} (ms : List Nat) (cs : List (Nat × Nat))
    (hm : P.follows .mixedOrders = true) (hl : Nat.ble ms.length ops.size = true) (hc : drawOk ops ms cs = true)
    (hv : vopsD P (tiOf P) n ops.toList cs 0 ops.toList fr h [] fun fr h=>Q .normal ⟨n,fr,h,marks⟩) : VDraw P (tiOf P) ro K id ops ⟨n,fr,h,marks⟩ Q :=
  VDraw.intro (VWp.drawn (tiOf_ok P) ms cs hm hl hc hv)
theorem masksGo_length : ∀ (os : List Oper) (acc : List Nat),(masksGo os acc).length = acc.length + os.length
  | [],acc=>by simp [masksGo]
  | o :: os,acc=>by rw [masksGo,masksGo_length os];simp;omega
def forceNs : List Nat → List Nat → (List Nat → Bool) → Bool
  | [],acc,k=>k acc.reverse
  | n :: l,acc,k=>match n with
    | 0=>forceNs l (0 :: acc) k
    | n + 1=>forceNs l ((n + 1) :: acc) k
theorem forceNs_eq : ∀ (l acc : List Nat) (k : List Nat → Bool),forceNs l acc k = k (acc.reverse ++ l)
  | [],acc,k=>by simp [forceNs]
  | n :: l,acc,k=>by
    cases n with
    | zero=>simp [forceNs,forceNs_eq l]
    | succ n=>simp [forceNs,forceNs_eq l]
def drawOk' (ops : Array Oper) (cs : List (Nat × Nat)) : Bool:=forceNs (masksOf ops) [] fun ms=>drawOk ops ms cs
theorem VDraw.go {P : Program} {ro : Option Nat} {K : Id → Prop} {id : Nat} {ops : Array Oper} {n : Nat} {fr : Fr} {h : Hp} {marks : List Id} {Q : X → St → Prop} (cs : List (Nat × Nat))
    (hm : P.follows .mixedOrders = true) (hc : drawOk' ops cs = true)
    (hv : vopsD P (tiOf P) n ops.toList cs 0 ops.toList fr h [] fun fr h=>Q .normal ⟨n,fr,h,marks⟩) : VDraw P (tiOf P) ro K id ops ⟨n,fr,h,marks⟩ Q:=by
  unfold drawOk' at hc
  rw [forceNs_eq] at hc
  refine VDraw.run (masksOf ops) cs hm ?_ (by simpa using hc) hv
  have:=masksGo_length ops.toList []
  simp only [Array.length_toList,List.length_nil,Nat.zero_add] at this
  exact Nat.ble_eq_true_of_le (by unfold masksOf;omega)
end Go.Vm

namespace Go.Vm

def RFin (i : Id) (h : Hp) (r : V) (h' : Hp) (x : X) (st : St) : Prop :=
  ∃ lr,st.h.get (.out i) = some (.loop lr) ∧ r = .s (.bool x.jump.isNone) ∧ Outs h (st.h.set (.out i) (.loop { lr with state:=(if x.jump.isNone then .ready else .done),pending:=x.jump })) r r h'
theorem VY.intro {P : Program} {i : Id} {args : List V} {h : Hp} {r : V} {h' : Hp} {lr : LoopV} (hb : h.get i = some (.loop lr)) (hst : lr.state = .ready) (hn : args.length = lr.params.size) (hp : ∀ t ∈ lr.params.toList,t < lr.n) (hgr : h.grows h')
    (hw : ∀ l,VWp P (some l) isOut lr.assign ⟨lr.n,frPar lr.params.toList (args.map (V.ren .out)) (PT.map (V.ren .out) lr.fr),h.enter,[]⟩ (fun x st=>(match x with|.normal=>True|_=>False) ∧
      ∃ lr1,st.h.get (.out i) = some (.loop lr1) ∧ lr1.state = .ready ∧ VWp P (some l) isOut lr.body { st with h:=st.h.set (.out i) (.loop { lr1 with state:=.busy }) } (RFin i h r h'))) : VY P i args h r h':=by
  refine ⟨hgr,fun σ w e xs hr hi hxs=>?_⟩
  obtain ⟨R,hR,hRs,hRp,hRpa,hRa,hRb,hRf,hRn,_⟩:=hr.loopSet hi hb
  have hlen:=VRs.length hxs
  let σc : Sig:=σ.enter.at w.heap.size
  have hrc : Rel σc h.enter w:=hr.enter.at _
  have hy:=run_yield (P:=P) (args:=xs.toArray) hR (by rw [hRpa];simp [hlen,hn])
  refine ⟨_,_,_,_,hy,roundIn_of_wpIn trivial ?_⟩
  rw [hRa,hRb,hRpa]
  have hargs : VRs σc (args.map (V.ren .out)) xs:=VRs.mono (σ.enter.at_le w.heap.size) _ _ (by rw [← V.rens_eq];exact (VRs_ren σ.enter .out args xs).2 hxs)
  have hfr0 : FrRel σc (PT.map (V.ren .out) lr.fr) R.tmps:=FrRel.mono (σ.enter.at_le w.heap.size) ((FrRel_ren σ.enter .out lr.fr R.tmps).2 hRf)
  obtain ⟨f1,f2⟩:=FrRel.par lr.params.toList _ xs _ R.tmps hp hRn hfr0 hargs
  have hz : (lr.params.zip xs.toArray).foldl (fun tmps (t,a)=>tmps.setIfInBounds t a) R.tmps = (lr.params.toList.zip xs).foldl (fun tmps p=>tmps.setIfInBounds p.1 p.2) R.tmps:=by
    rw [← Array.foldl_toList];simp
  rw [hz]
  have hs0 : StRel σc ⟨lr.n,frPar lr.params.toList (args.map (V.ren .out)) (PT.map (V.ren .out) lr.fr),h.enter,[]⟩ { tmps:=(lr.params.toList.zip xs).foldl (fun tmps p=>tmps.setIfInBounds p.1 p.2) R.tmps,defers:=[] } w :=
    ⟨hrc,f1,f2,MarksRel.nil (Nat.le_refl _)⟩
  refine wpIn_mono (hw e.rid σc _ w hs0) ?_
  rintro en a1 w1 ⟨x,σ1,st1,rfl,⟨hx,lr1,hb1,hst1,hbody⟩,hs1,hx1⟩
  cases x with
  | exit id=>exact hx.elim
  | ret=>exact hx.elim
  | normal =>
    have hi1 : σ1 (.out i) = some e:=hx1.le (.out i) e trivial hi
    obtain ⟨R1,hR1,hR1s,hR1p,_,_,_,_,_,hset1⟩:=hs1.rel.loopSet hi1 hb1
    have hbr:=run_beginRound (P:=P) hR1 (by rw [hR1s];exact hst1)
    refine ⟨_,hbr,?_⟩
    obtain ⟨hr2,hx2⟩:=hset1 .busy lr1.pending
    have hw2 : w1.putObj e.rid (.loop { R1 with state:=.busy }) = w1.putObj e.rid (.loop { R1 with state:=.busy,pending:=lr1.pending }):=by rw [← hR1p]
    rw [hw2]
    have hs2 : StRel σ1 { st1 with h:=st1.h.set (.out i) (.loop { lr1 with state:=.busy }) } a1 (w1.putObj e.rid (.loop { R1 with state:=.busy,pending:=lr1.pending })):=⟨hr2,hs1.fr,hs1.size,hs1.marks.ext hx2⟩
    refine wpIn_mono (hbody σ1 a1 _ hs2) ?_
    rintro en a3 w3 ⟨x,σ3,st3,rfl,⟨lr3,hb3,hrr,hL⟩,hs3,hx3⟩
    have hi3 : σ3 (.out i) = some e:=hx3.le (.out i) e trivial hi1
    obtain ⟨R3,hR3,_,_,_,_,_,_,_,hset3⟩:=hs3.rel.loopSet hi3 hb3
    obtain ⟨hr4,hx4⟩:=hset3 (if x.jump.isNone then .ready else .done) x.jump
    have hxT:=((hx1.trans (hx2.weak fun _ _=>trivial)).trans hx3).trans (hx4.weak (K':=isOut) fun _ _=>trivial)
    obtain ⟨σ5,g1,g2,g3⟩:=hL _ _ _ _ (.bool x.jump.isNone) hr (hr4.at _) hxT.at (by rw [hrr];rfl)
    cases x with
    | normal=>exact ⟨_,_,run_endRound none hR3,σ5,_,rfl,g1,g2,g3⟩
    | ret=>exact ⟨_,_,run_endRound (some .ret) hR3,σ5,_,rfl,g1,g2,g3⟩
    | exit id=>exact ⟨_,_,run_endRound (some (.exit id)) hR3,σ5,_,rfl,g1,g2,g3⟩
def Hp.under (h : Hp) (loc : List Blk) : Hp:=⟨h.lift,loc⟩
theorem under_out (h : Hp) (loc : List Blk) (i : Id) : (h.under loc).get (.out i) = (h.get i).map (Blk.ren .out):=get_lift h loc i
theorem VY.lift {P : Program} {i : Id} {args : List V} {g g' : Hp} {r : V} (loc : List Blk) (hV : VY P i args g r g') : VY P (.out i) (args.map (V.ren .out)) (g.under loc) (r.ren .out) (g'.under loc):=by
  obtain ⟨hgr,hV⟩:=hV
  refine ⟨?_,?_⟩
  · intro j hj
    cases j with
    | loc k=>exact hj
    | out j =>
      rw [under_out] at hj ⊢
      intro h0
      rw [Option.map_eq_none_iff] at h0
      exact hgr j (fun h1=>hj (by rw [h1];rfl)) h0
  · intro σ w e xs hr hi hxs
    let σo : Sig:=σ.ren .out
    have hro : Rel σo g w:=by
      refine ⟨fun j ej b hj hb=>?_,fun j k ej ek bj bk hne hj hk hbj hbk h1 h2=>?_,fun j hj=>?_,fun j hj=>?_,fun r o hro=>?_⟩
      · obtain ⟨h1,o,h2,h3⟩:=hr.blk (.out j) ej (b.ren .out) hj (by rw [under_out,hb];rfl)
        exact ⟨h1,o,h2,(BlkRel_ren _ _ _ _ _).1 h3⟩
      · exact hr.apart (.out j) (.out k) ej ek _ _ (fun e=>hne (by cases e;rfl)) hj hk (by rw [under_out,hbj];rfl) (by rw [under_out,hbk];rfl) (by simpa using h1) (by simpa using h2)
      · exact hr.dom (.out j) (by rw [under_out,hj];rfl)
      · have:=hr.nmd (.out j) hj
        rw [under_out] at this
        exact fun h0=>this (by rw [h0];rfl)
      · obtain ⟨f1,f2⟩:=hr.fz r o hro
        exact ⟨f1,fun j ej b hj hb hw=>f2 (.out j) ej (b.ren .out) hj (by rw [under_out,hb];rfl) (by simpa using hw)⟩
    have hxo : VRs σo args xs:=by rw [← V.rens_eq] at hxs;exact (VRs_ren σ .out args xs).1 hxs
    obtain ⟨fn,tmps,assign,body,hy,hround⟩:=hV σo w e xs hro hi hxo
    refine ⟨fn,tmps,assign,body,hy,RoundIn.mono hround ?_⟩
    rintro en w' ⟨σ1,x,rfl,hx,hr1,he⟩
    let σ2 : Sig:=⟨fun|.out i=>σ1 i|.loc k=>σ (.loc k),σ1.fz,fun|.out i=>σ1.nm i|.loc k=>σ.nm (.loc k),σ1.lo⟩
    have hnm : ∀ j,σ.nm j → σ2.nm j:=fun j hj=>by
      cases j with
      | loc k=>exact hj
      | out j=>exact he.nm j trivial hj
    have hle : σ.le σ2:=⟨fun j ej hj=>by
      cases j with
      | loc k=>exact hj
      | out j=>exact he.le j ej trivial hj,he.fz,hnm⟩
    -- the callee's own blocks lie apart
    have hkeep : ∀ k ej b,σ (.loc k) = some ej → loc[k]? = some b → b.alive = true → w'.heap[ej.rid]? = w.heap[ej.rid]?:=by
      intro k ej b hj hb hal
      have hlt:=(hr.blk (.loc k) ej b hj hb).1
      refine he.frame ej.rid hlt fun m em bm hm hbm hmw=>?_
      exact hr.apart (.out m) (.loc k) em ej (bm.ren .out) b (by simp) hm hj (by rw [under_out,hbm];rfl) hb (by simpa using hmw) hal
    have hloc : ∀ k ej b m em bm,σ (.loc k) = some ej → loc[k]? = some b → σ1 m = some em → g'.get m = some bm → (b.rw = true ∧ bm.alive = true) ∨ (bm.rw = true ∧ b.alive = true) → ej.rid ≠ em.rid:=by
      intro k ej b m em bm hj hb hm hbm hor
      have hlt:=(hr.blk (.loc k) ej b hj hb).1
      by_cases hrw : bm.rw = true
      · have hal : b.alive = true:=by
          rcases hor with ⟨h1,_⟩|⟨_,h2⟩
          · cases b <;> first|rfl|simp [Blk.rw] at h1
          · exact h2
        rcases he.wr m em bm hm hbm hrw with h1|⟨m',em',bm',h1,h2,h3,h4⟩
        · omega
        · rw [← h4]
          exact (hr.apart (.out m') (.loc k) em' ej (bm'.ren .out) b (by simp) h1 hj (by rw [under_out,h2];rfl) hb (by simpa using h3) hal).symm
      · rcases hor with ⟨h1,h2⟩|⟨h1,_⟩
        · obtain ⟨m',bm',g1,g2,g3,_⟩:=he.ro m em bm hm hbm (by simpa using hrw) h2
          exact hr.apart (.loc k) (.out m') ej em b (bm'.ren .out) (by simp) hj g1 hb (by rw [under_out,g2];rfl) h1 (by simpa using g3)
        · exact absurd h1 hrw
    have hgetL : ∀ (q : Hp) k,(q.under loc).get (.loc k) = loc[k]?:=fun _ _=>rfl
    refine ⟨σ2,x,rfl,(VR_ren σ2 .out r x).2 hx,⟨?_,?_,?_,?_,?_⟩,⟨fun j ej _ hj=>hle j ej hj,fun j _ hj=>hnm j hj,he.lo,he.fz,?_,he.size,he.os,he.tape,he.output,?_,?_,?_,?_,?_⟩⟩
    · intro j ej b hj hb
      cases j with
      | loc k =>
        obtain ⟨h1,o,h2,h3⟩:=hr.blk (.loc k) ej b hj hb
        by_cases hal : b.alive = true
        · exact ⟨Nat.lt_of_lt_of_le h1 he.size,o,by rw [hkeep k ej b hj hb hal];exact h2,h3.mono hle⟩
        · have hlt:=Nat.lt_of_lt_of_le h1 he.size
          refine ⟨hlt,w'.heap[ej.rid],by simp [hlt],?_⟩
          cases b <;> first|trivial|(exfalso;exact hal rfl)
      | out j =>
        rw [under_out,Option.map_eq_some_iff] at hb
        obtain ⟨b0,hb0,rfl⟩:=hb
        obtain ⟨h1,o,h2,h3⟩:=hr1.blk j ej b0 hj hb0
        exact ⟨h1,o,h2,(BlkRel_ren σ2 .out _ _ _).2 h3⟩
    · intro j k ej ek bj bk hne hj hk hbj hbk h1 h2
      cases j with
      | loc j =>
        cases k with
        | loc k=>exact hr.apart (.loc j) (.loc k) ej ek bj bk hne hj hk hbj hbk h1 h2
        | out k =>
          rw [under_out,Option.map_eq_some_iff] at hbk
          obtain ⟨b0,hb0,rfl⟩:=hbk
          exact hloc j ej bj k ek b0 hj hbj hk hb0 (.inl ⟨h1,by simpa using h2⟩)
      | out j =>
        rw [under_out,Option.map_eq_some_iff] at hbj
        obtain ⟨b0,hb0,rfl⟩:=hbj
        cases k with
        | loc k=>exact (hloc k ek bk j ej b0 hk hbk hj hb0 (.inr ⟨by simpa using h1,h2⟩)).symm
        | out k =>
          rw [under_out,Option.map_eq_some_iff] at hbk
          obtain ⟨b1,hb1,rfl⟩:=hbk
          exact hr1.apart j k ej ek b0 b1 (fun e=>hne (by rw [e])) hj hk hb0 hb1 (by simpa using h1) (by simpa using h2)
    · intro j hj
      cases j with
      | loc k=>exact hr.dom (.loc k) hj
      | out j =>
        rw [under_out,Option.map_eq_none_iff] at hj
        exact hr1.dom j hj
    · intro j hj
      cases j with
      | loc k=>exact hr.nmd (.loc k) hj
      | out j =>
        rw [under_out]
        intro h0
        rw [Option.map_eq_none_iff] at h0
        exact hr1.nmd j hj h0
    · intro rr o hro
      obtain ⟨f1,f2⟩:=hr1.fz rr o hro
      refine ⟨f1,fun j ej b hj hb hw=>?_⟩
      cases j with
      | loc k =>
        have hlt:=(hr.blk (.loc k) ej b hj hb).1
        rcases he.fzn rr o hro with h1|h1|⟨m,em,bm,h1,h2,h3,h4⟩
        · exact (hr.fz rr o h1).2 (.loc k) ej b hj hb hw
        · omega
        · rw [← h4]
          have hal : b.alive = true:=by cases b <;> first|rfl|simp [Blk.rw] at hw
          exact (hr.apart (.out m) (.loc k) em ej (bm.ren .out) b (by simp) h1 hj (by rw [under_out,h2];rfl) hb (by simpa using h3) hal).symm
      | out j =>
        rw [under_out,Option.map_eq_some_iff] at hb
        obtain ⟨b0,hb0,rfl⟩:=hb
        exact f2 j ej b0 hj hb0 (by simpa using hw)
    · intro rr o hro
      rcases he.fzn rr o hro with h1|h1|⟨m,em,bm,h1,h2,h3,h4⟩
      · exact .inl h1
      · exact .inr (.inl h1)
      · exact .inr (.inr ⟨.out m,em,bm.ren .out,h1,by rw [under_out,h2];rfl,by simpa using h3,h4⟩)
    · intro rr hrr hnr
      refine he.frame rr hrr fun m em bm hm hbm hmw=>?_
      exact hnr (.out m) em (bm.ren .out) hm (by rw [under_out,hbm];rfl) (by simpa using hmw)
    · intro j ej b hj hb hw
      cases j with
      | loc k=>exact .inr ⟨.loc k,ej,b,hj,hb,hw,rfl⟩
      | out j =>
        rw [under_out,Option.map_eq_some_iff] at hb
        obtain ⟨b0,hb0,rfl⟩:=hb
        rcases he.wr j ej b0 hj hb0 (by simpa using hw) with h1|⟨m,em,bm,h1,h2,h3,h4⟩
        · exact .inl h1
        · exact .inr ⟨.out m,em,bm.ren .out,h1,by rw [under_out,h2];rfl,by simpa using h3,h4⟩
    · intro j ej b hj hb hw hal
      cases j with
      | loc k=>exact ⟨.loc k,b,hj,hb,hal,hw⟩
      | out j =>
        rw [under_out,Option.map_eq_some_iff] at hb
        obtain ⟨b0,hb0,rfl⟩:=hb
        obtain ⟨m,bm,h1,h2,h3,h4⟩:=he.ro j ej b0 hj hb0 (by simpa using hw) (by simpa using hal)
        exact ⟨.out m,bm.ren .out,h1,by rw [under_out,h2];rfl,by simpa using h3,by simpa using h4⟩
    · intro j _ hj
      cases j with
      | loc k=>exact ⟨hj,id⟩
      | out j =>
        rw [under_out] at hj
        have hj' : g.get j ≠ none:=fun h0=>hj (by rw [h0];rfl)
        obtain ⟨h1,h2⟩:=he.old j trivial hj'
        refine ⟨?_,h2⟩
        rw [under_out]
        intro h0
        rw [Option.map_eq_none_iff] at h0
        exact h1 h0
    · intro j _ hj h
      cases j with
      | loc k=>exact h
      | out j =>
        rw [under_out] at hj
        exact he.oldn j trivial (fun h0=>hj (by rw [h0];rfl)) h
theorem RFin.mk {i : Id} {h : Hp} {r : V} {h' : Hp} {x : X} {st : St} (h0 : ∃ lr,st.h.get (.out i) = some (.loop lr) ∧ r = .s (.bool x.jump.isNone) ∧ Outs h (st.h.set (.out i) (.loop { lr with state:=(if x.jump.isNone then .ready else .done),pending:=x.jump })) r r h') : RFin i h r h' x st:=h0
attribute [irreducible] RFin
end Go.Vm

namespace Go.Vm

structure TCtx where
  pm : List Nat
  L : Nat
  fz : List (Nat × List D)
  fm : List (Nat × List D × List D)
def TCtx.ρ (c : TCtx) : Id → Id
  | .out i=>.out i
  | .loc k=>match c.pm[k]? with
    | some j=>.loc j
    | none=>.loc (c.L + k)
def TCtx.nw (c : TCtx) : Id → Prop
  | .out _=>False
  | .loc k=>match c.pm[k]? with
    | some j=>c.L ≤ j
    | none=>False
def assoc {α : Type} : List (Nat × α) → Nat → Option α
  | [],_=>none
  | (q,a) :: l,p=>match Nat.beq q p with
    | true=>some a
    | false=>assoc l p
def TCtx.frz (c : TCtx) (p : Nat) (ds : List D) : Prop:=assoc c.fz p = some ds
def TCtx.frm (c : TCtx) (p : Nat) (ks vs : List D) : Prop:=assoc c.fm p = some (ks,vs)
def VToFs (c : TCtx) (esz n : Nat) (cs : List D) : V → Prop
  | .fs a b ds=>esz = a ∧ n = b ∧ ds = cs
  | .gl (.loc p) a b=>esz = a ∧ n = b ∧ cs.length = n * esz ∧ c.frz p cs
  | .nilslice=>n = 0 ∧ 0 < esz ∧ cs = []
  | .slice (.loc p) off a b _=>esz = a ∧ n = b ∧ cs.length = n * esz ∧ ∃ ds,c.frz p ds ∧ off + n * esz ≤ ds.length ∧ cs = (ds.drop off).take (n * esz)
  | _=>False
def VToFp (c : TCtx) (cs : List D) : V → Prop
  | .fp ds=>ds = cs
  | .ptr (.loc p) off=>∃ ds,c.frz p ds ∧ cs = ds.drop off
  | _=>False
def VToFm (c : TCtx) (ks vs : List D) : V → Prop
  | .fm a b=>a = ks ∧ b = vs
  | .map (.loc p)=>c.frm p ks vs
  | _=>False
def VToGl (c : TCtx) (i : Id) (esz n : Nat) : V → Prop
  | .gl j a b=>j = c.ρ i ∧ esz = a ∧ n = b
  | .nilslice=>n = 0 ∧ 0 < esz ∧ c.nw i
  | _=>False
mutual
def VTo (c : TCtx) (v : V) : V → Prop
  | .undef=>True
  | .fs esz n cs=>VToFs c esz n cs v
  | .fp cs=>VToFp c cs v
  | .fm ks vs=>VToFm c ks vs v
  | .gl i esz n=>VToGl c i esz n v
  | .agg cs=>∃ l,v = .agg l ∧ VTos c l cs
  | .tuple cs=>∃ l,v = .tuple l ∧ VTos c l cs
  | .func fn f cp=>∃ f' cp',v = .func fn f' cp' ∧ VTos c f' f ∧ VTos c cp' cp
  | .s x=>v = .s x
  | .lit x=>v = .lit x
  | .nilptr=>v = .nilptr
  | .ptr i off=>v = .ptr (c.ρ i) off
  | .nilslice=>v = .nilslice
  | .slice i off esz len lim=>v = .slice (c.ρ i) off esz len lim
  | .nilmap=>v = .nilmap
  | .map i=>v = .map (c.ρ i)
  | .yld i=>v = .yld (c.ρ i)
  | .nilfunc=>v = .nilfunc
def VTos (c : TCtx) (l : List V) : List V → Prop
  | []=>l = []
  | v' :: l'=>∃ v r,l = v :: r ∧ VTo c v v' ∧ VTos c r l'
end

def RowTo (c : TCtx) (l l' : List V) : Prop:=l.length = l'.length ∧ ∀ (i : Nat) (v' : V),l'[i]? = some v' → ∃ v,l[i]? = some v ∧ VTo c v v'
mutual
theorem VTo_dv (c : TCtx) : ∀ d : D,VTo c d.v d.v
  | .undef=>by simp only [D.v,VTo]
  | .s _=>by simp only [D.v,VTo]
  | .lit _=>by simp only [D.v,VTo]
  | .nilptr=>by simp only [D.v,VTo]
  | .nilslice=>by simp only [D.v,VTo]
  | .nilmap=>by simp only [D.v,VTo]
  | .nilfunc=>by simp only [D.v,VTo]
  | .sl a b l=>by simp only [D.v,VTo,VToFs,and_self]
  | .pt l=>by simp only [D.v,VTo,VToFp]
  | .mp k v=>by simp only [D.v,VTo,VToFm,and_self]
  | .agg l=>by simp only [D.v,VTo];exact ⟨_,rfl,VTos_dv c l⟩
  | .func fn f cp=>by simp only [D.v,VTo];exact ⟨_,_,rfl,VTos_dv c f,VTos_dv c cp⟩
theorem VTos_dv (c : TCtx) : ∀ l : List D,VTos c (D.vs l) (D.vs l)
  | []=>by simp only [D.vs,VTos]
  | d :: l=>by simp only [D.vs,VTos];exact ⟨_,_,rfl,VTo_dv c d,VTos_dv c l⟩
end

theorem RowTo.dv (c : TCtx) (l : List D) : RowTo c (l.map D.v) (l.map D.v):=⟨rfl,fun i v' h=>⟨v',h,by
  rw [List.getElem?_map] at h
  cases hx : l[i]? with
  | none=>rw [hx] at h;cases h
  | some d=>rw [hx] at h;cases h;exact VTo_dv c d⟩⟩
theorem RowTo.nil (c : TCtx) : RowTo c [] []:=⟨rfl,by simp⟩
theorem RowTo.cons {c : TCtx} {v v' : V} {l l' : List V} (h : VTo c v v') (k : RowTo c l l') : RowTo c (v :: l) (v' :: l'):=⟨by simp [k.1],fun i x hx=>by
  cases i with
  | zero=>simp at hx;subst hx;exact ⟨v,rfl,h⟩
  | succ i=>simpa using k.2 i x (by simpa using hx)⟩
theorem RowTo.append {c : TCtx} {l l' m m' : List V} (h : RowTo c l l') (k : RowTo c m m') : RowTo c (l ++ m) (l' ++ m'):=⟨by simp [h.1,k.1],fun i x hx=>by
  rcases Nat.lt_or_ge i l'.length with hi|hi
  · rw [List.getElem?_append_left hi] at hx
    rw [List.getElem?_append_left (by rw [h.1];exact hi)]
    exact h.2 i x hx
  · rw [List.getElem?_append_right hi] at hx
    rw [List.getElem?_append_right (by rw [h.1];exact hi),h.1]
    exact k.2 _ x hx⟩
theorem RowTo.vtos {c : TCtx} : ∀ {l l' : List V},VTos c l l' → RowTo c l l'
  | l,[],h=>by simp only [VTos] at h;subst h;exact RowTo.nil c
  | l,v' :: l',h=>by simp only [VTos] at h;obtain ⟨v,r,rfl,h1,h2⟩:=h;exact RowTo.cons h1 (RowTo.vtos h2)
def EsTo (c : TCtx) (es : List (V × V)) (ks vs : List D) : Prop:=RowTo c (es.map (·.1)) (ks.map D.v) ∧ RowTo c (es.map (·.2)) (vs.map D.v)
theorem EsRel.keys {σ : Sig} : ∀ {es : List (V × V)} {ms : List MapEntry},EsRel σ es ms → VRs σ (es.map (·.1)) (ms.map (·.key)) ∧ VRs σ (es.map (·.2)) (ms.map (·.val))
  | [],ms,h=>by simp only [EsRel] at h;subst h;simp [VRs]
  | (k,v) :: es,ms,h=>by
    simp only [EsRel] at h
    obtain ⟨m,ms',rfl,h1,h2,h3⟩:=h
    obtain ⟨g1,g2⟩:=EsRel.keys h3
    simp only [List.map_cons,VRs]
    exact ⟨⟨_,_,rfl,h1,g1⟩,⟨_,_,rfl,h2,g2⟩⟩
structure FzOk (c : TCtx) (h : Hp) : Prop where
  row : ∀ p ds,c.frz p ds → ∃ b l,h.get (.loc p) = some b ∧ b.row = some (true,l) ∧ RowTo c l (ds.map D.v)
  map : ∀ p ks vs,c.frm p ks vs → ∃ es,h.get (.loc p) = some (.map es) ∧ EsTo c es ks vs
open Classical in
noncomputable def Sig.turn (σ : Sig) (c : TCtx) (w : World) : Sig :=
  ⟨fun i=>σ (c.ρ i),fun r=>if ∃ p e,((∃ ds,c.frz p ds) ∨ ∃ ks vs,c.frm p ks vs) ∧ σ (.loc p) = some e ∧ e.rid = r then w.heap[r]? else σ.fz r,fun i=>σ.nm (c.ρ i) ∨ c.nw i,σ.lo⟩
section
variable {c : TCtx} {σ : Sig} {h : Hp} {w : World}

theorem turn_fz_old (hr : Rel σ h w) {r : Nat} {o : Obj} (hro : σ.fz r = some o) : (σ.turn c w).fz r = some o:=by
  unfold Sig.turn
  simp only
  split
  · exact (hr.fz r o hro).1
  · exact hro
theorem turn_fz_new {p : Nat} {e : Ent} (hp : (∃ ds,c.frz p ds) ∨ ∃ ks vs,c.frm p ks vs) (he : σ (.loc p) = some e) : (σ.turn c w).fz e.rid = w.heap[e.rid]?:=by
  unfold Sig.turn
  simp only
  rw [if_pos ⟨p,e,hp,he,rfl⟩]
theorem turn_fz_any {r : Nat} {o : Obj} (hro : (σ.turn c w).fz r = some o) : (∃ p e,((∃ ds,c.frz p ds) ∨ ∃ ks vs,c.frm p ks vs) ∧ σ (.loc p) = some e ∧ e.rid = r ∧ w.heap[r]? = some o) ∨ σ.fz r = some o:=by
  unfold Sig.turn at hro
  simp only at hro
  split at hro
  · rename_i hx
    obtain ⟨p,e,h1,h2,h3⟩:=hx
    exact .inl ⟨p,e,h1,h2,h3,hro⟩
  · exact .inr hro
mutual
theorem turn_d (hr : Rel σ h w) (ho : FzOk c h) : ∀ (d : D) (v : V) (x : Value),VTo c v d.v → VR σ v x → DR (σ.turn c w).fz d x
  | .undef,_,_,_,_=>by simp only [DR]
  | .s _,_,_,hv,hx=>by simp only [D.v,VTo] at hv;subst hv;simpa only [DR,VR] using hx
  | .lit _,_,_,hv,hx=>by simp only [D.v,VTo] at hv;subst hv;simpa only [DR,VR] using hx
  | .nilptr,_,_,hv,hx=>by simp only [D.v,VTo] at hv;subst hv;simpa only [DR,VR] using hx
  | .nilslice,_,_,hv,hx=>by simp only [D.v,VTo] at hv;subst hv;simpa only [DR,VR] using hx
  | .nilmap,_,_,hv,hx=>by simp only [D.v,VTo] at hv;subst hv;simpa only [DR,VR] using hx
  | .nilfunc,_,_,hv,hx=>by simp only [D.v,VTo] at hv;subst hv;simpa only [DR,VR] using hx
  | .sl esz n cs,v,x,hv,hx=>by
    simp only [D.v,VTo] at hv
    unfold VToFs at hv
    split at hv
    · obtain ⟨rfl,rfl,rfl⟩:=hv
      simp only [VR] at hx
      exact DR.mono (fun r o=>turn_fz_old hr) _ _ hx
    · rename_i p a b
      obtain ⟨rfl,rfl,hl,hf⟩:=hv
      simp only [VR] at hx
      obtain ⟨hp,⟨h0,_,rfl⟩|⟨e,cap,o,he,h1,h2,h3,rfl⟩⟩:=hx
      · simp only [DR];exact ⟨hp,hl,.inl ⟨h0,.inl trivial⟩⟩
      · simp only [DR]
        refine ⟨hp,hl,?_⟩
        by_cases hc : cap = 0
        · have : n = 0:=by omega
          subst this
          exact .inl ⟨rfl,.inr ⟨_,_,rfl⟩⟩
        · right
          obtain ⟨bl,l,hb,hrow,hto⟩:=ho.row p cs hf
          obtain ⟨_,ob,hob,hrel⟩:=hr.blk _ e bl he hb
          rw [BlkRel_row hrow] at hrel
          obtain ⟨cur,T,fz,rfl,hs1,hs2,hfz,hcell⟩:=hrel
          obtain ⟨ys,hy1,hy2⟩:=turn_ds hr ho cs l cur e.base hto hcell
          exact ⟨e.rid,o,cap,cur,T,fz,ys,by rw [turn_fz_new (.inl ⟨cs,hf⟩) he];exact hob,h1,rfl,hy1,by rw [h3 hc];exact hy2⟩
    · obtain ⟨rfl,hp,rfl⟩:=hv
      simp only [VR] at hx
      subst hx
      simp only [DR];exact ⟨hp,by simp,.inl ⟨trivial,.inl trivial⟩⟩
    · rename_i p off a b lim
      obtain ⟨rfl,rfl,hl,ds,hf,hle,hcs⟩:=hv
      simp only [VR] at hx
      obtain ⟨e,cap,o,he,hp,h1,h2,h3,rfl⟩:=hx
      simp only [DR]
      refine ⟨hp,hl,?_⟩
      by_cases hc : cap = 0
      · have : n = 0:=by omega
        subst this
        exact .inl ⟨rfl,.inr ⟨_,_,rfl⟩⟩
      · right
        obtain ⟨bl,l,hb,hrow,hto⟩:=ho.row p ds hf
        obtain ⟨_,ob,hob,hrel⟩:=hr.blk _ e bl he hb
        rw [BlkRel_row hrow] at hrel
        obtain ⟨cur,T,fz,rfl,hs1,hs2,hfz,hcell⟩:=hrel
        have hto' : RowTo c ((l.drop off).take (n * esz)) (cs.map D.v):=by
          refine ⟨by have:=hto.1;simp at this ⊢;omega,fun i v' hi=>?_⟩
          rw [hcs,List.map_take,List.map_drop,List.getElem?_take] at hi
          split at hi
          · rename_i hlt
            rw [List.getElem?_drop] at hi
            rw [List.getElem?_take,if_pos hlt,List.getElem?_drop]
            exact hto.2 _ v' hi
          · cases hi
        obtain ⟨ys,hy1,hy2⟩:=turn_ds hr ho cs ((l.drop off).take (n * esz)) cur (e.base + off) hto' (fun i v hi=>by
          rw [List.getElem?_take] at hi
          split at hi
          · rw [List.getElem?_drop] at hi
            rw [Nat.add_assoc];exact hcell _ v hi
          · cases hi)
        exact ⟨e.rid,o,cap,cur,T,fz,ys,by rw [turn_fz_new (.inl ⟨ds,hf⟩) he];exact hob,h1,rfl,hy1,by rw [h3 hc];exact hy2⟩
    · exact hv.elim
  | .pt cs,v,x,hv,hx=>by
    simp only [D.v,VTo] at hv
    unfold VToFp at hv
    split at hv
    · subst hv
      simp only [VR] at hx
      exact DR.mono (fun r o=>turn_fz_old hr) _ _ hx
    · rename_i p off
      obtain ⟨ds,hf,hcs⟩:=hv
      simp only [VR] at hx
      obtain ⟨e,he,rfl⟩:=hx
      obtain ⟨bl,l,hb,hrow,hto⟩:=ho.row p ds hf
      obtain ⟨_,ob,hob,hrel⟩:=hr.blk _ e bl he hb
      rw [BlkRel_row hrow] at hrel
      obtain ⟨cur,T,fz,rfl,hs1,hs2,hfz,hcell⟩:=hrel
      have hto' : RowTo c (l.drop off) (cs.map D.v):=by
        refine ⟨by have:=hto.1;simp [hcs] at this ⊢;omega,fun i v' hi=>?_⟩
        rw [hcs,List.map_drop,List.getElem?_drop] at hi
        rw [List.getElem?_drop]
        exact hto.2 _ v' hi
      obtain ⟨ys,hy1,hy2⟩:=turn_ds hr ho cs (l.drop off) cur (e.base + off) hto' (fun i v hi=>by
        rw [List.getElem?_drop] at hi
        rw [Nat.add_assoc];exact hcell _ v hi)
      simp only [DR]
      exact ⟨e.rid,e.base + off,cur,T,fz,ys,by rw [turn_fz_new (.inl ⟨ds,hf⟩) he];exact hob,rfl,hy1,hy2⟩
    · exact hv.elim
  | .mp ks vs,v,x,hv,hx=>by
    simp only [D.v,VTo] at hv
    unfold VToFm at hv
    split at hv
    · obtain ⟨rfl,rfl⟩:=hv
      simp only [VR] at hx
      exact DR.mono (fun r o=>turn_fz_old hr) _ _ hx
    · rename_i p
      simp only [VR] at hx
      obtain ⟨e,he,rfl⟩:=hx
      obtain ⟨es,hb,hto⟩:=ho.map p ks vs hv
      obtain ⟨_,ob,hob,hrel⟩:=hr.blk _ e _ he hb
      obtain ⟨ms,cl,rfl,hes⟩:=hrel
      have g1:=turn_dr hr ho ks _ _ hto.1 hes.keys.1
      have g2:=turn_dr hr ho vs _ _ hto.2 hes.keys.2
      simp only [DR]
      exact ⟨e.rid,ms,cl,by rw [turn_fz_new (.inr ⟨ks,vs,hv⟩) he];exact hob,rfl,g1,g2⟩
    · exact hv.elim
  | .agg cs,v,x,hv,hx=>by
    simp only [D.v,VTo] at hv
    obtain ⟨l,rfl,hv⟩:=hv
    simp only [VR] at hx
    obtain ⟨a,rfl,hx⟩:=hx
    simp only [DR]
    exact ⟨a,rfl,turn_dl hr ho cs _ _ hv hx⟩
  | .func fn f cp,v,x,hv,hx=>by
    simp only [D.v,VTo] at hv
    obtain ⟨f0,c0,rfl,hv1,hv2⟩:=hv
    simp only [VR] at hx
    obtain ⟨f',c',rfl,hx1,hx2⟩:=hx
    simp only [DR]
    exact ⟨f',c',rfl,turn_dl hr ho f _ _ hv1 hx1,turn_dl hr ho cp _ _ hv2 hx2⟩
theorem turn_dl (hr : Rel σ h w) (ho : FzOk c h) : ∀ (ds : List D) (l : List V) (xs : List Value),VTos c l (D.vs ds) → VRs σ l xs → DRs (σ.turn c w).fz ds xs
  | [],l,xs,hv,hx=>by simp only [D.vs,VTos] at hv;subst hv;simp only [VRs] at hx;simpa only [DRs] using hx
  | d :: ds,l,xs,hv,hx=>by
    simp only [D.vs,VTos] at hv
    obtain ⟨v,l,rfl,hv⟩:=hv
    simp only [VRs] at hx
    obtain ⟨y,ys,rfl,h1,h2⟩:=hx
    simp only [DRs]
    exact ⟨y,ys,rfl,turn_d hr ho d v y hv.1 h1,turn_dl hr ho ds l ys hv.2 h2⟩
theorem turn_ds (hr : Rel σ h w) (ho : FzOk c h) : ∀ (ds : List D) (l : List V) (cur : Array Value) (o : Nat),RowTo c l (ds.map D.v) → (∀ (i : Nat) (v : V),l[i]? = some v → ∃ x,cur[o + i]? = some x ∧ VR σ v x ∧ x.oneCell' = true) →
    ∃ ys,DRs (σ.turn c w).fz ds ys ∧ LieAt cur o ys
  | [],l,cur,o,_,_=>⟨[],by simp only [DRs],fun i y hy=>by simp at hy⟩
  | d :: ds,l,cur,o,hto,hcell=>by
    obtain ⟨v,hv,hvt⟩:=hto.2 0 d.v (by simp)
    obtain ⟨x,hx1,hx2,hx3⟩:=hcell 0 v hv
    have hto' : RowTo c (l.drop 1) (ds.map D.v):=by
      refine ⟨by have:=hto.1;simp at this ⊢;omega,fun i v' hi=>?_⟩
      rw [List.getElem?_drop]
      have:=hto.2 (1 + i) v' (by rw [Nat.add_comm];simpa using hi)
      exact this
    obtain ⟨ys,hy1,hy2⟩:=turn_ds hr ho ds (l.drop 1) cur (o + 1) hto' (fun i v hi=>by
      rw [List.getElem?_drop] at hi
      rw [Nat.add_assoc];exact hcell _ v hi)
    refine ⟨x :: ys,by simp only [DRs];exact ⟨x,ys,rfl,turn_d hr ho d v x hvt hx2,hy1⟩,fun i y hy=>?_⟩
    cases i with
    | zero=>simp at hy;subst hy;exact ⟨hx1,hx3⟩
    | succ i =>
      have:=hy2 i y (by simpa using hy)
      rwa [show o + 1 + i = o + (i + 1) by omega] at this
theorem turn_dr (hr : Rel σ h w) (ho : FzOk c h) : ∀ (ds : List D) (l : List V) (xs : List Value),RowTo c l (ds.map D.v) → VRs σ l xs → DRs (σ.turn c w).fz ds xs
  | [],l,xs,hto,hx=>by
    have : l = []:=List.eq_nil_of_length_eq_zero (by simpa using hto.1)
    subst this
    simp only [VRs] at hx;simpa only [DRs] using hx
  | d :: ds,l,xs,hto,hx=>by
    cases l with
    | nil=>have:=hto.1;simp at this
    | cons v l =>
      obtain ⟨v',hv,hvt⟩:=hto.2 0 d.v (by simp)
      simp at hv;subst hv
      have hto' : RowTo c l (ds.map D.v):=by
        refine ⟨by have:=hto.1;simp at this ⊢;omega,fun i v' hi=>?_⟩
        have:=hto.2 (i + 1) v' (by simpa using hi)
        simpa using this
      simp only [VRs] at hx
      obtain ⟨y,ys,rfl,h1,h2⟩:=hx
      simp only [DRs]
      exact ⟨y,ys,rfl,turn_d hr ho d v y hvt h1,turn_dr hr ho ds l ys hto' h2⟩
end

theorem turn_le (hr : Rel σ h w) : (σ.ren c.ρ).le (σ.turn c w):=⟨fun _ _ h=>h,fun _ _ h=>turn_fz_old hr h,fun _ h=>.inl h⟩
mutual
theorem turn_v (hr : Rel σ h w) (ho : FzOk c h) : ∀ (v' v : V) (x : Value),VTo c v v' → VR σ v x → VR (σ.turn c w) v' x
  | .undef,_,_,_,_=>by simp only [VR]
  | .s _,_,_,hv,hx=>by simp only [VTo] at hv;subst hv;simpa only [VR] using hx
  | .lit _,_,_,hv,hx=>by simp only [VTo] at hv;subst hv;simpa only [VR] using hx
  | .nilptr,_,_,hv,hx=>by simp only [VTo] at hv;subst hv;simpa only [VR] using hx
  | .nilslice,_,_,hv,hx=>by simp only [VTo] at hv;subst hv;simpa only [VR] using hx
  | .nilmap,_,_,hv,hx=>by simp only [VTo] at hv;subst hv;simpa only [VR] using hx
  | .nilfunc,_,_,hv,hx=>by simp only [VTo] at hv;subst hv;simpa only [VR] using hx
  | .ptr i off,_,_,hv,hx=>by simp only [VTo] at hv;subst hv;simp only [VR] at hx ⊢;exact hx
  | .slice i off esz n lim,_,_,hv,hx=>by simp only [VTo] at hv;subst hv;simp only [VR] at hx ⊢;exact hx
  | .map i,_,_,hv,hx=>by simp only [VTo] at hv;subst hv;simp only [VR] at hx ⊢;exact hx
  | .yld i,_,_,hv,hx=>by simp only [VTo] at hv;subst hv;simp only [VR] at hx ⊢;exact hx
  | .fs esz n cs,v,x,hv,hx=>by simp only [VR];exact turn_d hr ho (.sl esz n cs) v x hv hx
  | .fp cs,v,x,hv,hx=>by simp only [VR];exact turn_d hr ho (.pt cs) v x hv hx
  | .fm ks vs,v,x,hv,hx=>by simp only [VR];exact turn_d hr ho (.mp ks vs) v x hv hx
  | .gl i esz n,v,x,hv,hx=>by
    simp only [VTo] at hv
    unfold VToGl at hv
    split at hv
    · obtain ⟨rfl,rfl,rfl⟩:=hv
      simp only [VR] at hx ⊢
      obtain ⟨hp,⟨h1,h2,h3⟩|h1⟩:=hx
      · exact ⟨hp,.inl ⟨h1,.inl h2,h3⟩⟩
      · exact ⟨hp,.inr h1⟩
    · obtain ⟨rfl,hp,hn⟩:=hv
      simp only [VR] at hx ⊢
      exact ⟨hp,.inl ⟨trivial,.inr hn,hx⟩⟩
    · exact hv.elim
  | .agg cs,v,x,hv,hx=>by
    simp only [VTo] at hv
    obtain ⟨l,rfl,hv⟩:=hv
    simp only [VR] at hx ⊢
    obtain ⟨a,rfl,hx⟩:=hx
    exact ⟨a,rfl,turn_vs hr ho cs l _ hv hx⟩
  | .tuple cs,v,x,hv,hx=>by
    simp only [VTo] at hv
    obtain ⟨l,rfl,hv⟩:=hv
    simp only [VR] at hx ⊢
    obtain ⟨a,rfl,hx⟩:=hx
    exact ⟨a,rfl,turn_vs hr ho cs l _ hv hx⟩
  | .func fn f cp,v,x,hv,hx=>by
    simp only [VTo] at hv
    obtain ⟨f0,c0,rfl,hv1,hv2⟩:=hv
    simp only [VR] at hx ⊢
    obtain ⟨f',c',rfl,hx1,hx2⟩:=hx
    exact ⟨f',c',rfl,turn_vs hr ho f _ _ hv1 hx1,turn_vs hr ho cp _ _ hv2 hx2⟩
theorem turn_vs (hr : Rel σ h w) (ho : FzOk c h) : ∀ (l' l : List V) (xs : List Value),VTos c l l' → VRs σ l xs → VRs (σ.turn c w) l' xs
  | [],l,xs,hv,hx=>by simp only [VTos] at hv;subst hv;simpa only [VRs] using hx
  | v' :: l',l,xs,hv,hx=>by
    simp only [VTos] at hv
    obtain ⟨v,l,rfl,h1,h2⟩:=hv
    simp only [VRs] at hx ⊢
    obtain ⟨y,ys,rfl,h3,h4⟩:=hx
    exact ⟨y,ys,rfl,turn_v hr ho v' v y h1 h3,turn_vs hr ho l' l ys h2 h4⟩
end

def BTo (c : TCtx) (ob : Option Blk) : Blk → Prop
  | .dead=>∃ b,ob = some b
  | .flat rw l'=>∃ b l,ob = some b ∧ b.row = some (rw,l) ∧ RowTo c l (l'.map D.v)
  | .cells rw l'=>∃ b l,ob = some b ∧ b.row = some (rw,l) ∧ RowTo c l l'
  | .map es'=>∃ es,ob = some (.map es) ∧ RowTo c (es.map (·.1)) (es'.map (·.1)) ∧ RowTo c (es.map (·.2)) (es'.map (·.2))
  | .loop r'=>ob = some ((Blk.loop r').ren c.ρ)
  | .mark=>ob = some .mark
def BTo1 (c : TCtx) (loc : List Blk) (j : Nat) (b' : Blk) : Prop:=match Nat.blt j c.L with
  | true=>BTo c (loc[j]?) b'
  | false=>match b' with
    | .flat true []=>True
    | _=>False
def BTos (c : TCtx) (loc : List Blk) : List Nat → List Blk → Prop
  | [],[]=>True
  | j :: pm,b' :: bs=>BTo1 c loc j b' ∧ BTos c loc pm bs
  | _,_=>False
theorem BTos.get {c : TCtx} {loc : List Blk} : ∀ {pm : List Nat} {bs : List Blk},BTos c loc pm bs → bs.length = pm.length ∧ ∀ (k : Nat) (b' : Blk),bs[k]? = some b' → ∃ j,pm[k]? = some j ∧ BTo1 c loc j b'
  | [],[],_=>⟨rfl,by simp⟩
  | j :: pm,b' :: bs,h=>by
    simp only [BTos] at h
    obtain ⟨h1,h2⟩:=BTos.get h.2
    refine ⟨by simp [h1],fun k b hk=>?_⟩
    cases k with
    | zero=>simp at hk;subst hk;exact ⟨j,by simp,h.1⟩
    | succ k=>simpa using h2 k b (by simpa using hk)
  | [],_ :: _,h=>by simp only [BTos] at h
  | _ :: _,[],h=>by simp only [BTos] at h
def OutOk (outer : Id → Option Blk) : Prop:=∀ i b,outer i = some b → ∃ b0 : Blk,b = b0.ren .out
theorem RowRel_turn (hr : Rel σ h w) (ho : FzOk c h) {e : Ent} {rw : Bool} {l l' : List V} {o : Obj} (ht : RowTo c l l') (hx : RowRel σ e rw l.length (fun i=>l[i]?) o) : RowRel (σ.turn c w) e rw l'.length (fun i=>l'[i]?) o:=by
  obtain ⟨cur,T,fz,h1,h2,h3,h4,h5⟩:=hx
  refine ⟨cur,T,fz,h1,h2,by rw [← ht.1];exact h3,h4,fun i v hv=>?_⟩
  obtain ⟨v0,hv0,hvt⟩:=ht.2 i v hv
  obtain ⟨x,g1,g2,g3⟩:=h5 i v0 hv0
  exact ⟨x,g1,turn_v hr ho v v0 x hvt g2,g3⟩
theorem VRs_turn_row (hr : Rel σ h w) (ho : FzOk c h) {l l' : List V} {xs : List Value} (ht : RowTo c l l') (hx : VRs σ l xs) : VRs (σ.turn c w) l' xs:=by
  refine VRs.of_get (by rw [VRs.length hx,ht.1]) fun i v hv=>?_
  obtain ⟨v0,hv0,hvt⟩:=ht.2 i v hv
  obtain ⟨x,g1,g2⟩:=VRs.get hx hv0
  exact ⟨x,g1,turn_v hr ho v v0 x hvt g2⟩
theorem EsRel.of_keys {σ : Sig} : ∀ {es : List (V × V)} {ms : List MapEntry},VRs σ (es.map (·.1)) (ms.map (·.key)) → VRs σ (es.map (·.2)) (ms.map (·.val)) → EsRel σ es ms
  | [],ms,h,_=>by simp only [List.map_nil,VRs,List.map_eq_nil_iff] at h;subst h;simp [EsRel]
  | (k,v) :: es,ms,h,h'=>by
    simp only [List.map_cons,VRs] at h h'
    obtain ⟨x,xs,hx,h1,h2⟩:=h
    obtain ⟨y,ys,hy,h3,h4⟩:=h'
    cases ms with
    | nil=>simp at hx
    | cons m ms =>
      simp only [List.map_cons,List.cons.injEq] at hx hy
      obtain ⟨rfl,rfl⟩:=hx
      obtain ⟨rfl,rfl⟩:=hy
      simp only [EsRel]
      exact ⟨m,ms,rfl,h1,h3,EsRel.of_keys h2 h4⟩
theorem BTo.ok (hr : Rel σ h w) (ho : FzOk c h) {b b' : Blk} (ht : BTo c (some b) b') : (b'.rw = true → b.rw = true) ∧ (b'.alive = true → b.alive = true ∧ b'.rw = b.rw) ∧ ∀ e o,BlkRel σ e b o → BlkRel (σ.turn c w) e b' o:=by
  cases b' with
  | dead=>exact ⟨fun h=>by simp [Blk.rw] at h,fun h=>by simp [Blk.alive] at h,fun _ _ _=>trivial⟩
  | flat rw l' =>
    obtain ⟨b1,l,hb,hrow,hto⟩:=ht
    cases hb
    refine ⟨fun h=>by rw [Blk.row_rw hrow];simpa [Blk.rw] using h,fun _=>⟨Blk.row_alive hrow,by rw [Blk.row_rw hrow];rfl⟩,fun e o hrel=>?_⟩
    rw [BlkRel_row hrow] at hrel
    exact (BlkRel_row (b:=.flat rw l') (rw:=rw) (l:=l'.map D.v) rfl).2 (RowRel_turn hr ho hto hrel)
  | cells rw l' =>
    obtain ⟨b1,l,hb,hrow,hto⟩:=ht
    cases hb
    refine ⟨fun h=>by rw [Blk.row_rw hrow];simpa [Blk.rw] using h,fun _=>⟨Blk.row_alive hrow,by rw [Blk.row_rw hrow];rfl⟩,fun e o hrel=>?_⟩
    rw [BlkRel_row hrow] at hrel
    exact (BlkRel_row (b:=.cells rw l') (rw:=rw) (l:=l') rfl).2 (RowRel_turn hr ho hto hrel)
  | map es' =>
    obtain ⟨es,hb,h1,h2⟩:=ht
    cases hb
    refine ⟨fun _=>rfl,fun _=>⟨rfl,rfl⟩,fun e o hrel=>?_⟩
    obtain ⟨ms,cl,rfl,hes⟩:=hrel
    exact ⟨ms,cl,rfl,EsRel.of_keys (VRs_turn_row hr ho h1 hes.keys.1) (VRs_turn_row hr ho h2 hes.keys.2)⟩
  | loop r' =>
    have hb : b = (Blk.loop r').ren c.ρ:=by simpa [BTo] using ht
    subst hb
    exact ⟨fun _=>rfl,fun _=>⟨rfl,rfl⟩,fun e o hrel=>((BlkRel_ren _ _ _ _ _).1 hrel).mono (turn_le hr)⟩
  | mark =>
    have hb : b = .mark:=by simpa [BTo] using ht
    subst hb
    exact ⟨fun _=>rfl,fun _=>⟨rfl,rfl⟩,fun e o hrel=>hrel⟩
end

structure TurnOk (c : TCtx) (h : Hp) (loc' : List Blk) : Prop where
  outer : OutOk h.outer
  len : h.loc.length ≤ c.L
  nodup : c.pm.Nodup
  blks : BTos c h.loc c.pm loc'
  fz : FzOk c h
  out : ∀ (k p : Nat),c.pm[k]? = some p → ((∃ ds,c.frz p ds) ∨ ∃ ks vs,c.frm p ks vs) → loc'[k]? = some .dead
section
variable {c : TCtx} {σ : Sig} {h : Hp} {w : World} {loc' : List Blk}

theorem nodup_get : ∀ {l : List Nat},l.Nodup → ∀ {i j p : Nat},l[i]? = some p → l[j]? = some p → i = j
  | [],_,_,_,_,h,_=>by simp at h
  | a :: l,hl,i,j,p,hi,hj=>by
    rw [List.nodup_cons] at hl
    cases i with
    | zero =>
      simp at hi;subst hi
      cases j with
      | zero=>rfl
      | succ j=>exact absurd (List.mem_of_getElem? (by simpa using hj)) hl.1
    | succ i =>
      cases j with
      | zero=>simp at hj;subst hj;exact absurd (List.mem_of_getElem? (by simpa using hi)) hl.1
      | succ j=>exact congrArg (· + 1) (nodup_get hl.2 (p:=p) (i:=i) (j:=j) (by simpa using hi) (by simpa using hj))
theorem TurnOk.name (t : TurnOk c h loc') (hr : Rel σ h w) {i : Id} {e : Ent} {b' : Blk} (hi : (σ.turn c w) i = some e) (hb : (⟨h.outer,loc'⟩ : Hp).get i = some b') :
    ∃ b,h.get (c.ρ i) = some b ∧ σ (c.ρ i) = some e ∧ (b'.rw = true → b.rw = true) ∧ (b'.alive = true → b.alive = true ∧ b'.rw = b.rw) ∧ ∀ o,BlkRel σ e b o → BlkRel (σ.turn c w) e b' o:=by
  have hi : σ (c.ρ i) = some e:=hi
  cases i with
  | out i =>
    have hb : h.outer i = some b':=hb
    obtain ⟨b0,rfl⟩:=t.outer i b' hb
    refine ⟨_,hb,hi,id,fun h=>⟨h,rfl⟩,fun o hrel=>?_⟩
    refine (BlkRel_ren _ _ _ _ _).2 (BlkRel_weak ((BlkRel_ren σ .out e b0 o).1 hrel) ⟨fun _ _ h=>h,fun _ _ h=>turn_fz_old hr h,fun _ h=>.inl h⟩)
  | loc k =>
    have hb : loc'[k]? = some b':=hb
    obtain ⟨j,hj,hto⟩:=(t.blks.get).2 k b' hb
    have hρ : c.ρ (.loc k) = .loc j:=by simp [TCtx.ρ,hj]
    rw [hρ] at hi ⊢
    unfold BTo1 at hto
    split at hto
    · cases hg : h.loc[j]? with
      | none=>have:=hr.dom (.loc j) hg;rw [this] at hi;cases hi
      | some b =>
        rw [hg] at hto
        obtain ⟨h1,h2,h3⟩:=BTo.ok hr t.fz hto
        exact ⟨b,hg,hi,h1,h2,h3 e⟩
    · rename_i hlt
      have hge : c.L ≤ j:=by
        rcases Nat.lt_or_ge j c.L with h1|h1
        · have : Nat.blt j c.L = true:=by rw [Nat.blt_eq];exact h1
          rw [this] at hlt;cases hlt
        · exact h1
      have : h.loc[j]? = none:=List.getElem?_eq_none (Nat.le_trans t.len hge)
      have:=hr.dom (.loc j) this;rw [this] at hi;cases hi
theorem TurnOk.inj (t : TurnOk c h loc') (hr : Rel σ h w) {i j : Id} {ei ej : Ent} (hi : σ (c.ρ i) = some ei) (hj : σ (c.ρ j) = some ej) (he : c.ρ i = c.ρ j) : i = j:=by
  have key : ∀ k e,σ (c.ρ (.loc k)) = some e → ∃ p,c.pm[k]? = some p ∧ c.ρ (.loc k) = .loc p:=by
    intro k e hk
    cases hp : c.pm[k]? with
    | some p=>exact ⟨p,rfl,by simp [TCtx.ρ,hp]⟩
    | none =>
      exfalso
      have hρ : c.ρ (.loc k) = .loc (c.L + k):=by simp [TCtx.ρ,hp]
      rw [hρ] at hk
      have : h.loc[c.L + k]? = none:=List.getElem?_eq_none (by have:=t.len;omega)
      have:=hr.dom (.loc (c.L + k)) this;rw [this] at hk;cases hk
  cases i with
  | out i=>cases j with
    | out j=>simpa [TCtx.ρ] using he
    | loc j=>obtain ⟨p,_,hp⟩:=key j ej hj;rw [hp] at he;simp [TCtx.ρ] at he
  | loc i =>
    obtain ⟨p,hp1,hp⟩:=key i ei hi
    cases j with
    | out j=>rw [hp] at he;simp [TCtx.ρ] at he
    | loc j =>
      obtain ⟨q,hq1,hq⟩:=key j ej hj
      rw [hp,hq] at he
      cases he
      rw [nodup_get t.nodup hp1 hq1]
theorem TurnOk.rel (t : TurnOk c h loc') (hr : Rel σ h w) : Rel (σ.turn c w) (⟨h.outer,loc'⟩ : Hp) w where
  blk:=fun i e b' hi hb=>by
    obtain ⟨b,h1,h2,_,_,h3⟩:=t.name hr hi hb
    obtain ⟨g1,o,g2,g3⟩:=hr.blk _ e b h2 h1
    exact ⟨g1,o,g2,h3 o g3⟩
  apart:=fun i j ei ej bi bj hne hi hj hbi hbj hw hal=>by
    obtain ⟨b,h1,h2,h3,_,_⟩:=t.name hr hi hbi
    obtain ⟨b2,g1,g2,_,g3,_⟩:=t.name hr hj hbj
    exact hr.apart _ _ ei ej b b2 (fun e=>hne (t.inj hr h2 g2 e)) h2 g2 h1 g1 (h3 hw) (g3 hal).1
  dom:=fun i hi=>by
    show σ (c.ρ i) = none
    cases i with
    | out i=>exact hr.dom (.out i) hi
    | loc k =>
      have hi : loc'[k]? = none:=hi
      have hk : c.pm[k]? = none:=by
        rw [List.getElem?_eq_none_iff] at hi ⊢
        have:=t.blks.get.1;omega
      have hρ : c.ρ (.loc k) = .loc (c.L + k):=by simp [TCtx.ρ,hk]
      rw [hρ]
      exact hr.dom _ (List.getElem?_eq_none (by have:=t.len;omega))
  nmd:=fun i hi=>by
    cases i with
    | out i =>
      rcases hi with hi|hi
      · exact hr.nmd (.out i) hi
      · exact hi.elim
    | loc k =>
      have hlt : k < loc'.length:=by
        rw [t.blks.get.1]
        rcases hi with hi|hi
        · cases hp : c.pm[k]? with
          | some p=>exact (List.getElem?_eq_some_iff.1 hp).1
          | none =>
            exfalso
            have hρ : c.ρ (.loc k) = .loc (c.L + k):=by simp [TCtx.ρ,hp]
            rw [hρ] at hi
            exact hr.nmd _ hi (List.getElem?_eq_none (by have:=t.len;omega))
        · unfold TCtx.nw at hi
          simp only at hi
          split at hi
          · rename_i j hj;exact (List.getElem?_eq_some_iff.1 hj).1
          · exact hi.elim
      show loc'[k]? ≠ none
      rw [List.getElem?_eq_getElem hlt];simp
  fz:=fun r o hro=>by
    have hown : ∀ p,((∃ ds,c.frz p ds) ∨ ∃ ks vs,c.frm p ks vs) → ∃ b,h.get (.loc p) = some b ∧ b.rw = true ∧ b.alive = true:=by
      intro p hp
      rcases hp with ⟨ds,hp⟩|⟨ks,vs,hp⟩
      · obtain ⟨b,l,h1,h2,_⟩:=t.fz.row p ds hp
        exact ⟨b,h1,Blk.row_rw h2,Blk.row_alive h2⟩
      · obtain ⟨es,h1,_⟩:=t.fz.map p ks vs hp
        exact ⟨_,h1,rfl,rfl⟩
    rcases turn_fz_any hro with ⟨p,e,hp,he,rfl,ho⟩|ho
    · refine ⟨ho,fun i ei b' hi hb hw=>?_⟩
      obtain ⟨b,h1,h2,h3,_,_⟩:=t.name hr hi hb
      obtain ⟨bp,g1,g2,g3⟩:=hown p hp
      refine hr.apart (c.ρ i) (.loc p) ei e b bp ?_ h2 he h1 g1 (h3 hw) g3
      intro heq
      cases i with
      | out i=>simp [TCtx.ρ] at heq
      | loc k =>
        unfold TCtx.ρ at heq
        simp only at heq
        split at heq
        · rename_i j hj
          cases heq
          have hd:=t.out k p hj hp
          have hb : loc'[k]? = some b':=hb
          rw [hd] at hb;cases hb
          simp [Blk.rw] at hw
        · cases heq
          have : h.loc[c.L + k]? = none:=List.getElem?_eq_none (by have:=t.len;omega)
          simp only [Hp.get] at g1
          rw [this] at g1;cases g1
    · obtain ⟨g1,g2⟩:=hr.fz r o ho
      refine ⟨g1,fun i ei b' hi hb hw=>?_⟩
      obtain ⟨b,h1,h2,h3,_,_⟩:=t.name hr hi hb
      exact g2 _ ei b h2 h1 (h3 hw)
theorem TurnOk.fzn (t : TurnOk c h loc') {r : Nat} {o : Obj} (hro : (σ.turn c w).fz r = some o) : σ.fz r = some o ∨ w.heap.size ≤ r ∨ ∃ j ej bj,σ j = some ej ∧ h.get j = some bj ∧ bj.rw = true ∧ ej.rid = r:=by
  rcases turn_fz_any hro with ⟨p,e,hp,he,rfl,ho⟩|ho
  · right;right
    rcases hp with ⟨ds,hp⟩|⟨ks,vs,hp⟩
    · obtain ⟨b,l,h1,h2,_⟩:=t.fz.row p ds hp
      exact ⟨.loc p,e,b,he,h1,Blk.row_rw h2,rfl⟩
    · obtain ⟨es,h1,_⟩:=t.fz.map p ks vs hp
      exact ⟨.loc p,e,_,he,h1,rfl,rfl⟩
  · exact .inl ho
theorem TurnOk.ext (t : TurnOk c h loc') (hr : Rel σ h w) : ExtK isOut σ h w (σ.turn c w) (⟨h.outer,loc'⟩ : Hp) w where
  le:=fun i e hk hi=>by
    cases i with
    | out i=>exact hi
    | loc k=>exact hk.elim
  nm:=fun i hk hi=>by
    cases i with
    | out i=>exact .inl hi
    | loc k=>exact hk.elim
  lo:=rfl
  fz:=fun _ _ h=>turn_fz_old hr h
  fzn:=fun _ _ h=>t.fzn h
  size:=Nat.le_refl _
  os:=rfl
  tape:=rfl
  output:=rfl
  frame:=fun _ _ _=>rfl
  wr:=fun i e b' hi hb hw=>by
    obtain ⟨b,h1,h2,h3,_,_⟩:=t.name hr hi hb
    exact .inr ⟨_,e,b,h2,h1,h3 hw,rfl⟩
  ro:=fun i e b' hi hb hw hal=>by
    obtain ⟨b,h1,h2,_,h3,_⟩:=t.name hr hi hb
    obtain ⟨g1,g2⟩:=h3 hal
    exact ⟨_,b,h2,h1,g1,by rw [← g2];exact hw⟩
  old:=fun i hk hi=>by
    cases i with
    | out i=>exact ⟨hi,fun h=>h⟩
    | loc k=>exact hk.elim
  oldn:=fun i hk hi h=>by
    cases i with
    | out i =>
      rcases h with h|h
      · exact h
      · exact h.elim
    | loc k=>exact hk.elim
end

theorem TurnOk.extAll {c : TCtx} {σ : Sig} {h : Hp} {w : World} {loc' : List Blk} (t : TurnOk c h loc') (hid : ∀ i,h.get i ≠ none → c.ρ i = i) (hr : Rel σ h w) : ExtK allIds σ h w (σ.turn c w) (⟨h.outer,loc'⟩ : Hp) w where
  le:=fun i e _ hi=>by
    show σ (c.ρ i) = some e
    rw [hid i (fun h0=>by rw [hr.dom i h0] at hi;cases hi)];exact hi
  nm:=fun i _ hi=>.inl (by rw [hid i (hr.nmd i hi)];exact hi)
  lo:=rfl
  fz:=fun _ _ h=>turn_fz_old hr h
  fzn:=fun _ _ h=>t.fzn h
  size:=Nat.le_refl _
  os:=rfl
  tape:=rfl
  output:=rfl
  frame:=fun _ _ _=>rfl
  wr:=(t.ext hr).wr
  ro:=(t.ext hr).ro
  old:=fun i _ hi=>by
    refine ⟨?_,fun h=>by show σ (c.ρ i) = none;rw [hid i hi];exact h⟩
    cases i with
    | out i=>exact hi
    | loc k =>
      have hlt : k < h.loc.length:=by
        rcases Nat.lt_or_ge k h.loc.length with h1|h1
        · exact h1
        · exact absurd (List.getElem?_eq_none h1) hi
      have hρ:=hid (.loc k) hi
      have : k < loc'.length:=by
        rw [t.blks.get.1]
        cases hp : c.pm[k]? with
        | some p=>exact (List.getElem?_eq_some_iff.1 hp).1
        | none =>
          exfalso
          have h2 : c.ρ (.loc k) = .loc (c.L + k):=by simp [TCtx.ρ,hp]
          rw [h2,Id.loc.injEq] at hρ
          have:=t.len;omega
      show loc'[k]? ≠ none
      rw [List.getElem?_eq_getElem this];simp
  oldn:=fun i _ hi hq=>by
    rcases hq with hq|hq
    · rw [hid i hi] at hq;exact hq
    · exfalso
      have hρ:=hid i hi
      cases i with
      | out i=>exact hq
      | loc k =>
        unfold TCtx.nw at hq
        simp only at hq
        split at hq
        · rename_i j hj
          have h2 : c.ρ (.loc k) = .loc j:=by simp [TCtx.ρ,hj]
          rw [h2] at hρ
          cases hρ
          exact hi (List.getElem?_eq_none (Nat.le_trans t.len hq))
        · exact hq
/-! ### States -/

def FrTo (c : TCtx) : Fr → Fr → Prop
  | _,.leaf=>True
  | .node l v r,.node l' v' r'=>VTo c v v' ∧ FrTo c l l' ∧ FrTo c r r'
  | .leaf,.node l' v' r'=>VTo c .undef v' ∧ FrTo c .leaf l' ∧ FrTo c .leaf r'
theorem FrTo.at {c : TCtx} : ∀ {fr fr' : Fr},FrTo c fr fr' → ∀ k,VTo c (fr.at k) (fr'.at k)
  | fr,.leaf,_,k=>by simp only [Fr.at,PT.get,VTo]
  | .node l v r,.node l' v' r',h,k=>by
    simp only [FrTo] at h
    cases k with
    | zero=>exact h.1
    | succ k =>
      simp only [Fr.at,PT.get]
      split
      · exact FrTo.at h.2.1 _
      · exact FrTo.at h.2.2 _
  | .leaf,.node l' v' r',h,k=>by
    simp only [FrTo] at h
    cases k with
    | zero=>exact h.1
    | succ k =>
      have h1:=FrTo.at h.2.1 (k / 2)
      have h2:=FrTo.at h.2.2 (k / 2)
      simp only [Fr.at,PT.get] at h1 h2 ⊢
      split
      · exact h1
      · exact h2
def MkTo (c : TCtx) (loc : List Blk) : List Id → List Id → Prop
  | [],ms=>ms = []
  | i :: is,ms=>(∃ i' is',ms = i' :: is' ∧ c.ρ i' = i ∧ MkTo c loc is is') ∨ (∃ p,i = .loc p ∧ p ∉ c.pm ∧ loc[p]? = some .mark ∧ MkTo c loc is ms)
theorem MkTo.nil {c : TCtx} {loc : List Blk} : MkTo c loc [] []:=rfl
theorem MkTo.keep {c : TCtx} {loc : List Blk} {i i' : Id} {is is' : List Id} (h : c.ρ i' = i) (k : MkTo c loc is is') : MkTo c loc (i :: is) (i' :: is'):=.inl ⟨_,_,rfl,h,k⟩
theorem MkTo.drop {c : TCtx} {loc : List Blk} {p : Nat} {is is' : List Id} (h : p ∉ c.pm) (hl : loc[p]? = some .mark) (k : MkTo c loc is is') : MkTo c loc (.loc p :: is) is':=.inr ⟨p,rfl,h,hl,k⟩
theorem TurnOk.ghost {c : TCtx} {σ : Sig} {h : Hp} {w : World} {loc' : List Blk} (t : TurnOk c h loc') (hr : Rel σ h w) {p : Nat} {e : Ent} (hp : p ∉ c.pm) (hb : h.loc[p]? = some .mark) (hi : σ (.loc p) = some e) (hlo : σ.lo ≤ e.rid) :
    Ghost (σ.turn c w) (⟨h.outer,loc'⟩ : Hp) w e.rid:=by
  obtain ⟨g1,o,g2,g3⟩:=hr.blk (.loc p) e .mark hi hb
  refine ⟨hlo,by rw [g2];exact congrArg some g3,?_,?_⟩
  · cases ho : (σ.turn c w).fz e.rid with
    | none=>rfl
    | some o' =>
      exfalso
      rcases turn_fz_any ho with ⟨q,e',hq,he',hrid,_⟩|h1
      · have : ∃ b,h.get (.loc q) = some b ∧ b ≠ .mark ∧ b.alive = true:=by
          rcases hq with ⟨ds,hq⟩|⟨ks,vs,hq⟩
          · obtain ⟨b,l,k1,k2,_⟩:=t.fz.row q ds hq
            exact ⟨b,k1,fun h0=>by rw [h0] at k2;simp [Blk.row] at k2,Blk.row_alive k2⟩
          · obtain ⟨es,k1,_⟩:=t.fz.map q ks vs hq
            exact ⟨_,k1,by simp,rfl⟩
        obtain ⟨b,k1,k2,k3⟩:=this
        refine hr.apart (.loc p) (.loc q) e e' .mark b (fun h0=>?_) hi he' hb k1 rfl k3 hrid.symm
        cases h0
        have k1 : h.loc[p]? = some b:=k1
        rw [hb] at k1;cases k1;exact k2 rfl
      · exact (hr.fz e.rid o' h1).2 (.loc p) e .mark hi hb rfl rfl
  · intro i ei b' hi' hb' hal
    obtain ⟨b,h1,h2,_,h3,_⟩:=t.name hr hi' hb'
    refine (hr.apart (.loc p) (c.ρ i) e ei .mark b (fun h0=>?_) hi h2 hb h1 rfl (h3 hal).1).symm
    cases i with
    | out i=>simp [TCtx.ρ] at h0
    | loc k =>
      unfold TCtx.ρ at h0
      simp only at h0
      split at h0
      · rename_i q hq
        cases h0
        exact hp (List.mem_of_getElem? hq)
      · cases h0
        rw [List.getElem?_eq_none (by have:=t.len;omega)] at hb;cases hb
theorem MarkL.turn {c : TCtx} {σ : Sig} {h : Hp} {w : World} {loc' : List Blk} (t : TurnOk c h loc') (hr : Rel σ h w) : ∀ {ds : List Deferred} {is is' : List Id},MkTo c h.loc is is' → MarkL σ h w is ds → MarkL (σ.turn c w) (⟨h.outer,loc'⟩ : Hp) w is' ds
  | [],is,is',m,hl=>by
    simp only [MarkL] at hl ⊢
    subst hl
    exact m
  | d :: ds,is,is',m,hl=>by
    simp only [MarkL] at hl ⊢
    rcases hl with ⟨i,is2,e,rfl,rfl,h3,h4,h5⟩|⟨r,h1,h2,h3⟩
    · simp only [MkTo] at m
      rcases m with ⟨i',is3,rfl,hρ,m⟩|⟨p,rfl,hp,hb,m⟩
      · refine .inl ⟨i',is3,e,rfl,rfl,?_,h4,MarkL.turn t hr m h5⟩
        show σ (c.ρ i') = some e
        rw [hρ];exact h3
      · exact .inr ⟨e.rid,rfl,t.ghost hr hp hb h3 h4,MarkL.turn t hr m h5⟩
    · exact .inr ⟨r,h1,(t.ext hr).ghost h2,MarkL.turn t hr m h3⟩
theorem Retell.refl (K : Id → Prop) (st : St) : Retell K st st:=fun σ _ _ hs=>⟨σ,hs,ExtK.refl _ _ _ _⟩
theorem Retell.trans {K : Id → Prop} {a b c : St} (h : Retell K a b) (k : Retell K b c) : Retell K a c:=fun σ ac w hs=>by
  obtain ⟨σ1,h1,x1⟩:=h σ ac w hs
  obtain ⟨σ2,h2,x2⟩:=k σ1 ac w h1
  exact ⟨σ2,h2,x1.trans x2⟩
theorem Retell.turn {n : Nat} {fr fr' : Fr} {outer : Id → Option Blk} {loc loc' : List Blk} {marks marks' : List Id} (c : TCtx) (t : TurnOk c ⟨outer,loc⟩ loc') (hf : FrTo c fr fr') (hm : MkTo c loc marks marks') :
    Retell isOut ⟨n,fr,⟨outer,loc⟩,marks⟩ ⟨n,fr',⟨outer,loc'⟩,marks'⟩:=fun σ a w hs=>by
  have hr : Rel σ (⟨outer,loc⟩ : Hp) w:=hs.rel
  refine ⟨σ.turn c w,⟨t.rel hr,fun k=>turn_v hr t.fz _ _ _ (hf.at k) (hs.fr k),hs.size,?_⟩,t.ext hr⟩
  exact ⟨hs.marks.nodup,hs.marks.lo,hs.marks.list.turn t hr hm⟩
/-! ### Building blocks for such a telling -/

theorem OutOk.lift (h : Hp) : OutOk h.lift:=fun i b hb=>by
  unfold Hp.lift at hb
  rw [Option.map_eq_some_iff] at hb
  obtain ⟨b0,_,rfl⟩:=hb
  exact ⟨b0,rfl⟩
theorem OutOk.set {o : Id → Option Blk} (h : OutOk o) {j : Id} {b0 : Blk} : OutOk (fun i=>if i = j then some (b0.ren .out) else o i):=fun i b hb=>by
  simp only at hb
  split at hb
  · cases hb;exact ⟨b0,rfl⟩
  · exact h i b hb
def FzAll (c : TCtx) (loc : List Blk) : List (Nat × List D) → Prop
  | []=>True
  | (p,ds) :: r=>(∃ b l,loc[p]? = some b ∧ b.row = some (true,l) ∧ RowTo c l (ds.map D.v)) ∧ FzAll c loc r
def FmAll (c : TCtx) (loc : List Blk) : List (Nat × List D × List D) → Prop
  | []=>True
  | (p,ks,vs) :: r=>(∃ es,loc[p]? = some (.map es) ∧ EsTo c es ks vs) ∧ FmAll c loc r
theorem FzAll.get {c : TCtx} {loc : List Blk} : ∀ {l : List (Nat × List D)},FzAll c loc l → ∀ p ds,assoc l p = some ds → ∃ b r,loc[p]? = some b ∧ b.row = some (true,r) ∧ RowTo c r (ds.map D.v)
  | [],_,p,ds,h=>by simp [assoc] at h
  | (q,a) :: l,h,p,ds,hp=>by
    simp only [FzAll] at h
    simp only [assoc] at hp
    split at hp
    · rename_i hq
      have:=Nat.eq_of_beq_eq_true hq
      subst this
      cases hp
      exact h.1
    · exact FzAll.get h.2 p ds hp
theorem FmAll.get {c : TCtx} {loc : List Blk} : ∀ {l : List (Nat × List D × List D)},FmAll c loc l → ∀ p ks vs,assoc l p = some (ks,vs) → ∃ es,loc[p]? = some (.map es) ∧ EsTo c es ks vs
  | [],_,p,ks,vs,h=>by simp [assoc] at h
  | (q,a,b) :: l,h,p,ks,vs,hp=>by
    simp only [FmAll] at h
    simp only [assoc] at hp
    split at hp
    · rename_i hq
      have:=Nat.eq_of_beq_eq_true hq
      subst this
      cases hp
      exact h.1
    · exact FmAll.get h.2 p ks vs hp
def hasKey {α : Type} (l : List (Nat × α)) (p : Nat) : Bool:=l.any fun q=>Nat.beq q.1 p
theorem assoc_hasKey {α : Type} : ∀ {l : List (Nat × α)} {p : Nat} {a : α},assoc l p = some a → hasKey l p = true
  | [],_,_,h=>by simp [assoc] at h
  | (q,b) :: l,p,a,h=>by
    simp only [assoc] at h
    split at h
    · rename_i hq;simp [hasKey,hq]
    · have:=assoc_hasKey h
      unfold hasKey at this ⊢
      rw [List.any_cons,this,Bool.or_true]
def outsOk (fz : List (Nat × List D)) (fm : List (Nat × List D × List D)) : List Nat → List Blk → Bool
  | p :: pm,b :: bs=>(match hasKey fz p,hasKey fm p with
    | false,false=>true
    | _,_=>match b with
      | .dead=>true
      | _=>false) && outsOk fz fm pm bs
  | _,_=>true
theorem outsOk_get {fz : List (Nat × List D)} {fm : List (Nat × List D × List D)} : ∀ {pm : List Nat} {bs : List Blk},outsOk fz fm pm bs = true → bs.length = pm.length → ∀ (k p : Nat),pm[k]? = some p → hasKey fz p = true ∨ hasKey fm p = true → bs[k]? = some .dead
  | [],_,_,_,k,p,h,_=>by simp at h
  | _ :: _,[],_,hl,_,_,_,_=>by simp at hl
  | q :: pm,b :: bs,h,hl,k,p,hk,hp=>by
    simp only [outsOk,Bool.and_eq_true] at h
    cases k with
    | zero =>
      simp at hk;subst hk
      have h1:=h.1
      split at h1
      · rename_i e1 e2
        rcases hp with hp|hp
        · rw [hp] at e1;cases e1
        · rw [hp] at e2;cases e2
      · split at h1
        · rfl
        · cases h1
    | succ k=>simpa using outsOk_get h.2 (by simpa using hl) k p (by simpa using hk) hp
theorem TurnOk.mk' {outer : Id → Option Blk} {loc loc' : List Blk} (pm : List Nat) (L : Nat) (fz : List (Nat × List D)) (fm : List (Nat × List D × List D)) (ho : OutOk outer) (hl : Nat.ble loc.length L = true) (hn : pm.Nodup)
    (hb : BTos ⟨pm,L,fz,fm⟩ loc pm loc') (h1 : FzAll ⟨pm,L,fz,fm⟩ loc fz) (h2 : FmAll ⟨pm,L,fz,fm⟩ loc fm) (h3 : outsOk fz fm pm loc' = true) : TurnOk ⟨pm,L,fz,fm⟩ ⟨outer,loc⟩ loc' :=
  ⟨ho,Nat.le_of_ble_eq_true hl,hn,hb,⟨fun p ds hp=>h1.get p ds hp,fun p ks vs hp=>h2.get p ks vs hp⟩,fun k p hk hp=>outsOk_get h3 hb.get.1 k p hk (by
    rcases hp with ⟨ds,hp⟩|⟨ks,vs,hp⟩
    · exact .inl (assoc_hasKey hp)
    · exact .inr (assoc_hasKey hp))⟩
/-! ### Loops -/

def LoopEnd {X : Type} (S : X → St) (Inv : X → Prop) (μ : X → Nat) (x : X) (st' : St) : Prop:=∃ x',Inv x' ∧ μ x' < μ x ∧ Retell isOut st' (S x')
theorem LoopEnd.intro {X : Type} {S : X → St} {Inv : X → Prop} {μ : X → Nat} {x : X} {st' : St} (x' : X) (h1 : Inv x') (h2 : μ x' < μ x) (h3 : Retell isOut st' (S x')) : LoopEnd S Inv μ x st':=⟨x',h1,h2,h3⟩
theorem VCode.loopW {P : Program} {ro : Option Nat} {c : Code} {st : St} {Q : Vm.X → St → Prop} {Y : Type} (S : Y → St) (Inv : Y → Prop) (μ : Y → Nat) (x0 : Y) (h0 : Inv x0) (hst : Retell isOut st (S x0))
    (hb : ∀ x,Inv x → VWp P ro isOut c (S x) (fun e st'=>match e with
      | .normal=>LoopEnd S Inv μ x st'
      | .exit i=>Q (.exit i) st'
      | .ret=>Q .ret st')) : VCode P ro isOut (.loop c) st Q:=by
  refine VCode.intro ?_
  refine VWp.retell hst ?_
  refine VWp.loop (fun st'=>∃ x,Inv x ∧ st' = S x) (fun st'=>leastOf (fun m=>∃ x,Inv x ∧ st' = S x ∧ m = μ x)) ⟨x0,h0,rfl⟩ ?_
  rintro st' ⟨x1,hx1,rfl⟩
  obtain ⟨x,hx,hse,hm⟩:=leastOf_spec (p:=fun m=>∃ x,Inv x ∧ S x1 = S x ∧ m = μ x) ⟨_,x1,hx1,rfl,rfl⟩
  have key:=hb x hx
  rw [hse]
  rw [hse] at hm
  refine VWp.retell_post key ?_
  intro e st2 hq
  cases e with
  | normal =>
    obtain ⟨x',h1,h2,h3⟩:=hq
    refine ⟨S x',h3,⟨x',h1,rfl⟩,?_⟩
    have : leastOf (fun m=>∃ x,Inv x ∧ S x' = S x ∧ m = μ x) ≤ μ x':=leastOf_le ⟨x',h1,rfl,rfl⟩
    show leastOf (fun m=>∃ x,Inv x ∧ S x' = S x ∧ m = μ x) < leastOf (fun m=>∃ y,Inv y ∧ S x = S y ∧ m = μ y)
    omega
  | exit i=>exact ⟨st2,Retell.refl _ _,hq⟩
  | ret=>exact ⟨st2,Retell.refl _ _,hq⟩
attribute [irreducible] LoopEnd

/-! ### Leaving -/

theorem VOut.intro' {h h1 : Hp} {r1 r : V} {h' : Hp} (ho : Outs h h1 r1 r h') : VOut h h1 r1 r h':=⟨ho⟩
theorem VOut.elim' {h h1 : Hp} {r1 r : V} {h' : Hp} (ho : VOut h h1 r1 r h') : Outs h h1 r1 r h':=ho.ex
theorem VOut.turn {h : Hp} {outer : Id → Option Blk} {loc loc' : List Blk} {r1 r1' r : V} {h' : Hp} (c : TCtx) (t : TurnOk c ⟨outer,loc⟩ loc') (hv : VTo c r1 r1') (ho : VOut h ⟨outer,loc'⟩ r1' r h') : VOut h ⟨outer,loc⟩ r1 r h':=by
  refine VOut.intro' ?_
  intro σ σ' w w' v hr hr2 hx hvr
  exact ho.elim' σ (σ'.turn c w') w w' v hr (t.rel hr2) (hx.trans (t.ext hr2)) (turn_v hr2 t.fz _ _ _ hv hvr)
theorem VOut.data {h : Hp} {loc : List Blk} {r1 r : V} (L : Nat) (fz : List (Nat × List D)) (fm : List (Nat × List D × List D)) (hl : Nat.ble loc.length L = true)
    (h1 : FzAll ⟨[],L,fz,fm⟩ loc fz) (h2 : FmAll ⟨[],L,fz,fm⟩ loc fm) (hv : VTo ⟨[],L,fz,fm⟩ r1 (r.ren .out)) : VOut h ⟨h.lift,loc⟩ r1 r h :=
  VOut.turn ⟨[],L,fz,fm⟩ (loc':=[]) (TurnOk.mk' [] L fz fm (OutOk.lift h) hl List.nodup_nil (by simp only [BTos]) h1 h2 rfl) hv (VOut.same rfl)
/-! ### Calls -/

theorem VC.turn {P : Program} {f : FuncId} {args args' : List V} {outer : Id → Option Blk} {loc loc' : List Blk} {r : V} {h2 : Hp} (c : TCtx) (t : TurnOk c ⟨outer,loc⟩ loc') (hid : ∀ i,(⟨outer,loc⟩ : Hp).get i ≠ none → c.ρ i = i) (hv : VTos c args args')
    (hc : VC P f args' ⟨outer,loc'⟩ r h2) : VC P f args ⟨outer,loc⟩ r h2:=by
  obtain ⟨hent,hg,hC⟩:=hc
  refine ⟨hent,?_,fun σ w xs hr hxs=>?_⟩
  · intro i hi
    refine hg i ?_
    cases i with
    | out i=>exact hi
    | loc k =>
      have hρ:=hid (.loc k) hi
      have hi' : loc[k]? ≠ none:=hi
      have : k < loc'.length:=by
        rw [t.blks.get.1]
        cases hp : c.pm[k]? with
        | some p=>exact (List.getElem?_eq_some_iff.1 hp).1
        | none =>
          exfalso
          have h2 : c.ρ (.loc k) = .loc (c.L + k):=by simp [TCtx.ρ,hp]
          rw [h2,Id.loc.injEq] at hρ
          exact hi' (List.getElem?_eq_none (by have:=t.len;simp only at this;omega))
      show loc'[k]? ≠ none
      rw [List.getElem?_eq_getElem this];simp
  · refine CallsIn.mono (hC (σ.turn c w) w xs (t.rel hr) (turn_vs hr t.fz _ _ _ hv hxs)) ?_
    rintro e w' ⟨σ',x,rfl,h1,h2,h3⟩
    exact ⟨σ',x,rfl,h1,h2,(t.extAll hid hr).trans h3⟩
theorem rangeLt {n : Nat} {k : Nat} (hk : k < n) : (List.range n)[k]? = some k:=List.getElem?_range hk
theorem VC.give {P : Program} {f : FuncId} {args args' : List V} {outer : Id → Option Blk} {loc loc' : List Blk} {r : V} {h2 : Hp} (fz : List (Nat × List D)) (fm : List (Nat × List D × List D)) (ho : OutOk outer)
    (hb : BTos ⟨List.range loc.length,loc.length,fz,fm⟩ loc (List.range loc.length) loc') (h1 : FzAll ⟨List.range loc.length,loc.length,fz,fm⟩ loc fz) (h1' : FmAll ⟨List.range loc.length,loc.length,fz,fm⟩ loc fm) (h3 : outsOk fz fm (List.range loc.length) loc' = true)
    (hv : VTos ⟨List.range loc.length,loc.length,fz,fm⟩ args args') (hc : VC P f args' ⟨outer,loc'⟩ r h2) : VC P f args ⟨outer,loc⟩ r h2 :=
  VC.turn _ (TurnOk.mk' _ _ fz fm ho (by simp) List.nodup_range hb h1 h1' h3) (fun i hi=>by
    cases i with
    | out i=>rfl
    | loc k =>
      have hlt : k < loc.length:=by
        rcases Nat.lt_or_ge k loc.length with h1|h1
        · exact h1
        · exact absurd (List.getElem?_eq_none h1) hi
      simp [TCtx.ρ,rangeLt hlt]) hv hc
end Go.Vm

