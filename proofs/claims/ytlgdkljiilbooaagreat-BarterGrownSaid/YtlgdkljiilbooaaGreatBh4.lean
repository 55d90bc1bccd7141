/- Part 4 of the proof that what a river gave and took is exchanged back as the given statement says. No condition. -/
import Derived.Test.YtlgdkljiilbooaaGreatBh3
import Derived.Test.YtlgdkljiilbooaaGreatRows
set_option linter.unusedVariables false
set_option linter.unusedSimpArgs false
open Go.Vm
namespace Go.Proofs.YtlgdkljiilbooaaGreat.Bt
set_option maxRecDepth 20000
set_option maxHeartbeats 1000000

structure Str where
  ow : Int
  no : Int
  so : Int
  we : Int
  deriving DecidableEq
def encT (s : Str) : List D := [DI s.ow, DI s.no, DI s.so, DI s.we]
theorem encT_len (s : Str) : (encT s).length = 4 := rfl
def strs (l : List Str) : V := .fs 4 l.length (l.flatMap encT)
structure Lnd where
  ss : List Str
  vs : List Int
def vL (l : Lnd) : V := .agg [strs l.ss, ints l.vs]
def encN (l : Lnd) : List D := [.sl 4 l.ss.length (l.ss.flatMap encT), dints l.vs]
structure Exc where
  w : Int
  ps : List Int
  deriving DecidableEq
def vX (x : Exc) : V := .agg [I x.w, ints x.ps]
def encX (x : Exc) : List D := [DI x.w, dints x.ps]
theorem vc_from (n a b : Int) (h : Hp) : VC Tryz.prog 32 [I n, I a, I b] h (B (decide (a ≤ n ∧ n ≤ b))) h := by
  refine VC.body Tryz.func32 rfl Tryz.ntmps32 Tryz.call32 (h.grows_refl) rfl ?_; conv => whnf
  repeat' (first | ((first | refine zs1 ?_ | refine zs2 ?_ | refine zs3 ?_ | refine zs4 ?_ | refine zs5 ?_ | refine zs6 [] ?_); conv => whnf) | ((first | apply zi1 | apply zi2 | apply zi3 | apply zi4 | apply zi5) <;> intro _ <;> conv => whnf))
  all_goals (refine VOut.same ?_; simp [V.ren]; try omega)
theorem vc_side (n : Int) (h : Hp) : VC Tryz.prog 54 [I n] h (B (decide (n = 0 ∨ n = 1))) h := by
  refine VC.body Tryz.func54 rfl Tryz.ntmps54 Tryz.call54 (h.grows_refl) rfl ?_; conv => whnf
  repeat' (first | ((first | refine zs1 ?_ | refine zs2 ?_ | refine zs3 ?_ | refine zs4 ?_ | refine zs5 ?_ | refine zs6 [] ?_); conv => whnf) | ((first | apply zi1 | apply zi2 | apply zi3 | apply zi4 | apply zi5) <;> intro _ <;> conv => whnf))
  all_goals (refine VOut.same ?_; simp only [V.ren]; congr 2; first | (rw [Bool.eq_iff_iff]; simp; omega) | (rw [Bool.eq_iff_iff]; simp; done))
theorem vc_asked1 (n : Int) (x : Exc) (h : Hp) : VC Tryz.prog 46 [I n, .fp (encX x)] h (B (decide (0 ≤ n ∧ n ≤ x.w))) h := by
  refine VC.body Tryz.func46 rfl Tryz.ntmps46 Tryz.call46 (h.grows_refl) rfl ?_; conv => whnf
  repeat' (first | ((first | refine zs1 ?_ | refine zs2 ?_ | refine zs3 ?_ | refine zs4 ?_ | refine zs5 ?_ | refine zs6 [] ?_); conv => whnf) | ((first | apply zi1 | apply zi2 | apply zi3 | apply zi4 | apply zi5) <;> intro _ <;> conv => whnf) | (refine VCall.intro (vc_from _ _ _ _) ?_; conv => whnf))
  all_goals (refine VOut.same ?_; simp [V.ren]; try omega)
theorem vc_whole (l : List Int) (q : Int → Bool) (g : FuncId) (caps : List D) (hl : l.length ≤ 4000000) (hso : ∀ (x : Int) (h : Hp), VC Tryz.prog g ([I x] ++ D.vs caps) h (B (q x)) h) (h : Hp) :
    VC Tryz.prog 45 [ints l, .func (.func g) [] (D.vs caps)] h (B (l.all q)) h := by
  refine VC.body Tryz.func45 rfl Tryz.ntmps45 Tryz.call45 (h.grows_refl) rfl ?_; conv => whnf
  rw [rens_dvs]
  refine VCode.lp (fun k : Nat => [(1, .func (.func g) [] (D.vs caps)), (4, B false), (7, ints l), (8, I l.length), (9, I k)]) (fun _ => []) (fun k => k ≤ l.length ∧ l.all q = (l.drop k).all q) (fun k => l.length - k) 0 (by simp) ?_ ?_
  · conv => whnf
    refine Retell.turn ⟨[], 0, [], []⟩ (TurnOk.mk' _ _ [] [] (OutOk.lift _) rfl (by decide) zb trivial trivial rfl) zv zm
  · rintro k ⟨h1, h2⟩
    conv => whnf
    refine VIte.dec (fun h3 => ?_) (fun h3 => ?_)
    · have hk : l[k]? = some l[k] := List.getElem?_eq_getElem (by omega)
      rw [List.drop_eq_getElem_cons (by omega), List.all_cons] at h2
      generalize l[k] = x at hk h2
      conv => whnf
      refine VAny.ix encI_len k rfl rfl hk ?_
      conv => whnf
      repeat (first | ((first | refine zs1 ?_ | refine zs2 ?_ | refine zs3 ?_ | refine zs4 ?_ | refine zs5 ?_ | refine zs6 [] ?_); conv => whnf))
      refine VCall.intro (hso x _) ?_
      conv => whnf
      cases hp : q x
      · conv => whnf
        refine VOut.same ?_
        simp [V.ren, h2, hp]
      · conv => whnf
        repeat (first | ((first | refine zs1 ?_ | refine zs2 ?_ | refine zs3 ?_ | refine zs4 ?_ | refine zs5 ?_ | refine zs6 [] ?_); conv => whnf))
        refine LEnd.intro (k + 1) ⟨by omega, by simpa [hp] using h2⟩ (by omega) ?_
        conv => whnf
        refine Retell.turn ⟨[], 0, [], []⟩ (TurnOk.mk' _ _ [] [] (OutOk.lift _) rfl (by decide) zb trivial trivial rfl) zv zm
    · conv => whnf
      refine VOut.same ?_
      rw [List.drop_of_length_le (by omega), List.all_nil] at h2
      simp [V.ren, h2]
def vAt (vs : List Int) (i : Int) : Int := vs.getD i.toNat 0
def badS (vs : List Int) (s : Str) : Int :=
  if ¬ (s.ow = 0 ∨ s.ow = 1) ∨ ¬ (1 ≤ s.no ∧ s.no ≤ 1000) ∨ ¬ (1 ≤ s.so ∧ s.so ≤ 1000) then 4
  else if ¬ (-1 ≤ s.we ∧ s.we ≤ (vs.length : Int) - 1) then 2 else if s.we ≠ -1 ∧ vAt vs s.we ≠ s.ow then 8 else 0
def chkGo (vs : List Int) : List Str → Int
  | [] => 0
  | s :: r => if badS vs s ≠ 0 then badS vs s else chkGo vs r
def isSide (n : Int) : Bool := decide (n = 0 ∨ n = 1)
def chk (l : Lnd) : Int :=
  if ¬ (1 ≤ l.ss.length ∧ l.ss.length ≤ 16) ∨ 8 < l.vs.length then 3 else bif l.vs.all isSide then chkGo l.vs l.ss else 4
theorem chkGo_at {vs : List Int} {ss : List Str} {k : Nat} {s : Str} (h : ss[k]? = some s) : chkGo vs (ss.drop k) = if badS vs s ≠ 0 then badS vs s else chkGo vs (ss.drop (k + 1)) := by
  obtain ⟨hlt, rfl⟩ := List.getElem?_eq_some_iff.1 h
  rw [List.drop_eq_getElem_cons hlt, chkGo]
theorem vc_check (l : Lnd) (h : Hp) (hn : l.ss.length ≤ 4000000) (hv : l.vs.length ≤ 4000000) : VC Tryz.prog 35 [vL l] h (I (chk l)) h := by
  obtain ⟨E, hE⟩ : ∃ E, E = chk l := ⟨_, rfl⟩
  rw [← hE]
  unfold chk at hE
  have cw := fun h => vc_whole l.vs isSide 54 [] hv (fun x h => vc_side x h) h
  refine VC.body Tryz.func35 rfl Tryz.ntmps35 Tryz.call35 (h.grows_refl) rfl ?_; conv => whnf
  repeat' (first | ((first | refine zs1 ?_ | refine zs2 ?_ | refine zs3 ?_ | refine zs4 ?_ | refine zs5 ?_ | refine zs6 [] ?_); conv => whnf) | ((first | apply zi1 | apply zi2 | apply zi3 | apply zi4 | apply zi5) <;> intro _ <;> conv => whnf) | (refine VCall.intro (vc_from _ _ _ _) ?_; conv => whnf) | (refine VCall.intro (cw _) ?_; conv => whnf))
  · rw [hE, if_pos (by omega)]; exact VOut.same rfl
  · rw [hE, if_pos (by omega)]; exact VOut.same rfl
  · rename_i hb
    rw [hE, if_neg (by omega), show l.vs.all isSide = false by simpa using hb]; exact VOut.same rfl
  · rename_i hb
    rw [if_neg (by omega), show l.vs.all isSide = true by simpa using hb, cond_true] at hE
    refine VCode.lp (fun k : Nat => [(1, .ptr (.loc 0) 0), (23, strs l.ss), (24, I l.ss.length), (25, I k)]) (fun _ => [.flat true (encN l)]) (fun k => k ≤ l.ss.length ∧ E = chkGo l.vs (l.ss.drop k)) (fun k => l.ss.length - k) 0 ⟨Nat.zero_le _, hE⟩ ?_ ?_
    · conv => whnf
      refine Retell.turn ⟨[0], 1, [], []⟩ (TurnOk.mk' _ _ [] [] (OutOk.lift _) rfl (by decide) zb trivial trivial rfl) zv zm
    · rintro k ⟨hk, hEk⟩
      conv => whnf
      refine VIte.dec (fun h3 => ?_) (fun h3 => ?_)
      · have hs : l.ss[k]? = some l.ss[k] := List.getElem?_eq_getElem (by omega)
        rw [chkGo_at hs] at hEk
        generalize l.ss[k] = s at hs hEk
        unfold badS at hEk
        have hv1 : ∀ (_ : 0 ≤ s.we ∧ s.we ≤ (l.vs.length : Int) - 1), l.vs[s.we.toNat]? = some (vAt l.vs s.we) := fun _ => by
          unfold vAt
          rw [List.getD_eq_getElem?_getD, List.getElem?_eq_getElem (by omega)]; rfl
        conv => whnf
        repeat' (first | ((first | refine zs1 ?_ | refine zs2 ?_ | refine zs3 ?_ | refine zs4 ?_ | refine zs5 ?_); conv => whnf) | ((first | apply zi1 | apply zi2 | apply zi3 | apply zi4 | apply zi5) <;> intro _ <;> conv => whnf) | (refine VAny.ix encT_len k rfl rfl hs ?_; conv => whnf) | (refine VCall.intro (vc_side _ _) ?_; conv => whnf) | (refine VCall.intro (vc_from _ _ _ _) ?_; conv => whnf) | (refine VDraw.go [] (by kernel_rfl) (by kernel_rfl) ?_; conv => whnf) | (refine VAny.ix encI_len s.we.toNat (by first | omega | (simp at *; omega)) rfl (hv1 (by first | omega | (simp at *; omega))) ?_; conv => whnf))
        all_goals first
          | (rw [show E = 4 by omega]; exact VOut.same rfl)
          | (rw [show E = 2 by omega]; exact VOut.same rfl)
          | (rw [show E = 8 by omega]; exact VOut.same rfl)
          | (refine LEnd.intro (k + 1) ⟨by omega, by omega⟩ (by omega) ?_
             conv => whnf
             refine Retell.turn ⟨[0], 2, [], []⟩ (TurnOk.mk' _ _ [] [] (OutOk.lift _) rfl (by decide) zb trivial trivial rfl) zv zm)
      · rw [List.drop_of_length_le (by omega), chkGo] at hEk
        rw [hEk]
        conv => whnf
        repeat' (first | ((first | refine zs1 ?_ | refine zs2 ?_ | refine zs3 ?_ | refine zs4 ?_ | refine zs5 ?_ | refine zs6 [] ?_); conv => whnf) | ((first | apply zi1 | apply zi2 | apply zi3 | apply zi4 | apply zi5) <;> intro _ <;> conv => whnf))
        exact VOut.same rfl
end Go.Proofs.YtlgdkljiilbooaaGreat.Bt

open Go.Vm
namespace Go.Proofs.YtlgdkljiilbooaaGreat.Bt
set_option maxRecDepth 20000
set_option maxHeartbeats 1000000
structure Sok (vs : List Int) (s : Str) : Prop where
  ow : s.ow = 0 ∨ s.ow = 1
  no : 1 ≤ s.no ∧ s.no ≤ 1000
  so : 1 ≤ s.so ∧ s.so ≤ 1000
  we : s.we = -1 ∨ (0 ≤ s.we ∧ s.we < vs.length ∧ vAt vs s.we = s.ow)
structure Ok (l : Lnd) : Prop where
  n : 1 ≤ l.ss.length ∧ l.ss.length ≤ 16
  v : l.vs.length ≤ 8
  side : ∀ x ∈ l.vs, x = 0 ∨ x = 1
  ss : ∀ s ∈ l.ss, Sok l.vs s
theorem chkGo_ok {vs : List Int} : ∀ {ss : List Str}, chkGo vs ss = 0 ↔ ∀ s ∈ ss, Sok vs s
  | [] => by simp [chkGo]
  | s :: r => by
    rw [chkGo, List.forall_mem_cons, ← chkGo_ok]
    have : badS vs s = 0 ↔ Sok vs s := by
      constructor
      · intro h
        unfold badS at h
        exact ⟨by omega, by omega, by omega, by omega⟩
      · rintro ⟨h1, h2, h3, h4⟩
        unfold badS
        omega
    rw [← this]
    omega
theorem chk_ok {l : Lnd} : chk l = 0 ↔ Ok l := by
  unfold chk
  constructor
  · intro h
    split at h
    · cases h
    · cases hv : l.vs.all isSide
      · rw [hv] at h; cases h
      · rw [hv, cond_true] at h
        refine ⟨by omega, by omega, fun x hx => ?_, chkGo_ok.1 h⟩
        have := List.all_eq_true.1 hv x hx
        simpa [isSide] using this
  · rintro ⟨h1, h2, h3, h4⟩
    rw [if_neg (by omega), show l.vs.all isSide = true from List.all_eq_true.2 fun x hx => by simpa [isSide] using h3 x hx, cond_true]
    exact chkGo_ok.2 h4
theorem vc_opened (l : Lnd) (h : Hp) (hn : l.ss.length ≤ 4000000) (hv : l.vs.length ≤ 4000000) : VC Tryz.prog 20 [vL l] h (.tuple [if chk l = 0 then .fp (encN l) else .nilptr, I (chk l)]) h := by
  refine VC.body Tryz.func20 rfl Tryz.ntmps20 Tryz.call20 (h.grows_refl) rfl ?_; conv => whnf
  repeat' (first | ((first | refine zs1 ?_ | refine zs2 ?_ | refine zs3 ?_ | refine zs4 ?_ | refine zs5 ?_ | refine zs6 [] ?_); conv => whnf) | ((first | apply zi1 | apply zi2 | apply zi3 | apply zi4 | apply zi5) <;> intro _ <;> conv => whnf) | (refine VCall.intro (vc_check l _ hn hv) ?_; conv => whnf))
  · rename_i h1
    rw [if_neg h1]; exact VOut.same rfl
  · rename_i h1
    have h1 : chk l = 0 := by omega
    rw [if_pos h1, h1]
    refine VOut.data 2 [(1, encN l)] [] rfl zf (by exact FmAll.nil) zv
theorem vc_opened_ok (l : Lnd) (h : Hp) (o : Ok l) : VC Tryz.prog 20 [vL l] h (.tuple [.fp (encN l), I 0]) h := by
  have := vc_opened l h (by have := o.n; omega) (by have := o.v; omega)
  rw [chk_ok.2 o, if_pos rfl] at this; exact this
theorem vc_opened_no (l : Lnd) (h : Hp) (hn : l.ss.length ≤ 4000000) (hv : l.vs.length ≤ 4000000) (h0 : chk l ≠ 0) : VC Tryz.prog 20 [vL l] h (.tuple [.nilptr, I (chk l)]) h := by
  have := vc_opened l h hn hv
  rw [if_neg h0] at this; exact this
def isFree (s : Str) : Bool := decide (s.we = -1)
def bdAt (l : Lnd) (i : Nat) : Bool := match l.ss[i]? with
  | some s => !isFree s
  | none => false
theorem bdAt_eq {l : Lnd} {i : Nat} {s : Str} (h : l.ss[i]? = some s) : bdAt l i = !isFree s := by simp [bdAt, h]
theorem vc_bound (l : Lnd) (i : Nat) (h : Hp) (hi : i < l.ss.length) : VC Tryz.prog 44 [.fp (encN l), I i] h (B (bdAt l i)) h := by
  have hs : l.ss[i]? = some l.ss[i] := List.getElem?_eq_getElem hi
  rw [bdAt_eq hs]
  generalize l.ss[i] = s at hs
  refine VC.body Tryz.func44 rfl Tryz.ntmps44 Tryz.call44 (h.grows_refl) rfl ?_; conv => whnf
  repeat' (first | ((first | refine zs1 ?_ | refine zs2 ?_ | refine zs3 ?_ | refine zs4 ?_ | refine zs5 ?_ | refine zs6 [] ?_); conv => whnf) | ((first | apply zi1 | apply zi2 | apply zi3 | apply zi4 | apply zi5) <;> intro _ <;> conv => whnf) | (refine VAny.ix encT_len i rfl rfl hs ?_; conv => whnf))
  refine VOut.same ?_
  simp only [V.ren, isFree]; congr 2
def selS (q : Nat → Bool) : Nat → List Int
  | 0 => []
  | k + 1 => if q k then selS q k ++ [(k : Int)] else selS q k
theorem selS_len (q : Nat → Bool) : ∀ k, (selS q k).length ≤ k
  | 0 => Nat.le_refl _
  | k + 1 => by
    have := selS_len q k
    rw [selS]; split <;> simp <;> omega
end Go.Proofs.YtlgdkljiilbooaaGreat.Bt

open Go.Vm
namespace Go.Proofs.YtlgdkljiilbooaaGreat.Bt
set_option maxRecDepth 20000
set_option maxHeartbeats 1000000

def nowP (l : Lnd) : List Int := l.ss.map fun s => 1 - s.ow
def nowX (l : Lnd) : Exc := ⟨1, nowP l⟩
theorem nowP_len (l : Lnd) : (nowP l).length = l.ss.length := by simp [nowP]
def now0 (l : Lnd) (k : Nat) : List Int := (nowP l).take k ++ List.replicate (l.ss.length - k) 0
theorem now0_at {l : Lnd} {k : Nat} (hk : k < l.ss.length) : (now0 l k)[k]? = some 0 := by
  unfold now0
  have : ((nowP l).take k).length = k := by simp [nowP]; omega
  rw [List.getElem?_append_right (by omega), this, Nat.sub_self, List.getElem?_replicate, if_pos (by omega)]
theorem now0_set {l : Lnd} {k : Nat} {s : Str} (hs : l.ss[k]? = some s) : (now0 l k).set k (1 - s.ow) = now0 l (k + 1) := by
  obtain ⟨hlt, e⟩ := List.getElem?_eq_some_iff.1 hs
  unfold now0
  have h1 : ((nowP l).take k).length = k := by simp [nowP]; omega
  rw [List.set_append_right _ _ (by omega), h1, Nat.sub_self, show l.ss.length - k = (l.ss.length - (k + 1)) + 1 by omega, List.replicate_succ, List.set_cons_zero, List.take_add_one]
  have : (nowP l)[k]? = some (1 - s.ow) := by simp [nowP, hs]
  rw [this]; simp
theorem vc_now (l : Lnd) (h : Hp) (o : Ok l) : VC Tryz.prog 42 [.fp (encN l)] h (vX (nowX l)) h := by
  have hn := o.n
  refine VC.body Tryz.func42 rfl Tryz.ntmps42 Tryz.call42 (h.grows_refl) rfl ?_; conv => whnf
  repeat' (first | ((first | refine zs1 ?_ | refine zs2 ?_ | refine zs3 ?_ | refine zs4 ?_ | refine zs5 ?_ | refine zs6 [] ?_); conv => whnf) | ((first | apply zi1 | apply zi2 | apply zi3 | apply zi4 | apply zi5) <;> intro _ <;> conv => whnf) | (refine VMem.make (n := l.ss.length) (0 : Int) encI_len rfl rfl rfl rfl rfl rfl (by omega) ?_; conv => whnf))
  refine VCode.lp (fun k : Nat => [(2, .ptr (.loc 0) 0), (3, .ptr (.loc 2) 0), (18, strs l.ss), (19, I l.ss.length), (20, I k)]) (fun k => [.flat true [DI 0, .nilslice], .flat true ((now0 l k).flatMap Vm.encI), .cells true [I 1, .gl (.loc 1) 1 l.ss.length]]) (fun k => k ≤ l.ss.length) (fun k => l.ss.length - k) 0 (Nat.zero_le _) ?_ ?_
  · conv => whnf
    refine Retell.turn ⟨[0,1,2], 3, [], []⟩ (TurnOk.mk' _ _ [] [] (OutOk.lift _) rfl (by decide) zb trivial trivial rfl) zv zm
  · intro k hk
    conv => whnf
    refine VIte.dec (fun h3 => ?_) (fun h3 => ?_)
    · have hs : l.ss[k]? = some l.ss[k] := List.getElem?_eq_getElem (by omega)
      have hok := o.ss _ (List.getElem_mem (by omega : k < l.ss.length))
      generalize l.ss[k] = s at hs hok
      have h0 := now0_set hs
      have h1 := now0_at (l := l) (k := k) (by omega)
      have how := hok.ow
      conv => whnf
      repeat' (first | ((first | refine zs1 ?_ | refine zs2 ?_ | refine zs3 ?_ | refine zs4 ?_ | refine zs5 ?_); conv => whnf) | ((first | apply zi1 | apply zi2 | apply zi3 | apply zi4 | apply zi5) <;> intro _ <;> conv => whnf) | (refine VAny.ix encT_len k rfl rfl hs ?_; conv => whnf))
      · rename_i he
        rw [he] at h0
        refine VMem.setRec encI_len k 0 (1 : Int) rfl rfl rfl h1 (by decide) rfl (by simp) ?_
        conv => whnf
        repeat' (first | ((first | refine zs1 ?_ | refine zs2 ?_ | refine zs3 ?_ | refine zs4 ?_ | refine zs5 ?_); conv => whnf) | ((first | apply zi1 | apply zi2 | apply zi3 | apply zi4 | apply zi5) <;> intro _ <;> conv => whnf))
        refine LEnd.intro (k + 1) (by omega) (by omega) ?_
        conv => whnf
        rw [show (now0 l k).set k 1 = now0 l (k + 1) from h0]
        refine Retell.turn ⟨[0,1,2], 4, [], []⟩ (TurnOk.mk' _ _ [] [] (OutOk.lift _) rfl (by decide) zb trivial trivial rfl) zv zm
      · rename_i he
        have he : s.ow = 1 := by omega
        rw [he] at h0
        have h2 : now0 l (k + 1) = now0 l k := by
          rw [← h0]
          obtain ⟨h5, h6⟩ := List.getElem?_eq_some_iff.1 h1
          conv => rhs; rw [← List.set_getElem_self h5]
          rw [h6]; rfl
        refine LEnd.intro (k + 1) (by omega) (by omega) ?_
        conv => whnf
        rw [h2]
        refine Retell.turn ⟨[0,1,2], 4, [], []⟩ (TurnOk.mk' _ _ [] [] (OutOk.lift _) rfl (by decide) zb trivial trivial rfl) zv zm
    · have he : now0 l k = nowP l := by
        unfold now0
        rw [show l.ss.length - k = 0 by omega, List.take_of_length_le (by rw [nowP_len]; omega)]; simp
      rw [he]
      conv => whnf
      repeat' (first | ((first | refine zs1 ?_ | refine zs2 ?_ | refine zs3 ?_ | refine zs4 ?_ | refine zs5 ?_); conv => whnf) | ((first | apply zi1 | apply zi2 | apply zi3 | apply zi4 | apply zi5) <;> intro _ <;> conv => whnf))
      rw [show l.ss.length = (nowP l).length from (nowP_len l).symm]
      refine VOut.data 3 [(1, (nowP l).flatMap Vm.encI)] [] rfl zf (by exact FmAll.nil) zv
def askE (l : Lnd) (x : Exc) : Int :=
  if chk l ≠ 0 then chk l else if ¬ (1 ≤ x.w ∧ x.w ≤ 2000) then 4 else if x.ps.length ≠ l.ss.length then 3 else bif x.ps.all fun p => decide (0 ≤ p ∧ p ≤ x.w) then 0 else 4
structure XOk (l : Lnd) (x : Exc) : Prop where
  w : 1 ≤ x.w ∧ x.w ≤ 2000
  len : x.ps.length = l.ss.length
  ps : ∀ p ∈ x.ps, 0 ≤ p ∧ p ≤ x.w
theorem ask_ok {l : Lnd} {x : Exc} : askE l x = 0 ↔ Ok l ∧ XOk l x := by
  unfold askE
  constructor
  · intro h
    by_cases h1 : chk l = 0
    · rw [if_neg (by omega)] at h
      refine ⟨chk_ok.1 h1, ?_⟩
      cases hp : x.ps.all fun p => decide (0 ≤ p ∧ p ≤ x.w)
      · rw [hp, cond_false] at h; omega
      · rw [hp, cond_true] at h
        exact ⟨by omega, by omega, fun p hm => by simpa using List.all_eq_true.1 hp p hm⟩
    · rw [if_pos h1] at h; exact absurd h h1
  · rintro ⟨h1, h2, h3, h4⟩
    have h5 : (x.ps.all fun p => decide (0 ≤ p ∧ p ≤ x.w)) = true := List.all_eq_true.2 fun p hm => by simpa using h4 p hm
    have := chk_ok.2 h1
    rw [h5, cond_true]
    omega
theorem vc_asked (l : Lnd) (x : Exc) (h : Hp) (hn : l.ss.length ≤ 4000000) (hv : l.vs.length ≤ 4000000) (hp : x.ps.length ≤ 4000000) : VC Tryz.prog 24 [vL l, vX x] h (.tuple [if askE l x = 0 then .fp (encN l) else .nilptr, I (askE l x)]) h := by
  obtain ⟨E, hE⟩ : ∃ E, E = askE l x := ⟨_, rfl⟩
  rw [← hE]
  unfold askE at hE
  have cw := fun h => vc_whole x.ps (fun p => decide (0 ≤ p ∧ p ≤ x.w)) 46 [.pt (encX x)] hp (fun p h => vc_asked1 p x h) h
  generalize (x.ps.all fun p => decide (0 ≤ p ∧ p ≤ x.w)) = b at cw hE
  by_cases h0 : chk l = 0
  · have ho := fun h => vc_opened_ok l h (chk_ok.1 h0)
    refine VC.body Tryz.func24 rfl Tryz.ntmps24 Tryz.call24 (h.grows_refl) rfl ?_; conv => whnf
    repeat' (first | ((first | refine zs1 ?_ | refine zs2 ?_ | refine zs3 ?_ | refine zs4 ?_ | refine zs5 ?_ | refine zs6 [] ?_); conv => whnf) | ((first | apply zi1 | apply zi2 | apply zi3 | apply zi4 | apply zi5) <;> intro _ <;> conv => whnf) | (refine VCall.intro (ho _) ?_; conv => whnf) | (refine VCall.intro (vc_from _ _ _ _) ?_; conv => whnf))
    · rw [show E = 4 by omega]; exact VOut.same rfl
    · rw [show E = 3 by omega]; exact VOut.same rfl
    · refine VCall.intro (VC.give (args' := [ints x.ps, .func (.func 46) [] [.fp (encX x)]]) (loc' := [.flat true (encN l), .dead]) [(1, encX x)] [] (OutOk.lift _) zb zf (by exact FmAll.nil) rfl zv (cw _)) ?_
      rw [if_neg (by omega), if_neg (by omega), if_neg (by omega)] at hE
      conv => whnf
      cases b
      · conv => whnf
        repeat' (first | ((first | refine zs1 ?_ | refine zs2 ?_ | refine zs3 ?_ | refine zs4 ?_ | refine zs5 ?_ | refine zs6 [] ?_); conv => whnf) | ((first | apply zi1 | apply zi2 | apply zi3 | apply zi4 | apply zi5) <;> intro _ <;> conv => whnf))
        rw [show E = 4 from hE]; exact VOut.same rfl
      · conv => whnf
        repeat' (first | ((first | refine zs1 ?_ | refine zs2 ?_ | refine zs3 ?_ | refine zs4 ?_ | refine zs5 ?_ | refine zs6 [] ?_); conv => whnf) | ((first | apply zi1 | apply zi2 | apply zi3 | apply zi4 | apply zi5) <;> intro _ <;> conv => whnf))
        rw [show E = 0 from hE]; exact VOut.same rfl
  · have ho := fun h => vc_opened_no l h hn hv h0
    rw [if_pos h0] at hE
    subst hE
    refine VC.body Tryz.func24 rfl Tryz.ntmps24 Tryz.call24 (h.grows_refl) rfl ?_; conv => whnf
    repeat' (first | ((first | refine zs1 ?_ | refine zs2 ?_ | refine zs3 ?_ | refine zs4 ?_ | refine zs5 ?_ | refine zs6 [] ?_); conv => whnf) | ((first | apply zi1 | apply zi2 | apply zi3 | apply zi4 | apply zi5) <;> intro _ <;> conv => whnf) | (refine VCall.intro (ho _) ?_; conv => whnf))
    all_goals first | omega | (rw [if_neg h0]; exact VOut.same rfl)
theorem vc_asked_ok (l : Lnd) (x : Exc) (h : Hp) (o : Ok l) (ox : XOk l x) : VC Tryz.prog 24 [vL l, vX x] h (.tuple [.fp (encN l), I 0]) h := by
  have := vc_asked l x h (by have := o.n; omega) (by have := o.v; omega) (by have := o.n; have := ox.len; omega)
  rw [ask_ok.2 ⟨o, ox⟩, if_pos rfl] at this; exact this
theorem vc_asked_no (l : Lnd) (x : Exc) (h : Hp) (hn : l.ss.length ≤ 4000000) (hv : l.vs.length ≤ 4000000) (hp : x.ps.length ≤ 4000000) (h0 : askE l x ≠ 0) : VC Tryz.prog 24 [vL l, vX x] h (.tuple [.nilptr, I (askE l x)]) h := by
  have := vc_asked l x h hn hv hp
  rw [if_neg h0] at this; exact this
end Go.Proofs.YtlgdkljiilbooaaGreat.Bt

open Go.Vm
namespace Go.Proofs.YtlgdkljiilbooaaGreat.Bt
set_option maxRecDepth 20000
set_option maxHeartbeats 1000000

theorem vc_m1 (s : Str) (h : Hp) : VC Tryz.prog 69 [.agg [I s.ow, I s.no, I s.so, I s.we]] h (I s.no) h := by
  refine VC.body Tryz.func69 rfl Tryz.ntmps69 Tryz.call69 (h.grows_refl) rfl ?_; conv => whnf
  repeat' (first | ((first | refine zs1 ?_ | refine zs2 ?_ | refine zs3 ?_ | refine zs4 ?_ | refine zs5 ?_ | refine zs6 [] ?_); conv => whnf) | ((first | apply zi1 | apply zi2 | apply zi3 | apply zi4 | apply zi5) <;> intro _ <;> conv => whnf))
  exact VOut.same rfl
theorem vc_m3 (s : Str) (h : Hp) : VC Tryz.prog 71 [.agg [I s.ow, I s.no, I s.so, I s.we]] h (I s.so) h := by
  refine VC.body Tryz.func71 rfl Tryz.ntmps71 Tryz.call71 (h.grows_refl) rfl ?_; conv => whnf
  repeat' (first | ((first | refine zs1 ?_ | refine zs2 ?_ | refine zs3 ?_ | refine zs4 ?_ | refine zs5 ?_ | refine zs6 [] ?_); conv => whnf) | ((first | apply zi1 | apply zi2 | apply zi3 | apply zi4 | apply zi5) <;> intro _ <;> conv => whnf))
  exact VOut.same rfl
theorem vc_m2 (x : Exc) (i : Nat) (p : Int) (h : Hp) (hp : x.ps[i]? = some p) : VC Tryz.prog 70 [vX x, I i] h (I p) h := by
  refine VC.body Tryz.func70 rfl Tryz.ntmps70 Tryz.call70 (h.grows_refl) rfl ?_; conv => whnf
  repeat' (first | ((first | refine zs1 ?_ | refine zs2 ?_ | refine zs3 ?_ | refine zs4 ?_ | refine zs5 ?_ | refine zs6 [] ?_); conv => whnf) | ((first | apply zi1 | apply zi2 | apply zi3 | apply zi4 | apply zi5) <;> intro _ <;> conv => whnf) | (refine VAny.ix encI_len i rfl rfl hp ?_; conv => whnf))
  exact VOut.same rfl
theorem vc_m4 (x : Exc) (i : Nat) (p : Int) (h : Hp) (hp : x.ps[i]? = some p) (hb : 0 ≤ p ∧ p ≤ x.w) (hw : x.w ≤ 4000) : VC Tryz.prog 72 [vX x, I i] h (I (x.w - p)) h := by
  refine VC.body Tryz.func72 rfl Tryz.ntmps72 Tryz.call72 (h.grows_refl) rfl ?_; conv => whnf
  repeat' (first | ((first | refine zs1 ?_ | refine zs2 ?_ | refine zs3 ?_ | refine zs4 ?_ | refine zs5 ?_ | refine zs6 [] ?_); conv => whnf) | ((first | apply zi1 | apply zi2 | apply zi3 | apply zi4 | apply zi5) <;> intro _ <;> conv => whnf) | (refine VAny.ix encI_len i rfl rfl hp ?_; conv => whnf))
  exact VOut.same rfl
def vMeas : V := .agg [.func (.func 69) [] [], .func (.func 70) [] [], .func (.func 71) [] [], .func (.func 72) [] []]
theorem vc_measures (h : Hp) : VC Tryz.prog 57 [] h vMeas h := by
  refine VC.body Tryz.func57 rfl Tryz.ntmps57 Tryz.call57 (h.grows_refl) rfl ?_; conv => whnf
  repeat' (first | ((first | refine zs1 ?_ | refine zs2 ?_ | refine zs3 ?_ | refine zs4 ?_ | refine zs5 ?_ | refine zs6 [] ?_); conv => whnf) | ((first | apply zi1 | apply zi2 | apply zi3 | apply zi4 | apply zi5) <;> intro _ <;> conv => whnf))
  exact VOut.same rfl
def hN : List Str → List Int → Int
  | s :: ss, p :: ps => s.no * p + hN ss ps
  | _, _ => 0
def hS (w : Int) : List Str → List Int → Int
  | s :: ss, p :: ps => s.so * (w - p) + hS w ss ps
  | _, _ => 0
def hasN (l : Lnd) (x : Exc) : Int := hN l.ss x.ps
def hasS (l : Lnd) (x : Exc) : Int := hS x.w l.ss x.ps
theorem hN_at {ss : List Str} {ps : List Int} {k : Nat} {s : Str} {p : Int} (hs : ss[k]? = some s) (hp : ps[k]? = some p) : hN (ss.drop k) (ps.drop k) = s.no * p + hN (ss.drop (k + 1)) (ps.drop (k + 1)) := by
  obtain ⟨h1, rfl⟩ := List.getElem?_eq_some_iff.1 hs
  obtain ⟨h2, rfl⟩ := List.getElem?_eq_some_iff.1 hp
  rw [List.drop_eq_getElem_cons h1, List.drop_eq_getElem_cons h2, hN]
theorem hS_at {w : Int} {ss : List Str} {ps : List Int} {k : Nat} {s : Str} {p : Int} (hs : ss[k]? = some s) (hp : ps[k]? = some p) : hS w (ss.drop k) (ps.drop k) = s.so * (w - p) + hS w (ss.drop (k + 1)) (ps.drop (k + 1)) := by
  obtain ⟨h1, rfl⟩ := List.getElem?_eq_some_iff.1 hs
  obtain ⟨h2, rfl⟩ := List.getElem?_eq_some_iff.1 hp
  rw [List.drop_eq_getElem_cons h1, List.drop_eq_getElem_cons h2, hS]
theorem mul_le {a b A B : Int} (ha : 0 ≤ a ∧ a ≤ A) (hb : 0 ≤ b ∧ b ≤ B) : 0 ≤ a * b ∧ a * b ≤ A * B :=
  ⟨Int.mul_nonneg ha.1 hb.1, Int.mul_le_mul ha.2 hb.2 hb.1 (by omega)⟩
theorem hN_bd {w : Int} (hw : w ≤ 2000) : ∀ (ss : List Str) (ps : List Int), (∀ s ∈ ss, 1 ≤ s.no ∧ s.no ≤ 1000) → (∀ p ∈ ps, 0 ≤ p ∧ p ≤ w) → 0 ≤ hN ss ps ∧ hN ss ps ≤ 2000000 * ss.length
  | [], ps, _, _ => by cases ps <;> simp [hN]
  | s :: ss, [], _, _ => by simp [hN]; omega
  | s :: ss, p :: ps, h1, h2 => by
    have ih := hN_bd hw ss ps (fun s hs => h1 s (by simp [hs])) (fun p hp => h2 p (by simp [hp]))
    have a := h1 s (by simp)
    have b := h2 p (by simp)
    have := mul_le (a := s.no) (b := p) (A := 1000) (B := 2000) (by omega) (by omega)
    rw [hN, List.length_cons]
    omega
theorem hS_bd {w : Int} (hw : w ≤ 2000) : ∀ (ss : List Str) (ps : List Int), (∀ s ∈ ss, 1 ≤ s.so ∧ s.so ≤ 1000) → (∀ p ∈ ps, 0 ≤ p ∧ p ≤ w) → 0 ≤ hS w ss ps ∧ hS w ss ps ≤ 2000000 * ss.length
  | [], ps, _, _ => by cases ps <;> simp [hS]
  | s :: ss, [], _, _ => by simp [hS]; omega
  | s :: ss, p :: ps, h1, h2 => by
    have ih := hS_bd hw ss ps (fun s hs => h1 s (by simp [hs])) (fun p hp => h2 p (by simp [hp]))
    have a := h1 s (by simp)
    have b := h2 p (by simp)
    have := mul_le (a := s.so) (b := w - p) (A := 1000) (B := 2000) (by omega) (by omega)
    rw [hS, List.length_cons]
    omega
theorem Ok.nos {l : Lnd} (o : Ok l) (k : Nat) : ∀ s ∈ l.ss.drop k, 1 ≤ s.no ∧ s.no ≤ 1000 := fun s hs => (o.ss s (List.mem_of_mem_drop hs)).no
theorem Ok.sos {l : Lnd} (o : Ok l) (k : Nat) : ∀ s ∈ l.ss.drop k, 1 ≤ s.so ∧ s.so ≤ 1000 := fun s hs => (o.ss s (List.mem_of_mem_drop hs)).so
theorem XOk.pss {l : Lnd} {x : Exc} (o : XOk l x) (k : Nat) : ∀ p ∈ x.ps.drop k, 0 ≤ p ∧ p ≤ x.w := fun s hs => o.ps s (List.mem_of_mem_drop hs)
theorem hasN_bd {l : Lnd} {x : Exc} (o : Ok l) (ox : XOk l x) (k : Nat) : 0 ≤ hN (l.ss.drop k) (x.ps.drop k) ∧ hN (l.ss.drop k) (x.ps.drop k) ≤ 32000000 := by
  have := hN_bd ox.w.2 _ _ (o.nos k) (ox.pss k)
  have := o.n
  rw [List.length_drop] at *
  omega
theorem hasS_bd {l : Lnd} {x : Exc} (o : Ok l) (ox : XOk l x) (k : Nat) : 0 ≤ hS x.w (l.ss.drop k) (x.ps.drop k) ∧ hS x.w (l.ss.drop k) (x.ps.drop k) ≤ 32000000 := by
  have := hS_bd ox.w.2 _ _ (o.sos k) (ox.pss k)
  have := o.n
  rw [List.length_drop] at *
  omega
theorem vc_has (l : Lnd) (x : Exc) (h : Hp) (o : Ok l) (ox : XOk l x) : VC Tryz.prog 41 [.fp (encN l), vX x] h (.agg [I (hasN l x), I (hasS l x)]) h := by
  have hn := o.n
  have hl := ox.len
  have hw := ox.w
  refine VC.body Tryz.func41 rfl Tryz.ntmps41 Tryz.call41 (h.grows_refl) rfl ?_; conv => whnf
  repeat' (first | ((first | refine zs1 ?_ | refine zs2 ?_ | refine zs3 ?_ | refine zs4 ?_ | refine zs5 ?_ | refine zs6 [] ?_); conv => whnf) | ((first | apply zi1 | apply zi2 | apply zi3 | apply zi4 | apply zi5) <;> intro _ <;> conv => whnf) | (refine VCall.intro (vc_measures _) ?_; conv => whnf))
  refine VCode.lp (fun j : Nat × Int × Int => [(0, .fp (encN l)), (3, .ptr (.loc 0) 0), (4, .ptr (.loc 1) 0), (5, .ptr (.loc 2) 0), (10, vMeas), (11, I j.1)])
    (fun j => [.flat true (encX x), .flat true [DI 0, DI 0], .flat true [DI j.2.1, DI j.2.2]]) (fun j => j = (0, 0, 0) ∨ j = (1, hasN l x, 0) ∨ j = (2, hasN l x, hasS l x)) (fun j => 2 - j.1) (0, 0, 0) (.inl rfl) ?_ ?_
  · conv => whnf
    refine Retell.turn ⟨[0,1,2], 3, [], []⟩ (TurnOk.mk' _ _ [] [] (OutOk.lift _) rfl (by decide) zb trivial trivial rfl) zv zm
  · rintro j hj
    conv => whnf
    refine VIte.dec (fun h3 => ?_) (fun h3 => ?_)
    · rcases hj with rfl | rfl | rfl
      · conv => whnf
        repeat' (first | ((first | refine zs1 ?_ | refine zs2 ?_ | refine zs3 ?_ | refine zs4 ?_ | refine zs5 ?_ | refine zs6 [] ?_); conv => whnf) | ((first | apply zi1 | apply zi2 | apply zi3 | apply zi4 | apply zi5) <;> intro _ <;> conv => whnf))
        refine VCode.lp (fun y : Nat × Int => [(0, .fp (encN l)), (3, .ptr (.loc 0) 0), (4, .ptr (.loc 1) 0), (5, .ptr (.loc 2) 0), (6, I 0), (7, .ptr (.loc 3) 0), (10, vMeas), (11, I 0), (19, strs l.ss), (20, I l.ss.length), (21, I y.1)])
          (fun y => [.flat true (encX x), .flat true [DI 0, DI 0], .flat true [DI y.2, DI 0], .cells true [.func (.func 69) [] [], .func (.func 70) [] []]]) (fun y => y.1 ≤ l.ss.length ∧ hasN l x = y.2 + hN (l.ss.drop y.1) (x.ps.drop y.1)) (fun y => l.ss.length - y.1) (0, 0) ⟨Nat.zero_le _, by rw [Int.zero_add]; rfl⟩ ?_ ?_
        · conv => whnf
          refine Retell.turn ⟨[0,1,2,3], 4, [], []⟩ (TurnOk.mk' _ _ [] [] (OutOk.lift _) rfl (by decide) zb trivial trivial rfl) zv zm
        · rintro ⟨k, a⟩ ⟨hk, h1⟩
          dsimp only at hk h1
          have c0 := hasN_bd o ox 0
          have c1 := hasN_bd o ox k
          have c3 := hasN_bd o ox (k + 1)
          have c5 : hasN l x = hN (l.ss.drop 0) (x.ps.drop 0) := rfl
          rw [← c5] at c0
          conv => whnf
          refine VIte.dec (fun h4 => ?_) (fun h4 => ?_)
          · have hs : l.ss[k]? = some l.ss[k] := List.getElem?_eq_getElem (by omega)
            have hp : x.ps[k]? = some x.ps[k] := List.getElem?_eq_getElem (by omega)
            have q1 := o.ss _ (List.getElem_mem (by omega : k < l.ss.length))
            have q2 := ox.ps _ (List.getElem_mem (by omega : k < x.ps.length))
            rw [hN_at hs hp] at h1 c1
            generalize l.ss[k] = s at hs h1 q1 c1
            generalize x.ps[k] = p at hp h1 q2 c1
            have q3 := q1.no
            have q4 := q1.so
            have m1 := mul_le (a := s.no) (b := p) (A := 1000) (B := 2000) (by omega) (by omega)
            conv => whnf
            repeat' (first | ((first | refine zs1 ?_ | refine zs2 ?_ | refine zs3 ?_ | refine zs4 ?_ | refine zs5 ?_ | refine zs6 [(2, 6), (6, 8), (6, 9), (2, 11)] ?_); conv => whnf) | ((first | apply zi1 | apply zi2 | apply zi3 | apply zi4 | apply zi5) <;> intro _ <;> conv => whnf) | (refine VAny.ix encT_len k rfl rfl hs ?_; conv => whnf) | (refine VCall.intro (vc_m1 s _) ?_; conv => whnf) | (refine VCall.intro (vc_m2 x k p _ hp) ?_; conv => whnf))
            refine LEnd.intro (k + 1, a + s.no * p) ⟨by dsimp only; omega, by dsimp only; omega⟩ (by dsimp only; omega) ?_
            conv => whnf
            refine Retell.turn ⟨[0,1,2,3], 5, [], []⟩ (TurnOk.mk' _ _ [] [] (OutOk.lift _) rfl (by decide) zb trivial trivial rfl) zv zm
          · have hkn : k = l.ss.length := by dsimp only at h4; omega
            subst hkn
            have hz : hN (l.ss.drop l.ss.length) (x.ps.drop l.ss.length) = 0 := by rw [List.drop_of_length_le (Nat.le_refl _)]; cases x.ps.drop l.ss.length <;> rfl
            rw [hz, Int.add_zero] at h1
            subst h1
            conv => whnf
            repeat' (first | ((first | refine zs1 ?_ | refine zs2 ?_ | refine zs3 ?_ | refine zs4 ?_ | refine zs5 ?_ | refine zs6 [] ?_); conv => whnf) | ((first | apply zi1 | apply zi2 | apply zi3 | apply zi4 | apply zi5) <;> intro _ <;> conv => whnf))
            refine LEnd.intro (1, hasN l x, 0) (.inr (.inl rfl)) (by show 2 - 1 < 2 - 0; omega) ?_
            conv => whnf
            refine Retell.turn ⟨[0,1,2], 4, [], []⟩ (TurnOk.mk' _ _ [] [] (OutOk.lift _) rfl (by decide) zb trivial trivial rfl) zv zm
      · conv => whnf
        repeat' (first | ((first | refine zs1 ?_ | refine zs2 ?_ | refine zs3 ?_ | refine zs4 ?_ | refine zs5 ?_ | refine zs6 [] ?_); conv => whnf) | ((first | apply zi1 | apply zi2 | apply zi3 | apply zi4 | apply zi5) <;> intro _ <;> conv => whnf))
        refine VCode.lp (fun y : Nat × Int => [(0, .fp (encN l)), (3, .ptr (.loc 0) 0), (4, .ptr (.loc 1) 0), (5, .ptr (.loc 2) 0), (6, I 1), (7, .ptr (.loc 3) 0), (10, vMeas), (11, I 1), (19, strs l.ss), (20, I l.ss.length), (21, I y.1)])
          (fun y => [.flat true (encX x), .flat true [DI 0, DI 0], .flat true [DI (hasN l x), DI y.2], .cells true [.func (.func 71) [] [], .func (.func 72) [] []]]) (fun y => y.1 ≤ l.ss.length ∧ hasS l x = y.2 + hS x.w (l.ss.drop y.1) (x.ps.drop y.1)) (fun y => l.ss.length - y.1) (0, 0) ⟨Nat.zero_le _, by rw [Int.zero_add]; rfl⟩ ?_ ?_
        · conv => whnf
          refine Retell.turn ⟨[0,1,2,3], 4, [], []⟩ (TurnOk.mk' _ _ [] [] (OutOk.lift _) rfl (by decide) zb trivial trivial rfl) zv zm
        · rintro ⟨k, a⟩ ⟨hk, h1⟩
          dsimp only at hk h1
          have c0 := hasS_bd o ox 0
          have c1 := hasS_bd o ox k
          have c3 := hasS_bd o ox (k + 1)
          have c5 : hasS l x = hS x.w (l.ss.drop 0) (x.ps.drop 0) := rfl
          rw [← c5] at c0
          conv => whnf
          refine VIte.dec (fun h4 => ?_) (fun h4 => ?_)
          · have hs : l.ss[k]? = some l.ss[k] := List.getElem?_eq_getElem (by omega)
            have hp : x.ps[k]? = some x.ps[k] := List.getElem?_eq_getElem (by omega)
            have q1 := o.ss _ (List.getElem_mem (by omega : k < l.ss.length))
            have q2 := ox.ps _ (List.getElem_mem (by omega : k < x.ps.length))
            rw [hS_at hs hp] at h1 c1
            generalize l.ss[k] = s at hs h1 q1 c1
            generalize x.ps[k] = p at hp h1 q2 c1
            have q3 := q1.no
            have q4 := q1.so
            have m1 := mul_le (a := s.so) (b := (x.w - p)) (A := 1000) (B := 2000) (by omega) (by omega)
            conv => whnf
            repeat' (first | ((first | refine zs1 ?_ | refine zs2 ?_ | refine zs3 ?_ | refine zs4 ?_ | refine zs5 ?_ | refine zs6 [(2, 6), (6, 8), (6, 9), (2, 11)] ?_); conv => whnf) | ((first | apply zi1 | apply zi2 | apply zi3 | apply zi4 | apply zi5) <;> intro _ <;> conv => whnf) | (refine VAny.ix encT_len k rfl rfl hs ?_; conv => whnf) | (refine VCall.intro (vc_m3 s _) ?_; conv => whnf) | (refine VCall.intro (vc_m4 x k p _ hp q2 (by omega)) ?_; conv => whnf))
            refine LEnd.intro (k + 1, a + s.so * (x.w - p)) ⟨by dsimp only; omega, by dsimp only; omega⟩ (by dsimp only; omega) ?_
            conv => whnf
            refine Retell.turn ⟨[0,1,2,3], 5, [], []⟩ (TurnOk.mk' _ _ [] [] (OutOk.lift _) rfl (by decide) zb trivial trivial rfl) zv zm
          · have hkn : k = l.ss.length := by dsimp only at h4; omega
            subst hkn
            have hz : hS x.w (l.ss.drop l.ss.length) (x.ps.drop l.ss.length) = 0 := by rw [List.drop_of_length_le (Nat.le_refl _)]; cases x.ps.drop l.ss.length <;> rfl
            rw [hz, Int.add_zero] at h1
            subst h1
            conv => whnf
            repeat' (first | ((first | refine zs1 ?_ | refine zs2 ?_ | refine zs3 ?_ | refine zs4 ?_ | refine zs5 ?_ | refine zs6 [] ?_); conv => whnf) | ((first | apply zi1 | apply zi2 | apply zi3 | apply zi4 | apply zi5) <;> intro _ <;> conv => whnf))
            refine LEnd.intro (2, hasN l x, hasS l x) (.inr (.inr rfl)) (by show 2 - 2 < 2 - 1; omega) ?_
            conv => whnf
            refine Retell.turn ⟨[0,1,2], 4, [], []⟩ (TurnOk.mk' _ _ [] [] (OutOk.lift _) rfl (by decide) zb trivial trivial rfl) zv zm
      · exfalso; dsimp only at h3; omega
    · rcases hj with rfl | rfl | rfl
      · exfalso; dsimp only at h3; omega
      · exfalso; dsimp only at h3; omega
      · conv => whnf
        repeat' (first | ((first | refine zs1 ?_ | refine zs2 ?_ | refine zs3 ?_ | refine zs4 ?_ | refine zs5 ?_ | refine zs6 [] ?_); conv => whnf) | ((first | apply zi1 | apply zi2 | apply zi3 | apply zi4 | apply zi5) <;> intro _ <;> conv => whnf))
        exact VOut.same rfl
end Go.Proofs.YtlgdkljiilbooaaGreat.Bt

open Go.Vm
namespace Go.Proofs.YtlgdkljiilbooaaGreat.Bt
set_option maxRecDepth 20000
set_option maxHeartbeats 1000000
theorem vc_sum2 (a b : Spn) (h : Hp) (ha : -1000000000 ≤ a.lo ∧ a.lo ≤ 1000000000 ∧ -1000000000 ≤ a.hi ∧ a.hi ≤ 1000000000) (hb : -1000000000 ≤ b.lo ∧ b.lo ≤ 1000000000 ∧ -1000000000 ≤ b.hi ∧ b.hi ≤ 1000000000) :
    VC Tryz.prog 43 [spans [a, b]] h (.agg [I (a.lo + b.lo), I (a.hi + b.hi)]) h := by
  refine VC.body Tryz.func43 rfl Tryz.ntmps43 Tryz.call43 (h.grows_refl) rfl ?_; conv => whnf
  repeat' (first | ((first | refine zs1 ?_ | refine zs2 ?_ | refine zs3 ?_ | refine zs4 ?_ | refine zs5 ?_ | refine zs6 [] ?_); conv => whnf) | ((first | apply zi1 | apply zi2 | apply zi3 | apply zi4 | apply zi5) <;> intro _ <;> conv => whnf))
  refine VCode.lp (fun y : Nat × Int × Int => [(2, .ptr (.loc 0) 0), (3, .ptr (.loc 1) 0), (6, spans [a, b]), (7, I 2), (8, I y.1)]) (fun y => [.flat true [DI 0, DI 0], .flat true [DI y.2.1, DI y.2.2]]) (fun y => y = (0, 0, 0) ∨ y = (1, a.lo, a.hi) ∨ y = (2, a.lo + b.lo, a.hi + b.hi)) (fun y => 2 - y.1) (0, 0, 0) (.inl rfl) ?_ ?_
  · conv => whnf
    refine Retell.turn ⟨[0,1], 2, [], []⟩ (TurnOk.mk' _ _ [] [] (OutOk.lift _) rfl (by decide) zb trivial trivial rfl) zv zm
  · rintro y hy
    conv => whnf
    refine VIte.dec (fun h3 => ?_) (fun h3 => ?_)
    · rcases hy with rfl | rfl | rfl
      · have hx : [a, b][0]? = some a := rfl
        conv => whnf
        repeat' (first | ((first | refine zs1 ?_ | refine zs2 ?_ | refine zs3 ?_ | refine zs4 ?_ | refine zs5 ?_ | refine zs6 [] ?_); conv => whnf) | ((first | apply zi1 | apply zi2 | apply zi3 | apply zi4 | apply zi5) <;> intro _ <;> conv => whnf) | (refine VAny.ix encS_len 0 rfl rfl hx ?_; conv => whnf))
        refine LEnd.intro (1, a.lo, a.hi) (.inr (.inl rfl)) (by show 2 - 1 < 2 - 0; omega) ?_
        conv => whnf
        rw [show (0 : Int) + a.lo = a.lo by omega, show (0 : Int) + a.hi = a.hi by omega]
        refine Retell.turn ⟨[0,1], 3, [], []⟩ (TurnOk.mk' _ _ [] [] (OutOk.lift _) rfl (by decide) zb trivial trivial rfl) zv zm
      · have hx : [a, b][1]? = some b := rfl
        conv => whnf
        repeat' (first | ((first | refine zs1 ?_ | refine zs2 ?_ | refine zs3 ?_ | refine zs4 ?_ | refine zs5 ?_ | refine zs6 [] ?_); conv => whnf) | ((first | apply zi1 | apply zi2 | apply zi3 | apply zi4 | apply zi5) <;> intro _ <;> conv => whnf) | (refine VAny.ix encS_len 1 rfl rfl hx ?_; conv => whnf))
        refine LEnd.intro (2, a.lo + b.lo, a.hi + b.hi) (.inr (.inr rfl)) (by show 2 - 2 < 2 - 1; omega) ?_
        conv => whnf
        refine Retell.turn ⟨[0,1], 3, [], []⟩ (TurnOk.mk' _ _ [] [] (OutOk.lift _) rfl (by decide) zb trivial trivial rfl) zv zm
      · exfalso; dsimp only at h3; omega
    · rcases hy with rfl | rfl | rfl
      · exfalso; dsimp only at h3; omega
      · exfalso; dsimp only at h3; omega
      · conv => whnf
        repeat' (first | ((first | refine zs1 ?_ | refine zs2 ?_ | refine zs3 ?_ | refine zs4 ?_ | refine zs5 ?_ | refine zs6 [] ?_); conv => whnf) | ((first | apply zi1 | apply zi2 | apply zi3 | apply zi4 | apply zi5) <;> intro _ <;> conv => whnf))
        exact VOut.same rfl
theorem now_ok {l : Lnd} (o : Ok l) : XOk l (nowX l) where
  w := ⟨Int.le_refl _, by show (1 : Int) ≤ 2000; decide⟩
  len := nowP_len l
  ps := fun p hp => by
    obtain ⟨s, hs, rfl⟩ := List.mem_map.1 hp
    have := (o.ss s hs).ow
    show 0 ≤ 1 - s.ow ∧ 1 - s.ow ≤ 1
    omega
theorem hasN_b {l : Lnd} {x : Exc} (o : Ok l) (ox : XOk l x) : 0 ≤ hasN l x ∧ hasN l x ≤ 32000000 := hasN_bd o ox 0
theorem hasS_b {l : Lnd} {x : Exc} (o : Ok l) (ox : XOk l x) : 0 ≤ hasS l x ∧ hasS l x ≤ 32000000 := hasS_bd o ox 0
theorem hN_b1 : ∀ (ss : List Str) (ps : List Int), (∀ s ∈ ss, 1 ≤ s.no ∧ s.no ≤ 1000) → (∀ p ∈ ps, 0 ≤ p ∧ p ≤ 1) → hN ss ps ≤ 1000 * ss.length
  | [], ps, _, _ => by cases ps <;> simp [hN]
  | s :: ss, [], _, _ => by simp [hN]; omega
  | s :: ss, p :: ps, h1, h2 => by
    have ih := hN_b1 ss ps (fun s hs => h1 s (by simp [hs])) (fun p hp => h2 p (by simp [hp]))
    have a := h1 s (by simp)
    have b := h2 p (by simp)
    have := mul_le (a := s.no) (b := p) (A := 1000) (B := 1) (by omega) (by omega)
    rw [hN, List.length_cons]
    omega
theorem hS_b1 : ∀ (ss : List Str) (ps : List Int), (∀ s ∈ ss, 1 ≤ s.so ∧ s.so ≤ 1000) → (∀ p ∈ ps, 0 ≤ p ∧ p ≤ 1) → hS 1 ss ps ≤ 1000 * ss.length
  | [], ps, _, _ => by cases ps <;> simp [hS]
  | s :: ss, [], _, _ => by simp [hS]; omega
  | s :: ss, p :: ps, h1, h2 => by
    have ih := hS_b1 ss ps (fun s hs => h1 s (by simp [hs])) (fun p hp => h2 p (by simp [hp]))
    have a := h1 s (by simp)
    have b := h2 p (by simp)
    have := mul_le (a := s.so) (b := 1 - p) (A := 1000) (B := 1) (by omega) (by omega)
    rw [hS, List.length_cons]
    omega
theorem nowN_b {l : Lnd} (o : Ok l) : 0 ≤ hasN l (nowX l) ∧ hasN l (nowX l) ≤ 16000 := by
  have h1 := hasN_b o (now_ok o)
  have h2 := hN_b1 l.ss (nowP l) (o.nos 0) ((now_ok o).pss 0)
  have := o.n
  have e : hasN l (nowX l) = hN l.ss (nowP l) := rfl
  omega
theorem nowS_b {l : Lnd} (o : Ok l) : 0 ≤ hasS l (nowX l) ∧ hasS l (nowX l) ≤ 16000 := by
  have h1 := hasS_b o (now_ok o)
  have h2 := hS_b1 l.ss (nowP l) (o.sos 0) ((now_ok o).pss 0)
  have := o.n
  have e : hasS l (nowX l) = hS 1 l.ss (nowP l) := rfl
  omega
def gnN (l : Lnd) (x : Exc) : Int := hasN l x - x.w * hasN l (nowX l)
def gnS (l : Lnd) (x : Exc) : Int := hasS l x - x.w * hasS l (nowX l)
theorem gn_b {l : Lnd} {x : Exc} (o : Ok l) (ox : XOk l x) : (-32000000 ≤ gnN l x ∧ gnN l x ≤ 32000000) ∧ -32000000 ≤ gnS l x ∧ gnS l x ≤ 32000000 := by
  have a1 := hasN_b o ox
  have a2 := hasS_b o ox
  have b1 := nowN_b o
  have b2 := nowS_b o
  have w := ox.w
  have m1 := mul_le (a := x.w) (b := hasN l (nowX l)) (A := 2000) (B := 16000) (by omega) b1
  have m2 := mul_le (a := x.w) (b := hasS l (nowX l)) (A := 2000) (B := 16000) (by omega) b2
  unfold gnN gnS
  omega
theorem vc_gains (l : Lnd) (x : Exc) (h : Hp) (o : Ok l) (ox : XOk l x) : VC Tryz.prog 22 [.fp (encN l), vX x] h (.agg [I (gnN l x), I (gnS l x)]) h := by
  have a1 := hasN_b o ox
  have a2 := hasS_b o ox
  have b1 := nowN_b o
  have b2 := nowS_b o
  have w := ox.w
  have m1 := mul_le (a := x.w) (b := hasN l (nowX l)) (A := 2000) (B := 16000) (by omega) b1
  have m2 := mul_le (a := x.w) (b := hasS l (nowX l)) (A := 2000) (B := 16000) (by omega) b2
  have c1 := fun h => vc_now l h o
  have c2 := fun h => vc_has l (nowX l) h o (now_ok o)
  have c3 := fun h => vc_has l x h o ox
  have e1 : gnN l x = hasN l x + (0 - x.w) * hasN l (nowX l) := by unfold gnN; rw [Int.sub_mul]; omega
  have e2 : gnS l x = hasS l x + (0 - x.w) * hasS l (nowX l) := by unfold gnS; rw [Int.sub_mul]; omega
  rw [e1, e2]
  generalize hasN l (nowX l) = A at *
  generalize hasS l (nowX l) = B at *
  generalize hasN l x = C at *
  generalize hasS l x = E at *
  have n1 : (0 - x.w) * A = -(x.w * A) := by rw [Int.sub_mul]; omega
  have n2 : (0 - x.w) * B = -(x.w * B) := by rw [Int.sub_mul]; omega
  have hs := fun h => vc_sum2 ⟨C, E⟩ ⟨(0 - x.w) * A, (0 - x.w) * B⟩ h (by dsimp only; omega) (by dsimp only; omega)
  refine VC.body Tryz.func22 rfl Tryz.ntmps22 Tryz.call22 (h.grows_refl) rfl ?_; conv => whnf
  repeat' (first | ((first | refine zs1 ?_ | refine zs2 ?_ | refine zs3 ?_ | refine zs4 ?_ | refine zs5 ?_ | refine zs6 [(2, 4), (2, 7), (2, 10), (2, 13)] ?_); conv => whnf) | ((first | apply zi1 | apply zi2 | apply zi3 | apply zi4 | apply zi5) <;> intro _ <;> conv => whnf) | (refine VCall.intro (c1 _) ?_; conv => whnf) | (refine VCall.intro (c2 _) ?_; conv => whnf) | (refine VCall.intro (c3 _) ?_; conv => whnf))
  refine VCall.intro (VC.give (args' := [spans [⟨C, E⟩, ⟨(0 - x.w) * A, (0 - x.w) * B⟩]]) (loc' := [.flat true (encX x), .flat true [DI 0, DI 0], .flat true [DI A, DI B], .dead]) [(3, [DI C, DI E, DI ((0 - x.w) * A), DI ((0 - x.w) * B)])] [] (OutOk.lift _) zb zf (by exact FmAll.nil) rfl zv (hs _)) ?_
  conv => whnf
  repeat' (first | ((first | refine zs1 ?_ | refine zs2 ?_ | refine zs3 ?_ | refine zs4 ?_ | refine zs5 ?_ | refine zs6 [] ?_); conv => whnf) | ((first | apply zi1 | apply zi2 | apply zi3 | apply zi4 | apply zi5) <;> intro _ <;> conv => whnf))
  exact VOut.same rfl
theorem vc_Gains_ok (l : Lnd) (x : Exc) (h : Hp) (o : Ok l) (ox : XOk l x) : VC Tryz.prog 8 [vL l, vX x] h (.tuple [I (gnN l x), I (gnS l x), I 0]) h := by
  refine VC.body Tryz.func8 rfl Tryz.ntmps8 Tryz.call8 (h.grows_refl) rfl ?_; conv => whnf
  repeat' (first | ((first | refine zs1 ?_ | refine zs2 ?_ | refine zs3 ?_ | refine zs4 ?_ | refine zs5 ?_ | refine zs6 [] ?_); conv => whnf) | ((first | apply zi1 | apply zi2 | apply zi3 | apply zi4 | apply zi5) <;> intro _ <;> conv => whnf) | (refine VCall.intro (vc_asked_ok l x _ o ox) ?_; conv => whnf) | (refine VCall.intro (vc_gains l x _ o ox) ?_; conv => whnf))
  exact VOut.same rfl
def alGo (w : Int) : List Str → List Int → Bool
  | s :: ss, p :: ps => (isFree s || decide (p = w * (1 - s.ow))) && alGo w ss ps
  | _, _ => true
def alB (l : Lnd) (x : Exc) : Bool := alGo x.w l.ss x.ps
theorem alGo_at {w : Int} {ss : List Str} {ps : List Int} {k : Nat} {s : Str} {p : Int} (hs : ss[k]? = some s) (hp : ps[k]? = some p) : alGo w (ss.drop k) (ps.drop k) = ((isFree s || decide (p = w * (1 - s.ow))) && alGo w (ss.drop (k + 1)) (ps.drop (k + 1))) := by
  obtain ⟨h1, rfl⟩ := List.getElem?_eq_some_iff.1 hs
  obtain ⟨h2, rfl⟩ := List.getElem?_eq_some_iff.1 hp
  rw [List.drop_eq_getElem_cons h1, List.drop_eq_getElem_cons h2, alGo]
theorem alGo_end (w : Int) (ss : List Str) (ps : List Int) : alGo w (ss.drop ss.length) (ps.drop ss.length) = true := by
  rw [List.drop_of_length_le (Nat.le_refl _)]
  cases ps.drop ss.length <;> rfl
theorem vc_allowed (l : Lnd) (x : Exc) (h : Hp) (o : Ok l) (ox : XOk l x) : VC Tryz.prog 25 [.fp (encN l), vX x] h (B (alB l x)) h := by
  obtain ⟨E, hE⟩ : ∃ E, E = alB l x := ⟨_, rfl⟩
  rw [← hE]
  unfold alB at hE
  have hn := o.n
  have hl := ox.len
  have hw := ox.w
  refine VC.body Tryz.func25 rfl Tryz.ntmps25 Tryz.call25 (h.grows_refl) rfl ?_; conv => whnf
  repeat (first | ((first | refine zs1 ?_ | refine zs2 ?_ | refine zs3 ?_ | refine zs4 ?_ | refine zs5 ?_ | refine zs6 [] ?_); conv => whnf))
  refine VCode.lp (fun k : Nat => [(0, .fp (encN l)), (3, .ptr (.loc 0) 0), (11, strs l.ss), (12, I l.ss.length), (13, I k)]) (fun _ => [.flat true (encX x)]) (fun k => k ≤ l.ss.length ∧ E = alGo x.w (l.ss.drop k) (x.ps.drop k)) (fun k => l.ss.length - k) 0 ⟨Nat.zero_le _, hE⟩ ?_ ?_
  · conv => whnf
    refine Retell.turn ⟨[0], 1, [], []⟩ (TurnOk.mk' _ _ [] [] (OutOk.lift _) rfl (by decide) zb trivial trivial rfl) zv zm
  · rintro k ⟨hk, h1⟩
    conv => whnf
    refine VIte.dec (fun h3 => ?_) (fun h3 => ?_)
    · have hs : l.ss[k]? = some l.ss[k] := List.getElem?_eq_getElem (by omega)
      have hp : x.ps[k]? = some x.ps[k] := List.getElem?_eq_getElem (by omega)
      have q1 := (o.ss _ (List.getElem_mem (by omega : k < l.ss.length))).ow
      have hc := fun h => vc_bound l k h (by omega)
      rw [alGo_at hs hp] at h1
      rw [bdAt_eq hs] at hc
      generalize l.ss[k] = s at hs h1 q1 hc
      generalize x.ps[k] = p at hp h1
      have m1 := mul_le (a := x.w) (b := 1 - s.ow) (A := 2000) (B := 1) (by omega) (by omega)
      cases hf : isFree s
      · rw [hf] at hc h1
        rw [Bool.false_or] at h1
        conv => whnf
        repeat' (first | ((first | refine zs1 ?_ | refine zs2 ?_ | refine zs3 ?_ | refine zs4 ?_ | refine zs5 ?_ | refine zs6 [] ?_); conv => whnf) | ((first | apply zi1 | apply zi2 | apply zi3 | apply zi4 | apply zi5) <;> intro _ <;> conv => whnf) | (refine VAny.ix encT_len k rfl rfl hs ?_; conv => whnf) | (refine VAny.ix encI_len k rfl rfl hp ?_; conv => whnf) | (refine VCall.intro (hc _) ?_; conv => whnf))
        · rename_i hne
          rw [decide_eq_false hne, Bool.false_and] at h1
          rw [h1]; exact VOut.same rfl
        · rename_i hne
          rw [decide_eq_true hne, Bool.true_and] at h1
          refine LEnd.intro (k + 1) ⟨by omega, h1⟩ (by omega) ?_
          conv => whnf
          refine Retell.turn ⟨[0], 2, [], []⟩ (TurnOk.mk' _ _ [] [] (OutOk.lift _) rfl (by decide) zb trivial trivial rfl) zv zm
      · rw [hf] at hc h1
        rw [Bool.true_or, Bool.true_and] at h1
        conv => whnf
        repeat' (first | ((first | refine zs1 ?_ | refine zs2 ?_ | refine zs3 ?_ | refine zs4 ?_ | refine zs5 ?_ | refine zs6 [] ?_); conv => whnf) | ((first | apply zi1 | apply zi2 | apply zi3 | apply zi4 | apply zi5) <;> intro _ <;> conv => whnf) | (refine VAny.ix encT_len k rfl rfl hs ?_; conv => whnf) | (refine VAny.ix encI_len k rfl rfl hp ?_; conv => whnf) | (refine VCall.intro (hc _) ?_; conv => whnf))
        refine LEnd.intro (k + 1) ⟨by omega, h1⟩ (by omega) ?_
        conv => whnf
        refine Retell.turn ⟨[0], 2, [], []⟩ (TurnOk.mk' _ _ [] [] (OutOk.lift _) rfl (by decide) zb trivial trivial rfl) zv zm
    · rw [show k = l.ss.length by omega, alGo_end] at h1
      rw [h1]
      conv => whnf
      repeat' (first | ((first | refine zs1 ?_ | refine zs2 ?_ | refine zs3 ?_ | refine zs4 ?_ | refine zs5 ?_ | refine zs6 [] ?_); conv => whnf) | ((first | apply zi1 | apply zi2 | apply zi3 | apply zi4 | apply zi5) <;> intro _ <;> conv => whnf))
      exact VOut.same rfl
def frB (l : Lnd) (x : Exc) : Bool := alB l x && decide (0 ≤ gnN l x ∧ 0 ≤ gnS l x)
theorem vc_Fair_ok (l : Lnd) (x : Exc) (h : Hp) (o : Ok l) (ox : XOk l x) : VC Tryz.prog 10 [vL l, vX x] h (.tuple [B (frB l x), I 0]) h := by
  unfold frB
  have c1 := fun h => vc_gains l x h o ox
  have c2 := fun h => vc_allowed l x h o ox
  generalize gnN l x = A at c1
  generalize gnS l x = C at c1
  generalize alB l x = b at c2
  refine VC.body Tryz.func10 rfl Tryz.ntmps10 Tryz.call10 (h.grows_refl) rfl ?_; conv => whnf
  cases b
  all_goals repeat' (first | ((first | refine zs1 ?_ | refine zs2 ?_ | refine zs3 ?_ | refine zs4 ?_ | refine zs5 ?_ | refine zs6 [] ?_); conv => whnf) | ((first | apply zi1 | apply zi2 | apply zi3 | apply zi4 | apply zi5) <;> intro _ <;> conv => whnf) | (refine VCall.intro (vc_asked_ok l x _ o ox) ?_; conv => whnf) | (refine VCall.intro (c1 _) ?_; conv => whnf) | (refine VCall.intro (c2 _) ?_; conv => whnf))
  all_goals (refine VOut.same ?_; simp [V.ren, V.rens]; try omega)
end Go.Proofs.YtlgdkljiilbooaaGreat.Bt

open Go.Vm
namespace Go.Vm
end Go.Vm
namespace Go.Proofs.YtlgdkljiilbooaaGreat.Bt
set_option maxRecDepth 20000
set_option maxHeartbeats 1000000

def aggT (s : Str) : V := .agg [I s.ow, I s.no, I s.so, I s.we]
def vFree (l : Lnd) : V := .func (.func 53) [] [.fp [.pt (encN l)]]
theorem vc_free (l : Lnd) (h : Hp) : VC Tryz.prog 33 [.fp (encN l)] h (vFree l) h := by
  refine VC.body Tryz.func33 rfl Tryz.ntmps33 Tryz.call33 (h.grows_refl) rfl ?_; conv => whnf
  repeat (first | ((first | refine zs1 ?_ | refine zs2 ?_ | refine zs3 ?_ | refine zs4 ?_ | refine zs5 ?_ | refine zs6 [] ?_); conv => whnf))
  refine VOut.data 1 [(0, [.pt (encN l)])] [] rfl zf (by exact FmAll.nil) zv
def frY (l : Lnd) (k : Nat) : Option (List V) := match l.ss[k]? with
  | some s => bif isFree s then some [I k, aggT s] else none
  | none => none
theorem frY_eq {l : Lnd} {k : Nat} {s : Str} (hs : l.ss[k]? = some s) : frY l k = bif isFree s then some [I k, aggT s] else none := by unfold frY; rw [hs]
theorem iter_free (l : Lnd) (o : Ok l) : IterN Tryz.prog 53 [] [.fp [.pt (encN l)]] l.ss.length (frY l) := by
  intro h i J E hs h0
  have hn := o.n
  obtain ⟨S, g, g0, hS, g1, g2⟩ := iterN_seq l.ss.length hs h0
  have hgr : ∀ j, j ≤ S → h.grows (g j) := by
    intro j
    induction j with
    | zero => intro _; rw [g0]; exact h.grows_refl
    | succ j ih =>
      intro hj
      rcases g1 j (by omega) with ⟨_, e⟩ | ⟨vs, _, hv⟩
      · rw [e]; exact ih (by omega)
      · exact fun k hk => hv.1 k (ih (by omega) k hk)
  rcases g2 with ⟨hSm, hI⟩ | ⟨hSm, vs, gE, e1, e2, e3⟩
  · refine ⟨g l.ss.length, ?_, .inl hI⟩
    refine VC.body Tryz.func53 rfl Tryz.ntmps53 Tryz.call53 (hgr _ (by omega)) rfl ?_
    conv => whnf
    repeat' (first | ((first | refine zs1 ?_ | refine zs2 ?_ | refine zs3 ?_ | refine zs4 ?_ | refine zs5 ?_ | refine zs6 [] ?_); conv => whnf) | ((first | apply zi1 | apply zi2 | apply zi3 | apply zi4 | apply zi5) <;> intro _ <;> conv => whnf))
    refine VCode.lpo (fun k : Nat => [(0, .yld (.out i)), (1, .fp [.pt (encN l)]), (9, strs l.ss), (10, I l.ss.length), (11, I k)]) (fun k => (g k).lift) (fun _ => []) (fun k => k ≤ l.ss.length) (fun k => l.ss.length - k) 0 (Nat.zero_le _) (by rw [g0]) ?_ ?_
    · conv => whnf
      refine Retell.turn ⟨[], 0, [], []⟩ (TurnOk.mk' _ _ [] [] (OutOk.lift _) rfl (by decide) zb trivial trivial rfl) zv zm
    · rintro k hk
      conv => whnf
      refine VIte.dec (fun h3 => ?_) (fun h3 => ?_)
      · have hp : l.ss[k]? = some l.ss[k] := List.getElem?_eq_getElem (by omega)
        have hst := g1 k (by omega)
        rw [frY_eq hp] at hst
        have hc := fun h => vc_bound l k h (by omega)
        rw [bdAt_eq hp] at hc
        generalize l.ss[k] = s at hp hst hc
        cases hf : isFree s
        · rw [hf] at hst hc
          have hgk : g (k + 1) = g k := by
            rcases hst with ⟨_, e⟩ | ⟨vs, e, _⟩
            · exact e
            · cases e
          conv => whnf
          repeat' (first | ((first | refine zs1 ?_ | refine zs2 ?_ | refine zs3 ?_ | refine zs4 ?_ | refine zs5 ?_ | refine zs6 [] ?_); conv => whnf) | ((first | apply zi1 | apply zi2 | apply zi3 | apply zi4 | apply zi5) <;> intro _ <;> conv => whnf) | (refine VAny.ix encT_len k rfl rfl hp ?_; conv => whnf) | (refine VCall.intro (hc _) ?_; conv => whnf))
          refine LEndO.intro (k + 1) (by omega) (by omega) (by rw [hgk]; rfl) ?_
          rw [hgk]
          conv => whnf
          refine Retell.turn ⟨[], 2, [], []⟩ (TurnOk.mk' _ _ [] [] (OutOk.lift _) rfl (by decide) zb trivial trivial rfl) zv zm
        · rw [hf] at hst hc
          have hy : VY Tryz.prog i [I k, aggT s] (g k) (.s (.bool true)) (g (k + 1)) := by
            rcases hst with ⟨e, _⟩ | ⟨vs, e, hv⟩
            · cases e
            · cases e; exact hv
          conv => whnf
          repeat' (first | ((first | refine zs1 ?_ | refine zs2 ?_ | refine zs3 ?_ | refine zs4 ?_ | refine zs5 ?_ | refine zs6 [] ?_); conv => whnf) | ((first | apply zi1 | apply zi2 | apply zi3 | apply zi4 | apply zi5) <;> intro _ <;> conv => whnf) | (refine VAny.ix encT_len k rfl rfl hp ?_; conv => whnf) | (refine VCall.intro (hc _) ?_; conv => whnf) | (refine VYield.intro (VY.lift _ hy) ?_; conv => whnf))
          refine LEndO.intro (k + 1) (by omega) (by omega) rfl ?_
          conv => whnf
          refine Retell.turn ⟨[], 2, [], []⟩ (TurnOk.mk' _ _ [] [] (OutOk.lift _) rfl (by decide) zb trivial trivial rfl) zv zm
      · have hkM : k = l.ss.length := by omega
        subst hkM
        conv => whnf
        exact VOut.lifted (r := .tuple []) (hgr _ (by omega))
  · refine ⟨gE, ?_, .inr e3⟩
    have hgE : h.grows gE := fun k hk => e2.1 k (hgr S (Nat.le_refl _) k hk)
    refine VC.body Tryz.func53 rfl Tryz.ntmps53 Tryz.call53 hgE rfl ?_
    conv => whnf
    repeat' (first | ((first | refine zs1 ?_ | refine zs2 ?_ | refine zs3 ?_ | refine zs4 ?_ | refine zs5 ?_ | refine zs6 [] ?_); conv => whnf) | ((first | apply zi1 | apply zi2 | apply zi3 | apply zi4 | apply zi5) <;> intro _ <;> conv => whnf))
    refine VCode.lpo (fun k : Nat => [(0, .yld (.out i)), (1, .fp [.pt (encN l)]), (9, strs l.ss), (10, I l.ss.length), (11, I k)]) (fun k => (g k).lift) (fun _ => []) (fun k => k ≤ S) (fun k => S - k) 0 (Nat.zero_le _) (by rw [g0]) ?_ ?_
    · conv => whnf
      refine Retell.turn ⟨[], 0, [], []⟩ (TurnOk.mk' _ _ [] [] (OutOk.lift _) rfl (by decide) zb trivial trivial rfl) zv zm
    · rintro k hk
      conv => whnf
      refine VIte.dec (fun h3 => ?_) (fun h3 => ?_)
      · have hp : l.ss[k]? = some l.ss[k] := List.getElem?_eq_getElem (by omega)
        have hc := fun h => vc_bound l k h (by omega)
        rw [bdAt_eq hp] at hc
        rcases Nat.eq_or_lt_of_le hk with hkS | hkS
        · subst hkS
          rw [frY_eq hp] at e1
          generalize l.ss[k] = s at hp e1 hc
          cases hf : isFree s
          · rw [hf] at e1; cases e1
          · rw [hf] at e1 hc
            cases e1
            conv => whnf
            repeat' (first | ((first | refine zs1 ?_ | refine zs2 ?_ | refine zs3 ?_ | refine zs4 ?_ | refine zs5 ?_ | refine zs6 [] ?_); conv => whnf) | ((first | apply zi1 | apply zi2 | apply zi3 | apply zi4 | apply zi5) <;> intro _ <;> conv => whnf) | (refine VAny.ix encT_len k rfl rfl hp ?_; conv => whnf) | (refine VCall.intro (hc _) ?_; conv => whnf) | (refine VYield.intro (VY.lift _ e2) ?_; conv => whnf))
            refine VOut.turn ⟨[], 1, [], []⟩ (loc' := []) (r1' := .tuple []) (TurnOk.mk' [] 1 [] [] (OutOk.lift _) rfl List.nodup_nil BTos.nil trivial trivial rfl) zv ?_
            exact VOut.lifted (r := .tuple []) hgE
        · have hst := g1 k (by omega)
          rw [frY_eq hp] at hst
          generalize l.ss[k] = s at hp hst hc
          cases hf : isFree s
          · rw [hf] at hst hc
            have hgk : g (k + 1) = g k := by
              rcases hst with ⟨_, e⟩ | ⟨vs, e, _⟩
              · exact e
              · cases e
            conv => whnf
            repeat' (first | ((first | refine zs1 ?_ | refine zs2 ?_ | refine zs3 ?_ | refine zs4 ?_ | refine zs5 ?_ | refine zs6 [] ?_); conv => whnf) | ((first | apply zi1 | apply zi2 | apply zi3 | apply zi4 | apply zi5) <;> intro _ <;> conv => whnf) | (refine VAny.ix encT_len k rfl rfl hp ?_; conv => whnf) | (refine VCall.intro (hc _) ?_; conv => whnf))
            refine LEndO.intro (k + 1) (by omega) (by omega) (by rw [hgk]; rfl) ?_
            rw [hgk]
            conv => whnf
            refine Retell.turn ⟨[], 2, [], []⟩ (TurnOk.mk' _ _ [] [] (OutOk.lift _) rfl (by decide) zb trivial trivial rfl) zv zm
          · rw [hf] at hst hc
            have hy : VY Tryz.prog i [I k, aggT s] (g k) (.s (.bool true)) (g (k + 1)) := by
              rcases hst with ⟨e, _⟩ | ⟨vs, e, hv⟩
              · cases e
              · cases e; exact hv
            conv => whnf
            repeat' (first | ((first | refine zs1 ?_ | refine zs2 ?_ | refine zs3 ?_ | refine zs4 ?_ | refine zs5 ?_ | refine zs6 [] ?_); conv => whnf) | ((first | apply zi1 | apply zi2 | apply zi3 | apply zi4 | apply zi5) <;> intro _ <;> conv => whnf) | (refine VAny.ix encT_len k rfl rfl hp ?_; conv => whnf) | (refine VCall.intro (hc _) ?_; conv => whnf) | (refine VYield.intro (VY.lift _ hy) ?_; conv => whnf))
            refine LEndO.intro (k + 1) (by omega) (by omega) rfl ?_
            conv => whnf
            refine Retell.turn ⟨[], 2, [], []⟩ (TurnOk.mk' _ _ [] [] (OutOk.lift _) rfl (by decide) zb trivial trivial rfl) zv zm
      · exfalso; omega
/-! ### Prices and wastes -/
theorem vc_worth (s : Str) (h : Hp) : VC Tryz.prog 36 [aggT s] h (.agg [I s.no, I s.so]) h := by
  refine VC.body Tryz.func36 rfl Tryz.ntmps36 Tryz.call36 (h.grows_refl) rfl ?_; conv => whnf
  repeat' (first | ((first | refine zs1 ?_ | refine zs2 ?_ | refine zs3 ?_ | refine zs4 ?_ | refine zs5 ?_ | refine zs6 [] ?_); conv => whnf) | ((first | apply zi1 | apply zi2 | apply zi3 | apply zi4 | apply zi5) <;> intro _ <;> conv => whnf))
  exact VOut.same rfl
def fst2 (a b : Str) : Bool := decide (a.so * b.no < a.no * b.so)
theorem top89 : eqTop Tryz.prog 65 = some (Vm.Sh.cons 0 1 false Vm.Sh.int (Vm.Sh.cons 1 1 false Vm.Sh.int Vm.Sh.nil)) := by kernel_rfl
theorem veqW (a b c d : Int) : vaggeq Tryz.prog .eql 65 (.agg [I a, I b]) (.agg [I c, I d]) = some (B ((a == c) && ((b == d) && true))) := by
  unfold vaggeq
  rw [top89]
  rfl
theorem vc_ahead (a b c d : Int) (h : Hp) (ha : 0 ≤ a ∧ a ≤ 4000) (hb : 0 ≤ b ∧ b ≤ 4000) (hc : 0 ≤ c ∧ c ≤ 4000) (hd : 0 ≤ d ∧ d ≤ 4000) : VC Tryz.prog 40 [.agg [I a, I b], .agg [I c, I d]] h (I (a * d - b * c)) h := by
  have m1 := mul_le ha hd
  have m2 := mul_le hb hc
  obtain ⟨R, hR⟩ : ∃ R, R = a * d - b * c := ⟨_, rfl⟩
  rw [← hR]
  by_cases he : a = c ∧ b = d
  · obtain ⟨rfl, rfl⟩ := he
    have : R = 0 := by rw [hR, Int.mul_comm]; omega
    rw [this]
    refine VC.body Tryz.func40 rfl Tryz.ntmps40 Tryz.call40 (h.grows_refl) rfl ?_; conv => whnf
    repeat' (first | ((first | refine zs1 ?_ | refine zs2 ?_ | refine zs3 ?_ | refine zs4 ?_ | refine zs5 ?_ | refine zs6 [] ?_); conv => whnf) | ((first | apply zi1 | apply zi2 | apply zi3 | apply zi4 | apply zi5) <;> intro _ <;> conv => whnf) | (refine VAgg.intro (veqW _ _ _ _) ?_; conv => whnf))
    all_goals first | exact VOut.same rfl | (exfalso; simp at *; done) | trace_state
  · rw [hR]
    refine VC.body Tryz.func40 rfl Tryz.ntmps40 Tryz.call40 (h.grows_refl) rfl ?_; conv => whnf
    repeat' (first | ((first | refine zs1 ?_ | refine zs2 ?_ | refine zs3 ?_ | refine zs4 ?_ | refine zs5 ?_ | refine zs6 [] ?_); conv => whnf) | ((first | apply zi1 | apply zi2 | apply zi3 | apply zi4 | apply zi5) <;> intro _ <;> conv => whnf) | (refine VAgg.intro (veqW _ _ _ _) ?_; conv => whnf))
    all_goals first | exact VOut.same rfl | (exfalso; simp at *; omega) | trace_state
end Go.Proofs.YtlgdkljiilbooaaGreat.Bt

open Go.Vm
namespace Go.Proofs.YtlgdkljiilbooaaGreat.Bt
set_option maxRecDepth 20000
set_option maxHeartbeats 1000000

def bdP (w a b : Int) (s : Str) (p : Int) : Bool := isFree s && decide ((0 < s.no * a - s.so * b ∧ p < w) ∨ (s.no * a - s.so * b < 0 ∧ 0 < p))
def hlGo (w a b : Int) : List Str → List Int → Bool
  | s :: ss, p :: ps => !bdP w a b s p && hlGo w a b ss ps
  | _, _ => true
theorem hlGo_at {w a b : Int} {ss : List Str} {ps : List Int} {k : Nat} {s : Str} {p : Int} (hs : ss[k]? = some s) (hp : ps[k]? = some p) : hlGo w a b (ss.drop k) (ps.drop k) = (!bdP w a b s p && hlGo w a b (ss.drop (k + 1)) (ps.drop (k + 1))) := by
  obtain ⟨h1, rfl⟩ := List.getElem?_eq_some_iff.1 hs
  obtain ⟨h2, rfl⟩ := List.getElem?_eq_some_iff.1 hp
  rw [List.drop_eq_getElem_cons h1, List.drop_eq_getElem_cons h2, hlGo]
theorem hlGo_end (w a b : Int) (ss : List Str) (ps : List Int) : hlGo w a b (ss.drop ss.length) (ps.drop ss.length) = true := by
  rw [List.drop_of_length_le (Nat.le_refl _)]
  cases ps.drop ss.length <;> rfl
def hlE (l : Lnd) (x : Exc) (a b : Int) : Int := if askE l x ≠ 0 then askE l x else if ¬ (1 ≤ a ∧ a ≤ 2000) ∨ ¬ (1 ≤ b ∧ b ≤ 2000) then 4 else 0
def hlB (l : Lnd) (x : Exc) (a b : Int) : Bool := decide (hlE l x a b = 0) && (alB l x && hlGo x.w a b l.ss x.ps)
structure HJ (o : Vm.Id → Option Blk) (g : Hp) : Prop where
  o : g.outer = o
  b0 : g.get (.loc 0) = some (.flat true [DB false])
  b1 : g.get (.loc 1) = some (.flat true [DI 0])
  b2 : g.get (.loc 2) = some .mark
theorem blt_of {a b : Nat} (h : a < b) : Nat.blt a b = true := Nat.ble_eq_true_of_le h
set_option maxHeartbeats 4000000 in
theorem vc_Holds_go (l : Lnd) (x : Exc) (a b : Int) (h : Hp) (o : Ok l) (ox : XOk l x) (ha : 1 ≤ a ∧ a ≤ 2000) (hb : 1 ≤ b ∧ b ≤ 2000) (hal : alB l x = true) : VC Tryz.prog 16 [vL l, vX x, I a, I b] h (.tuple [B (hlGo x.w a b l.ss x.ps), I 0]) h := by
  obtain ⟨R, hR⟩ : ∃ R, R = hlGo x.w a b l.ss x.ps := ⟨_, rfl⟩
  rw [← hR]
  have hn := o.n
  have hl := ox.len
  have hw := ox.w
  have ca := fun h => vc_allowed l x h o ox
  rw [hal] at ca
  refine VC.body Tryz.func16 rfl Tryz.ntmps16 Tryz.call16 (h.grows_refl) rfl ?_; conv => whnf
  repeat' (first | ((first | refine zs1 ?_ | refine zs2 ?_ | refine zs3 ?_ | refine zs4 ?_ | refine zs5 ?_ | refine zs6 [] ?_); conv => whnf) | ((first | apply zi1 | apply zi2 | apply zi3 | apply zi4 | apply zi5) <;> intro _ <;> conv => whnf) | (refine VCall.intro (vc_asked_ok l x _ o ox) ?_; conv => whnf) | (refine VCall.intro (vc_from _ _ _ _) ?_; conv => whnf) | (refine VCall.intro (ca _) ?_; conv => whnf) | (refine VCall.intro (vc_free l _) ?_; conv => whnf))
  all_goals try (exfalso; omega)
  have e1 : R = hlGo x.w a b (l.ss.drop 0) (x.ps.drop 0) := hR
  refine VCode.tell [(5, .fp (encX x)), (6, .fp [DI a]), (7, .fp [DI b]), (8, .ptr (.loc 0) 0), (9, .ptr (.loc 1) 0), (40, vFree l)] [.flat true [DB false], .flat true [DI 0]] (marks' := []) ?_ ?_
  · conv => whnf
    refine Retell.turn ⟨[4,5], 6, [(1, encX x), (2, [DI a]), (3, [DI b])], []⟩ (TurnOk.mk' _ _ [(1, encX x), (2, [DI a]), (3, [DI b])] [] (OutOk.lift _) rfl (by decide) zb zf trivial rfl) zv zm
  · conv => whnf
    refine VCode.iterN l.ss.length (frY l) (fun k g => HJ h.lift g ∧ R = hlGo x.w a b (l.ss.drop k) (x.ps.drop k)) (fun e g => e = .ret ∧ HJ h.lift g ∧ R = false) _ (.loc 3) rfl (iter_free l o) rfl rfl ⟨⟨rfl, rfl, rfl, rfl⟩, e1⟩ ?_ ?_ ?_ ?_
    · rintro k g hk hy ⟨hJ, hRk⟩
      have hs : l.ss[k]? = some l.ss[k] := List.getElem?_eq_getElem hk
      have hp : x.ps[k]? = some x.ps[k] := List.getElem?_eq_getElem (by omega)
      rw [frY_eq hs] at hy
      rw [hlGo_at hs hp] at hRk
      refine ⟨hJ, ?_⟩
      cases hf : isFree l.ss[k]
      · rw [hRk]; unfold bdP; rw [hf]; rfl
      · rw [hf] at hy; cases hy
    · rintro k g vs hk hy ⟨hJ, hRk⟩ hlp
      have hs : l.ss[k]? = some l.ss[k] := List.getElem?_eq_getElem hk
      have hp : x.ps[k]? = some x.ps[k] := List.getElem?_eq_getElem (by omega)
      have q1 := o.ss _ (List.getElem_mem (by omega : k < l.ss.length))
      have q2 := ox.ps _ (List.getElem_mem (by omega : k < x.ps.length))
      rw [frY_eq hs] at hy
      rw [hlGo_at hs hp] at hRk
      generalize l.ss[k] = s at hs hy hRk q1
      generalize x.ps[k] = p at hp hRk q2
      have q3 := q1.no
      have q4 := q1.so
      have m1 := mul_le (a := s.no) (b := a) (A := 1000) (B := 2000) (by omega) (by omega)
      have m2 := mul_le (a := s.so) (b := b) (A := 1000) (B := 2000) (by omega) (by omega)
      cases hf : isFree s
      · rw [hf] at hy; cases hy
      · rw [hf] at hy
        cases hy
        obtain ⟨j0, j1, j2, j3⟩ := hJ
        cases hbd : bdP x.w a b s p
        · left
          rw [hbd] at hRk
          unfold bdP at hbd
          rw [hf, Bool.true_and, decide_eq_false_iff_not] at hbd
          refine ⟨g, VRound.vy' hlp rfl rfl rfl g.grows_refl fun l0 => ?_, ⟨⟨j0, j1, j2, j3⟩, hRk⟩, hlp⟩
          refine VRound.tell [(5, .fp (encX x)), (6, .fp [DI a]), (7, .fp [DI b]), (8, .ptr (.out (.loc 0)) 0), (9, .ptr (.out (.loc 1)) 0), (41, I k), (42, aggT s)] ?_ ?_
          · conv => whnf
            refine Retell.turn ⟨[], 0, [], []⟩ (TurnOk.mk' _ _ [] [] (OutOk.lift _) rfl (by decide) zb trivial trivial rfl) zv zm
          · conv => whnf
            repeat (first | ((first | refine zs1 ?_ | refine zs2 ?_ | refine zs3 ?_ | refine zs4 ?_ | refine zs5 ?_ | refine zs6 [] ?_); conv => whnf))
            refine VBegin.intro (get_out hlp _) rfl ?_
            conv => whnf
            repeat' (first | ((first | refine zs1 ?_ | refine zs2 ?_ | refine zs3 ?_ | refine zs4 ?_ | refine zs5 ?_ | refine zs6 [] ?_); conv => whnf) | ((first | apply zi1 | apply zi2 | apply zi3 | apply zi4 | apply zi5) <;> intro _ <;> conv => whnf) | (refine VAny.ix encI_len k rfl rfl hp ?_; conv => whnf))
            all_goals try (exfalso; omega)
            all_goals exact RFin.on (outW_get _ _ _ _) (VOut.back (get_out hlp []) rfl)
        · rw [hbd] at hRk
          unfold bdP at hbd
          rw [hf, Bool.true_and, decide_eq_true_eq] at hbd
          have n3 : g.get (.loc 3) ≠ none := by rw [hlp]; simp
          refine Rnd.stop .ret rfl hlp g n3 ?_ ⟨rfl, ⟨j0, (Hp.get_set g _ _ _ n3).trans ((if_neg (by decide)).trans j1), (Hp.get_set g _ _ _ n3).trans ((if_neg (by decide)).trans j2), (Hp.get_set g _ _ _ n3).trans ((if_neg (by decide)).trans j3)⟩, hRk⟩
          refine VRound.vy' hlp rfl rfl rfl (g.grows_set _ _) fun l0 => ?_
          refine VRound.tell [(5, .fp (encX x)), (6, .fp [DI a]), (7, .fp [DI b]), (8, .ptr (.out (.loc 0)) 0), (9, .ptr (.out (.loc 1)) 0), (41, I k), (42, aggT s)] ?_ ?_
          · conv => whnf
            refine Retell.turn ⟨[], 0, [], []⟩ (TurnOk.mk' _ _ [] [] (OutOk.lift _) rfl (by decide) zb trivial trivial rfl) zv zm
          · conv => whnf
            repeat (first | ((first | refine zs1 ?_ | refine zs2 ?_ | refine zs3 ?_ | refine zs4 ?_ | refine zs5 ?_ | refine zs6 [] ?_); conv => whnf))
            refine VBegin.intro (get_out hlp _) rfl ?_
            conv => whnf
            repeat' (first | ((first | refine zs1 ?_ | refine zs2 ?_ | refine zs3 ?_ | refine zs4 ?_ | refine zs5 ?_ | refine zs6 [] ?_); conv => whnf) | ((first | apply zi1 | apply zi2 | apply zi3 | apply zi4 | apply zi5) <;> intro _ <;> conv => whnf) | (refine VAny.ix encI_len k rfl rfl hp ?_; conv => whnf) | (refine VMem.st1 rfl rfl rfl (get_outNe (by decide) (get_out j1 _)) rfl ?_; conv => whnf) | (refine VMem.st1 rfl rfl rfl (get_outNe (by decide) (get_outNe (by decide) (get_out j2 _))) rfl ?_; conv => whnf))
            all_goals try (exfalso; omega)
            all_goals (refine RFin.off rfl (get_outNe (by decide) (get_outNe (by decide) (outW_get _ _ _ _))) (VOut.liftS ?_ (g.grows_set _ _)))
            all_goals (rw [lift_set n3]; exact outW_id2 (get_out j1 []) (get_out j2 []) (by decide) (by decide) (by decide))
    · rintro g ⟨⟨j0, j1, j2, j3⟩, hRk⟩ hlp
      rw [hlGo_end] at hRk
      subst hRk
      obtain ⟨go, gl⟩ := g
      dsimp only at j0
      subst j0
      have j1 : gl[0]? = some _ := j1
      have j2 : gl[1]? = some _ := j2
      have j3 : gl[2]? = some _ := j3
      have l0 := (List.getElem?_eq_some_iff.1 j1).1
      have l1 := (List.getElem?_eq_some_iff.1 j2).1
      have key : ∀ (x : Nat) (A : Blk), x ≠ 3 → (gl.set 3 A)[x]? = gl[x]? := fun x A hx => List.getElem?_set_ne (Ne.symm hx)
      refine Told.mk [(8, .ptr (.loc 0) 0), (9, .ptr (.loc 1) 0)] [.flat true [DB false], .flat true [DI 0]] (marks' := []) ?_ ?_
      · conv => whnf
        refine Retell.turn ⟨[0, 1], gl.length, [], []⟩ (TurnOk.mk' _ _ [] [] (OutOk.lift _) (Nat.ble_eq_true_of_le (by simp)) (by decide)
          (BTos.flat (blt_of l0) ((key 0 _ (by omega)).trans j1) rfl (BTos.flat (blt_of l1) ((key 1 _ (by omega)).trans j2) rfl BTos.nil)) trivial trivial rfl) zv
          (MkTo.drop (show 2 ∉ ([0, 1] : List Nat) by decide) ((key 2 _ (by omega)).trans j3) MkTo.nil)
      · conv => whnf
        repeat' (first | ((first | refine zs1 ?_ | refine zs2 ?_ | refine zs3 ?_ | refine zs4 ?_ | refine zs5 ?_ | refine zs6 [] ?_); conv => whnf) | ((first | apply zi1 | apply zi2 | apply zi3 | apply zi4 | apply zi5) <;> intro _ <;> conv => whnf))
        exact VOut.same rfl
    · rintro e g hne ⟨rfl, ⟨j0, j1, j2, j3⟩, hRk⟩ hlp
      subst hRk
      obtain ⟨go, gl⟩ := g
      dsimp only at j0
      subst j0
      have j1 : gl[0]? = some _ := j1
      have j2 : gl[1]? = some _ := j2
      have j3 : gl[2]? = some _ := j3
      have l0 := (List.getElem?_eq_some_iff.1 j1).1
      have l1 := (List.getElem?_eq_some_iff.1 j2).1
      have key : ∀ (x : Nat) (A : Blk), x ≠ 3 → (gl.set 3 A)[x]? = gl[x]? := fun x A hx => List.getElem?_set_ne (Ne.symm hx)
      refine Told.mk [(8, .ptr (.loc 0) 0), (9, .ptr (.loc 1) 0)] [.flat true [DB false], .flat true [DI 0]] (marks' := []) ?_ ?_
      · conv => whnf
        refine Retell.turn ⟨[0, 1], gl.length, [], []⟩ (TurnOk.mk' _ _ [] [] (OutOk.lift _) (Nat.ble_eq_true_of_le (by simp)) (by decide)
          (BTos.flat (blt_of l0) ((key 0 _ (by omega)).trans j1) rfl (BTos.flat (blt_of l1) ((key 1 _ (by omega)).trans j2) rfl BTos.nil)) trivial trivial rfl) zv
          (MkTo.drop (show 2 ∉ ([0, 1] : List Nat) by decide) ((key 2 _ (by omega)).trans j3) MkTo.nil)
      · conv => whnf
        repeat' (first | ((first | refine zs1 ?_ | refine zs2 ?_ | refine zs3 ?_ | refine zs4 ?_ | refine zs5 ?_ | refine zs6 [] ?_); conv => whnf) | ((first | apply zi1 | apply zi2 | apply zi3 | apply zi4 | apply zi5) <;> intro _ <;> conv => whnf))
        exact VOut.same rfl
theorem hlB_eq (l : Lnd) (x : Exc) (a b : Int) (h0 : hlE l x a b = 0) : hlB l x a b = (alB l x && hlGo x.w a b l.ss x.ps) := by
  unfold hlB; rw [decide_eq_true h0, Bool.true_and]
theorem hlE_ok {l : Lnd} {x : Exc} {a b : Int} : hlE l x a b = 0 ↔ askE l x = 0 ∧ (1 ≤ a ∧ a ≤ 2000) ∧ (1 ≤ b ∧ b ≤ 2000) := by
  unfold hlE
  constructor
  · intro h
    by_cases h1 : askE l x = 0
    · rw [if_neg (by omega)] at h
      refine ⟨h1, ?_⟩
      by_cases h2 : ¬ (1 ≤ a ∧ a ≤ 2000) ∨ ¬ (1 ≤ b ∧ b ≤ 2000)
      · rw [if_pos h2] at h; cases h
      · omega
    · rw [if_pos h1] at h; exact absurd h h1
  · rintro ⟨h1, h2, h3⟩
    rw [if_neg (by omega), if_neg (by omega)]
theorem vc_Holds (l : Lnd) (x : Exc) (a b : Int) (h : Hp) (hn : l.ss.length ≤ 4000000) (hv : l.vs.length ≤ 4000000) (hp : x.ps.length ≤ 4000000) : VC Tryz.prog 16 [vL l, vX x, I a, I b] h (.tuple [B (hlB l x a b), I (hlE l x a b)]) h := by
  by_cases h0 : askE l x = 0
  · obtain ⟨o, ox⟩ := ask_ok.1 h0
    by_cases hab : (1 ≤ a ∧ a ≤ 2000) ∧ (1 ≤ b ∧ b ≤ 2000)
    · have e : hlE l x a b = 0 := hlE_ok.2 ⟨h0, hab⟩
      rw [hlB_eq l x a b e, e]
      cases hal : alB l x
      · have ca := fun h => vc_allowed l x h o ox
        rw [hal] at ca
        rw [Bool.false_and]
        refine VC.body Tryz.func16 rfl Tryz.ntmps16 Tryz.call16 (h.grows_refl) rfl ?_; conv => whnf
        repeat' (first | ((first | refine zs1 ?_ | refine zs2 ?_ | refine zs3 ?_ | refine zs4 ?_ | refine zs5 ?_ | refine zs6 [] ?_); conv => whnf) | ((first | apply zi1 | apply zi2 | apply zi3 | apply zi4 | apply zi5) <;> intro _ <;> conv => whnf) | (refine VCall.intro (vc_asked_ok l x _ o ox) ?_; conv => whnf) | (refine VCall.intro (vc_from _ _ _ _) ?_; conv => whnf) | (refine VCall.intro (ca _) ?_; conv => whnf))
        all_goals first | exact VOut.same rfl | (exfalso; omega)
      · rw [Bool.true_and]
        exact vc_Holds_go l x a b h o ox hab.1 hab.2 hal
    · have e : hlE l x a b = 4 := by unfold hlE; rw [if_neg (by omega), if_pos (by omega)]
      have e2 : hlB l x a b = false := by unfold hlB; rw [e]; rfl
      rw [e, e2]
      refine VC.body Tryz.func16 rfl Tryz.ntmps16 Tryz.call16 (h.grows_refl) rfl ?_; conv => whnf
      repeat' (first | ((first | refine zs1 ?_ | refine zs2 ?_ | refine zs3 ?_ | refine zs4 ?_ | refine zs5 ?_ | refine zs6 [] ?_); conv => whnf) | ((first | apply zi1 | apply zi2 | apply zi3 | apply zi4 | apply zi5) <;> intro _ <;> conv => whnf) | (refine VCall.intro (vc_asked_ok l x _ o ox) ?_; conv => whnf) | (refine VCall.intro (vc_from _ _ _ _) ?_; conv => whnf))
      all_goals first | exact VOut.same rfl | (exfalso; omega)
  · have e : hlE l x a b = askE l x := by unfold hlE; rw [if_pos h0]
    have e2 : hlB l x a b = false := by unfold hlB; rw [e, decide_eq_false h0]; rfl
    rw [e, e2]
    refine VC.body Tryz.func16 rfl Tryz.ntmps16 Tryz.call16 (h.grows_refl) rfl ?_; conv => whnf
    repeat' (first | ((first | refine zs1 ?_ | refine zs2 ?_ | refine zs3 ?_ | refine zs4 ?_ | refine zs5 ?_ | refine zs6 [] ?_); conv => whnf) | ((first | apply zi1 | apply zi2 | apply zi3 | apply zi4 | apply zi5) <;> intro _ <;> conv => whnf) | (refine VCall.intro (vc_asked_no l x _ hn hv hp h0) ?_; conv => whnf))
    all_goals first | exact VOut.same rfl | (exfalso; omega)
end Go.Proofs.YtlgdkljiilbooaaGreat.Bt

open Go.Vm
namespace Go.Vm
end Go.Vm
namespace Go.Proofs.YtlgdkljiilbooaaGreat.Bt
set_option maxRecDepth 20000
set_option maxHeartbeats 4000000

def wsR (q : Nat → Bool) : Nat → Nat → Option Nat
  | _, 0 => none
  | k, d + 1 => if q k then some k else wsR q (k + 1) d
theorem wsR_no {q : Nat → Bool} (h : ∀ k, q k = false) : ∀ d k, wsR q k d = none
  | 0, _ => rfl
  | d + 1, k => by rw [wsR, h k]; exact wsR_no h d (k + 1)
def sAt (l : Lnd) (i : Nat) : Str := l.ss.getD i ⟨0, 0, 0, 0⟩
def pAt (x : Exc) (i : Nat) : Int := x.ps.getD i 0
theorem sAt_eq {l : Lnd} {i : Nat} {s : Str} (h : l.ss[i]? = some s) : sAt l i = s := by simp [sAt, h]
theorem pAt_eq {x : Exc} {i : Nat} {p : Int} (h : x.ps[i]? = some p) : pAt x i = p := by simp [pAt, h]
def wsB (l : Lnd) (x : Exc) (i k : Nat) : Bool := isFree (sAt l i) && (isFree (sAt l k) && (decide (pAt x i < x.w ∧ 0 < pAt x k) && fst2 (sAt l i) (sAt l k)))
def wsO (q : Nat → Nat → Bool) (n : Nat) : Nat → Nat → Option (Nat × Nat)
  | _, 0 => none
  | i, d + 1 => match wsR (q i) 0 n with
    | some k => some (i, k)
    | none => wsO q n (i + 1) d
def wst (l : Lnd) (x : Exc) : Option (Nat × Nat) := wsO (wsB l x) l.ss.length 0 l.ss.length
structure WJ (o : Vm.Id → Option Blk) (a b : Int) (g : Hp) : Prop where
  o : g.outer = o
  b0 : g.get (.loc 0) = some (.flat true [DI a])
  b1 : g.get (.loc 1) = some (.flat true [DI b])
  b2 : g.get (.loc 2) = some .mark
def wstR (w : Option (Nat × Nat)) : V := match w with
  | some (i, k) => .tuple [I i, I k, B true]
  | none => .tuple [I (-1), I (-1), B false]
theorem vc_waste (l : Lnd) (x : Exc) (h : Hp) (o : Ok l) (ox : XOk l x) : VC Tryz.prog 26 [.fp (encN l), vX x] h (wstR (wst l x)) h := by
  obtain ⟨W, hW⟩ : ∃ W, W = wst l x := ⟨_, rfl⟩
  rw [← hW]
  unfold wst at hW
  have hn := o.n
  have hl := ox.len
  have hw := ox.w
  refine VC.body Tryz.func26 rfl Tryz.ntmps26 Tryz.call26 (h.grows_refl) rfl ?_; conv => whnf
  repeat' (first | ((first | refine zs1 ?_ | refine zs2 ?_ | refine zs3 ?_ | refine zs4 ?_ | refine zs5 ?_ | refine zs6 [] ?_); conv => whnf) | ((first | apply zi1 | apply zi2 | apply zi3 | apply zi4 | apply zi5) <;> intro _ <;> conv => whnf) | (refine VCall.intro (vc_free l _) ?_; conv => whnf))
  refine VCode.tell [(2, .fp [.pt (encN l)]), (3, .fp (encX x)), (7, .ptr (.loc 0) 0), (8, .ptr (.loc 1) 0), (14, vFree l)] [.flat true [DI (-1)], .flat true [DI (-1)]] (marks' := []) ?_ ?_
  · conv => whnf
    refine Retell.turn ⟨[2,3], 4, [(0, [.pt (encN l)]), (1, encX x)], []⟩ (TurnOk.mk' _ _ [(0, [.pt (encN l)]), (1, encX x)] [] (OutOk.lift _) rfl (by decide) zb zf trivial rfl) zv zm
  · conv => whnf
    refine VCode.iterN l.ss.length (frY l) (fun i g => WJ h.lift (-1) (-1) g ∧ W = wsO (wsB l x) l.ss.length i (l.ss.length - i)) (fun e g => e = .exit 0 ∧ ∃ i k : Nat, WJ h.lift i k g ∧ W = some (i, k)) _ (.loc 3) rfl (iter_free l o) rfl rfl ⟨⟨rfl, rfl, rfl, rfl⟩, hW⟩ ?_ ?_ ?_ ?_
    · rintro i g hi hy ⟨hJ, hWi⟩
      refine ⟨hJ, ?_⟩
      have hs : l.ss[i]? = some l.ss[i] := List.getElem?_eq_getElem hi
      rw [frY_eq hs] at hy
      have hf : isFree l.ss[i] = false := by
        cases hf : isFree l.ss[i]
        · rfl
        · rw [hf] at hy; cases hy
      rw [show l.ss.length - i = (l.ss.length - (i + 1)) + 1 by omega, wsO, wsR_no (fun k => by unfold wsB; rw [sAt_eq hs, hf]; rfl)] at hWi
      exact hWi
    · rintro i g vs hi hy ⟨⟨j0, j1, j2, j3⟩, hWi⟩ hlp
      have hs : l.ss[i]? = some l.ss[i] := List.getElem?_eq_getElem hi
      have hp : x.ps[i]? = some x.ps[i] := List.getElem?_eq_getElem (by omega)
      have q1 := o.ss _ (List.getElem_mem hi)
      rw [frY_eq hs] at hy
      rw [show l.ss.length - i = (l.ss.length - (i + 1)) + 1 by omega, wsO] at hWi
      have es := sAt_eq hs
      have ep := pAt_eq hp
      generalize l.ss[i] = s at hs hy q1 es
      generalize x.ps[i] = p at hp ep
      cases hf : isFree s
      · rw [hf] at hy; cases hy
      · rw [hf] at hy
        cases hy
        have n3 : g.get (.loc 3) ≠ none := by rw [hlp]; simp
        cases hR : wsR (wsB l x i) 0 l.ss.length with
        | none =>
          rw [hR] at hWi
          refine Rnd.go hlp g hlp ?_ ⟨⟨j0, j1, j2, j3⟩, hWi⟩
          refine VRoundA.vy' hlp rfl rfl rfl g.grows_refl fun l0 => ?_
          refine VRoundA.tell [(2, .fp [.pt (encN l)]), (3, .fp (encX x)), (7, .ptr (.out (.loc 0)) 0), (8, .ptr (.out (.loc 1)) 0), (15, I i), (16, aggT s)] ?_ ?_
          · conv => whnf
            refine Retell.turn ⟨[], 0, [], []⟩ (TurnOk.mk' _ _ [] [] (OutOk.lift _) rfl (by decide) zb trivial trivial rfl) zv zm
          · conv => whnf
            repeat (first | ((first | refine zs1 ?_ | refine zs2 ?_ | refine zs3 ?_ | refine zs4 ?_ | refine zs5 ?_ | refine zs6 [] ?_); conv => whnf))
            refine VBeginA.intro (get_out hlp _) rfl ?_
            refine VWpA.block ?_
            refine VWpA.go ?_
            conv => whnf
            repeat' (first | ((first | refine zs1 ?_ | refine zs2 ?_ | refine zs3 ?_ | refine zs4 ?_ | refine zs5 ?_ | refine zs6 [] ?_); conv => whnf) | ((first | apply zi1 | apply zi2 | apply zi3 | apply zi4 | apply zi5) <;> intro _ <;> conv => whnf) | (refine VCall.intro (vc_free l _) ?_; conv => whnf))
            refine VWpA.block ?_
            refine VWpA.tell [(3, .fp (encX x)), (7, .ptr (.out (.loc 0)) 0), (8, .ptr (.out (.loc 1)) 0), (9, .fp [DI i]), (10, .fp (encT s)), (18, vFree l)] [] (marks' := []) ?_ ?_
            · conv => whnf
              refine Retell.turn ⟨[], 2, [(0, [DI i]), (1, encT s)], []⟩ (TurnOk.mk' _ _ [(0, [DI i]), (1, encT s)] [] (OutOk.outR (OutOk.lift _) (ren_busy hlp)) rfl (by decide) BTos.nil (FzAll.flat rfl (FzAll.flat rfl FzAll.nil)) trivial rfl) zv zm
            · conv => whnf
              refine VWpA.iterN l.ss.length (frY l) (fun k g' => g'.outer = outW g.lift (.loc 3) _ ∧ wsR (wsB l x i) k (l.ss.length - k) = none) (fun _ _ => False) _ (.loc 0) rfl (outW_get _ _ _ _) (iter_free l o) rfl rfl ⟨rfl, hR⟩ ?_ ?_ ?_ ?_
              · rintro k g' hk hy' ⟨hO, hk2⟩
                rw [show l.ss.length - k = (l.ss.length - (k + 1)) + 1 by omega, wsR] at hk2
                refine ⟨hO, ?_⟩
                split at hk2
                · cases hk2
                · exact hk2
              · rintro k g' vs hk hy' ⟨hO, hk2⟩ hlp'
                have ht : l.ss[k]? = some l.ss[k] := List.getElem?_eq_getElem hk
                have hq : x.ps[k]? = some x.ps[k] := List.getElem?_eq_getElem (by omega)
                have q2 := o.ss _ (List.getElem_mem hk)
                rw [frY_eq ht] at hy'
                rw [show l.ss.length - k = (l.ss.length - (k + 1)) + 1 by omega, wsR] at hk2
                have et := sAt_eq ht
                have eq := pAt_eq hq
                generalize l.ss[k] = t at ht hy' q2 et
                generalize x.ps[k] = q at hq eq
                have r1 := q1.no
                have r2 := q1.so
                have r3 := q2.no
                have r4 := q2.so
                have m1 := mul_le (a := s.no) (b := t.so) (A := 1000) (B := 1000) (by omega) (by omega)
                have m2 := mul_le (a := s.so) (b := t.no) (A := 1000) (B := 1000) (by omega) (by omega)
                have ca := fun h => vc_ahead s.no s.so t.no t.so h (by omega) (by omega) (by omega) (by omega)
                cases hft : isFree t
                · rw [hft] at hy'; cases hy'
                · rw [hft] at hy'
                  cases hy'
                  have hwb : wsB l x i k = false := by
                    cases hwb : wsB l x i k
                    · rfl
                    · rw [hwb] at hk2; cases hk2
                  rw [hwb, if_neg (by decide)] at hk2
                  have hbw : ¬ ((p < x.w ∧ 0 < q) ∧ s.so * t.no < s.no * t.so) := by
                    unfold wsB fst2 at hwb
                    rw [es, et, ep, eq, hf, hft, Bool.true_and, Bool.true_and] at hwb
                    intro hc
                    rw [decide_eq_true hc.1, decide_eq_true hc.2] at hwb
                    cases hwb
                  refine Rnd.go hlp' g' hlp' ?_ ⟨hO, hk2⟩
                  refine VRound.vy' hlp' rfl rfl rfl g'.grows_refl fun l1 => ?_
                  refine VRound.tell [(3, .fp (encX x)), (7, .ptr (.out (.out (.loc 0))) 0), (8, .ptr (.out (.out (.loc 1))) 0), (9, .fp [DI i]), (10, .fp (encT s)), (19, I k), (20, aggT t)] ?_ ?_
                  · conv => whnf
                    refine Retell.turn ⟨[], 0, [], []⟩ (TurnOk.mk' _ _ [] [] (OutOk.lift _) rfl (by decide) zb trivial trivial rfl) zv zm
                  · conv => whnf
                    repeat (first | ((first | refine zs1 ?_ | refine zs2 ?_ | refine zs3 ?_ | refine zs4 ?_ | refine zs5 ?_ | refine zs6 [] ?_); conv => whnf))
                    refine VBegin.intro (get_out hlp' _) rfl ?_
                    conv => whnf
                    repeat' (first | ((first | refine zs1 ?_ | refine zs2 ?_ | refine zs3 ?_ | refine zs4 ?_ | refine zs5 ?_ | refine zs6 [(18, 19)] ?_); conv => whnf) | ((first | apply zi1 | apply zi2 | apply zi3 | apply zi4 | apply zi5) <;> intro _ <;> conv => whnf) | (refine VAny.ix encI_len i rfl rfl hp ?_; conv => whnf) | (refine VAny.ix encI_len k rfl rfl hq ?_; conv => whnf) | (refine VCall.intro (vc_worth _ _) ?_; conv => whnf) | (refine VCall.intro (ca _) ?_; conv => whnf))
                    all_goals try (exfalso; omega)
                    all_goals exact RFin.on (outW_get _ _ _ _) (VOut.back (get_out hlp' []) rfl)
              · rintro g' ⟨hO, _⟩ hlp'
                obtain ⟨go, gl⟩ := g'
                dsimp only at hO
                subst hO
                refine Told.mk [] [] (marks' := []) ?_ ?_
                · conv => whnf
                  refine Retell.turn ⟨[], gl.length, [], []⟩ (TurnOk.mk' _ _ [] [] (OutOk.outR (OutOk.lift _) (ren_busy hlp)) (Nat.ble_eq_true_of_le (by simp)) (by decide) BTos.nil trivial trivial rfl) zv zm
                · conv => whnf
                  exact RFin.on (outW_get _ _ _ _) (VOut.back (get_out hlp []) rfl)
              · rintro e g' _ hF
                exact hF.elim
        | some k0 =>
          rw [hR] at hWi
          have n0 : g.get (.loc 0) ≠ none := by rw [j1]; simp
          have n1 : (g.set (.loc 0) (.flat true [DI i])).get (.loc 1) ≠ none := by rw [Hp.get_set g _ _ _ n0, if_neg (by decide), j2]; simp
          have n2 : ((g.set (.loc 0) (.flat true [DI i])).set (.loc 1) (.flat true [DI k0])).get (.loc 3) ≠ none := by rw [Hp.get_set _ _ _ _ n1, if_neg (by decide), Hp.get_set g _ _ _ n0, if_neg (by decide), hlp]; simp
          refine Rnd.stop (.exit 0) rfl hlp ((g.set (.loc 0) (.flat true [DI i])).set (.loc 1) (.flat true [DI k0])) n2 ?_ ⟨rfl, i, k0, ⟨j0, ?_, ?_, ?_⟩, hWi⟩
          · refine VRoundA.vy' hlp rfl rfl rfl ?_ fun l0 => ?_
            · exact grows_set3
            refine VRoundA.tell [(2, .fp [.pt (encN l)]), (3, .fp (encX x)), (7, .ptr (.out (.loc 0)) 0), (8, .ptr (.out (.loc 1)) 0), (15, I i), (16, aggT s)] ?_ ?_
            · conv => whnf
              refine Retell.turn ⟨[], 0, [], []⟩ (TurnOk.mk' _ _ [] [] (OutOk.lift _) rfl (by decide) zb trivial trivial rfl) zv zm
            · conv => whnf
              repeat (first | ((first | refine zs1 ?_ | refine zs2 ?_ | refine zs3 ?_ | refine zs4 ?_ | refine zs5 ?_ | refine zs6 [] ?_); conv => whnf))
              refine VBeginA.intro (get_out hlp _) rfl ?_
              refine VWpA.block ?_
              refine VWpA.go ?_
              conv => whnf
              repeat' (first | ((first | refine zs1 ?_ | refine zs2 ?_ | refine zs3 ?_ | refine zs4 ?_ | refine zs5 ?_ | refine zs6 [] ?_); conv => whnf) | ((first | apply zi1 | apply zi2 | apply zi3 | apply zi4 | apply zi5) <;> intro _ <;> conv => whnf) | (refine VCall.intro (vc_free l _) ?_; conv => whnf))
              refine VWpA.block ?_
              refine VWpA.tell [(3, .fp (encX x)), (7, .ptr (.out (.loc 0)) 0), (8, .ptr (.out (.loc 1)) 0), (9, .fp [DI i]), (10, .fp (encT s)), (18, vFree l)] [] (marks' := []) ?_ ?_
              · conv => whnf
                refine Retell.turn ⟨[], 2, [(0, [DI i]), (1, encT s)], []⟩ (TurnOk.mk' _ _ [(0, [DI i]), (1, encT s)] [] (OutOk.outR (OutOk.lift _) (ren_busy hlp)) rfl (by decide) BTos.nil (FzAll.flat rfl (FzAll.flat rfl FzAll.nil)) trivial rfl) zv zm
              · conv => whnf
                refine VWpA.withO fun O hO0 => ?_
                have hOa := get_out j1 []
                have hOb := get_out j2 []
                have hO1 : O (.loc 0) = some (.flat true [DI (-1)]) := by rw [hO0, outW_ne (by decide)]; exact hOa
                have hO2 : O (.loc 1) = some (.flat true [DI (-1)]) := by rw [hO0, outW_ne (by decide)]; exact hOb
                refine VWpA.iterN l.ss.length (frY l) (fun k g' => g'.outer = O ∧ wsR (wsB l x i) k (l.ss.length - k) = some k0) (fun e g' => e = .exit 0 ∧ g'.outer = outW (outW O (.loc 0) (.flat true [DI i])) (.loc 1) (.flat true [DI k0])) _ (.loc 0) rfl (by subst hO0; exact outW_get _ _ _ _) (iter_free l o) rfl rfl ⟨rfl, hR⟩ ?_ ?_ ?_ ?_
                · rintro k g' hk hy' ⟨hO, hk2⟩
                  rw [show l.ss.length - k = (l.ss.length - (k + 1)) + 1 by omega, wsR] at hk2
                  refine ⟨hO, ?_⟩
                  have ht : l.ss[k]? = some l.ss[k] := List.getElem?_eq_getElem hk
                  rw [frY_eq ht] at hy'
                  have hft : isFree l.ss[k] = false := by
                    cases hft : isFree l.ss[k]
                    · rfl
                    · rw [hft] at hy'; cases hy'
                  have hwb : wsB l x i k = false := by unfold wsB; rw [sAt_eq ht, hft, es, hf]; rfl
                  rw [hwb, if_neg (by decide)] at hk2
                  exact hk2
                · rintro k g' vs hk hy' ⟨hO, hk2⟩ hlp'
                  have ht : l.ss[k]? = some l.ss[k] := List.getElem?_eq_getElem hk
                  have hq : x.ps[k]? = some x.ps[k] := List.getElem?_eq_getElem (by omega)
                  have q2 := o.ss _ (List.getElem_mem hk)
                  rw [frY_eq ht] at hy'
                  rw [show l.ss.length - k = (l.ss.length - (k + 1)) + 1 by omega, wsR] at hk2
                  have et := sAt_eq ht
                  have eq := pAt_eq hq
                  generalize l.ss[k] = t at ht hy' q2 et
                  generalize x.ps[k] = q at hq eq
                  have r1 := q1.no
                  have r2 := q1.so
                  have r3 := q2.no
                  have r4 := q2.so
                  have m1 := mul_le (a := s.no) (b := t.so) (A := 1000) (B := 1000) (by omega) (by omega)
                  have m2 := mul_le (a := s.so) (b := t.no) (A := 1000) (B := 1000) (by omega) (by omega)
                  have ca := fun h => vc_ahead s.no s.so t.no t.so h (by omega) (by omega) (by omega) (by omega)
                  cases hft : isFree t
                  · rw [hft] at hy'; cases hy'
                  · rw [hft] at hy'
                    cases hy'
                    cases hwb : wsB l x i k
                    · rw [hwb, if_neg (by decide)] at hk2
                      have hbw : ¬ ((p < x.w ∧ 0 < q) ∧ s.so * t.no < s.no * t.so) := by
                        unfold wsB fst2 at hwb
                        rw [es, et, ep, eq, hf, hft, Bool.true_and, Bool.true_and] at hwb
                        intro hc
                        rw [decide_eq_true hc.1, decide_eq_true hc.2] at hwb
                        cases hwb
                      refine Rnd.go hlp' g' hlp' ?_ ⟨hO, hk2⟩
                      refine VRound.vy' hlp' rfl rfl rfl g'.grows_refl fun l1 => ?_
                      refine VRound.tell [(3, .fp (encX x)), (7, .ptr (.out (.out (.loc 0))) 0), (8, .ptr (.out (.out (.loc 1))) 0), (9, .fp [DI i]), (10, .fp (encT s)), (19, I k), (20, aggT t)] ?_ ?_
                      · conv => whnf
                        refine Retell.turn ⟨[], 0, [], []⟩ (TurnOk.mk' _ _ [] [] (OutOk.lift _) rfl (by decide) zb trivial trivial rfl) zv zm
                      · conv => whnf
                        repeat (first | ((first | refine zs1 ?_ | refine zs2 ?_ | refine zs3 ?_ | refine zs4 ?_ | refine zs5 ?_ | refine zs6 [] ?_); conv => whnf))
                        refine VBegin.intro (get_out hlp' _) rfl ?_
                        conv => whnf
                        repeat' (first | ((first | refine zs1 ?_ | refine zs2 ?_ | refine zs3 ?_ | refine zs4 ?_ | refine zs5 ?_ | refine zs6 [(18, 19)] ?_); conv => whnf) | ((first | apply zi1 | apply zi2 | apply zi3 | apply zi4 | apply zi5) <;> intro _ <;> conv => whnf) | (refine VAny.ix encI_len i rfl rfl hp ?_; conv => whnf) | (refine VAny.ix encI_len k rfl rfl hq ?_; conv => whnf) | (refine VCall.intro (vc_worth _ _) ?_; conv => whnf) | (refine VCall.intro (ca _) ?_; conv => whnf))
                        all_goals try (exfalso; omega)
                        all_goals exact RFin.on (outW_get _ _ _ _) (VOut.back (get_out hlp' []) rfl)
                    · rw [hwb, if_pos rfl] at hk2
                      have hkk : k = k0 := Option.some.inj hk2
                      subst hkk
                      have x0 : g'.get (.out (.loc 0)) = some (.flat true [DI (-1)]) := by
                        show g'.outer (.loc 0) = _
                        rw [hO]; exact hO1
                      have x1 : g'.get (.out (.loc 1)) = some (.flat true [DI (-1)]) := by
                        show g'.outer (.loc 1) = _
                        rw [hO]; exact hO2
                      have y0 : g'.get (.out (.loc 0)) ≠ none := by rw [x0]; simp
                      have y1 : (g'.set (.out (.loc 0)) (.flat true [DI i])).get (.out (.loc 1)) ≠ none := by rw [Hp.get_set g' _ _ _ y0, if_neg (by decide), x1]; simp
                      have y3 : g'.get (.loc 0) ≠ none := by rw [hlp']; simp
                      have y2 : ((g'.set (.out (.loc 0)) (.flat true [DI i])).set (.out (.loc 1)) (.flat true [DI k])).get (.loc 0) ≠ none := by rw [Hp.get_set _ _ _ _ y1, if_neg (by decide), Hp.get_set g' _ _ _ y0, if_neg (by decide)]; exact y3
                      refine Rnd.stop (.exit 0) rfl hlp' ((g'.set (.out (.loc 0)) (.flat true [DI i])).set (.out (.loc 1)) (.flat true [DI k])) y2 ?_ ⟨rfl, ?_⟩
                      · refine VRound.vy' hlp' rfl rfl rfl ?_ fun l1 => ?_
                        · exact grows_set3
                        refine VRound.tell [(3, .fp (encX x)), (7, .ptr (.out (.out (.loc 0))) 0), (8, .ptr (.out (.out (.loc 1))) 0), (9, .fp [DI i]), (10, .fp (encT s)), (19, I k), (20, aggT t)] ?_ ?_
                        · conv => whnf
                          refine Retell.turn ⟨[], 0, [], []⟩ (TurnOk.mk' _ _ [] [] (OutOk.lift _) rfl (by decide) zb trivial trivial rfl) zv zm
                        · conv => whnf
                          repeat (first | ((first | refine zs1 ?_ | refine zs2 ?_ | refine zs3 ?_ | refine zs4 ?_ | refine zs5 ?_ | refine zs6 [] ?_); conv => whnf))
                          refine VBegin.intro (get_out hlp' _) rfl ?_
                          conv => whnf
                          have hbw : (p < x.w ∧ 0 < q) ∧ s.so * t.no < s.no * t.so := by
                            unfold wsB fst2 at hwb
                            rw [es, et, ep, eq, hf, hft, Bool.true_and, Bool.true_and, Bool.and_eq_true, decide_eq_true_eq, decide_eq_true_eq] at hwb
                            exact hwb
                          repeat' (first | ((first | refine zs1 ?_ | refine zs2 ?_ | refine zs3 ?_ | refine zs4 ?_ | refine zs5 ?_ | refine zs6 [(18, 19)] ?_); conv => whnf) | ((first | apply zi1 | apply zi2 | apply zi3 | apply zi4 | apply zi5) <;> intro _ <;> conv => whnf) | (refine VAny.ix encI_len i rfl rfl hp ?_; conv => whnf) | (refine VAny.ix encI_len k rfl rfl hq ?_; conv => whnf) | (refine VCall.intro (vc_worth _ _) ?_; conv => whnf) | (refine VCall.intro (ca _) ?_; conv => whnf) | (refine VMem.st1 rfl rfl rfl (get_outNe (by decide) (get_out x0 _)) rfl ?_; conv => whnf) | (refine VMem.st1 rfl rfl rfl (get_outNe (by decide) (get_outNe (by decide) (get_out x1 _))) rfl ?_; conv => whnf))
                          all_goals try (exfalso; omega)
                          refine RFin.off rfl (get_outNe (by decide) (get_outNe (by decide) (outW_get _ _ _ _))) (VOut.liftS ?_ ?_)
                          · rw [lift_set y2, lift_set y1, lift_set y0]; exact outW_two (by decide) (by decide)
                          · exact grows_set3
                      · show outW (outW g'.outer _ _) _ _ = _
                        rw [hO]
                · rintro g' ⟨hO, hk2⟩ hlp'
                  rw [Nat.sub_self, wsR] at hk2
                  cases hk2
                · rintro e g' _ ⟨rfl, hO⟩ hlp'
                  obtain ⟨go, gl⟩ := g'
                  dsimp only at hO
                  subst hO
                  subst hO0
                  refine Told.mk [] [] (marks' := []) ?_ ?_
                  · conv => whnf
                    refine Retell.turn ⟨[], gl.length, [], []⟩ (TurnOk.mk' _ _ [] [] (OutOk.outR (OutOk.outR (OutOk.outR (OutOk.lift _) (ren_busy hlp)) ⟨.flat true [DI i], rfl⟩) ⟨.flat true [DI k0], rfl⟩) (Nat.ble_eq_true_of_le (by simp)) (by decide) BTos.nil trivial trivial rfl) zv zm
                  · conv => whnf
                    refine RFin.off rfl (get_outNe (by decide) (get_outNe (by decide) (outW_get _ _ _ _))) (VOut.liftS ?_ ?_)
                    · rw [lift_set n2, lift_set n1, lift_set n0]; exact outW_two (by decide) (by decide)
                    · exact grows_set3
          · rw [Hp.get_set _ _ _ _ n2, if_neg (by decide), Hp.get_set _ _ _ _ n1, if_neg (by decide), Hp.get_set g _ _ _ n0, if_pos rfl]
          · rw [Hp.get_set _ _ _ _ n2, if_neg (by decide), Hp.get_set _ _ _ _ n1, if_pos rfl]
          · rw [Hp.get_set _ _ _ _ n2, if_neg (by decide), Hp.get_set _ _ _ _ n1, if_neg (by decide), Hp.get_set g _ _ _ n0, if_neg (by decide), j3]
    · rintro g ⟨⟨j0, j1, j2, j3⟩, hWi⟩ hlp
      rw [Nat.sub_self, wsO] at hWi
      subst hWi
      obtain ⟨go, gl⟩ := g
      dsimp only at j0
      subst j0
      have j1 : gl[0]? = some _ := j1
      have j2 : gl[1]? = some _ := j2
      have j3 : gl[2]? = some _ := j3
      have l0 := (List.getElem?_eq_some_iff.1 j1).1
      have l1 := (List.getElem?_eq_some_iff.1 j2).1
      have key : ∀ (x : Nat) (A : Blk), x ≠ 3 → (gl.set 3 A)[x]? = gl[x]? := fun x A hx => List.getElem?_set_ne (Ne.symm hx)
      refine Told.mk [(7, .ptr (.loc 0) 0), (8, .ptr (.loc 1) 0)] [.flat true [DI (-1)], .flat true [DI (-1)]] (marks' := []) ?_ ?_
      · conv => whnf
        refine Retell.turn ⟨[0, 1], gl.length, [], []⟩ (TurnOk.mk' _ _ [] [] (OutOk.lift _) (Nat.ble_eq_true_of_le (by simp)) (by decide)
          (BTos.flat (blt_of l0) ((key 0 _ (by omega)).trans j1) rfl (BTos.flat (blt_of l1) ((key 1 _ (by omega)).trans j2) rfl BTos.nil)) trivial trivial rfl) zv
          (MkTo.drop (show 2 ∉ ([0, 1] : List Nat) by decide) ((key 2 _ (by omega)).trans j3) MkTo.nil)
      · conv => whnf
        repeat' (first | ((first | refine zs1 ?_ | refine zs2 ?_ | refine zs3 ?_ | refine zs4 ?_ | refine zs5 ?_ | refine zs6 [] ?_); conv => whnf) | ((first | apply zi1 | apply zi2 | apply zi3 | apply zi4 | apply zi5) <;> intro _ <;> conv => whnf))
        exact VOut.same rfl
    · rintro e g hne ⟨rfl, i, k, ⟨j0, j1, j2, j3⟩, hWi⟩ hlp
      subst hWi
      obtain ⟨go, gl⟩ := g
      dsimp only at j0
      subst j0
      have j1 : gl[0]? = some _ := j1
      have j2 : gl[1]? = some _ := j2
      have j3 : gl[2]? = some _ := j3
      have l0 := (List.getElem?_eq_some_iff.1 j1).1
      have l1 := (List.getElem?_eq_some_iff.1 j2).1
      have key : ∀ (x : Nat) (A : Blk), x ≠ 3 → (gl.set 3 A)[x]? = gl[x]? := fun x A hx => List.getElem?_set_ne (Ne.symm hx)
      refine Told.mk [(7, .ptr (.loc 0) 0), (8, .ptr (.loc 1) 0)] [.flat true [DI (i)], .flat true [DI (k)]] (marks' := []) ?_ ?_
      · conv => whnf
        refine Retell.turn ⟨[0, 1], gl.length, [], []⟩ (TurnOk.mk' _ _ [] [] (OutOk.lift _) (Nat.ble_eq_true_of_le (by simp)) (by decide)
          (BTos.flat (blt_of l0) ((key 0 _ (by omega)).trans j1) rfl (BTos.flat (blt_of l1) ((key 1 _ (by omega)).trans j2) rfl BTos.nil)) trivial trivial rfl) zv
          (MkTo.drop (show 2 ∉ ([0, 1] : List Nat) by decide) ((key 2 _ (by omega)).trans j3) MkTo.nil)
      · conv => whnf
        repeat' (first | ((first | refine zs1 ?_ | refine zs2 ?_ | refine zs3 ?_ | refine zs4 ?_ | refine zs5 ?_ | refine zs6 [] ?_); conv => whnf) | ((first | apply zi1 | apply zi2 | apply zi3 | apply zi4 | apply zi5) <;> intro _ <;> conv => whnf))
        refine VOut.same ?_
        simp only [wstR, V.ren, V.rens]
        congr 5
end Go.Proofs.YtlgdkljiilbooaaGreat.Bt

open Go.Vm
namespace Go.Proofs.YtlgdkljiilbooaaGreat.Bt
set_option maxRecDepth 20000
set_option maxHeartbeats 4000000
theorem vc_Best_ok (l : Lnd) (x : Exc) (h : Hp) (o : Ok l) (ox : XOk l x) : VC Tryz.prog 9 [vL l, vX x] h (.tuple [B (alB l x && (wst l x).isNone), I 0]) h := by
  have cw := fun h => vc_waste l x h o ox
  have ca := fun h => vc_allowed l x h o ox
  cases hA : alB l x <;> cases hW : wst l x <;> rw [hA] at ca <;> rw [hW] at cw
  all_goals (
    refine VC.body Tryz.func9 rfl Tryz.ntmps9 Tryz.call9 (h.grows_refl) rfl ?_; conv => whnf
    repeat' (first | ((first | refine zs1 ?_ | refine zs2 ?_ | refine zs3 ?_ | refine zs4 ?_ | refine zs5 ?_ | refine zs6 [] ?_); conv => whnf) | ((first | apply zi1 | apply zi2 | apply zi3 | apply zi4 | apply zi5) <;> intro _ <;> conv => whnf) | (refine VCall.intro (vc_asked_ok l x _ o ox) ?_; conv => whnf) | (refine VCall.intro (ca _) ?_; conv => whnf) | (refine VCall.intro (cw _) ?_; conv => whnf))
    exact VOut.same rfl)
def wsV (l : Lnd) (x : Exc) : V := bif alB l x then (match wst l x with
  | some (i, k) => .tuple [I i, I k, I 0]
  | none => .tuple [I 0, I 0, I 7]) else .tuple [I 0, I 0, I 9]
theorem vc_Waste_ok (l : Lnd) (x : Exc) (h : Hp) (o : Ok l) (ox : XOk l x) : VC Tryz.prog 15 [vL l, vX x] h (wsV l x) h := by
  have cw := fun h => vc_waste l x h o ox
  have ca := fun h => vc_allowed l x h o ox
  unfold wsV
  cases hA : alB l x <;> cases hW : wst l x <;> rw [hA] at ca <;> rw [hW] at cw
  all_goals (
    refine VC.body Tryz.func15 rfl Tryz.ntmps15 Tryz.call15 (h.grows_refl) rfl ?_; conv => whnf
    repeat' (first | ((first | refine zs1 ?_ | refine zs2 ?_ | refine zs3 ?_ | refine zs4 ?_ | refine zs5 ?_ | refine zs6 [] ?_); conv => whnf) | ((first | apply zi1 | apply zi2 | apply zi3 | apply zi4 | apply zi5) <;> intro _ <;> conv => whnf) | (refine VCall.intro (vc_asked_ok l x _ o ox) ?_; conv => whnf) | (refine VCall.intro (ca _) ?_; conv => whnf) | (refine VCall.intro (cw _) ?_; conv => whnf))
    exact VOut.same rfl)
end Go.Proofs.YtlgdkljiilbooaaGreat.Bt

open Go.Vm
namespace Go.Proofs.YtlgdkljiilbooaaGreat.Bt
set_option maxRecDepth 20000
set_option maxHeartbeats 1000000
theorem drop_eq_dec {α : Type} [DecidableEq α] {a b : List α} {k : Nat} {x y : α} (hx : a[k]? = some x) (hy : b[k]? = some y) : decide (a.drop k = b.drop k) = (decide (x = y) && decide (a.drop (k + 1) = b.drop (k + 1))) := by
  obtain ⟨h1, rfl⟩ := List.getElem?_eq_some_iff.1 hx
  obtain ⟨h2, rfl⟩ := List.getElem?_eq_some_iff.1 hy
  rw [List.drop_eq_getElem_cons h1, List.drop_eq_getElem_cons h2, Bool.eq_iff_iff, Bool.and_eq_true, decide_eq_true_eq, decide_eq_true_eq, decide_eq_true_eq, List.cons.injEq]
theorem ne_I {x y : Int} (h : ¬ x = y) : ¬ x = y := h
theorem eq_I {x y : Int} (h : x = y) : x = y := h
theorem vc_equalI (a b : List Int) (h : Hp) (ha : a.length ≤ 4000000) (hb : b.length ≤ 4000000) : VC Tryz.prog 17 [ints a, ints b] h (B (decide (a = b))) h := by
  obtain ⟨E, hE⟩ : ∃ E, E = decide (a = b) := ⟨_, rfl⟩
  rw [← hE]
  refine VC.body Tryz.func17 rfl Tryz.ntmps17 Tryz.call17 (h.grows_refl) rfl ?_; conv => whnf
  refine VCode.lp (fun k : Nat => [(0, ints a), (1, ints b), (4, B false), (7, I a.length), (8, I k)]) (fun _ => []) (fun k => k ≤ a.length ∧ k ≤ b.length ∧ E = decide (a.drop k = b.drop k)) (fun k => a.length - k) 0 ⟨Nat.zero_le _, Nat.zero_le _, hE⟩ ?_ ?_
  · conv => whnf
    refine Retell.turn ⟨[], 0, [], []⟩ (TurnOk.mk' _ _ [] [] (OutOk.lift _) rfl (by decide) zb trivial trivial rfl) zv zm
  · rintro k ⟨h1, h2, h3⟩
    conv => whnf
    refine VIte.dec (fun h4 => ?_) (fun h4 => ?_)
    · have hx : a[k]? = some a[k] := List.getElem?_eq_getElem (by omega)
      rcases Nat.eq_or_lt_of_le h2 with h5 | h5
      · have hF : E = false := by
          rw [h3, decide_eq_false_iff_not]
          intro hh
          have := congrArg List.length hh
          simp at this; omega
        rw [hF]
        conv => whnf
        repeat' (first | ((first | refine zs1 ?_ | refine zs2 ?_ | refine zs3 ?_ | refine zs4 ?_ | refine zs5 ?_ | refine zs6 [] ?_); conv => whnf) | ((first | apply zi1 | apply zi2 | apply zi3 | apply zi4 | apply zi5) <;> intro _ <;> conv => whnf))
        · exact VOut.same rfl
        all_goals omega
      · have hy : b[k]? = some b[k] := List.getElem?_eq_getElem h5
        rw [drop_eq_dec hx hy] at h3
        generalize a[k] = x at hx h3
        generalize b[k] = y at hy h3
        conv => whnf
        repeat' (first | ((first | refine zs1 ?_ | refine zs2 ?_ | refine zs3 ?_ | refine zs4 ?_ | refine zs5 ?_ | refine zs6 [] ?_); conv => whnf) | ((first | apply zi1 | apply zi2 | apply zi3 | apply zi4 | apply zi5) <;> intro _ <;> conv => whnf) | (refine VAny.ix encI_len k rfl rfl hx ?_; conv => whnf) | (refine VAny.ix encI_len k rfl rfl hy ?_; conv => whnf))
        all_goals (try omega)
        all_goals first
          | (rw [decide_eq_false (ne_I (by first | assumption | omega)), Bool.false_and] at h3; rw [h3]; exact VOut.same rfl)
          | (rw [decide_eq_true (eq_I (by first | assumption | omega)), Bool.true_and] at h3
             refine LEnd.intro (k + 1) ⟨by omega, by omega, h3⟩ (by omega) ?_
             conv => whnf
             refine Retell.turn ⟨[], 0, [], []⟩ (TurnOk.mk' _ _ [] [] (OutOk.lift _) rfl (by decide) zb trivial trivial rfl) zv zm)
    · have hk : k = a.length := by omega
      rw [h3, hk, List.drop_length]
      conv => whnf
      repeat' (first | ((first | refine zs1 ?_ | refine zs2 ?_ | refine zs3 ?_ | refine zs4 ?_ | refine zs5 ?_ | refine zs6 [] ?_); conv => whnf) | ((first | apply zi1 | apply zi2 | apply zi3 | apply zi4 | apply zi5) <;> intro _ <;> conv => whnf))
      refine VOut.same ?_
      have : ((a.length : Int) == b.length) = decide ([] = b.drop a.length) := by
        rw [Bool.eq_iff_iff, decide_eq_true_eq, beq_iff_eq]
        constructor
        · intro hh; rw [List.drop_of_length_le (by omega)]
        · intro hh
          have := congrArg List.length hh
          simp at this; omega
      simp only [V.ren, this]
theorem eqI (l : List Int) (h : Hp) (hl : l.length ≤ 4000000) : VC Tryz.prog 17 [ints l, ints l] h (B true) h := by
  have := vc_equalI l l h hl hl
  rw [decide_eq_true rfl] at this; exact this
end Go.Proofs.YtlgdkljiilbooaaGreat.Bt

open Go.Vm
namespace Go.Vm
theorem VOut.setF {h : Hp} {loc : List Blk} {i : Id} {b0 : Blk} {l : List D} {rw : Bool} {r : V} {L : Nat} (hL : Nat.ble loc.length L = true) (hb : h.get i = some b0) (hr : ∀ ρ, r.ren ρ = r) : VOut h ⟨outW h.lift i (.flat rw l), loc⟩ r r (h.set i (.flat rw l)) := by
  have hd : ∀ p ∈ [(i, Blk.flat rw l)], h.get p.1 ≠ none := by
    intro p hp
    simp only [List.mem_cons, List.not_mem_nil, or_false] at hp
    subst hp; simp only; rw [hb]; simp
  have := VOut.upd (loc := loc) (r1 := r) (r := r) [(i, .flat rw l)] [] [] L hL hd (by simp) rfl (by intro k b hk; simp at hk) (fun σ x hx => by rw [hr]; exact hx) (outer := outW h.lift i (.flat rw l)) rfl
  have he : (h.sets [(i, Blk.flat rw l)]).pushes [] = h.set i (.flat rw l) := by simp [Hp.sets, Hp.pushes]
  rw [he] at this
  exact this
end Go.Vm
namespace Go.Proofs.YtlgdkljiilbooaaGreat.Bt
set_option maxRecDepth 20000
set_option maxHeartbeats 2000000

theorem vc_isNaN (x : Int) (h : Hp) : VC Tryz.prog 56 [I x] h (B false) h := by
  refine VC.body Tryz.func56 rfl Tryz.ntmps56 Tryz.call56 (h.grows_refl) rfl ?_; conv => whnf
  repeat' (first | ((first | refine zs1 ?_ | refine zs2 ?_ | refine zs3 ?_ | refine zs4 ?_ | refine zs5 ?_ | refine zs6 [] ?_); conv => whnf) | ((first | apply zi1 | apply zi2 | apply zi3 | apply zi4 | apply zi5) <;> intro _ <;> conv => whnf))
  refine VOut.same ?_
  simp [V.ren]
def cmpI (a b : Int) : Int := if a < b then -1 else if b < a then 1 else 0
theorem vc_Compare (a b : Int) (h : Hp) : VC Tryz.prog 39 [I a, I b] h (I (cmpI a b)) h := by
  unfold cmpI
  refine VC.body Tryz.func39 rfl Tryz.ntmps39 Tryz.call39 (h.grows_refl) rfl ?_; conv => whnf
  repeat' (first | ((first | refine zs1 ?_ | refine zs2 ?_ | refine zs3 ?_ | refine zs4 ?_ | refine zs5 ?_ | refine zs6 [] ?_); conv => whnf) | ((first | apply zi1 | apply zi2 | apply zi3 | apply zi4 | apply zi5) <;> intro _ <;> conv => whnf) | (refine VCall.intro (vc_isNaN _ _) ?_; conv => whnf))
  · rename_i h1; rw [if_pos h1]; exact VOut.same rfl
  · rename_i h1 h2; rw [if_neg h1, if_pos h2]; exact VOut.same rfl
  · rename_i h1 h2; rw [if_neg h1, if_neg h2]; exact VOut.same rfl
/-! ### Insertion -/
def posS (q : Int → Bool) (out : List Int) : Nat → Nat
  | 0 => 0
  | j + 1 => if q (out.getD j 0) then posS q out j else j + 1
theorem posS_le (q : Int → Bool) (out : List Int) : ∀ j, posS q out j ≤ j
  | 0 => Nat.le_refl _
  | j + 1 => by
    rw [posS]; split
    · exact Nat.le_succ_of_le (posS_le q out j)
    · exact Nat.le_refl _
def insS (q : Int → Bool) (out : List Int) (x : Int) : List Int := out.take (posS q out out.length) ++ x :: out.drop (posS q out out.length)
theorem insS_len (q : Int → Bool) (out : List Int) (x : Int) : (insS q out x).length = out.length + 1 := by
  have := posS_le q out out.length
  simp [insS]; omega
def midS (pre : List Int) (x : Int) (rest : List Int) (j : Nat) : List Int := pre.take j ++ x :: (pre.drop j ++ rest)
theorem midS_len {pre : List Int} {x : Int} {rest : List Int} {j : Nat} (hj : j ≤ pre.length) : (midS pre x rest j).length = pre.length + 1 + rest.length := by simp [midS]; omega
theorem midS_at {pre : List Int} {x : Int} {rest : List Int} {j : Nat} (hj : j ≤ pre.length) : (midS pre x rest j)[j]? = some x := by
  unfold midS
  have : (pre.take j).length = j := by simp; omega
  rw [List.getElem?_append_right (by omega), this, Nat.sub_self]; rfl
theorem midS_at1 {pre : List Int} {x : Int} {rest : List Int} {j : Nat} (hj : j + 1 ≤ pre.length) : (midS pre x rest (j + 1))[j]? = some (pre.getD j 0) := by
  unfold midS
  have : (pre.take (j + 1)).length = j + 1 := by simp; omega
  rw [List.getElem?_append_left (by omega), List.getElem?_take, if_pos (by omega), List.getElem?_eq_getElem (by omega)]
  simp [List.getD_eq_getElem?_getD, List.getElem?_eq_getElem (show j < pre.length by omega)]
theorem midS_swap {pre : List Int} {x : Int} {rest : List Int} {j : Nat} (hj : j + 1 ≤ pre.length) : ((midS pre x rest (j + 1)).set (j + 1) (pre.getD j 0)).set j x = midS pre x rest j := by
  have hp : pre[j]? = some pre[j] := List.getElem?_eq_getElem (by omega)
  have hd : pre.getD j 0 = pre[j] := by simp [List.getD_eq_getElem?_getD, hp]
  have h1 : (pre.take (j + 1)).length = j + 1 := by simp; omega
  have h2 : (pre.take j).length = j := by simp; omega
  unfold midS
  rw [List.set_append_right _ _ (by omega), h1, Nat.sub_self, List.set_cons_zero, List.take_add_one, hp, Option.toList, List.append_assoc, List.set_append_right _ _ (by omega), h2, Nat.sub_self]
  simp only [List.singleton_append, List.set_cons_zero, hd]
  rw [List.drop_eq_getElem_cons (show j < pre.length by omega)]
  rfl
theorem midS_end {q : Int → Bool} {pre : List Int} {x : Int} {rest : List Int} : midS pre x rest (posS q pre pre.length) = insS q pre x ++ rest := by simp [midS, insS]
theorem midS_top {pre : List Int} {x : Int} {rest : List Int} : midS pre x rest pre.length = pre ++ x :: rest := by simp [midS]
def isGo (q : Int → Int → Bool) (l : List Int) : Nat → List Int
  | 0 => []
  | m + 1 => insS (fun y => q (l.getD m 0) y) (isGo q l m) (l.getD m 0)
def isrt (q : Int → Int → Bool) (l : List Int) : List Int := isGo q l l.length
theorem isGo_len (q : Int → Int → Bool) (l : List Int) : ∀ m, (isGo q l m).length = m
  | 0 => rfl
  | m + 1 => by rw [isGo, insS_len, isGo_len q l m]
theorem insS_mem {q : Int → Bool} {out : List Int} {x y : Int} : y ∈ insS q out x ↔ y = x ∨ y ∈ out := by
  unfold insS
  rw [List.mem_append, List.mem_cons]
  have : y ∈ out ↔ y ∈ out.take (posS q out out.length) ∨ y ∈ out.drop (posS q out out.length) := by
    rw [← List.mem_append, List.take_append_drop]
  rw [this]
  constructor
  · rintro (h | h | h)
    · exact .inr (.inl h)
    · exact .inl h
    · exact .inr (.inr h)
  · rintro (h | h | h)
    · exact .inr (.inl h)
    · exact .inl h
    · exact .inr (.inr h)
theorem isGo_mem {q : Int → Int → Bool} {l : List Int} : ∀ {m : Nat}, m ≤ l.length → ∀ y ∈ isGo q l m, y ∈ l
  | 0, _, y, h => by cases h
  | m + 1, hm, y, h => by
    rw [isGo] at h
    rcases insS_mem.1 h with rfl | h
    · have : l[m]? = some l[m] := List.getElem?_eq_getElem (by omega)
      rw [List.getD_eq_getElem?_getD, this]; exact List.getElem_mem _
    · exact isGo_mem (by omega) y h
theorem vc_isort (l : List Int) (q : Int → Int → Bool) (c : Int → Int → Int) (f : FuncId) (caps : List D) (i : Vm.Id) (h : Hp) (hb : h.get i = some (.flat true (l.flatMap Vm.encI))) (hn : l.length ≤ 4000000)
    (hc : ∀ a b, a ∈ l → b ∈ l → (∀ h, VC Tryz.prog f ([I a, I b] ++ D.vs caps) h (I (c a b)) h) ∧ (c a b < 0 ↔ q a b = true)) :
    VC Tryz.prog 67 [.gl i 1 l.length, I 0, I l.length, .func (.func f) [] (D.vs caps)] h (.tuple []) (h.set i (.flat true ((isrt q l).flatMap Vm.encI))) := by
  have hlift : h.lift i = some (.flat true (l.flatMap Vm.encI)) := get_out hb []
  refine VC.body Tryz.func67 rfl Tryz.ntmps67 Tryz.call67 (h.grows_set _ _) rfl ?_
  conv => whnf
  rw [rens_dvs]
  repeat (first | ((first | refine zs1 ?_ | refine zs2 ?_ | refine zs3 ?_ | refine zs4 ?_ | refine zs5 ?_ | refine zs6 [] ?_); conv => whnf))
  refine VCode.lpo (fun x : Nat × List Int => [(0, .gl (.out i) 1 l.length), (1, I 0), (2, I l.length), (3, .func (.func f) [] (D.vs caps)), (8, I x.1)]) (fun x => outW h.lift i (.flat true (x.2.flatMap Vm.encI))) (fun _ => []) (fun x => (x.1 ≤ l.length ∧ x.2 = isGo q l x.1 ++ l.drop x.1) ∨ (l = [] ∧ x = (1, []))) (fun x => l.length - x.1) (1, l) ?_ (outW_id hlift) ?_ ?_
  · rcases Nat.eq_zero_or_pos l.length with hz | hz
    · have := List.length_eq_zero_iff.1 hz
      subst this; exact .inr ⟨rfl, rfl⟩
    · left
      refine ⟨hz, ?_⟩
      cases l with
      | nil => cases hz
      | cons a r => simp [isGo, insS, posS]
  · conv => whnf
    refine Retell.turn ⟨[], 0, [], []⟩ (TurnOk.mk' _ _ [] [] (OutOk.outW (OutOk.lift _) rfl) rfl (by decide) zb trivial trivial rfl) zv zm
  · rintro ⟨m, w⟩ hm
    conv => whnf
    repeat (first | ((first | refine zs1 ?_ | refine zs2 ?_ | refine zs3 ?_ | refine zs4 ?_ | refine zs5 ?_ | refine zs6 [] ?_); conv => whnf))
    refine VIte.dec (fun h3 => ?_) (fun h3 => ?_)
    · dsimp only at h3
      obtain ⟨hm1, hw⟩ : m ≤ l.length ∧ w = isGo q l m ++ l.drop m := by
        rcases hm with h | ⟨h1, h2⟩
        · exact h
        · exfalso; subst h1; cases h2; simp at h3
      have hx : l[m]? = some l[m] := List.getElem?_eq_getElem (by omega)
      have hxm : l[m] ∈ l := List.getElem_mem _
      have hgd : l.getD m 0 = l[m] := by simp [List.getD_eq_getElem?_getD, hx]
      have hpl := isGo_len q l m
      have hpm := isGo_mem (q := q) (l := l) hm1
      have hnext : isGo q l (m + 1) = insS (fun y => q l[m] y) (isGo q l m) l[m] := by rw [isGo, hgd]
      rw [List.drop_eq_getElem_cons (by omega)] at hw
      generalize l[m] = x at hx hxm hw hnext
      generalize isGo q l m = pre at hw hpl hpm hnext
      generalize hrest : l.drop (m + 1) = rest at hw
      have hrl : rest.length = l.length - (m + 1) := by rw [← hrest]; simp
      subst hw
      conv => whnf
      repeat (first | ((first | refine zs1 ?_ | refine zs2 ?_ | refine zs3 ?_ | refine zs4 ?_ | refine zs5 ?_ | refine zs6 [] ?_); conv => whnf))
      refine VCode.lpo (fun j : Nat => [(0, .gl (.out i) 1 l.length), (1, I 0), (2, I l.length), (3, .func (.func f) [] (D.vs caps)), (8, I m), (9, I j)]) (fun j => outW h.lift i (.flat true ((midS pre x rest j).flatMap Vm.encI))) (fun _ => []) (fun j => j ≤ m ∧ posS (fun y => q x y) pre m = posS (fun y => q x y) pre j) (fun j => j) m ⟨Nat.le_refl _, rfl⟩ (by rw [← hpl, midS_top]) ?_ ?_
      · conv => whnf
        refine Retell.turn ⟨[], 0, [], []⟩ (TurnOk.mk' _ _ [] [] (OutOk.outW (OutOk.lift _) rfl) rfl (by decide) zb trivial trivial rfl) zv zm
      · rintro j ⟨hj, hpos⟩
        have fin : ∀ (_ : posS (fun y => q x y) pre j = j), midS pre x rest j = isGo q l (m + 1) ++ l.drop (m + 1) := fun hp => by
          rw [hnext, hrest, ← midS_end, hpl, hpos, hp]
        cases j with
        | zero =>
          conv => whnf
          repeat' (first | ((first | refine zs1 ?_ | refine zs2 ?_ | refine zs3 ?_ | refine zs4 ?_ | refine zs5 ?_ | refine zs6 [] ?_); conv => whnf) | ((first | apply zi1 | apply zi2 | apply zi3 | apply zi4 | apply zi5) <;> intro _ <;> conv => whnf))
          all_goals try (exfalso; omega)
          refine LEndO.intro (m + 1, isGo q l (m + 1) ++ l.drop (m + 1)) (.inl ⟨by dsimp only; omega, rfl⟩) (by dsimp only; omega) (by rw [fin rfl]) ?_
          conv => whnf
          refine Retell.turn ⟨[], 0, [], []⟩ (TurnOk.mk' _ _ [] [] (OutOk.outW (OutOk.lift _) rfl) rfl (by decide) zb trivial trivial rfl) zv zm
        | succ j =>
          have ha := midS_at (pre := pre) (x := x) (rest := rest) (j := j + 1) (by omega)
          have hb1 := midS_at1 (pre := pre) (x := x) (rest := rest) (j := j) (by omega)
          have hsw := midS_swap (pre := pre) (x := x) (rest := rest) (j := j) (by omega)
          have hps : posS (fun y => q x y) pre (j + 1) = if q x (pre.getD j 0) then posS (fun y => q x y) pre j else j + 1 := rfl
          have hym : pre.getD j 0 ∈ l := by
            have : pre[j]? = some pre[j] := List.getElem?_eq_getElem (by omega)
            rw [List.getD_eq_getElem?_getD, this]
            exact hpm _ (List.getElem_mem _)
          obtain ⟨hc1, hc2⟩ := hc x (pre.getD j 0) hxm hym
          have hlm := midS_len (pre := pre) (x := x) (rest := rest) (j := j + 1) (by omega)
          have hset : ((midS pre x rest (j + 1)).set (j + 1) (pre.getD j 0))[j]? = some (pre.getD j 0) := by rw [List.getElem?_set_ne (by omega)]; exact hb1
          generalize pre.getD j 0 = y at ha hb1 hsw hps hym hc1 hc2 hset
          generalize midS pre x rest (j + 1) = w at ha hb1 hsw hlm hset fin
          generalize c x y = r at hc1 hc2
          conv => whnf
          repeat' (first | ((first | refine zs1 ?_ | refine zs2 ?_ | refine zs3 ?_ | refine zs4 ?_ | refine zs5 ?_ | refine zs6 [] ?_); conv => whnf) | ((first | apply zi1 | apply zi2 | apply zi3 | apply zi4 | apply zi5) <;> intro _ <;> conv => whnf) | (refine VLd.recc encI_len (j + 1) 0 rfl rfl (outW_get _ _ _ _) ha (by decide) rfl (by simp only [Nat.zero_add, Nat.mul_one]; omega) ?_; conv => whnf) | (refine VLd.recc encI_len j 0 rfl rfl (outW_get _ _ _ _) hb1 (by decide) rfl (by simp only [Nat.zero_add, Nat.mul_one]; omega) ?_; conv => whnf) | (refine VCall.intro (hc1 _) ?_; conv => whnf))
          all_goals try (exfalso; omega)
          · rename_i hr
            rw [if_pos (hc2.1 hr)] at hps
            refine VMem.setRec encI_len (j + 1) 0 y rfl rfl (outW_get _ _ _ _) ha (by decide) rfl (by simp only [Nat.zero_add, Nat.mul_one]; omega) ?_
            conv => whnf
            repeat (first | ((first | refine zs1 ?_ | refine zs2 ?_ | refine zs3 ?_ | refine zs4 ?_ | refine zs5 ?_ | refine zs6 [] ?_); conv => whnf))
            refine VMem.setRec encI_len j 0 x rfl rfl (outW_get _ _ _ _) hset (by decide) rfl (by simp only [Nat.zero_add, Nat.mul_one]; omega) ?_
            conv => whnf
            repeat (first | ((first | refine zs1 ?_ | refine zs2 ?_ | refine zs3 ?_ | refine zs4 ?_ | refine zs5 ?_ | refine zs6 [] ?_); conv => whnf))
            refine LEndO.intro j ⟨by omega, by rw [hpos, hps]⟩ (by omega) (((outW_same (outW _ _ _) _ _ _).trans (outW_same _ _ _ _)).trans (by rw [hsw])) ?_
            conv => whnf
            refine Retell.turn ⟨[], 0, [], []⟩ (TurnOk.mk' _ _ [] [] (OutOk.outW (OutOk.lift _) rfl) rfl (by decide) zb trivial trivial rfl) zv zm
          · rename_i hr
            rw [if_neg (fun hq => hr (hc2.2 hq))] at hps
            refine LEndO.intro (m + 1, isGo q l (m + 1) ++ l.drop (m + 1)) (.inl ⟨by dsimp only; omega, rfl⟩) (by dsimp only; omega) (by rw [fin hps]) ?_
            conv => whnf
            refine Retell.turn ⟨[], 0, [], []⟩ (TurnOk.mk' _ _ [] [] (OutOk.outW (OutOk.lift _) rfl) rfl (by decide) zb trivial trivial rfl) zv zm
    · have hw : w = isrt q l := by
        rcases hm with ⟨h1, h2⟩ | ⟨h1, h2⟩
        · dsimp only at h1 h2 h3
          have : m = l.length := by omega
          rw [h2, this, List.drop_of_length_le (Nat.le_refl _), List.append_nil]; rfl
        · cases h2; subst h1; rfl
      subst hw
      conv => whnf
      repeat (first | ((first | refine zs1 ?_ | refine zs2 ?_ | refine zs3 ?_ | refine zs4 ?_ | refine zs5 ?_ | refine zs6 [] ?_); conv => whnf))
      exact VOut.setF (L := 0) rfl hb fun _ => rfl
theorem isrt_len (q : Int → Int → Bool) (l : List Int) : (isrt q l).length = l.length := isGo_len q l _
theorem vc_stable (l : List Int) (q : Int → Int → Bool) (c : Int → Int → Int) (f : FuncId) (caps : List D) (i : Vm.Id) (h : Hp) (hb : h.get i = some (.flat true (l.flatMap Vm.encI))) (hn : l.length ≤ 19)
    (hc : ∀ a b, a ∈ l → b ∈ l → (∀ h, VC Tryz.prog f ([I a, I b] ++ D.vs caps) h (I (c a b)) h) ∧ (c a b < 0 ↔ q a b = true)) :
    VC Tryz.prog 55 [.gl i 1 l.length, I l.length, .func (.func f) [] (D.vs caps)] h (.tuple []) (h.set i (.flat true ((isrt q l).flatMap Vm.encI))) := by
  have hs := fun (i : Vm.Id) (h : Hp) hh => vc_isort l q c f caps i h hh (by omega) hc
  refine VC.body Tryz.func55 rfl Tryz.ntmps55 Tryz.call55 (h.grows_set _ _) rfl ?_
  conv => whnf
  rw [rens_dvs]
  repeat (first | ((first | refine zs1 ?_ | refine zs2 ?_ | refine zs3 ?_ | refine zs4 ?_ | refine zs5 ?_ | refine zs6 [] ?_); conv => whnf))
  have hlift : h.lift i = some (.flat true (l.flatMap Vm.encI)) := get_out hb []
  refine VCode.lpo (fun _ : Unit => [(0, .gl (.out i) 1 l.length), (1, I l.length), (2, .func (.func f) [] (D.vs caps)), (6, I 20), (7, I 0), (8, I 20)]) (fun _ => h.lift) (fun _ => []) (fun _ => True) (fun _ => 0) () trivial rfl ?_ ?_
  · conv => whnf
    refine Retell.turn ⟨[], 0, [], []⟩ (TurnOk.mk' _ _ [] [] (OutOk.lift _) rfl (by decide) zb trivial trivial rfl) zv zm
  · rintro _ _
    conv => whnf
    repeat (first | ((first | refine zs1 ?_ | refine zs2 ?_ | refine zs3 ?_ | refine zs4 ?_ | refine zs5 ?_ | refine zs6 [] ?_); conv => whnf))
    refine VIte.dec (fun h3 => ?_) (fun h3 => ?_)
    · exfalso; omega
    · have h1 := hs (.out i) ⟨h.lift, []⟩ (get_out hb [])
      conv => whnf
      repeat' (first | ((first | refine zs1 ?_ | refine zs2 ?_ | refine zs3 ?_ | refine zs4 ?_ | refine zs5 ?_); conv => whnf) | ((first | apply zi1 | apply zi2 | apply zi3 | apply zi4 | apply zi5) <;> intro _ <;> conv => whnf) | (refine VCall.intro (h1) ?_; conv => whnf))
      refine VCode.lpo (fun _ : Unit => [(0, .gl (.out i) 1 l.length), (1, I l.length), (2, .func (.func f) [] (D.vs caps)), (6, I 20)]) (fun _ => outW h.lift i (.flat true ((isrt q l).flatMap Vm.encI))) (fun _ => []) (fun _ => True) (fun _ => 0) () trivial rfl ?_ ?_
      · conv => whnf
        refine Retell.turn ⟨[], 0, [], []⟩ (TurnOk.mk' _ _ [] [] (OutOk.outW (OutOk.lift _) rfl) rfl (by decide) zb trivial trivial rfl) zv zm
      · rintro _ _
        conv => whnf
        repeat (first | ((first | refine zs1 ?_ | refine zs2 ?_ | refine zs3 ?_ | refine zs4 ?_ | refine zs5 ?_ | refine zs6 [] ?_); conv => whnf))
        refine VIte.dec (fun h3 => ?_) (fun h3 => ?_)
        · exfalso; omega
        · conv => whnf
          exact VOut.setF (L := 0) rfl hb fun _ => rfl
theorem vc_sort (l : List Int) (q : Int → Int → Bool) (c : Int → Int → Int) (f : FuncId) (caps : List D) (i : Vm.Id) (h : Hp) (hb : h.get i = some (.flat true (l.flatMap Vm.encI))) (hn : l.length ≤ 19)
    (hc : ∀ a b, a ∈ l → b ∈ l → (∀ h, VC Tryz.prog f ([I a, I b] ++ D.vs caps) h (I (c a b)) h) ∧ (c a b < 0 ↔ q a b = true)) :
    VC Tryz.prog 37 [.gl i 1 l.length, .func (.func f) [] (D.vs caps)] h (.tuple []) (h.set i (.flat true ((isrt q l).flatMap Vm.encI))) := by
  have h1 := vc_stable l q c f caps (.out i) ⟨h.lift, []⟩ (get_out hb []) hn hc
  refine VC.body Tryz.func37 rfl Tryz.ntmps37 Tryz.call37 (h.grows_set _ _) rfl ?_
  conv => whnf
  rw [rens_dvs]
  repeat' (first | ((first | refine zs1 ?_ | refine zs2 ?_ | refine zs3 ?_ | refine zs4 ?_ | refine zs5 ?_); conv => whnf) | ((first | apply zi1 | apply zi2 | apply zi3 | apply zi4 | apply zi5) <;> intro _ <;> conv => whnf) | (refine VCall.intro (h1) ?_; conv => whnf))
  exact VOut.setF (L := 0) rfl hb fun _ => rfl
end Go.Proofs.YtlgdkljiilbooaaGreat.Bt

open Go.Vm
namespace Go.Proofs.YtlgdkljiilbooaaGreat.Bt
set_option maxRecDepth 20000
set_option maxHeartbeats 2000000

/-! ### The map of worths -/
abbrev AW := List (Int × Spn)
def esW (a : AW) : List (V × V) := a.map fun x => (I x.1, .agg [I x.2.lo, I x.2.hi])
def keysW (a : AW) : List D := a.map fun x => DI x.1
def valsW (a : AW) : List D := a.map fun x => .agg (encS x.2)
theorem esW_fst (a : AW) : (esW a).map (·.1) = (keysW a).map D.v := by simp only [esW, keysW, List.map_map]; rfl
theorem esW_snd (a : AW) : (esW a).map (·.2) = (valsW a).map D.v := by simp only [esW, valsW, List.map_map]; rfl
theorem esW_zip (a : AW) : (D.vs (keysW a)).zip (D.vs (valsW a)) = esW a := by
  rw [D.vs_eq, D.vs_eq, ← esW_fst, ← esW_snd]
  induction a with
  | nil => rfl
  | cons x a ih => simpa [esW] using ih
theorem esW_ren (a : AW) (ρ : Vm.Id → Vm.Id) : (Blk.map (esW a)).ren ρ = .map (esW a) := by
  unfold Blk.ren
  congr 1
  simp only [esW, List.map_map]
  rfl
theorem EsTo.esW {c : TCtx} (a : AW) : EsTo c (esW a) (keysW a) (valsW a) := ⟨by rw [esW_fst]; exact RowTo.dv c _, by rw [esW_snd]; exact RowTo.dv c _⟩
theorem top3 : eqTop Tryz.prog 3 = some Vm.Sh.int := by kernel_rfl
theorem veqI3 (x y : Int) : veqSh Vm.Sh.int (I x) (I y) = some (decide (x = y)) := by
  have : (x == y) = decide (x = y) := by rw [Bool.eq_iff_iff]; simp
  rw [← this]; rfl
def hasW (a : AW) (e : Int) : Bool := a.any fun x => decide (x.1 = e)
theorem foundW_none {a : AW} {e : Int} (h : hasW a e = false) : Vm.Found Vm.Sh.int (I e) (esW a) none := by
  intro j p hp
  simp only [esW, List.getElem?_map, Option.map_eq_some_iff] at hp
  obtain ⟨x, hx, rfl⟩ := hp
  simp only [veqI3]
  have : x ∈ a := List.mem_of_getElem? hx
  unfold hasW at h
  rw [List.any_eq_false] at h
  have := h x this
  simp only [decide_eq_true_eq] at this
  rw [decide_eq_false (fun e1 => this e1.symm)]
theorem foundW_some : ∀ {a : AW} {e : Int} {v : Spn}, (e, v) ∈ a → (∀ w, (e, w) ∈ a → w = v) → ∃ i, Vm.Found Vm.Sh.int (I e) (esW a) (some (i, .agg [I v.lo, I v.hi]))
  | [], e, v, h, _ => by cases h
  | x :: a, e, v, h, hu => by
    by_cases hx : x.1 = e
    · have : x.2 = v := hu x.2 (by rw [← hx]; simp)
      refine ⟨0, I x.1, by simp [esW, this], by rw [veqI3]; simp [hx], fun j p hj => by omega⟩
    · have h' : (e, v) ∈ a := by
        rcases List.mem_cons.1 h with rfl | h
        · exact absurd rfl hx
        · exact h
      obtain ⟨i, k0, h1, h2, h3⟩ := foundW_some h' fun w hw => hu w (List.mem_cons_of_mem _ hw)
      refine ⟨i + 1, k0, by simpa [esW] using h1, h2, fun j p hj hp => ?_⟩
      cases j with
      | zero =>
        simp only [esW, List.map_cons, List.getElem?_cons_zero, Option.some.injEq] at hp
        subst hp
        rw [veqI3, decide_eq_false (fun e1 => hx e1.symm)]
      | succ j => exact h3 j p (by omega) (by simpa [esW] using hp)
theorem VMem.newW {a : AW} {e : Int} {v : Spn} {h : Hp} {i : Vm.Id} {K : V → Hp → Prop} (hb : h.get i = some (.map (esW a))) (hf : hasW a e = false) (hK : K .undef (h.set i (.map (esW (a ++ [(e, v)]))))) : VMem Tryz.prog (opMapUpdate 86) [.map i, I e, .agg [I v.lo, I v.hi]] h K := by
  have : esW (a ++ [(e, v)]) = esW a ++ [(I e, .agg [I v.lo, I v.hi])] := by simp [esW]
  rw [this] at hK
  exact VMem.intro (does_mapNew (tiOf_ok _) (t := 86) rfl rfl top3 (by rw [veqI3]) (foundW_none hf) hb) hK
theorem look_esW {a : AW} {e : Int} {v : Spn} (h : (e, v) ∈ a) (hu : ∀ w, (e, w) ∈ a → w = v) : Look Tryz.prog (tiOf Tryz.prog) 86 false (I e) ((D.vs (keysW a)).zip (D.vs (valsW a))) (.agg [I v.lo, I v.hi]) := by
  rw [esW_zip]
  obtain ⟨i, hi⟩ := foundW_some h hu
  exact ⟨_, 3, 65, _, Vm.Sh.int, true, some (i, .agg [I v.lo, I v.hi]), rfl, rfl, top3, by rw [veqI3]; simp, hi, rfl⟩
def freeQ (l : Lnd) (i : Nat) : Bool := isFree (sAt l i)
def frL (l : Lnd) (k : Nat) : List Int := selS (freeQ l) k
def wOf (l : Lnd) (i : Int) : Spn := ⟨(sAt l i.toNat).no, (sAt l i.toNat).so⟩
def wMap (l : Lnd) (k : Nat) : AW := (frL l k).map fun i => (i, wOf l i)
def ahB (l : Lnd) (i j : Int) : Bool := fst2 (sAt l i.toNat) (sAt l j.toNat)
def ordL (l : Lnd) : List Int := isrt (ahB l) (frL l l.ss.length)
theorem mem_selS {q : Nat → Bool} {x : Int} : ∀ {k : Nat}, x ∈ selS q k ↔ ∃ j : Nat, j < k ∧ x = j ∧ q j = true
  | 0 => by simp [selS]
  | k + 1 => by
    rw [selS]
    split
    · rename_i h
      rw [List.mem_append, mem_selS, List.mem_singleton]
      constructor
      · rintro (⟨j, h1, h2, h3⟩ | rfl)
        · exact ⟨j, by omega, h2, h3⟩
        · exact ⟨k, by omega, rfl, h⟩
      · rintro ⟨j, h1, h2, h3⟩
        rcases Nat.lt_or_ge j k with h4 | h4
        · exact .inl ⟨j, h4, h2, h3⟩
        · right; rw [h2, show j = k by omega]
    · rename_i h
      rw [mem_selS]
      constructor
      · rintro ⟨j, h1, h2, h3⟩; exact ⟨j, by omega, h2, h3⟩
      · rintro ⟨j, h1, h2, h3⟩
        refine ⟨j, ?_, h2, h3⟩
        rcases Nat.lt_or_ge j k with h4 | h4
        · exact h4
        · exact absurd (by rw [← show j = k by omega]; exact h3) h
theorem wMap_mem {l : Lnd} {k : Nat} {i : Int} (h : i ∈ frL l k) : (i, wOf l i) ∈ wMap l k ∧ ∀ w, (i, w) ∈ wMap l k → w = wOf l i := by
  refine ⟨List.mem_map.2 ⟨i, h, rfl⟩, fun w hw => ?_⟩
  obtain ⟨j, _, hj⟩ := List.mem_map.1 hw
  simp only [Prod.mk.injEq] at hj
  rw [← hj.2, hj.1]
theorem wMap_has {l : Lnd} {k : Nat} : hasW (wMap l k) (k : Int) = false := by
  unfold hasW
  rw [List.any_eq_false]
  intro x hx
  obtain ⟨j, hj, rfl⟩ := List.mem_map.1 hx
  obtain ⟨m, h1, h2, _⟩ := mem_selS.1 hj
  simp only [decide_eq_true_eq]; omega
theorem vc_cmp (l : Lnd) (o : Ok l) (a b : Int) (h : Hp) (ha : a ∈ frL l l.ss.length) (hb : b ∈ frL l l.ss.length) :
    VC Tryz.prog 38 [I a, I b, .fp [.mp (keysW (wMap l l.ss.length)) (valsW (wMap l l.ss.length))]] h (I (cmpI ((wOf l b).lo * (wOf l a).hi - (wOf l b).hi * (wOf l a).lo) 0)) h := by
  obtain ⟨a1, a2⟩ := wMap_mem ha
  obtain ⟨b1, b2⟩ := wMap_mem hb
  have hA := look_esW a1 a2
  have hB := look_esW b1 b2
  have ra : (1 ≤ (wOf l a).lo ∧ (wOf l a).lo ≤ 1000) ∧ 1 ≤ (wOf l a).hi ∧ (wOf l a).hi ≤ 1000 := by
    obtain ⟨m, h1, rfl, _⟩ := mem_selS.1 ha
    have hs : l.ss[m]? = some l.ss[m] := List.getElem?_eq_getElem h1
    have := o.ss _ (List.getElem_mem h1)
    unfold wOf; rw [Int.toNat_natCast, sAt_eq hs]; exact ⟨this.no, this.so⟩
  have rb : (1 ≤ (wOf l b).lo ∧ (wOf l b).lo ≤ 1000) ∧ 1 ≤ (wOf l b).hi ∧ (wOf l b).hi ≤ 1000 := by
    obtain ⟨m, h1, rfl, _⟩ := mem_selS.1 hb
    have hs : l.ss[m]? = some l.ss[m] := List.getElem?_eq_getElem h1
    have := o.ss _ (List.getElem_mem h1)
    unfold wOf; rw [Int.toNat_natCast, sAt_eq hs]; exact ⟨this.no, this.so⟩
  generalize wOf l a = A at hA ra
  generalize wOf l b = B' at hB rb
  have ca := fun h => vc_ahead B'.lo B'.hi A.lo A.hi h (by omega) (by omega) (by omega) (by omega)
  refine VC.body Tryz.func38 rfl Tryz.ntmps38 Tryz.call38 (h.grows_refl) rfl ?_; conv => whnf
  repeat' (first | ((first | refine zs1 ?_ | refine zs2 ?_ | refine zs3 ?_ | refine zs4 ?_ | refine zs5 ?_ | refine zs6 [] ?_); conv => whnf) | ((first | apply zi1 | apply zi2 | apply zi3 | apply zi4 | apply zi5) <;> intro _ <;> conv => whnf) | (refine VLookF.intro hA ?_; conv => whnf) | (refine VLookF.intro hB ?_; conv => whnf) | (refine VCall.intro (ca _) ?_; conv => whnf) | (refine VCall.intro (vc_Compare _ _ _) ?_; conv => whnf))
  exact VOut.same rfl
end Go.Proofs.YtlgdkljiilbooaaGreat.Bt

open Go.Vm
namespace Go.Proofs.YtlgdkljiilbooaaGreat.Bt
set_option maxRecDepth 20000
set_option maxHeartbeats 4000000

structure OJ (o : Vm.Id → Option Blk) (a : AW) (n : List Int) (g : Hp) : Prop where
  o : g.outer = o
  c : g.get (.loc 0) = some (.cells true [.map (.loc 1)])
  mp : g.get (.loc 1) = some (.map (esW a))
  li : ∃ m, (m = 3 ∨ 6 ≤ m) ∧ g.get (.loc 2) = some (.cells true [.gl (.loc m) 1 n.length]) ∧ g.get (.loc m) = some (.flat true (n.flatMap Vm.encI))
  mar : g.get (.loc 4) = some .mark
theorem updW_ok {g : Hp} {m : Nat} {a2 b2 : AW} {n2 : List Int} {b : Blk} (jb : g.get (.loc 2) = some (.cells true [.gl (.loc m) 1 n2.length])) (jm : g.get (.loc 1) = some (.map (esW a2))) (jl : g.get (.loc m) = some (.flat true (n2.flatMap Vm.encI))) :
    ∀ p ∈ [(Vm.Id.loc 1, Blk.map (esW b2)), (.loc m, .dead), (.loc 2, b)], g.get p.1 ≠ none := by
  intro p hp
  simp only [List.mem_cons, List.not_mem_nil, or_false] at hp
  rcases hp with rfl | rfl | rfl <;> simp only
  · rw [jm]; simp
  · rw [jl]; simp
  · rw [jb]; simp
theorem OJ.step {o : Vm.Id → Option Blk} {a2 : AW} {n2 : List Int} {e : Int} {v : Spn} {g : Hp} {m : Nat} (jo : g.outer = o) (jc : g.get (.loc 0) = some (.cells true [.map (.loc 1)])) (jm : g.get (.loc 1) = some (.map (esW a2)))
    (jb : g.get (.loc 2) = some (.cells true [.gl (.loc m) 1 n2.length])) (jl : g.get (.loc m) = some (.flat true (n2.flatMap Vm.encI))) (jk : g.get (.loc 4) = some .mark) (hm : m = 3 ∨ 6 ≤ m) {b5 : Blk} (j5 : g.get (.loc 5) = some b5) :
    g.grows ((g.sets [(.loc 1, .map (esW (a2 ++ [(e, v)]))), (.loc m, .dead), (.loc 2, .cells true [.gl g.fresh 1 (n2.length + 1)])]).pushes [.flat true ((n2 ++ [e]).flatMap Vm.encI)]) ∧
    OJ o (a2 ++ [(e, v)]) (n2 ++ [e]) ((g.sets [(.loc 1, .map (esW (a2 ++ [(e, v)]))), (.loc m, .dead), (.loc 2, .cells true [.gl g.fresh 1 (n2.length + 1)])]).pushes [.flat true ((n2 ++ [e]).flatMap Vm.encI)]) ∧
    ∀ b, g.get (.loc 5) = some b → ((g.sets [(.loc 1, .map (esW (a2 ++ [(e, v)]))), (.loc m, .dead), (.loc 2, .cells true [.gl g.fresh 1 (n2.length + 1)])]).pushes [.flat true ((n2 ++ [e]).flatMap Vm.encI)]).get (.loc 5) = some b := by
  obtain ⟨go, gl⟩ := g
  simp only [Hp.get] at jc jm jb jl jk j5
  have l5 := (List.getElem?_eq_some_iff.1 j5).1
  have l0 := (List.getElem?_eq_some_iff.1 jc).1
  have l1 := (List.getElem?_eq_some_iff.1 jm).1
  have l2 := (List.getElem?_eq_some_iff.1 jb).1
  have l4 := (List.getElem?_eq_some_iff.1 jk).1
  have key : ∀ x, x < gl.length → x ≠ 1 → x ≠ m → x ≠ 2 → ∀ (A B C N : Blk), ((((gl.set 1 A).set m B).set 2 C) ++ [N])[x]? = gl[x]? := by
    intro x hx h1 h2 h3 A B C N
    rw [List.getElem?_append_left (by simpa using hx), List.getElem?_set_ne (Ne.symm h3), List.getElem?_set_ne (Ne.symm h2), List.getElem?_set_ne (Ne.symm h1)]
  refine ⟨Hp.grows_sets (updW_ok (g := ⟨go, gl⟩) jb jm jl), ⟨jo, ?_, ?_, ⟨gl.length, .inr (by omega), ?_, ?_⟩, ?_⟩, fun b hb => ?_⟩
  · show (_ ++ _)[_]? = _
    exact (key 0 l0 (by omega) (by omega) (by omega) _ _ _ _).trans jc
  · show ((((gl.set 1 _).set m _).set 2 _) ++ [_])[1]? = _
    rw [List.getElem?_append_left (by simpa using l1), List.getElem?_set_ne (show (2 : Nat) ≠ 1 by omega), List.getElem?_set_ne (show m ≠ 1 by omega), List.getElem?_set_self l1]
  · show ((((gl.set 1 _).set m _).set 2 _) ++ [_])[2]? = _
    rw [List.getElem?_append_left (by simpa using l2), List.getElem?_set_self (by simpa using l2)]
    simp [Hp.fresh]
  · show ((((gl.set 1 _).set m _).set 2 _) ++ [_])[gl.length]? = _
    rw [List.getElem?_append_right (by simp)]
    simp
  · show (_ ++ _)[_]? = _
    exact (key 4 l4 (by omega) (by omega) (by omega) _ _ _ _).trans jk
  · have hb : gl[5]? = some b := hb
    show (_ ++ _)[_]? = _
    exact (key 5 (List.getElem?_eq_some_iff.1 hb).1 (by omega) (by omega) (by omega) _ _ _ _).trans hb
theorem outer_fix {o : Vm.Id → Option Blk} {iy i1 i2 i3 : Vm.Id} {b0 b b1 b2 b3 : Blk} (h : o iy = some b) (n1 : iy ≠ i1) (n2 : iy ≠ i2) (n3 : iy ≠ i3) : outW (outW (outW (outW (outW o iy b0) i1 b1) i2 b2) i3 b3) iy b = outW (outW (outW o i1 b1) i2 b2) i3 b3 := by
  funext j
  unfold outW
  by_cases e : j = iy
  · subst e; rw [if_pos rfl, if_neg n3, if_neg n2, if_neg n1, h]
  · rw [if_neg e, if_neg e]
theorem cmpI_neg {x : Int} : cmpI x 0 < 0 ↔ x < 0 := by unfold cmpI; omega
theorem ahB_iff {l : Lnd} {a b : Int} : ahB l a b = true ↔ (wOf l b).lo * (wOf l a).hi - (wOf l b).hi * (wOf l a).lo < 0 := by
  unfold ahB fst2 wOf
  dsimp only
  rw [decide_eq_true_eq, Int.mul_comm (sAt l b.toNat).no, Int.mul_comm (sAt l b.toNat).so]
  omega
theorem vc_order (l : Lnd) (h : Hp) (o : Ok l) : VC Tryz.prog 21 [.fp (encN l)] h (ints (ordL l)) h := by
  have hn := o.n
  have hfl := selS_len (freeQ l) l.ss.length
  refine VC.body Tryz.func21 rfl Tryz.ntmps21 Tryz.call21 (h.grows_refl) rfl ?_; conv => whnf
  repeat' (first | ((first | refine zs1 ?_ | refine zs2 ?_ | refine zs3 ?_ | refine zs4 ?_ | refine zs5 ?_ | refine zs6 [] ?_); conv => whnf) | ((first | apply zi1 | apply zi2 | apply zi3 | apply zi4 | apply zi5) <;> intro _ <;> conv => whnf) | (refine VCall.intro (vc_free l _) ?_; conv => whnf))
  refine VCode.tell [(3, .ptr (.loc 2) 0), (4, .ptr (.loc 0) 0), (9, vFree l)] [.cells true [.map (.loc 1)], .map [], .cells true [.gl (.loc 3) 1 0], .flat true []] (marks' := []) ?_ ?_
  · conv => whnf
    refine Retell.turn ⟨[2, 1, 0, 3], 3, [], []⟩ (TurnOk.mk' _ _ [] [] (OutOk.lift _) rfl (by decide) (BTos.cells rfl rfl rfl zv (BTos.map rfl rfl (RowTo.nil _) (RowTo.nil _) (BTos.cells rfl rfl rfl zv (BTos.new rfl BTos.nil)))) trivial trivial rfl) zv zm
  · conv => whnf
    refine VCode.iterN l.ss.length (frY l) (fun k g => OJ h.lift (wMap l k) (frL l k) g) (fun _ _ => False) _ (.loc 5) rfl (iter_free l o) rfl rfl ⟨rfl, rfl, rfl, ⟨3, .inl rfl, rfl, rfl⟩, rfl⟩ ?_ ?_ ?_ ?_
    · rintro k g hk hy hJ
      have hs : l.ss[k]? = some l.ss[k] := List.getElem?_eq_getElem hk
      rw [frY_eq hs] at hy
      have hf : freeQ l k = false := by
        unfold freeQ
        rw [sAt_eq hs]
        cases hf : isFree l.ss[k]
        · rfl
        · rw [hf] at hy; cases hy
      have e1 : frL l (k + 1) = frL l k := by unfold frL; rw [selS, if_neg (by rw [hf]; decide)]
      unfold wMap at hJ ⊢
      rw [e1]; exact hJ
    · rintro k g vs hk hy hJ hlp
      have hs : l.ss[k]? = some l.ss[k] := List.getElem?_eq_getElem hk
      rw [frY_eq hs] at hy
      have es := sAt_eq hs
      have q1 := o.ss _ (List.getElem_mem hk)
      generalize l.ss[k] = s at hs hy es q1
      cases hft : isFree s
      · rw [hft] at hy; cases hy
      · rw [hft] at hy
        cases hy
        have hf : freeQ l k = true := by unfold freeQ; rw [es, hft]
        have e1 : frL l (k + 1) = frL l k ++ [(k : Int)] := by unfold frL; rw [selS, if_pos hf]
        have e2 : wMap l (k + 1) = wMap l k ++ [((k : Int), ⟨s.no, s.so⟩)] := by
          unfold wMap; rw [e1, List.map_append, List.map_cons, List.map_nil]; unfold wOf; rw [Int.toNat_natCast, es]
        have hh := wMap_has (l := l) (k := k)
        have hnl := selS_len (freeQ l) k
        have e3 : frL l k = selS (freeQ l) k := rfl
        rw [← e3] at hnl
        rw [e1, e2]
        generalize wMap l k = a2 at hJ hh
        generalize frL l k = n2 at hJ hnl
        obtain ⟨jo, jc, jm, ⟨m, hm, jb, jl⟩, jk⟩ := hJ
        have hm1 : Vm.Id.loc m ≠ .loc 1 := by intro h0; injection h0; omega
        have hm2 : Vm.Id.loc 2 ≠ .loc m := by intro h0; injection h0; omega
        have hm5 : Vm.Id.loc m ≠ .loc 5 := by intro h0; injection h0; omega
        have hm5' : Vm.Id.loc 5 ≠ .loc m := fun h0 => hm5 h0.symm
        obtain ⟨s1, s2, s3⟩ := OJ.step (e := (k : Int)) (v := ⟨s.no, s.so⟩) jo jc jm jb jl jk hm hlp
        refine Rnd.go hlp _ (s3 _ hlp) ?_ s2
        refine VRound.vy' hlp rfl rfl rfl s1 fun l0 => ?_
        refine VRound.tell [(3, .ptr (.out (.loc 2)) 0), (4, .ptr (.out (.loc 0)) 0), (10, I k), (11, aggT s)] ?_ ?_
        · conv => whnf
          refine Retell.turn ⟨[], 0, [], []⟩ (TurnOk.mk' _ _ [] [] (OutOk.lift _) rfl (by decide) zb trivial trivial rfl) zv zm
        · conv => whnf
          repeat (first | ((first | refine zs1 ?_ | refine zs2 ?_ | refine zs3 ?_ | refine zs4 ?_ | refine zs5 ?_ | refine zs6 [] ?_); conv => whnf))
          refine VBegin.intro (get_out hlp _) rfl ?_
          conv => whnf
          refine VDraw.go [(0, 3)] (by kernel_rfl) (by kernel_rfl) ?_
          conv => whnf
          refine VLd.cell rfl rfl (get_setO (by decide) jc _) rfl ?_
          conv => whnf
          repeat' (first | ((first | refine zs1 ?_ | refine zs2 ?_ | refine zs3 ?_ | refine zs4 ?_ | refine zs5 ?_); conv => whnf) | ((first | apply zi1 | apply zi2 | apply zi3 | apply zi4 | apply zi5) <;> intro _ <;> conv => whnf) | (refine VCall.intro (vc_worth s _) ?_; conv => whnf))
          refine VMem.newW (a := a2) (e := (k : Int)) (v := ⟨s.no, s.so⟩) ((get_setO (by decide) jm _).trans (by rw [esW_ren])) hh ?_
          conv => whnf
          repeat' (first | ((first | refine zs1 ?_ | refine zs2 ?_ | refine zs3 ?_ | refine zs4 ?_ | refine zs5 ?_); conv => whnf) | ((first | apply zi1 | apply zi2 | apply zi3 | apply zi4 | apply zi5) <;> intro _ <;> conv => whnf))
          refine VLd.cell rfl rfl (get_outNe (by decide) (get_setO (by decide) jb _)) rfl ?_
          conv => whnf
          repeat (first | ((first | refine zs1 ?_ | refine zs2 ?_ | refine zs3 ?_ | refine zs4 ?_ | refine zs5 ?_ | refine zs6 [] ?_); conv => whnf))
          refine VMem.app1B (α := Int) (l := n2) (k : Int) encI_len rfl (get_outNe hm1 (get_setO hm5 jl _)) rfl rfl rfl (by omega) ?_
          conv => whnf
          repeat (first | ((first | refine zs1 ?_ | refine zs2 ?_ | refine zs3 ?_ | refine zs4 ?_ | refine zs5 ?_ | refine zs6 [] ?_); conv => whnf))
          refine VMem.st1 rfl rfl rfl (b := .cells true [.gl (.out (.loc m)) 1 n2.length]) (get_outNe hm2 (get_outNe (by decide) (get_setO (by decide) jb _))) rfl ?_
          conv => whnf
          refine RFin.on (get_outNe (by decide) (get_outNe hm5' (get_outNe (by decide) (outW_get _ _ _ _)))) ?_
          refine VOut.upd [(.loc 1, .map (esW (a2 ++ [((k : Int), ⟨s.no, s.so⟩)]))), (.loc m, .dead), (.loc 2, .cells true [.gl g.fresh 1 (n2.length + 1)])] [.flat true ((n2 ++ ([(k : Int)] : List Int)).flatMap Vm.encI)] [2] 3 ?_ (updW_ok jb jm jl) ?_ ?_ ?_ ?_ ?_
          · rfl
          · decide
          · rfl
          · intro k b hk
            cases k with
            | zero => rw [List.getElem?_cons_zero, Option.some.injEq] at hk; subst hk; exact ⟨2, rfl, rfl⟩
            | succ k => simp at hk
          · intro σ x hx; exact hx
          · have e1 : (Blk.cells true [V.gl g.fresh 1 (n2.length + 1)]).ren (backR g.loc.length [2] 3) = .cells true [.gl (.loc 2) 1 (n2.length + 1)] := by simp [Blk.ren, V.ren, backR, Hp.fresh]
            simp only [List.map_cons, List.map_nil, e1, esW_ren]
            exact outer_fix (get_out hlp []) (by decide) hm5' (by decide)
    · rintro g hJ hlp
      have hs := fun (i : Vm.Id) (h : Hp) hh => vc_sort (frL l l.ss.length) (ahB l) (fun a b => cmpI ((wOf l b).lo * (wOf l a).hi - (wOf l b).hi * (wOf l a).lo) 0) 38 [.pt [.mp (keysW (wMap l l.ss.length)) (valsW (wMap l l.ss.length))]] i h hh (by show (selS _ _).length ≤ 19; omega)
        (fun a b ha hb => ⟨fun h => vc_cmp l o a b h ha hb, (cmpI_neg (x := (wOf l b).lo * (wOf l a).hi - (wOf l b).hi * (wOf l a).lo)).trans ahB_iff.symm⟩)
      have hol : (ordL l).length = (frL l l.ss.length).length := isrt_len _ _
      have e : isrt (ahB l) (frL l l.ss.length) = ordL l := rfl
      rw [e] at hs
      generalize wMap l l.ss.length = a2 at hJ hs
      generalize frL l l.ss.length = n2 at hJ hs hol
      obtain ⟨go, gl⟩ := g
      obtain ⟨jo, jc, jm, ⟨m, hm, jb, jl⟩, jk⟩ := hJ
      dsimp only at jo
      subst jo
      simp only [Hp.get] at jc jm jb jl jk
      have l0 := (List.getElem?_eq_some_iff.1 jc).1
      have l1 := (List.getElem?_eq_some_iff.1 jm).1
      have l2 := (List.getElem?_eq_some_iff.1 jb).1
      have lm := (List.getElem?_eq_some_iff.1 jl).1
      have key : ∀ (x : Nat) (A : Blk), x ≠ 5 → (gl.set 5 A)[x]? = gl[x]? := fun x A hx => List.getElem?_set_ne (Ne.symm hx)
      refine Told.mk [(3, .ptr (.loc 0) 0), (4, .fp [.mp (keysW a2) (valsW a2)])] [.cells true [.gl (.loc 1) 1 n2.length], .flat true (n2.flatMap Vm.encI)] (marks' := []) ?_ ?_
      · conv => whnf
        have hmn : ([2, m] : List Nat).Nodup := by simp; omega
        have hm4 : 4 ∉ ([2, m] : List Nat) := by simp; omega
        have ho : outsOk [(0, [D.mp (keysW a2) (valsW a2)])] [(1, keysW a2, valsW a2)] [2, m] [.cells true [.gl (.loc 1) 1 n2.length], .flat true (n2.flatMap Vm.encI)] = true := by
          have h9 : ∀ m' : Nat, outsOk [(0, [D.mp (keysW a2) (valsW a2)])] [(1, keysW a2, valsW a2)] [2, m' + 2] [.cells true [.gl (.loc 1) 1 n2.length], .flat true (n2.flatMap Vm.encI)] = true := fun _ => rfl
          have := h9 (m - 2)
          rw [show m - 2 + 2 = m by omega] at this
          exact this
        refine Retell.turn ⟨[2, m], gl.length, [(0, [.mp (keysW a2) (valsW a2)])], [(1, keysW a2, valsW a2)]⟩ (TurnOk.mk' _ _ [(0, [.mp (keysW a2) (valsW a2)])] [(1, keysW a2, valsW a2)] (OutOk.lift _) (Nat.ble_eq_true_of_le (by simp)) hmn
          (BTos.cells (blt_of l2) ((key 2 _ (by omega)).trans jb) rfl zv (BTos.flat (blt_of lm) ((key m _ (by omega)).trans jl) rfl BTos.nil))
          (FzAll.row ((key 0 _ (by omega)).trans jc) rfl (RowTo.vtos (VTos.cons (VTo.fmMap rfl) VTos.nil)) FzAll.nil) ⟨⟨esW a2, ((key 1 _ (by omega)).trans jm), EsTo.esW a2⟩, trivial⟩ ho) zv
          (MkTo.drop hm4 ((key 4 _ (by omega)).trans jk) MkTo.nil)
      · conv => whnf
        repeat' (first | ((first | refine zs1 ?_ | refine zs2 ?_ | refine zs3 ?_ | refine zs4 ?_ | refine zs5 ?_); conv => whnf) | ((first | apply zi1 | apply zi2 | apply zi3 | apply zi4 | apply zi5) <;> intro _ <;> conv => whnf) | (refine VCall.intro (hs _ _ rfl) ?_; conv => whnf))
        rw [← hol]
        refine VOut.data 2 [(1, (ordL l).flatMap Vm.encI)] [] rfl zf (by exact FmAll.nil) zv
    · rintro e g _ hF
      exact hF.elim
end Go.Proofs.YtlgdkljiilbooaaGreat.Bt

open Go.Vm
namespace Go.Proofs.YtlgdkljiilbooaaGreat.Bt
set_option maxRecDepth 20000
set_option maxHeartbeats 4000000

theorem vc_Order_ok (l : Lnd) (h : Hp) (o : Ok l) : VC Tryz.prog 13 [vL l] h (.tuple [ints (ordL l), I 0]) h := by
  refine VC.body Tryz.func13 rfl Tryz.ntmps13 Tryz.call13 (h.grows_refl) rfl ?_; conv => whnf
  repeat' (first | ((first | refine zs1 ?_ | refine zs2 ?_ | refine zs3 ?_ | refine zs4 ?_ | refine zs5 ?_ | refine zs6 [] ?_); conv => whnf) | ((first | apply zi1 | apply zi2 | apply zi3 | apply zi4 | apply zi5) <;> intro _ <;> conv => whnf) | (refine VCall.intro (vc_opened_ok l _ o) ?_; conv => whnf) | (refine VCall.intro (vc_order l _ o) ?_; conv => whnf))
  exact VOut.same rfl
/-! ### Exchanges by order -/
def prt (l : Lnd) (f : List Int) (c n w : Int) (i : Nat) : Int := if (i : Int) = c then n else if (i : Int) ∈ f then w else bif freeQ l i then 0 else (1 - (sAt l i).ow) * w
def exL (l : Lnd) (f : List Int) (c n w : Int) : List Int := (List.range l.ss.length).map (prt l f c n w)
theorem exL_len (l : Lnd) (f : List Int) (c n w : Int) : (exL l f c n w).length = l.ss.length := by simp [exL]
theorem exL_at {l : Lnd} {f : List Int} {c n w : Int} {i : Nat} (h : i < l.ss.length) : (exL l f c n w)[i]? = some (prt l f c n w i) := by simp [exL, h]
theorem exL_ext {l : Lnd} {f : List Int} {c n w : Int} {L : List Int} (hl : L.length = l.ss.length) (h : ∀ j, j < l.ss.length → L[j]? = some (prt l f c n w j)) : L = exL l f c n w := by
  apply List.ext_getElem?
  intro j
  rcases Nat.lt_or_ge j l.ss.length with hj | hj
  · rw [h j hj, exL_at hj]
  · rw [List.getElem?_eq_none (by rw [hl]; exact hj), List.getElem?_eq_none (by rw [exL_len]; exact hj)]
theorem exL_set {l : Lnd} {f : List Int} {n w : Int} {i : Nat} (h : i < l.ss.length) : (exL l f (-1) n w).set i w = exL l (f ++ [(i : Int)]) (-1) n w := by
  refine exL_ext (by rw [List.length_set, exL_len]) fun j hj => ?_
  have hj1 : ¬ ((j : Int) = -1) := by omega
  rw [List.getElem?_set, exL_len, exL_at hj]
  unfold prt
  rw [if_neg hj1, if_neg hj1]
  by_cases e : i = j
  · subst e; rw [if_pos rfl, if_pos hj, if_pos (by simp)]
  · have : (j : Int) ∈ f ++ [(i : Int)] ↔ (j : Int) ∈ f := by simp; omega
    rw [if_neg e]
    simp only [this]
theorem exL_cut {l : Lnd} {f : List Int} {n m w : Int} {i : Nat} (h : i < l.ss.length) : (exL l f (-1) m w).set i n = exL l f i n w := by
  refine exL_ext (by rw [List.length_set, exL_len]) fun j hj => ?_
  have hj1 : ¬ ((j : Int) = -1) := by omega
  rw [List.getElem?_set, exL_len, exL_at hj]
  unfold prt
  rw [if_neg hj1]
  by_cases e : i = j
  · subst e; rw [if_pos rfl, if_pos hj, if_pos rfl]
  · have hji : ¬ ((j : Int) = (i : Int)) := by omega
    rw [if_neg e, if_neg hji]
theorem exL_irr (l : Lnd) (f : List Int) (n m w : Int) : exL l f (-1) n w = exL l f (-1) m w := by
  unfold exL
  refine List.map_congr_left fun i _ => ?_
  have hi : ¬ ((i : Int) = -1) := by omega
  unfold prt
  rw [if_neg hi, if_neg hi]
def mixL (A B : List Int) (k : Nat) : List Int := A.take k ++ B.drop k
theorem mixL_at {A B : List Int} {k : Nat} (hAB : A.length = B.length) (hk : k < B.length) : (mixL A B k)[k]? = B[k]? := by
  unfold mixL
  have : (A.take k).length = k := by simp; omega
  rw [List.getElem?_append_right (by omega), this, Nat.sub_self, List.getElem?_drop]; simp
theorem mixL_set {A B : List Int} {k : Nat} {a : Int} (hAB : A.length = B.length) (ha : A[k]? = some a) : (mixL A B k).set k a = mixL A B (k + 1) := by
  obtain ⟨hlt, e⟩ := List.getElem?_eq_some_iff.1 ha
  unfold mixL
  have h1 : (A.take k).length = k := by simp; omega
  rw [List.set_append_right _ _ (by omega), h1, Nat.sub_self, List.drop_eq_getElem_cons (by omega : k < B.length), List.set_cons_zero, List.take_add_one, ha]
  simp
theorem mixL_len {A B : List Int} {k : Nat} (hAB : A.length = B.length) (hk : k ≤ B.length) : (mixL A B k).length = B.length := by unfold mixL; simp; omega
theorem tmod_nat (a b : Nat) : (a : Int).tmod b = ((a % b : Nat) : Int) := by
  rw [Int.tmod_eq_emod_of_nonneg (by omega)]; rfl
theorem tdiv_nat (a b : Nat) : (a : Int).tdiv b = ((a / b : Nat) : Int) := by
  rw [Int.tdiv_eq_ediv_of_nonneg (by omega)]; rfl
theorem vc_given (l : Lnd) (f : List Int) (c : Int) (n w : Nat) (h : Hp) (o : Ok l) (hf : ∀ x ∈ f, ∃ j : Nat, j < l.ss.length ∧ x = j) (hfl : f.length ≤ 4000000) (hc : c = -1 ∨ ∃ j : Nat, j < l.ss.length ∧ c = j) (hw : 0 < w) (hw2 : w ≤ 2000) (hnb : n ≤ 1000000) :
    VC Tryz.prog 23 [.fp (encN l), ints f, I c, I n, I w] h (vX ⟨(w / Nat.gcd n w : Nat), exL l f c (n / Nat.gcd n w : Nat) (w / Nat.gcd n w : Nat)⟩) h := by
  have hn := o.n
  obtain ⟨G, hG⟩ : ∃ G, G = Nat.gcd n w := ⟨_, rfl⟩
  rw [← hG]
  have hGp : 0 < G := by rw [hG]; exact Nat.gcd_pos_of_pos_right _ hw
  have hc1 := fun h => vc_now l h o
  refine VC.body Tryz.func23 rfl Tryz.ntmps23 Tryz.call23 (h.grows_refl) rfl ?_; conv => whnf
  repeat' (first | ((first | refine zs1 ?_ | refine zs2 ?_ | refine zs3 ?_ | refine zs4 ?_ | refine zs5 ?_ | refine zs6 [] ?_); conv => whnf) | ((first | apply zi1 | apply zi2 | apply zi3 | apply zi4 | apply zi5) <;> intro _ <;> conv => whnf))
  refine VCode.lp (fun x : Nat × Nat => [(0, .fp (encN l)), (1, ints f), (2, I c), (3, I n), (4, I w), (10, .ptr (.loc 0) 0), (11, I x.1), (12, I x.2)]) (fun _ => [.flat true [DI 0, .nilslice]]) (fun x => Nat.gcd x.1 x.2 = G ∧ x.1 ≤ 1000000 ∧ x.2 ≤ 1000000) (fun x => x.2) (n, w) ⟨hG.symm, hnb, by dsimp only; omega⟩ ?_ ?_
  · conv => whnf
    refine Retell.turn ⟨[0], 1, [], []⟩ (TurnOk.mk' _ _ [] [] (OutOk.lift _) rfl (by decide) zb trivial trivial rfl) zv zm
  · rintro ⟨a, b⟩ ⟨hab, ha1, hb1⟩
    dsimp only at hab ha1 hb1
    conv => whnf
    refine VIte.bne (fun h3 => ?_) (fun h3 => ?_)
    · have hb0 : 0 < b := by dsimp only at h3; omega
      have hml := Nat.mod_lt a hb0
      have hm2 : a % b ≤ 1000000 := by omega
      have hmm : Nat.gcd b (a % b) = G := by rw [← hab, Nat.gcd_comm b, ← Nat.gcd_rec, Nat.gcd_comm]
      have ht := tmod_nat a b
      conv => whnf
      repeat' (first | ((first | refine zs1 ?_ | refine zs2 ?_ | refine zs3 ?_ | refine zs4 ?_ | refine zs5 ?_ | refine zs6 [] ?_); conv => whnf) | ((first | apply zi1 | apply zi2 | apply zi3 | apply zi4 | apply zi5) <;> intro _ <;> conv => whnf))
      refine LEnd.intro (b, a % b) ⟨hmm, by dsimp only; omega, by dsimp only; omega⟩ (by dsimp only; omega) ?_
      conv => whnf
      rw [ht]
      refine Retell.turn ⟨[0], 1, [], []⟩ (TurnOk.mk' _ _ [] [] (OutOk.lift _) rfl (by decide) zb trivial trivial rfl) zv zm
    · have hb0 : b = 0 := by dsimp only at h3; omega
      subst hb0
      rw [Nat.gcd_zero_right] at hab
      subst hab
      have t1 := tdiv_nat n a
      have t2 := tdiv_nat w a
      obtain ⟨N, hN⟩ : ∃ N, N = n / a := ⟨_, rfl⟩
      obtain ⟨M, hM⟩ : ∃ M, M = w / a := ⟨_, rfl⟩
      rw [← hN] at t1
      rw [← hM] at t2
      rw [← hN, ← hM]
      have hM2 : M ≤ 2000 := by rw [hM]; exact Nat.le_trans (Nat.div_le_self _ _) hw2
      conv => whnf
      repeat' (first | ((first | refine zs1 ?_ | refine zs2 ?_ | refine zs3 ?_ | refine zs4 ?_ | refine zs5 ?_ | refine zs6 [] ?_); conv => whnf) | ((first | apply zi1 | apply zi2 | apply zi3 | apply zi4 | apply zi5) <;> intro _ <;> conv => whnf))
      have hN2 : N ≤ 1000000 := by rw [hN]; exact Nat.le_trans (Nat.div_le_self _ _) hnb
      rw [t1, t2, wrap_i64 (n := (N : Int)) (by omega), wrap_i64 (n := (M : Int)) (by omega)]
      refine VMem.make (n := l.ss.length) (0 : Int) encI_len rfl rfl rfl rfl rfl rfl (by omega) ?_
      conv => whnf
      repeat' (first | ((first | refine zs1 ?_ | refine zs2 ?_ | refine zs3 ?_ | refine zs4 ?_ | refine zs5 ?_); conv => whnf) | ((first | apply zi1 | apply zi2 | apply zi3 | apply zi4 | apply zi5) <;> intro _ <;> conv => whnf))
      refine VDraw.go [(1, 3)] (by kernel_rfl) (by kernel_rfl) ?_
      conv => whnf
      repeat' (first | ((first | refine zs1 ?_ | refine zs2 ?_ | refine zs3 ?_ | refine zs4 ?_ | refine zs5 ?_); conv => whnf) | ((first | apply zi1 | apply zi2 | apply zi3 | apply zi4 | apply zi5) <;> intro _ <;> conv => whnf) | (refine VCall.intro (hc1 _) ?_; conv => whnf))
      refine VMem.copyFs (l := List.replicate l.ss.length (0 : Int)) (l2 := nowP l) encI_len rfl rfl (by simp) rfl (nowP_len l).symm ?_
      conv => whnf
      repeat' (first | ((first | refine zs1 ?_ | refine zs2 ?_ | refine zs3 ?_ | refine zs4 ?_ | refine zs5 ?_); conv => whnf) | ((first | apply zi1 | apply zi2 | apply zi3 | apply zi4 | apply zi5) <;> intro _ <;> conv => whnf))
      have hAB : (exL l [] (-1) 0 (M : Int)).length = (nowP l).length := by rw [exL_len, nowP_len]
      refine VCode.lp (fun k : Nat => [(0, .fp (encN l)), (1, ints f), (2, I c), (3, I N), (4, I M), (10, .ptr (.loc 0) 0), (13, .ptr (.loc 2) 0), (48, I l.ss.length), (49, I k)])
        (fun k => [.flat true [DI 0, .nilslice], .flat true ((mixL (exL l [] (-1) 0 (M : Int)) (nowP l) k).flatMap Vm.encI), .cells true [I M, .gl (.loc 1) 1 l.ss.length]]) (fun k => k ≤ l.ss.length) (fun k => l.ss.length - k) 0 (Nat.zero_le _) ?_ ?_
      · conv => whnf
        refine Retell.turn ⟨[0,1,2], 3, [], []⟩ (TurnOk.mk' _ _ [] [] (OutOk.lift _) rfl (by decide) zb trivial trivial rfl) zv zm
      · intro k hk
        conv => whnf
        refine VIte.dec (fun h4 => ?_) (fun h4 => ?_)
        · have hs : l.ss[k]? = some l.ss[k] := List.getElem?_eq_getElem (by omega)
          have q1 := o.ss _ (List.getElem_mem (by omega : k < l.ss.length))
          have es := sAt_eq hs
          have hx1 : (mixL (exL l [] (-1) 0 (M : Int)) (nowP l) k)[k]? = some (1 - l.ss[k].ow) := by rw [mixL_at hAB (by rw [nowP_len]; omega)]; simp [nowP, hs]
          have hx2 := exL_at (l := l) (f := []) (c := -1) (n := 0) (w := (M : Int)) (i := k) (by omega)
          have hx3 := mixL_set hAB hx2
          have hml := mixL_len (k := k) hAB (by rw [nowP_len]; omega)
          rw [nowP_len] at hml
          have hcb := fun h => vc_bound l k h (by omega)
          rw [bdAt_eq hs] at hcb
          have hpr : prt l [] (-1) 0 (M : Int) k = bif isFree l.ss[k] then 0 else (1 - l.ss[k].ow) * (M : Int) := by
            have hk1 : ¬ ((k : Int) = -1) := by omega
            unfold prt freeQ
            rw [if_neg hk1, if_neg (by simp), es]
          rw [hpr] at hx3
          generalize l.ss[k] = s at hs q1 hx1 hx3 hcb
          have q2 := q1.ow
          have m1 := mul_le (a := 1 - s.ow) (b := (M : Int)) (A := 1) (B := 2000) (by omega) (by omega)
          conv => whnf
          repeat' (first | ((first | refine zs1 ?_ | refine zs2 ?_ | refine zs3 ?_ | refine zs4 ?_ | refine zs5 ?_); conv => whnf) | ((first | apply zi1 | apply zi2 | apply zi3 | apply zi4 | apply zi5) <;> intro _ <;> conv => whnf) | (refine VLd.recc encI_len k 0 rfl rfl rfl hx1 (by decide) rfl (by simp) ?_; conv => whnf))
          refine VMem.setRec encI_len k 0 ((1 - s.ow) * (M : Int)) rfl rfl rfl hx1 (by decide) rfl (by simp) ?_
          conv => whnf
          cases hfr : isFree s
          · rw [hfr] at hcb hx3
            rw [cond_false] at hx3
            repeat' (first | ((first | refine zs1 ?_ | refine zs2 ?_ | refine zs3 ?_ | refine zs4 ?_ | refine zs5 ?_); conv => whnf) | ((first | apply zi1 | apply zi2 | apply zi3 | apply zi4 | apply zi5) <;> intro _ <;> conv => whnf) | (refine VCall.intro (hcb _) ?_; conv => whnf))
            refine LEnd.intro (k + 1) (by omega) (by omega) ?_
            conv => whnf
            rw [hx3]
            refine Retell.turn ⟨[0,1,2], 3, [], []⟩ (TurnOk.mk' _ _ [] [] (OutOk.lift _) rfl (by decide) zb trivial trivial rfl) zv zm
          · rw [hfr] at hcb hx3
            rw [cond_true] at hx3
            have hx4 : ((mixL (exL l [] (-1) 0 (M : Int)) (nowP l) k).set k ((1 - s.ow) * (M : Int)))[k]? = some ((1 - s.ow) * (M : Int)) := by rw [List.getElem?_set_self (by omega)]
            have hx5 : ((mixL (exL l [] (-1) 0 (M : Int)) (nowP l) k).set k ((1 - s.ow) * (M : Int))).set k 0 = (mixL (exL l [] (-1) 0 (M : Int)) (nowP l) k).set k 0 := by rw [List.set_set]
            repeat' (first | ((first | refine zs1 ?_ | refine zs2 ?_ | refine zs3 ?_ | refine zs4 ?_ | refine zs5 ?_); conv => whnf) | ((first | apply zi1 | apply zi2 | apply zi3 | apply zi4 | apply zi5) <;> intro _ <;> conv => whnf) | (refine VCall.intro (hcb _) ?_; conv => whnf))
            refine VMem.setRec encI_len k 0 (0 : Int) rfl rfl rfl hx4 (by decide) rfl (by simp) ?_
            conv => whnf
            repeat' (first | ((first | refine zs1 ?_ | refine zs2 ?_ | refine zs3 ?_ | refine zs4 ?_ | refine zs5 ?_); conv => whnf) | ((first | apply zi1 | apply zi2 | apply zi3 | apply zi4 | apply zi5) <;> intro _ <;> conv => whnf))
            refine LEnd.intro (k + 1) (by omega) (by omega) ?_
            conv => whnf
            rw [hx5, hx3]
            refine Retell.turn ⟨[0,1,2], 3, [], []⟩ (TurnOk.mk' _ _ [] [] (OutOk.lift _) rfl (by decide) zb trivial trivial rfl) zv zm
        · have he : mixL (exL l [] (-1) 0 (M : Int)) (nowP l) k = exL l [] (-1) 0 (M : Int) := by
            unfold mixL
            rw [List.take_of_length_le (by rw [exL_len]; omega), List.drop_of_length_le (by rw [nowP_len]; omega), List.append_nil]
          rw [he]
          conv => whnf
          repeat' (first | ((first | refine zs1 ?_ | refine zs2 ?_ | refine zs3 ?_ | refine zs4 ?_ | refine zs5 ?_); conv => whnf) | ((first | apply zi1 | apply zi2 | apply zi3 | apply zi4 | apply zi5) <;> intro _ <;> conv => whnf))
          refine VCode.lp (fun k : Nat => [(2, I c), (3, I N), (4, I M), (10, .ptr (.loc 0) 0), (13, .ptr (.loc 2) 0), (69, ints f), (70, I f.length), (71, I k)])
            (fun k => [.flat true [DI 0, .nilslice], .flat true ((exL l (f.take k) (-1) 0 (M : Int)).flatMap Vm.encI), .cells true [I M, .gl (.loc 1) 1 l.ss.length]]) (fun k => k ≤ f.length) (fun k => f.length - k) 0 (Nat.zero_le _) ?_ ?_
          · conv => whnf
            refine Retell.turn ⟨[0,1,2], 3, [], []⟩ (TurnOk.mk' _ _ [] [] (OutOk.lift _) rfl (by decide) zb trivial trivial rfl) zv zm
          · intro k hk
            conv => whnf
            refine VIte.dec (fun h5 => ?_) (fun h5 => ?_)
            · have hx : f[k]? = some f[k] := List.getElem?_eq_getElem (by omega)
              obtain ⟨j, hj1, hj2⟩ := hf _ (List.getElem_mem (by omega : k < f.length))
              rw [hj2] at hx
              have hat := exL_at (l := l) (f := f.take k) (c := -1) (n := 0) (w := (M : Int)) hj1
              have hst := exL_set (l := l) (f := f.take k) (n := 0) (w := (M : Int)) hj1
              have htk : f.take k ++ [(j : Int)] = f.take (k + 1) := by rw [List.take_add_one, hx]; rfl
              rw [htk] at hst
              conv => whnf
              repeat' (first | ((first | refine zs1 ?_ | refine zs2 ?_ | refine zs3 ?_ | refine zs4 ?_ | refine zs5 ?_); conv => whnf) | ((first | apply zi1 | apply zi2 | apply zi3 | apply zi4 | apply zi5) <;> intro _ <;> conv => whnf) | (refine VAny.ix encI_len k rfl rfl hx ?_; conv => whnf))
              refine VMem.setRec encI_len j 0 (M : Int) rfl rfl rfl hat (by decide) rfl (by simp) ?_
              conv => whnf
              repeat' (first | ((first | refine zs1 ?_ | refine zs2 ?_ | refine zs3 ?_ | refine zs4 ?_ | refine zs5 ?_); conv => whnf) | ((first | apply zi1 | apply zi2 | apply zi3 | apply zi4 | apply zi5) <;> intro _ <;> conv => whnf))
              refine LEnd.intro (k + 1) (by omega) (by omega) ?_
              conv => whnf
              rw [hst]
              refine Retell.turn ⟨[0,1,2], 3, [], []⟩ (TurnOk.mk' _ _ [] [] (OutOk.lift _) rfl (by decide) zb trivial trivial rfl) zv zm
            · have hkf : f.take k = f := List.take_of_length_le (by omega)
              rw [hkf]
              rcases hc with rfl | ⟨j, hj1, rfl⟩
              · have hel := exL_len l f (-1) (N : Int) (M : Int)
                rw [exL_irr l f 0 (N : Int) (M : Int), show l.ss.length = (exL l f (-1) (N : Int) (M : Int)).length from hel.symm]
                conv => whnf
                repeat' (first | ((first | refine zs1 ?_ | refine zs2 ?_ | refine zs3 ?_ | refine zs4 ?_ | refine zs5 ?_ | refine zs6 [] ?_); conv => whnf) | ((first | apply zi1 | apply zi2 | apply zi3 | apply zi4 | apply zi5) <;> intro _ <;> conv => whnf))
                refine VOut.data 3 [(1, (exL l f (-1) (N : Int) (M : Int)).flatMap Vm.encI)] [] rfl zf (by exact FmAll.nil) zv
              · have hat := exL_at (l := l) (f := f) (c := -1) (n := 0) (w := (M : Int)) hj1
                have hst := exL_cut (l := l) (f := f) (n := (N : Int)) (m := 0) (w := (M : Int)) hj1
                have hel := exL_len l f (j : Int) (N : Int) (M : Int)
                conv => whnf
                repeat' (first | ((first | refine zs1 ?_ | refine zs2 ?_ | refine zs3 ?_ | refine zs4 ?_ | refine zs5 ?_ | refine zs6 [] ?_); conv => whnf) | ((first | apply zi1 | apply zi2 | apply zi3 | apply zi4 | apply zi5) <;> intro _ <;> conv => whnf))
                all_goals try (exfalso; omega)
                refine VMem.setRec encI_len j 0 (N : Int) rfl rfl rfl hat (by decide) rfl (by simp) ?_
                conv => whnf
                repeat' (first | ((first | refine zs1 ?_ | refine zs2 ?_ | refine zs3 ?_ | refine zs4 ?_ | refine zs5 ?_ | refine zs6 [] ?_); conv => whnf) | ((first | apply zi1 | apply zi2 | apply zi3 | apply zi4 | apply zi5) <;> intro _ <;> conv => whnf))
                rw [hst, show l.ss.length = (exL l f (j : Int) (N : Int) (M : Int)).length from hel.symm]
                refine VOut.data 3 [(1, (exL l f (j : Int) (N : Int) (M : Int)).flatMap Vm.encI)] [] rfl zf (by exact FmAll.nil) zv
end Go.Proofs.YtlgdkljiilbooaaGreat.Bt

open Go.Vm
namespace Go.Proofs.YtlgdkljiilbooaaGreat.Bt
set_option maxRecDepth 20000
set_option maxHeartbeats 4000000
theorem ord_mem {l : Lnd} {x : Int} (h : x ∈ ordL l) : ∃ j : Nat, j < l.ss.length ∧ x = j ∧ freeQ l j = true := by
  have := isGo_mem (q := ahB l) (l := frL l l.ss.length) (Nat.le_refl _) x h
  exact mem_selS.1 this
theorem ord_len (l : Lnd) : (ordL l).length ≤ l.ss.length := by
  have : (ordL l).length = (frL l l.ss.length).length := isrt_len _ _
  rw [this]; exact selS_len _ _
def cutC (l : Lnd) (many : Nat) : Int := (ordL l).getD many (-1)
end Go.Proofs.YtlgdkljiilbooaaGreat.Bt

