/- Part 4 of the proof that SilenceOwners returns true for every file and every owner. No condition. -/
import Derived.Test.YtolnajnlcdacmaaO3
set_option linter.unusedVariables false
set_option linter.unusedSimpArgs false
open Go.Vm
namespace Go.Proofs.Ytolnajnlcdacmaa
set_option maxRecDepth 20000
set_option maxHeartbeats 1000000

def minL : List Int → Int
  | [] => 0
  | a :: r => r.foldl min a
def maxL : List Int → Int
  | [] => 0
  | a :: r => r.foldl max a
theorem fold_snoc (g : Int → Int → Int) {l : List Int} {k : Nat} {x : Int} (a : Int) (hx : l[k]? = some x) : (l.take (k + 1)).foldl g a = g ((l.take k).foldl g a) x := by
  rw [List.take_add_one, hx]; simp
theorem vc_Min (a : Int) (r : List Int) (h : Hp) (hl : r.length ≤ 200000000) : VC Try.prog 86 [ints (a :: r)] h (I (minL (a :: r))) h := by
  have h0 : (a :: r)[0]? = some a := rfl
  have hle : (a :: r).length = r.length + 1 := rfl
  rw [minL]
  refine VC.body Try.func86 rfl Try.ntmps86 Try.call86 (h.grows_refl) rfl ?_; conv => whnf
  repeat' (first | (refine VLd.intro rfl ?_; conv => whnf) | (refine VArith.i64 (by omega) ?_; conv => whnf) | (refine VNeed.intro (by first | rfl | (simp; omega)) ?_; conv => whnf) | (refine VMem.store rfl rfl rfl rfl ?_; conv => whnf) | (refine VSame.intro rfl ?_; conv => whnf) | (refine VDraw.go [] (by kernel_rfl) (by kernel_rfl) ?_; conv => whnf) | (refine VIte.dec (fun _ => ?_) (fun _ => ?_) <;> conv => whnf) | (refine VIte.ndec (fun _ => ?_) (fun _ => ?_) <;> conv => whnf) | (refine VIte.beq (fun _ => ?_) (fun _ => ?_) <;> conv => whnf) | (refine VIte.bne (fun _ => ?_) (fun _ => ?_) <;> conv => whnf) | (refine VIte.intro (fun _ => ?_) (fun _ => ?_) <;> conv => whnf) | (refine VAny.ix encI_len 0 (by omega) rfl h0 ?_; conv => whnf))
  refine VCode.lp (fun k : Nat => [(0, ints (a :: r)), (3, I ((r.take k).foldl min a)), (4, I (k + 1 : Nat))]) (fun _ => []) (fun k => k ≤ r.length) (fun k => r.length - k) 0 (Nat.zero_le _) ?_ ?_
  · conv => whnf
    refine Retell.turn ⟨[], 0, [], []⟩ (TurnOk.mk' _ _ [] [] (OutOk.lift _) rfl (by decide) (by repeat' (first | exact BTos.nil | refine BTos.flat rfl rfl (by first | rfl | simp) ?_ | refine BTos.new rfl ?_ | refine BTos.dead rfl rfl ?_ | refine BTos.esE rfl rfl ?_ | refine BTos.row rfl rfl rfl (RowTo.snoc (RowTo.one rfl (by simp))) ?_ | refine BTos.cells rfl rfl rfl (by repeat' (first | exact VTo.undef | exact FrTo.leaf | refine FrTo.node ?_ ?_ ?_ | refine FrTo.none ?_ ?_ | exact VTo.sc (by first | rfl | (congr 1; omega) | (congr 1; simp; omega)) | exact VTos_dv _ _ | refine VTos.cons ?_ ?_ | exact VTos.nil | refine VTo.agg ?_ | refine VTo.tuple ?_ | refine VTo.func ?_ ?_ | exact VTo.fs | exact VTo.fp | exact VTo.nilptr | exact VTo.nilslice | exact VTo.nilfunc | exact VTo.ptr rfl | exact VTo.gl rfl | exact VTo.map rfl | exact VTo.yld rfl | exact VTo.fmMap rfl | exact VTo.fm | exact VTo.glNil' (by decide) rfl rfl | exact VTo.fsNil (by decide) | exact VTo.fsSl rfl rfl (by simp [flat_len encE_len]) | exact VTo.fpPtr rfl | exact VTo.fsGl rfl (by first | rfl | exact flat_len encI_len _ | exact flat_len encS_len _ | exact flat_len encP_len _ | exact flat_len encL_len _ | exact flat_len encE_len _ | (simp [flat_len encP_len]; done) | simp [flat_len encI_len, flat_len encS_len]))) ?_)) trivial trivial rfl) (by repeat' (first | exact VTo.undef | exact FrTo.leaf | refine FrTo.node ?_ ?_ ?_ | refine FrTo.none ?_ ?_ | exact VTo.sc (by first | rfl | (congr 1; omega) | (congr 1; simp; omega)) | exact VTos_dv _ _ | refine VTos.cons ?_ ?_ | exact VTos.nil | refine VTo.agg ?_ | refine VTo.tuple ?_ | refine VTo.func ?_ ?_ | exact VTo.fs | exact VTo.fp | exact VTo.nilptr | exact VTo.nilslice | exact VTo.nilfunc | exact VTo.ptr rfl | exact VTo.gl rfl | exact VTo.map rfl | exact VTo.yld rfl | exact VTo.fmMap rfl | exact VTo.fm | exact VTo.glNil' (by decide) rfl rfl | exact VTo.fsNil (by decide) | exact VTo.fsSl rfl rfl (by simp [flat_len encE_len]) | exact VTo.fpPtr rfl | exact VTo.fsGl rfl (by first | rfl | exact flat_len encI_len _ | exact flat_len encS_len _ | exact flat_len encP_len _ | exact flat_len encL_len _ | exact flat_len encE_len _ | (simp [flat_len encP_len]; done) | simp [flat_len encI_len, flat_len encS_len]))) (by first | rfl | (repeat' (first | exact MkTo.nil | refine MkTo.keep rfl ?_ | refine MkTo.drop (by decide) rfl ?_)))
  · rintro k hk
    conv => whnf
    refine VIte.dec (fun h3 => ?_) (fun h3 => ?_)
    · have hx : r[k]? = some r[k] := List.getElem?_eq_getElem (by omega)
      have hf := fold_snoc min a hx
      generalize r[k] = x at hx hf
      have hx' : (a :: r)[k + 1]? = some x := hx
      conv => whnf
      repeat' (first | (refine VLd.intro rfl ?_; conv => whnf) | (refine VArith.i64 (by omega) ?_; conv => whnf) | (refine VNeed.intro (by first | rfl | (simp; omega)) ?_; conv => whnf) | (refine VMem.store rfl rfl rfl rfl ?_; conv => whnf) | (refine VSame.intro rfl ?_; conv => whnf) | (refine VDraw.go [] (by kernel_rfl) (by kernel_rfl) ?_; conv => whnf) | (refine VIte.dec (fun _ => ?_) (fun _ => ?_) <;> conv => whnf) | (refine VIte.ndec (fun _ => ?_) (fun _ => ?_) <;> conv => whnf) | (refine VIte.beq (fun _ => ?_) (fun _ => ?_) <;> conv => whnf) | (refine VIte.bne (fun _ => ?_) (fun _ => ?_) <;> conv => whnf) | (refine VIte.intro (fun _ => ?_) (fun _ => ?_) <;> conv => whnf) | (refine VAny.ix encI_len (k + 1) (by omega) rfl hx' ?_; conv => whnf))
      refine LEnd.intro (k + 1) (by omega) (by omega) ?_
      conv => whnf
      rw [hf]
      refine Retell.turn ⟨[], 0, [], []⟩ (TurnOk.mk' _ _ [] [] (OutOk.lift _) rfl (by decide) (by repeat' (first | exact BTos.nil | refine BTos.flat rfl rfl (by first | rfl | simp) ?_ | refine BTos.new rfl ?_ | refine BTos.dead rfl rfl ?_ | refine BTos.esE rfl rfl ?_ | refine BTos.row rfl rfl rfl (RowTo.snoc (RowTo.one rfl (by simp))) ?_ | refine BTos.cells rfl rfl rfl (by repeat' (first | exact VTo.undef | exact FrTo.leaf | refine FrTo.node ?_ ?_ ?_ | refine FrTo.none ?_ ?_ | exact VTo.sc (by first | rfl | (congr 1; omega) | (congr 1; simp; omega)) | exact VTos_dv _ _ | refine VTos.cons ?_ ?_ | exact VTos.nil | refine VTo.agg ?_ | refine VTo.tuple ?_ | refine VTo.func ?_ ?_ | exact VTo.fs | exact VTo.fp | exact VTo.nilptr | exact VTo.nilslice | exact VTo.nilfunc | exact VTo.ptr rfl | exact VTo.gl rfl | exact VTo.map rfl | exact VTo.yld rfl | exact VTo.fmMap rfl | exact VTo.fm | exact VTo.glNil' (by decide) rfl rfl | exact VTo.fsNil (by decide) | exact VTo.fsSl rfl rfl (by simp [flat_len encE_len]) | exact VTo.fpPtr rfl | exact VTo.fsGl rfl (by first | rfl | exact flat_len encI_len _ | exact flat_len encS_len _ | exact flat_len encP_len _ | exact flat_len encL_len _ | exact flat_len encE_len _ | (simp [flat_len encP_len]; done) | simp [flat_len encI_len, flat_len encS_len]))) ?_)) trivial trivial rfl) (by repeat' (first | exact VTo.undef | exact FrTo.leaf | refine FrTo.node ?_ ?_ ?_ | refine FrTo.none ?_ ?_ | exact VTo.sc (by first | rfl | (congr 1; omega) | (congr 1; simp; omega)) | exact VTos_dv _ _ | refine VTos.cons ?_ ?_ | exact VTos.nil | refine VTo.agg ?_ | refine VTo.tuple ?_ | refine VTo.func ?_ ?_ | exact VTo.fs | exact VTo.fp | exact VTo.nilptr | exact VTo.nilslice | exact VTo.nilfunc | exact VTo.ptr rfl | exact VTo.gl rfl | exact VTo.map rfl | exact VTo.yld rfl | exact VTo.fmMap rfl | exact VTo.fm | exact VTo.glNil' (by decide) rfl rfl | exact VTo.fsNil (by decide) | exact VTo.fsSl rfl rfl (by simp [flat_len encE_len]) | exact VTo.fpPtr rfl | exact VTo.fsGl rfl (by first | rfl | exact flat_len encI_len _ | exact flat_len encS_len _ | exact flat_len encP_len _ | exact flat_len encL_len _ | exact flat_len encE_len _ | (simp [flat_len encP_len]; done) | simp [flat_len encI_len, flat_len encS_len]))) (by first | rfl | (repeat' (first | exact MkTo.nil | refine MkTo.keep rfl ?_ | refine MkTo.drop (by decide) rfl ?_)))
    · conv => whnf
      repeat (first | (refine VLd.intro rfl ?_; conv => whnf) | (refine VArith.i64 (by omega) ?_; conv => whnf) | (refine VNeed.intro (by first | rfl | (simp; omega)) ?_; conv => whnf) | (refine VMem.store rfl rfl rfl rfl ?_; conv => whnf) | (refine VSame.intro rfl ?_; conv => whnf) | (refine VDraw.go [] (by kernel_rfl) (by kernel_rfl) ?_; conv => whnf))
      rw [List.take_of_length_le (by omega)]
      exact VOut.same rfl
theorem vc_Max (a : Int) (r : List Int) (h : Hp) (hl : r.length ≤ 200000000) : VC Try.prog 65 [ints (a :: r)] h (I (maxL (a :: r))) h := by
  have h0 : (a :: r)[0]? = some a := rfl
  have hle : (a :: r).length = r.length + 1 := rfl
  rw [maxL]
  refine VC.body Try.func65 rfl Try.ntmps65 Try.call65 (h.grows_refl) rfl ?_; conv => whnf
  repeat' (first | (refine VLd.intro rfl ?_; conv => whnf) | (refine VArith.i64 (by omega) ?_; conv => whnf) | (refine VNeed.intro (by first | rfl | (simp; omega)) ?_; conv => whnf) | (refine VMem.store rfl rfl rfl rfl ?_; conv => whnf) | (refine VSame.intro rfl ?_; conv => whnf) | (refine VDraw.go [] (by kernel_rfl) (by kernel_rfl) ?_; conv => whnf) | (refine VIte.dec (fun _ => ?_) (fun _ => ?_) <;> conv => whnf) | (refine VIte.ndec (fun _ => ?_) (fun _ => ?_) <;> conv => whnf) | (refine VIte.beq (fun _ => ?_) (fun _ => ?_) <;> conv => whnf) | (refine VIte.bne (fun _ => ?_) (fun _ => ?_) <;> conv => whnf) | (refine VIte.intro (fun _ => ?_) (fun _ => ?_) <;> conv => whnf) | (refine VAny.ix encI_len 0 (by omega) rfl h0 ?_; conv => whnf))
  refine VCode.lp (fun k : Nat => [(0, ints (a :: r)), (3, I ((r.take k).foldl max a)), (4, I (k + 1 : Nat))]) (fun _ => []) (fun k => k ≤ r.length) (fun k => r.length - k) 0 (Nat.zero_le _) ?_ ?_
  · conv => whnf
    refine Retell.turn ⟨[], 0, [], []⟩ (TurnOk.mk' _ _ [] [] (OutOk.lift _) rfl (by decide) (by repeat' (first | exact BTos.nil | refine BTos.flat rfl rfl (by first | rfl | simp) ?_ | refine BTos.new rfl ?_ | refine BTos.dead rfl rfl ?_ | refine BTos.esE rfl rfl ?_ | refine BTos.row rfl rfl rfl (RowTo.snoc (RowTo.one rfl (by simp))) ?_ | refine BTos.cells rfl rfl rfl (by repeat' (first | exact VTo.undef | exact FrTo.leaf | refine FrTo.node ?_ ?_ ?_ | refine FrTo.none ?_ ?_ | exact VTo.sc (by first | rfl | (congr 1; omega) | (congr 1; simp; omega)) | exact VTos_dv _ _ | refine VTos.cons ?_ ?_ | exact VTos.nil | refine VTo.agg ?_ | refine VTo.tuple ?_ | refine VTo.func ?_ ?_ | exact VTo.fs | exact VTo.fp | exact VTo.nilptr | exact VTo.nilslice | exact VTo.nilfunc | exact VTo.ptr rfl | exact VTo.gl rfl | exact VTo.map rfl | exact VTo.yld rfl | exact VTo.fmMap rfl | exact VTo.fm | exact VTo.glNil' (by decide) rfl rfl | exact VTo.fsNil (by decide) | exact VTo.fsSl rfl rfl (by simp [flat_len encE_len]) | exact VTo.fpPtr rfl | exact VTo.fsGl rfl (by first | rfl | exact flat_len encI_len _ | exact flat_len encS_len _ | exact flat_len encP_len _ | exact flat_len encL_len _ | exact flat_len encE_len _ | (simp [flat_len encP_len]; done) | simp [flat_len encI_len, flat_len encS_len]))) ?_)) trivial trivial rfl) (by repeat' (first | exact VTo.undef | exact FrTo.leaf | refine FrTo.node ?_ ?_ ?_ | refine FrTo.none ?_ ?_ | exact VTo.sc (by first | rfl | (congr 1; omega) | (congr 1; simp; omega)) | exact VTos_dv _ _ | refine VTos.cons ?_ ?_ | exact VTos.nil | refine VTo.agg ?_ | refine VTo.tuple ?_ | refine VTo.func ?_ ?_ | exact VTo.fs | exact VTo.fp | exact VTo.nilptr | exact VTo.nilslice | exact VTo.nilfunc | exact VTo.ptr rfl | exact VTo.gl rfl | exact VTo.map rfl | exact VTo.yld rfl | exact VTo.fmMap rfl | exact VTo.fm | exact VTo.glNil' (by decide) rfl rfl | exact VTo.fsNil (by decide) | exact VTo.fsSl rfl rfl (by simp [flat_len encE_len]) | exact VTo.fpPtr rfl | exact VTo.fsGl rfl (by first | rfl | exact flat_len encI_len _ | exact flat_len encS_len _ | exact flat_len encP_len _ | exact flat_len encL_len _ | exact flat_len encE_len _ | (simp [flat_len encP_len]; done) | simp [flat_len encI_len, flat_len encS_len]))) (by first | rfl | (repeat' (first | exact MkTo.nil | refine MkTo.keep rfl ?_ | refine MkTo.drop (by decide) rfl ?_)))
  · rintro k hk
    conv => whnf
    refine VIte.dec (fun h3 => ?_) (fun h3 => ?_)
    · have hx : r[k]? = some r[k] := List.getElem?_eq_getElem (by omega)
      have hf := fold_snoc max a hx
      generalize r[k] = x at hx hf
      have hx' : (a :: r)[k + 1]? = some x := hx
      conv => whnf
      repeat' (first | (refine VLd.intro rfl ?_; conv => whnf) | (refine VArith.i64 (by omega) ?_; conv => whnf) | (refine VNeed.intro (by first | rfl | (simp; omega)) ?_; conv => whnf) | (refine VMem.store rfl rfl rfl rfl ?_; conv => whnf) | (refine VSame.intro rfl ?_; conv => whnf) | (refine VDraw.go [] (by kernel_rfl) (by kernel_rfl) ?_; conv => whnf) | (refine VIte.dec (fun _ => ?_) (fun _ => ?_) <;> conv => whnf) | (refine VIte.ndec (fun _ => ?_) (fun _ => ?_) <;> conv => whnf) | (refine VIte.beq (fun _ => ?_) (fun _ => ?_) <;> conv => whnf) | (refine VIte.bne (fun _ => ?_) (fun _ => ?_) <;> conv => whnf) | (refine VIte.intro (fun _ => ?_) (fun _ => ?_) <;> conv => whnf) | (refine VAny.ix encI_len (k + 1) (by omega) rfl hx' ?_; conv => whnf))
      refine LEnd.intro (k + 1) (by omega) (by omega) ?_
      conv => whnf
      rw [hf]
      refine Retell.turn ⟨[], 0, [], []⟩ (TurnOk.mk' _ _ [] [] (OutOk.lift _) rfl (by decide) (by repeat' (first | exact BTos.nil | refine BTos.flat rfl rfl (by first | rfl | simp) ?_ | refine BTos.new rfl ?_ | refine BTos.dead rfl rfl ?_ | refine BTos.esE rfl rfl ?_ | refine BTos.row rfl rfl rfl (RowTo.snoc (RowTo.one rfl (by simp))) ?_ | refine BTos.cells rfl rfl rfl (by repeat' (first | exact VTo.undef | exact FrTo.leaf | refine FrTo.node ?_ ?_ ?_ | refine FrTo.none ?_ ?_ | exact VTo.sc (by first | rfl | (congr 1; omega) | (congr 1; simp; omega)) | exact VTos_dv _ _ | refine VTos.cons ?_ ?_ | exact VTos.nil | refine VTo.agg ?_ | refine VTo.tuple ?_ | refine VTo.func ?_ ?_ | exact VTo.fs | exact VTo.fp | exact VTo.nilptr | exact VTo.nilslice | exact VTo.nilfunc | exact VTo.ptr rfl | exact VTo.gl rfl | exact VTo.map rfl | exact VTo.yld rfl | exact VTo.fmMap rfl | exact VTo.fm | exact VTo.glNil' (by decide) rfl rfl | exact VTo.fsNil (by decide) | exact VTo.fsSl rfl rfl (by simp [flat_len encE_len]) | exact VTo.fpPtr rfl | exact VTo.fsGl rfl (by first | rfl | exact flat_len encI_len _ | exact flat_len encS_len _ | exact flat_len encP_len _ | exact flat_len encL_len _ | exact flat_len encE_len _ | (simp [flat_len encP_len]; done) | simp [flat_len encI_len, flat_len encS_len]))) ?_)) trivial trivial rfl) (by repeat' (first | exact VTo.undef | exact FrTo.leaf | refine FrTo.node ?_ ?_ ?_ | refine FrTo.none ?_ ?_ | exact VTo.sc (by first | rfl | (congr 1; omega) | (congr 1; simp; omega)) | exact VTos_dv _ _ | refine VTos.cons ?_ ?_ | exact VTos.nil | refine VTo.agg ?_ | refine VTo.tuple ?_ | refine VTo.func ?_ ?_ | exact VTo.fs | exact VTo.fp | exact VTo.nilptr | exact VTo.nilslice | exact VTo.nilfunc | exact VTo.ptr rfl | exact VTo.gl rfl | exact VTo.map rfl | exact VTo.yld rfl | exact VTo.fmMap rfl | exact VTo.fm | exact VTo.glNil' (by decide) rfl rfl | exact VTo.fsNil (by decide) | exact VTo.fsSl rfl rfl (by simp [flat_len encE_len]) | exact VTo.fpPtr rfl | exact VTo.fsGl rfl (by first | rfl | exact flat_len encI_len _ | exact flat_len encS_len _ | exact flat_len encP_len _ | exact flat_len encL_len _ | exact flat_len encE_len _ | (simp [flat_len encP_len]; done) | simp [flat_len encI_len, flat_len encS_len]))) (by first | rfl | (repeat' (first | exact MkTo.nil | refine MkTo.keep rfl ?_ | refine MkTo.drop (by decide) rfl ?_)))
    · conv => whnf
      repeat (first | (refine VLd.intro rfl ?_; conv => whnf) | (refine VArith.i64 (by omega) ?_; conv => whnf) | (refine VNeed.intro (by first | rfl | (simp; omega)) ?_; conv => whnf) | (refine VMem.store rfl rfl rfl rfl ?_; conv => whnf) | (refine VSame.intro rfl ?_; conv => whnf) | (refine VDraw.go [] (by kernel_rfl) (by kernel_rfl) ?_; conv => whnf))
      rw [List.take_of_length_le (by omega)]
      exact VOut.same rfl
theorem vc_least (l : List Int) (h : Hp) (hl : l.length ≤ 200000000) : VC Try.prog 63 [ints l] h (I (minL l)) h := by
  cases l with
  | nil =>
    refine VC.body Try.func63 rfl Try.ntmps63 Try.call63 (h.grows_refl) rfl ?_; conv => whnf
    repeat' (first | (refine VLd.intro rfl ?_; conv => whnf) | (refine VArith.i64 (by omega) ?_; conv => whnf) | (refine VNeed.intro (by first | rfl | (simp; omega)) ?_; conv => whnf) | (refine VMem.store rfl rfl rfl rfl ?_; conv => whnf) | (refine VSame.intro rfl ?_; conv => whnf) | (refine VDraw.go [] (by kernel_rfl) (by kernel_rfl) ?_; conv => whnf) | (refine VIte.dec (fun _ => ?_) (fun _ => ?_) <;> conv => whnf) | (refine VIte.ndec (fun _ => ?_) (fun _ => ?_) <;> conv => whnf) | (refine VIte.beq (fun _ => ?_) (fun _ => ?_) <;> conv => whnf) | (refine VIte.bne (fun _ => ?_) (fun _ => ?_) <;> conv => whnf) | (refine VIte.intro (fun _ => ?_) (fun _ => ?_) <;> conv => whnf))
    · exact VOut.same rfl
    all_goals (rename_i h1; exact absurd rfl h1)
  | cons a r =>
    have hle : (a :: r).length = r.length + 1 := rfl
    refine VC.body Try.func63 rfl Try.ntmps63 Try.call63 (h.grows_refl) rfl ?_; conv => whnf
    repeat' (first | (refine VLd.intro rfl ?_; conv => whnf) | (refine VArith.i64 (by omega) ?_; conv => whnf) | (refine VNeed.intro (by first | rfl | (simp; omega)) ?_; conv => whnf) | (refine VMem.store rfl rfl rfl rfl ?_; conv => whnf) | (refine VSame.intro rfl ?_; conv => whnf) | (refine VDraw.go [] (by kernel_rfl) (by kernel_rfl) ?_; conv => whnf) | (refine VIte.dec (fun _ => ?_) (fun _ => ?_) <;> conv => whnf) | (refine VIte.ndec (fun _ => ?_) (fun _ => ?_) <;> conv => whnf) | (refine VIte.beq (fun _ => ?_) (fun _ => ?_) <;> conv => whnf) | (refine VIte.bne (fun _ => ?_) (fun _ => ?_) <;> conv => whnf) | (refine VIte.intro (fun _ => ?_) (fun _ => ?_) <;> conv => whnf) | (refine VCall.intro (vc_Min a r _ (by omega)) ?_; conv => whnf))
    exact VOut.same rfl
theorem vc_most (a : Int) (r : List Int) (h : Hp) (hl : r.length ≤ 200000000) : VC Try.prog 64 [ints (a :: r)] h (I (maxL (a :: r))) h := by
  refine VC.body Try.func64 rfl Try.ntmps64 Try.call64 (h.grows_refl) rfl ?_; conv => whnf
  repeat' (first | (refine VLd.intro rfl ?_; conv => whnf) | (refine VArith.i64 (by omega) ?_; conv => whnf) | (refine VNeed.intro (by first | rfl | (simp; omega)) ?_; conv => whnf) | (refine VMem.store rfl rfl rfl rfl ?_; conv => whnf) | (refine VSame.intro rfl ?_; conv => whnf) | (refine VDraw.go [] (by kernel_rfl) (by kernel_rfl) ?_; conv => whnf) | (refine VIte.dec (fun _ => ?_) (fun _ => ?_) <;> conv => whnf) | (refine VIte.ndec (fun _ => ?_) (fun _ => ?_) <;> conv => whnf) | (refine VIte.beq (fun _ => ?_) (fun _ => ?_) <;> conv => whnf) | (refine VIte.bne (fun _ => ?_) (fun _ => ?_) <;> conv => whnf) | (refine VIte.intro (fun _ => ?_) (fun _ => ?_) <;> conv => whnf) | (refine VCall.intro (vc_Max a r _ (by omega)) ?_; conv => whnf))
  exact VOut.same rfl
/-- A state behind a paper. -/
structure End where
  i : Int
  year : Int
  first : Int
  side : Int
  since : Int
  deriving DecidableEq
def encE (e : End) : List D := [DI e.i, DI e.year, DI e.first, DI e.side, DI e.since]
theorem encE_len (e : End) : (encE e).length = 5 := rfl
def ends (l : List End) : V := .fs 5 l.length (l.flatMap encE)
def aggE (e : End) : V := .agg [I e.i, I e.year, I e.first, I e.side, I e.since]
def fidx (q : End → Bool) : List End → Int → Int
  | [], _ => -1
  | a :: r, i => bif q a then i else fidx q r (i + 1)
theorem fidx_at {q : End → Bool} {a : End} {l : List End} {k : Nat} (ha : l[k]? = some a) : fidx q (l.drop k) k = bif q a then (k : Int) else fidx q (l.drop (k + 1)) ((k + 1 : Nat) : Int) := by
  obtain ⟨h1, rfl⟩ := List.getElem?_eq_some_iff.1 ha
  rw [List.drop_eq_getElem_cons h1, fidx]; rfl
theorem vc_IndexFunc (l : List End) (q : End → Bool) (g : FuncId) (caps : List D) (hl : l.length ≤ 200000000) (hso : ∀ (e : End) (h : Hp), VC Try.prog g ([aggE e] ++ D.vs caps) h (B (q e)) h) (h : Hp) :
    VC Try.prog 58 [ends l, .func (.func g) [] (D.vs caps)] h (I (fidx q l 0)) h := by
  obtain ⟨E, hE⟩ : ∃ E, E = fidx q l 0 := ⟨_, rfl⟩
  rw [← hE]
  refine VC.body Try.func58 rfl Try.ntmps58 Try.call58 (h.grows_refl) rfl ?_; conv => whnf
  rw [rens_dvs]
  refine VCode.lp (fun k : Nat => [(0, ends l), (1, .func (.func g) [] (D.vs caps)), (7, I l.length), (8, I k)]) (fun _ => []) (fun k => k ≤ l.length ∧ E = fidx q (l.drop k) k) (fun k => l.length - k) 0 ⟨Nat.zero_le _, hE⟩ ?_ ?_
  · conv => whnf
    refine Retell.turn ⟨[], 0, [], []⟩ (TurnOk.mk' _ _ [] [] (OutOk.lift _) rfl (by decide) (by repeat' (first | exact BTos.nil | refine BTos.flat rfl rfl (by first | rfl | simp) ?_ | refine BTos.new rfl ?_ | refine BTos.dead rfl rfl ?_ | refine BTos.esE rfl rfl ?_ | refine BTos.row rfl rfl rfl (RowTo.snoc (RowTo.one rfl (by simp))) ?_ | refine BTos.cells rfl rfl rfl (by repeat' (first | exact VTo.undef | exact FrTo.leaf | refine FrTo.node ?_ ?_ ?_ | refine FrTo.none ?_ ?_ | exact VTo.sc (by first | rfl | (congr 1; omega) | (congr 1; simp; omega)) | exact VTos_dv _ _ | refine VTos.cons ?_ ?_ | exact VTos.nil | refine VTo.agg ?_ | refine VTo.tuple ?_ | refine VTo.func ?_ ?_ | exact VTo.fs | exact VTo.fp | exact VTo.nilptr | exact VTo.nilslice | exact VTo.nilfunc | exact VTo.ptr rfl | exact VTo.gl rfl | exact VTo.map rfl | exact VTo.yld rfl | exact VTo.fmMap rfl | exact VTo.fm | exact VTo.glNil' (by decide) rfl rfl | exact VTo.fsNil (by decide) | exact VTo.fsSl rfl rfl (by simp [flat_len encE_len]) | exact VTo.fpPtr rfl | exact VTo.fsGl rfl (by first | rfl | exact flat_len encI_len _ | exact flat_len encS_len _ | exact flat_len encP_len _ | exact flat_len encL_len _ | exact flat_len encE_len _ | (simp [flat_len encP_len]; done) | simp [flat_len encI_len, flat_len encS_len]))) ?_)) trivial trivial rfl) (by repeat' (first | exact VTo.undef | exact FrTo.leaf | refine FrTo.node ?_ ?_ ?_ | refine FrTo.none ?_ ?_ | exact VTo.sc (by first | rfl | (congr 1; omega) | (congr 1; simp; omega)) | exact VTos_dv _ _ | refine VTos.cons ?_ ?_ | exact VTos.nil | refine VTo.agg ?_ | refine VTo.tuple ?_ | refine VTo.func ?_ ?_ | exact VTo.fs | exact VTo.fp | exact VTo.nilptr | exact VTo.nilslice | exact VTo.nilfunc | exact VTo.ptr rfl | exact VTo.gl rfl | exact VTo.map rfl | exact VTo.yld rfl | exact VTo.fmMap rfl | exact VTo.fm | exact VTo.glNil' (by decide) rfl rfl | exact VTo.fsNil (by decide) | exact VTo.fsSl rfl rfl (by simp [flat_len encE_len]) | exact VTo.fpPtr rfl | exact VTo.fsGl rfl (by first | rfl | exact flat_len encI_len _ | exact flat_len encS_len _ | exact flat_len encP_len _ | exact flat_len encL_len _ | exact flat_len encE_len _ | (simp [flat_len encP_len]; done) | simp [flat_len encI_len, flat_len encS_len]))) (by first | rfl | (repeat' (first | exact MkTo.nil | refine MkTo.keep rfl ?_ | refine MkTo.drop (by decide) rfl ?_)))
  · rintro k ⟨h1, h2⟩
    conv => whnf
    refine VIte.dec (fun h3 => ?_) (fun h3 => ?_)
    · have ha : l[k]? = some l[k] := List.getElem?_eq_getElem (by omega)
      generalize l[k] = a at ha
      rw [fidx_at ha] at h2
      conv => whnf
      repeat' (first | (refine VLd.intro rfl ?_; conv => whnf) | (refine VArith.i64 (by omega) ?_; conv => whnf) | (refine VNeed.intro (by first | rfl | (simp; omega)) ?_; conv => whnf) | (refine VMem.store rfl rfl rfl rfl ?_; conv => whnf) | (refine VSame.intro rfl ?_; conv => whnf) | (refine VDraw.go [] (by kernel_rfl) (by kernel_rfl) ?_; conv => whnf) | (refine VIte.dec (fun _ => ?_) (fun _ => ?_) <;> conv => whnf) | (refine VIte.ndec (fun _ => ?_) (fun _ => ?_) <;> conv => whnf) | (refine VIte.beq (fun _ => ?_) (fun _ => ?_) <;> conv => whnf) | (refine VIte.bne (fun _ => ?_) (fun _ => ?_) <;> conv => whnf) | (refine VIte.intro (fun _ => ?_) (fun _ => ?_) <;> conv => whnf) | (refine VAny.ix encE_len k (by omega) rfl ha ?_; conv => whnf))
      refine VCall.intro (hso a _) ?_
      conv => whnf
      cases hq : q a
      · rw [hq] at h2
        conv => whnf
        repeat (first | (refine VLd.intro rfl ?_; conv => whnf) | (refine VArith.i64 (by omega) ?_; conv => whnf) | (refine VNeed.intro (by first | rfl | (simp; omega)) ?_; conv => whnf) | (refine VMem.store rfl rfl rfl rfl ?_; conv => whnf) | (refine VSame.intro rfl ?_; conv => whnf) | (refine VDraw.go [] (by kernel_rfl) (by kernel_rfl) ?_; conv => whnf))
        refine LEnd.intro (k + 1) ⟨by omega, h2⟩ (by omega) ?_
        conv => whnf
        refine Retell.turn ⟨[], 0, [], []⟩ (TurnOk.mk' _ _ [] [] (OutOk.lift _) rfl (by decide) (by repeat' (first | exact BTos.nil | refine BTos.flat rfl rfl (by first | rfl | simp) ?_ | refine BTos.new rfl ?_ | refine BTos.dead rfl rfl ?_ | refine BTos.esE rfl rfl ?_ | refine BTos.row rfl rfl rfl (RowTo.snoc (RowTo.one rfl (by simp))) ?_ | refine BTos.cells rfl rfl rfl (by repeat' (first | exact VTo.undef | exact FrTo.leaf | refine FrTo.node ?_ ?_ ?_ | refine FrTo.none ?_ ?_ | exact VTo.sc (by first | rfl | (congr 1; omega) | (congr 1; simp; omega)) | exact VTos_dv _ _ | refine VTos.cons ?_ ?_ | exact VTos.nil | refine VTo.agg ?_ | refine VTo.tuple ?_ | refine VTo.func ?_ ?_ | exact VTo.fs | exact VTo.fp | exact VTo.nilptr | exact VTo.nilslice | exact VTo.nilfunc | exact VTo.ptr rfl | exact VTo.gl rfl | exact VTo.map rfl | exact VTo.yld rfl | exact VTo.fmMap rfl | exact VTo.fm | exact VTo.glNil' (by decide) rfl rfl | exact VTo.fsNil (by decide) | exact VTo.fsSl rfl rfl (by simp [flat_len encE_len]) | exact VTo.fpPtr rfl | exact VTo.fsGl rfl (by first | rfl | exact flat_len encI_len _ | exact flat_len encS_len _ | exact flat_len encP_len _ | exact flat_len encL_len _ | exact flat_len encE_len _ | (simp [flat_len encP_len]; done) | simp [flat_len encI_len, flat_len encS_len]))) ?_)) trivial trivial rfl) (by repeat' (first | exact VTo.undef | exact FrTo.leaf | refine FrTo.node ?_ ?_ ?_ | refine FrTo.none ?_ ?_ | exact VTo.sc (by first | rfl | (congr 1; omega) | (congr 1; simp; omega)) | exact VTos_dv _ _ | refine VTos.cons ?_ ?_ | exact VTos.nil | refine VTo.agg ?_ | refine VTo.tuple ?_ | refine VTo.func ?_ ?_ | exact VTo.fs | exact VTo.fp | exact VTo.nilptr | exact VTo.nilslice | exact VTo.nilfunc | exact VTo.ptr rfl | exact VTo.gl rfl | exact VTo.map rfl | exact VTo.yld rfl | exact VTo.fmMap rfl | exact VTo.fm | exact VTo.glNil' (by decide) rfl rfl | exact VTo.fsNil (by decide) | exact VTo.fsSl rfl rfl (by simp [flat_len encE_len]) | exact VTo.fpPtr rfl | exact VTo.fsGl rfl (by first | rfl | exact flat_len encI_len _ | exact flat_len encS_len _ | exact flat_len encP_len _ | exact flat_len encL_len _ | exact flat_len encE_len _ | (simp [flat_len encP_len]; done) | simp [flat_len encI_len, flat_len encS_len]))) (by first | rfl | (repeat' (first | exact MkTo.nil | refine MkTo.keep rfl ?_ | refine MkTo.drop (by decide) rfl ?_)))
      · rw [hq] at h2
        rw [h2]
        conv => whnf
        repeat (first | (refine VLd.intro rfl ?_; conv => whnf) | (refine VArith.i64 (by omega) ?_; conv => whnf) | (refine VNeed.intro (by first | rfl | (simp; omega)) ?_; conv => whnf) | (refine VMem.store rfl rfl rfl rfl ?_; conv => whnf) | (refine VSame.intro rfl ?_; conv => whnf) | (refine VDraw.go [] (by kernel_rfl) (by kernel_rfl) ?_; conv => whnf))
        exact VOut.same rfl
    · rw [List.drop_of_length_le (by omega), fidx] at h2
      rw [h2]
      conv => whnf
      repeat (first | (refine VLd.intro rfl ?_; conv => whnf) | (refine VArith.i64 (by omega) ?_; conv => whnf) | (refine VNeed.intro (by first | rfl | (simp; omega)) ?_; conv => whnf) | (refine VMem.store rfl rfl rfl rfl ?_; conv => whnf) | (refine VSame.intro rfl ?_; conv => whnf) | (refine VDraw.go [] (by kernel_rfl) (by kernel_rfl) ?_; conv => whnf))
      exact VOut.same rfl
theorem vc_Truth1 (s : Int) (e : End) (h : Hp) : VC Try.prog 59 [aggE e, .fp [DI s]] h (B (decide (e.side = s))) h := by
  refine VC.body Try.func59 rfl Try.ntmps59 Try.call59 (h.grows_refl) rfl ?_; conv => whnf
  repeat' (first | (refine VLd.intro rfl ?_; conv => whnf) | (refine VArith.i64 (by omega) ?_; conv => whnf) | (refine VNeed.intro (by first | rfl | (simp; omega)) ?_; conv => whnf) | (refine VMem.store rfl rfl rfl rfl ?_; conv => whnf) | (refine VSame.intro rfl ?_; conv => whnf) | (refine VDraw.go [] (by kernel_rfl) (by kernel_rfl) ?_; conv => whnf) | (refine VIte.dec (fun _ => ?_) (fun _ => ?_) <;> conv => whnf) | (refine VIte.ndec (fun _ => ?_) (fun _ => ?_) <;> conv => whnf) | (refine VIte.beq (fun _ => ?_) (fun _ => ?_) <;> conv => whnf) | (refine VIte.bne (fun _ => ?_) (fun _ => ?_) <;> conv => whnf) | (refine VIte.intro (fun _ => ?_) (fun _ => ?_) <;> conv => whnf))
  all_goals (refine VOut.dec ?_; first | (simp only [decide_eq_true_eq]; omega) | (simp; omega) | (simp; done))
end Go.Proofs.Ytolnajnlcdacmaa

open Go.Vm
namespace Go.Proofs.Ytolnajnlcdacmaa
set_option maxRecDepth 20000
set_option maxHeartbeats 1000000

/-- The years of a span. -/
def yrs (p : Pap) : List Int := (List.range (p.hi - p.lo + 1).toNat).map fun k : Nat => p.lo + (k : Int)
def ext1 (p : Pap) (ts : List (List Int)) : List (List Int) := ts.flatMap fun t => (yrs p).map fun y => t ++ [y]
/-- All truths. -/
def tru (ps : List Pap) : List (List Int) := ps.foldl (fun ts p => ext1 p ts) [[]]
theorem yrs_len (p : Pap) : (yrs p).length = (p.hi - p.lo + 1).toNat := by simp [yrs]
theorem tru_snoc {ps : List Pap} {k : Nat} {p : Pap} (hp : ps[k]? = some p) : tru (ps.take (k + 1)) = ext1 p (tru (ps.take k)) := by
  rw [tru, List.take_add_one, hp]; simp [tru]
theorem tru_len : ∀ (ps : List Pap) (ts : List (List Int)) (n : Nat), (∀ t ∈ ts, t.length = n) → ∀ t ∈ ps.foldl (fun ts p => ext1 p ts) ts, t.length = n + ps.length
  | [], ts, n, h, t, ht => h t ht
  | p :: ps, ts, n, h, t, ht => by
    rw [List.foldl_cons] at ht
    have := tru_len ps (ext1 p ts) (n + 1) (fun t ht => by
      simp only [ext1, List.mem_flatMap, List.mem_map] at ht
      obtain ⟨t0, h1, y, _, rfl⟩ := ht
      simp [h t0 h1]) t ht
    simp only [List.length_cons]; omega
theorem ext1_part {p : Pap} {ts : List (List Int)} {j m : Nat} {t : List Int} (ht : ts[j]? = some t) (hm : m ≤ (yrs p).length) :
    (ext1 p (ts.take j) ++ ((yrs p).take m).map (fun y => t ++ [y])).length ≤ (ext1 p ts).length := by
  obtain ⟨h1, rfl⟩ := List.getElem?_eq_some_iff.1 ht
  have h2 : ext1 p ts = ext1 p (ts.take j) ++ (((yrs p).map fun y => ts[j] ++ [y]) ++ ext1 p (ts.drop (j + 1))) := by
    unfold ext1
    have : ts = ts.take j ++ (ts[j] :: ts.drop (j + 1)) := by rw [← List.drop_eq_getElem_cons h1, List.take_append_drop]
    exact (congrArg (fun l => l.flatMap fun t => (yrs p).map fun y => t ++ [y]) this).trans (by rw [List.flatMap_append, List.flatMap_cons])
  rw [h2]
  simp; omega
theorem vc_truths (f : Fil) (h : Hp) (hl : f.ps.length ≤ 1000) (hp : ∀ p ∈ f.ps, 0 ≤ p.lo ∧ p.lo ≤ p.hi ∧ p.hi ≤ 3000) (hb : ∀ k, (tru (f.ps.take k)).length ≤ 1000000) : VC Try.prog 55 [vF f] h (intss (tru f.ps)) h := by
  refine VC.body Try.func55 rfl Try.ntmps55 Try.call55 (h.grows_refl) rfl ?_; conv => whnf
  repeat (first | (refine VLd.intro rfl ?_; conv => whnf) | (refine VArith.i64 (by omega) ?_; conv => whnf) | (refine VNeed.intro (by first | rfl | (simp; omega)) ?_; conv => whnf) | (refine VMem.store rfl rfl rfl rfl ?_; conv => whnf) | (refine VSame.intro rfl ?_; conv => whnf) | (refine VDraw.go [] (by kernel_rfl) (by kernel_rfl) ?_; conv => whnf))
  refine VCode.lp (fun k : Nat => [(1, .ptr (.loc 0) 0), (3, intss (tru (f.ps.take k))), (4, I k)]) (fun _ => [.flat true (encF f)]) (fun k => k ≤ f.ps.length) (fun k => f.ps.length - k) 0 (Nat.zero_le _) ?_ ?_
  · conv => whnf
    refine Retell.turn ⟨[0], 3, [(1, []), (2, encL [])], []⟩ (TurnOk.mk' _ _ [(1, []), (2, encL [])] [] (OutOk.lift _) rfl (by decide) (by repeat' (first | exact BTos.nil | refine BTos.flat rfl rfl (by first | rfl | simp) ?_ | refine BTos.new rfl ?_ | refine BTos.dead rfl rfl ?_ | refine BTos.esE rfl rfl ?_ | refine BTos.row rfl rfl rfl (RowTo.snoc (RowTo.one rfl (by simp))) ?_ | refine BTos.cells rfl rfl rfl (by repeat' (first | exact VTo.undef | exact FrTo.leaf | refine FrTo.node ?_ ?_ ?_ | refine FrTo.none ?_ ?_ | exact VTo.sc (by first | rfl | (congr 1; omega) | (congr 1; simp; omega)) | exact VTos_dv _ _ | refine VTos.cons ?_ ?_ | exact VTos.nil | refine VTo.agg ?_ | refine VTo.tuple ?_ | refine VTo.func ?_ ?_ | exact VTo.fs | exact VTo.fp | exact VTo.nilptr | exact VTo.nilslice | exact VTo.nilfunc | exact VTo.ptr rfl | exact VTo.gl rfl | exact VTo.map rfl | exact VTo.yld rfl | exact VTo.fmMap rfl | exact VTo.fm | exact VTo.glNil' (by decide) rfl rfl | exact VTo.fsNil (by decide) | exact VTo.fsSl rfl rfl (by simp [flat_len encE_len]) | exact VTo.fpPtr rfl | exact VTo.fsGl rfl (by first | rfl | exact flat_len encI_len _ | exact flat_len encS_len _ | exact flat_len encP_len _ | exact flat_len encL_len _ | exact flat_len encE_len _ | (simp [flat_len encP_len]; done) | simp [flat_len encI_len, flat_len encS_len]))) ?_)) (by repeat' (first | exact FzAll.nil | refine FzAll.flat rfl ?_ | refine FzAll.row rfl rfl (RowTo.one rfl (by simp)) ?_)) trivial rfl) (by repeat' (first | exact VTo.undef | exact FrTo.leaf | refine FrTo.node ?_ ?_ ?_ | refine FrTo.none ?_ ?_ | exact VTo.sc (by first | rfl | (congr 1; omega) | (congr 1; simp; omega)) | exact VTos_dv _ _ | refine VTos.cons ?_ ?_ | exact VTos.nil | refine VTo.agg ?_ | refine VTo.tuple ?_ | refine VTo.func ?_ ?_ | exact VTo.fs | exact VTo.fp | exact VTo.nilptr | exact VTo.nilslice | exact VTo.nilfunc | exact VTo.ptr rfl | exact VTo.gl rfl | exact VTo.map rfl | exact VTo.yld rfl | exact VTo.fmMap rfl | exact VTo.fm | exact VTo.glNil' (by decide) rfl rfl | exact VTo.fsNil (by decide) | exact VTo.fsSl rfl rfl (by simp [flat_len encE_len]) | exact VTo.fpPtr rfl | exact VTo.fsGl rfl (by first | rfl | exact flat_len encI_len _ | exact flat_len encS_len _ | exact flat_len encP_len _ | exact flat_len encL_len _ | exact flat_len encE_len _ | (simp [flat_len encP_len]; done) | simp [flat_len encI_len, flat_len encS_len]))) (by first | rfl | (repeat' (first | exact MkTo.nil | refine MkTo.keep rfl ?_ | refine MkTo.drop (by decide) rfl ?_)))
  · intro k hk
    conv => whnf
    repeat (first | (refine VLd.intro rfl ?_; conv => whnf) | (refine VArith.i64 (by omega) ?_; conv => whnf) | (refine VNeed.intro (by first | rfl | (simp; omega)) ?_; conv => whnf) | (refine VMem.store rfl rfl rfl rfl ?_; conv => whnf) | (refine VSame.intro rfl ?_; conv => whnf) | (refine VDraw.go [] (by kernel_rfl) (by kernel_rfl) ?_; conv => whnf))
    refine VIte.dec (fun h3 => ?_) (fun h3 => ?_)
    · have hq : f.ps[k]? = some f.ps[k] := List.getElem?_eq_getElem (by omega)
      have hpb := hp f.ps[k] (List.getElem_mem (by omega))
      have hts := tru_snoc hq
      have hbk := hb k
      have hbk1 := hb (k + 1)
      have htl := tru_len (f.ps.take k) [[]] 0 (by simp)
      have htk : (f.ps.take k).length = k := by simp; omega
      rw [htk] at htl
      change ∀ t ∈ tru (f.ps.take k), _ at htl
      generalize f.ps[k] = p at hq hpb hts
      rw [hts] at hbk1
      obtain ⟨T, hT⟩ : ∃ T, T = tru (f.ps.take k) := ⟨_, rfl⟩
      rw [← hT] at hts hbk hbk1 htl ⊢
      conv => whnf
      repeat (first | (refine VLd.intro rfl ?_; conv => whnf) | (refine VArith.i64 (by omega) ?_; conv => whnf) | (refine VNeed.intro (by first | rfl | (simp; omega)) ?_; conv => whnf) | (refine VMem.store rfl rfl rfl rfl ?_; conv => whnf) | (refine VSame.intro rfl ?_; conv => whnf) | (refine VDraw.go [] (by kernel_rfl) (by kernel_rfl) ?_; conv => whnf))
      refine VCode.lp (fun j : Nat => [(1, .ptr (.loc 0) 0), (3, intss T), (4, I k), (5, .gl (.loc 1) 1 (ext1 p (T.take j)).length), (6, I j)]) (fun j => [.flat true (encF f), .flat true ((ext1 p (T.take j)).flatMap encL)]) (fun j => j ≤ T.length) (fun j => T.length - j) 0 (Nat.zero_le _) ?_ ?_
      · conv => whnf
        refine Retell.turn ⟨[0,1], 1, [], []⟩ (TurnOk.mk' _ _ [] [] (OutOk.lift _) rfl (by decide) (by repeat' (first | exact BTos.nil | refine BTos.flat rfl rfl (by first | rfl | simp) ?_ | refine BTos.new rfl ?_ | refine BTos.dead rfl rfl ?_ | refine BTos.esE rfl rfl ?_ | refine BTos.row rfl rfl rfl (RowTo.snoc (RowTo.one rfl (by simp))) ?_ | refine BTos.cells rfl rfl rfl (by repeat' (first | exact VTo.undef | exact FrTo.leaf | refine FrTo.node ?_ ?_ ?_ | refine FrTo.none ?_ ?_ | exact VTo.sc (by first | rfl | (congr 1; omega) | (congr 1; simp; omega)) | exact VTos_dv _ _ | refine VTos.cons ?_ ?_ | exact VTos.nil | refine VTo.agg ?_ | refine VTo.tuple ?_ | refine VTo.func ?_ ?_ | exact VTo.fs | exact VTo.fp | exact VTo.nilptr | exact VTo.nilslice | exact VTo.nilfunc | exact VTo.ptr rfl | exact VTo.gl rfl | exact VTo.map rfl | exact VTo.yld rfl | exact VTo.fmMap rfl | exact VTo.fm | exact VTo.glNil' (by decide) rfl rfl | exact VTo.fsNil (by decide) | exact VTo.fsSl rfl rfl (by simp [flat_len encE_len]) | exact VTo.fpPtr rfl | exact VTo.fsGl rfl (by first | rfl | exact flat_len encI_len _ | exact flat_len encS_len _ | exact flat_len encP_len _ | exact flat_len encL_len _ | exact flat_len encE_len _ | (simp [flat_len encP_len]; done) | simp [flat_len encI_len, flat_len encS_len]))) ?_)) trivial trivial rfl) (by repeat' (first | exact VTo.undef | exact FrTo.leaf | refine FrTo.node ?_ ?_ ?_ | refine FrTo.none ?_ ?_ | exact VTo.sc (by first | rfl | (congr 1; omega) | (congr 1; simp; omega)) | exact VTos_dv _ _ | refine VTos.cons ?_ ?_ | exact VTos.nil | refine VTo.agg ?_ | refine VTo.tuple ?_ | refine VTo.func ?_ ?_ | exact VTo.fs | exact VTo.fp | exact VTo.nilptr | exact VTo.nilslice | exact VTo.nilfunc | exact VTo.ptr rfl | exact VTo.gl rfl | exact VTo.map rfl | exact VTo.yld rfl | exact VTo.fmMap rfl | exact VTo.fm | exact VTo.glNil' (by decide) rfl rfl | exact VTo.fsNil (by decide) | exact VTo.fsSl rfl rfl (by simp [flat_len encE_len]) | exact VTo.fpPtr rfl | exact VTo.fsGl rfl (by first | rfl | exact flat_len encI_len _ | exact flat_len encS_len _ | exact flat_len encP_len _ | exact flat_len encL_len _ | exact flat_len encE_len _ | (simp [flat_len encP_len]; done) | simp [flat_len encI_len, flat_len encS_len]))) (by first | rfl | (repeat' (first | exact MkTo.nil | refine MkTo.keep rfl ?_ | refine MkTo.drop (by decide) rfl ?_)))
      · intro j hj
        conv => whnf
        refine VIte.dec (fun g3 => ?_) (fun g3 => ?_)
        · have hx : T[j]? = some T[j] := List.getElem?_eq_getElem (by omega)
          have htx := htl T[j] (List.getElem_mem (by omega))
          have hpart := fun m => ext1_part (p := p) (m := m) hx
          have hnx : ext1 p (T.take (j + 1)) = ext1 p (T.take j) ++ (yrs p).map (fun y => T[j] ++ [y]) := by
            have e9 : T.take (j + 1) = T.take j ++ [T[j]] := by rw [List.take_add_one, hx]; rfl
            unfold ext1; rw [e9, List.flatMap_append]; simp
          generalize T[j] = x at hx htx hpart hnx
          obtain ⟨A, hA⟩ : ∃ A, A = ext1 p (T.take j) := ⟨_, rfl⟩
          rw [← hA] at hpart hnx ⊢
          have hyl := yrs_len p
          conv => whnf
          repeat' (first | (refine VLd.intro rfl ?_; conv => whnf) | (refine VArith.i64 (by omega) ?_; conv => whnf) | (refine VNeed.intro (by first | rfl | (simp; omega)) ?_; conv => whnf) | (refine VMem.store rfl rfl rfl rfl ?_; conv => whnf) | (refine VSame.intro rfl ?_; conv => whnf) | (refine VDraw.go [] (by kernel_rfl) (by kernel_rfl) ?_; conv => whnf) | (refine VIte.dec (fun _ => ?_) (fun _ => ?_) <;> conv => whnf) | (refine VIte.ndec (fun _ => ?_) (fun _ => ?_) <;> conv => whnf) | (refine VIte.beq (fun _ => ?_) (fun _ => ?_) <;> conv => whnf) | (refine VIte.bne (fun _ => ?_) (fun _ => ?_) <;> conv => whnf) | (refine VIte.intro (fun _ => ?_) (fun _ => ?_) <;> conv => whnf) | (refine VAny.ix encP_len k rfl rfl hq ?_; conv => whnf))
          refine VCode.lp (fun m : Nat => [(1, .ptr (.loc 0) 0), (3, intss T), (4, I k), (5, .gl (.loc 1) 1 (A ++ ((yrs p).take m).map (fun y => x ++ [y])).length), (6, I j), (7, I (p.lo + m))]) (fun m => [.flat true (encF f), .flat true ((A ++ ((yrs p).take m).map (fun y => x ++ [y])).flatMap encL)]) (fun m => m ≤ (yrs p).length) (fun m => (yrs p).length - m) 0 (Nat.zero_le _) ?_ ?_
          · conv => whnf
            rw [show A ++ ((yrs p).take 0).map (fun y => x ++ [y]) = A from by simp]
            refine Retell.turn ⟨[0,1], 2, [], []⟩ (TurnOk.mk' _ _ [] [] (OutOk.lift _) rfl (by decide) (by repeat' (first | exact BTos.nil | refine BTos.flat rfl rfl (by first | rfl | simp) ?_ | refine BTos.new rfl ?_ | refine BTos.dead rfl rfl ?_ | refine BTos.esE rfl rfl ?_ | refine BTos.row rfl rfl rfl (RowTo.snoc (RowTo.one rfl (by simp))) ?_ | refine BTos.cells rfl rfl rfl (by repeat' (first | exact VTo.undef | exact FrTo.leaf | refine FrTo.node ?_ ?_ ?_ | refine FrTo.none ?_ ?_ | exact VTo.sc (by first | rfl | (congr 1; omega) | (congr 1; simp; omega)) | exact VTos_dv _ _ | refine VTos.cons ?_ ?_ | exact VTos.nil | refine VTo.agg ?_ | refine VTo.tuple ?_ | refine VTo.func ?_ ?_ | exact VTo.fs | exact VTo.fp | exact VTo.nilptr | exact VTo.nilslice | exact VTo.nilfunc | exact VTo.ptr rfl | exact VTo.gl rfl | exact VTo.map rfl | exact VTo.yld rfl | exact VTo.fmMap rfl | exact VTo.fm | exact VTo.glNil' (by decide) rfl rfl | exact VTo.fsNil (by decide) | exact VTo.fsSl rfl rfl (by simp [flat_len encE_len]) | exact VTo.fpPtr rfl | exact VTo.fsGl rfl (by first | rfl | exact flat_len encI_len _ | exact flat_len encS_len _ | exact flat_len encP_len _ | exact flat_len encL_len _ | exact flat_len encE_len _ | (simp [flat_len encP_len]; done) | simp [flat_len encI_len, flat_len encS_len]))) ?_)) trivial trivial rfl) (by repeat' (first | exact VTo.undef | exact FrTo.leaf | refine FrTo.node ?_ ?_ ?_ | refine FrTo.none ?_ ?_ | exact VTo.sc (by first | rfl | (congr 1; omega) | (congr 1; simp; omega)) | exact VTos_dv _ _ | refine VTos.cons ?_ ?_ | exact VTos.nil | refine VTo.agg ?_ | refine VTo.tuple ?_ | refine VTo.func ?_ ?_ | exact VTo.fs | exact VTo.fp | exact VTo.nilptr | exact VTo.nilslice | exact VTo.nilfunc | exact VTo.ptr rfl | exact VTo.gl rfl | exact VTo.map rfl | exact VTo.yld rfl | exact VTo.fmMap rfl | exact VTo.fm | exact VTo.glNil' (by decide) rfl rfl | exact VTo.fsNil (by decide) | exact VTo.fsSl rfl rfl (by simp [flat_len encE_len]) | exact VTo.fpPtr rfl | exact VTo.fsGl rfl (by first | rfl | exact flat_len encI_len _ | exact flat_len encS_len _ | exact flat_len encP_len _ | exact flat_len encL_len _ | exact flat_len encE_len _ | (simp [flat_len encP_len]; done) | simp [flat_len encI_len, flat_len encS_len]))) (by first | rfl | (repeat' (first | exact MkTo.nil | refine MkTo.keep rfl ?_ | refine MkTo.drop (by decide) rfl ?_)))
          · intro m hm
            have hpm := hpart m hm
            conv => whnf
            repeat' (first | (refine VLd.intro rfl ?_; conv => whnf) | (refine VArith.i64 (by omega) ?_; conv => whnf) | (refine VNeed.intro (by first | rfl | (simp; omega)) ?_; conv => whnf) | (refine VMem.store rfl rfl rfl rfl ?_; conv => whnf) | (refine VSame.intro rfl ?_; conv => whnf) | (refine VDraw.go [] (by kernel_rfl) (by kernel_rfl) ?_; conv => whnf) | (refine VIte.dec (fun _ => ?_) (fun _ => ?_) <;> conv => whnf) | (refine VIte.ndec (fun _ => ?_) (fun _ => ?_) <;> conv => whnf) | (refine VIte.beq (fun _ => ?_) (fun _ => ?_) <;> conv => whnf) | (refine VIte.bne (fun _ => ?_) (fun _ => ?_) <;> conv => whnf) | (refine VIte.intro (fun _ => ?_) (fun _ => ?_) <;> conv => whnf) | (refine VAny.ix encP_len k rfl rfl hq ?_; conv => whnf))
            · have hym : (yrs p)[m]? = some (p.lo + m) := by
                unfold yrs
                rw [List.getElem?_map, List.getElem?_range (by omega)]; rfl
              obtain ⟨L, hL⟩ : ∃ L, L = A ++ ((yrs p).take m).map (fun y => x ++ [y]) := ⟨_, rfl⟩
              have hL1 : A ++ ((yrs p).take (m + 1)).map (fun y => x ++ [y]) = L ++ [x ++ [p.lo + m]] := by
                rw [hL, List.take_add_one, hym]; simp
              rw [← hL] at hpm ⊢
              repeat' (first | (refine VLd.intro rfl ?_; conv => whnf) | (refine VArith.i64 (by omega) ?_; conv => whnf) | (refine VNeed.intro (by first | rfl | (simp; omega)) ?_; conv => whnf) | (refine VMem.store rfl rfl rfl rfl ?_; conv => whnf) | (refine VSame.intro rfl ?_; conv => whnf) | (refine VDraw.go [] (by kernel_rfl) (by kernel_rfl) ?_; conv => whnf) | (refine VIte.dec (fun _ => ?_) (fun _ => ?_) <;> conv => whnf) | (refine VIte.ndec (fun _ => ?_) (fun _ => ?_) <;> conv => whnf) | (refine VIte.beq (fun _ => ?_) (fun _ => ?_) <;> conv => whnf) | (refine VIte.bne (fun _ => ?_) (fun _ => ?_) <;> conv => whnf) | (refine VIte.intro (fun _ => ?_) (fun _ => ?_) <;> conv => whnf) | (refine VAny.ix encL_len j rfl rfl hx ?_; conv => whnf))
              refine VMem.appN (l := []) (l2 := x) encI_len rfl rfl rfl rfl rfl (by simp; omega) ?_
              conv => whnf
              repeat (first | (refine VLd.intro rfl ?_; conv => whnf) | (refine VArith.i64 (by omega) ?_; conv => whnf) | (refine VNeed.intro (by first | rfl | (simp; omega)) ?_; conv => whnf) | (refine VMem.store rfl rfl rfl rfl ?_; conv => whnf) | (refine VSame.intro rfl ?_; conv => whnf) | (refine VDraw.go [] (by kernel_rfl) (by kernel_rfl) ?_; conv => whnf))
              refine VMem.app1 (l := [] ++ x) (p.lo + m) encI_len rfl rfl rfl (by simp) rfl (by simp; omega) ?_
              conv => whnf
              repeat (first | (refine VLd.intro rfl ?_; conv => whnf) | (refine VArith.i64 (by omega) ?_; conv => whnf) | (refine VNeed.intro (by first | rfl | (simp; omega)) ?_; conv => whnf) | (refine VMem.store rfl rfl rfl rfl ?_; conv => whnf) | (refine VSame.intro rfl ?_; conv => whnf) | (refine VDraw.go [] (by kernel_rfl) (by kernel_rfl) ?_; conv => whnf))
              refine VMem.app1V (l := L) [.gl (.loc 5) 1 (0 + x.length + 1)] encL_len rfl rfl rfl rfl rfl rfl (by omega) ?_
              conv => whnf
              repeat (first | (refine VLd.intro rfl ?_; conv => whnf) | (refine VArith.i64 (by omega) ?_; conv => whnf) | (refine VNeed.intro (by first | rfl | (simp; omega)) ?_; conv => whnf) | (refine VMem.store rfl rfl rfl rfl ?_; conv => whnf) | (refine VSame.intro rfl ?_; conv => whnf) | (refine VDraw.go [] (by kernel_rfl) (by kernel_rfl) ?_; conv => whnf))
              refine LEnd.intro (m + 1) (by omega) (by omega) ?_
              conv => whnf
              rw [hL1, List.length_append]
              refine Retell.turn ⟨[0,7], 8, [(5, (x ++ [p.lo + m]).flatMap encI)], []⟩ (TurnOk.mk' _ _ [(5, (x ++ [p.lo + m]).flatMap encI)] [] (OutOk.lift _) rfl (by decide) (by repeat' (first | exact BTos.nil | refine BTos.flat rfl rfl (by first | rfl | simp) ?_ | refine BTos.new rfl ?_ | refine BTos.dead rfl rfl ?_ | refine BTos.esE rfl rfl ?_ | refine BTos.row rfl rfl rfl (RowTo.snoc (RowTo.one rfl (by simp))) ?_ | refine BTos.cells rfl rfl rfl (by repeat' (first | exact VTo.undef | exact FrTo.leaf | refine FrTo.node ?_ ?_ ?_ | refine FrTo.none ?_ ?_ | exact VTo.sc (by first | rfl | (congr 1; omega) | (congr 1; simp; omega)) | exact VTos_dv _ _ | refine VTos.cons ?_ ?_ | exact VTos.nil | refine VTo.agg ?_ | refine VTo.tuple ?_ | refine VTo.func ?_ ?_ | exact VTo.fs | exact VTo.fp | exact VTo.nilptr | exact VTo.nilslice | exact VTo.nilfunc | exact VTo.ptr rfl | exact VTo.gl rfl | exact VTo.map rfl | exact VTo.yld rfl | exact VTo.fmMap rfl | exact VTo.fm | exact VTo.glNil' (by decide) rfl rfl | exact VTo.fsNil (by decide) | exact VTo.fsSl rfl rfl (by simp [flat_len encE_len]) | exact VTo.fpPtr rfl | exact VTo.fsGl rfl (by first | rfl | exact flat_len encI_len _ | exact flat_len encS_len _ | exact flat_len encP_len _ | exact flat_len encL_len _ | exact flat_len encE_len _ | (simp [flat_len encP_len]; done) | simp [flat_len encI_len, flat_len encS_len]))) ?_)) (by repeat' (first | exact FzAll.nil | refine FzAll.flat rfl ?_ | refine FzAll.row rfl rfl (RowTo.one rfl (by simp)) ?_)) trivial rfl) (by repeat' (first | exact VTo.undef | exact FrTo.leaf | refine FrTo.node ?_ ?_ ?_ | refine FrTo.none ?_ ?_ | exact VTo.sc (by first | rfl | (congr 1; omega) | (congr 1; simp; omega)) | exact VTos_dv _ _ | refine VTos.cons ?_ ?_ | exact VTos.nil | refine VTo.agg ?_ | refine VTo.tuple ?_ | refine VTo.func ?_ ?_ | exact VTo.fs | exact VTo.fp | exact VTo.nilptr | exact VTo.nilslice | exact VTo.nilfunc | exact VTo.ptr rfl | exact VTo.gl rfl | exact VTo.map rfl | exact VTo.yld rfl | exact VTo.fmMap rfl | exact VTo.fm | exact VTo.glNil' (by decide) rfl rfl | exact VTo.fsNil (by decide) | exact VTo.fsSl rfl rfl (by simp [flat_len encE_len]) | exact VTo.fpPtr rfl | exact VTo.fsGl rfl (by first | rfl | exact flat_len encI_len _ | exact flat_len encS_len _ | exact flat_len encP_len _ | exact flat_len encL_len _ | exact flat_len encE_len _ | (simp [flat_len encP_len]; done) | simp [flat_len encI_len, flat_len encS_len]))) (by first | rfl | (repeat' (first | exact MkTo.nil | refine MkTo.keep rfl ?_ | refine MkTo.drop (by decide) rfl ?_)))
            · have hme : m = (yrs p).length := by omega
              subst hme
              rw [List.take_of_length_le (Nat.le_refl _), ← hnx]
              refine LEnd.intro (j + 1) (by omega) (by omega) ?_
              conv => whnf
              refine Retell.turn ⟨[0,1], 2, [], []⟩ (TurnOk.mk' _ _ [] [] (OutOk.lift _) rfl (by decide) (by repeat' (first | exact BTos.nil | refine BTos.flat rfl rfl (by first | rfl | simp) ?_ | refine BTos.new rfl ?_ | refine BTos.dead rfl rfl ?_ | refine BTos.esE rfl rfl ?_ | refine BTos.row rfl rfl rfl (RowTo.snoc (RowTo.one rfl (by simp))) ?_ | refine BTos.cells rfl rfl rfl (by repeat' (first | exact VTo.undef | exact FrTo.leaf | refine FrTo.node ?_ ?_ ?_ | refine FrTo.none ?_ ?_ | exact VTo.sc (by first | rfl | (congr 1; omega) | (congr 1; simp; omega)) | exact VTos_dv _ _ | refine VTos.cons ?_ ?_ | exact VTos.nil | refine VTo.agg ?_ | refine VTo.tuple ?_ | refine VTo.func ?_ ?_ | exact VTo.fs | exact VTo.fp | exact VTo.nilptr | exact VTo.nilslice | exact VTo.nilfunc | exact VTo.ptr rfl | exact VTo.gl rfl | exact VTo.map rfl | exact VTo.yld rfl | exact VTo.fmMap rfl | exact VTo.fm | exact VTo.glNil' (by decide) rfl rfl | exact VTo.fsNil (by decide) | exact VTo.fsSl rfl rfl (by simp [flat_len encE_len]) | exact VTo.fpPtr rfl | exact VTo.fsGl rfl (by first | rfl | exact flat_len encI_len _ | exact flat_len encS_len _ | exact flat_len encP_len _ | exact flat_len encL_len _ | exact flat_len encE_len _ | (simp [flat_len encP_len]; done) | simp [flat_len encI_len, flat_len encS_len]))) ?_)) trivial trivial rfl) (by repeat' (first | exact VTo.undef | exact FrTo.leaf | refine FrTo.node ?_ ?_ ?_ | refine FrTo.none ?_ ?_ | exact VTo.sc (by first | rfl | (congr 1; omega) | (congr 1; simp; omega)) | exact VTos_dv _ _ | refine VTos.cons ?_ ?_ | exact VTos.nil | refine VTo.agg ?_ | refine VTo.tuple ?_ | refine VTo.func ?_ ?_ | exact VTo.fs | exact VTo.fp | exact VTo.nilptr | exact VTo.nilslice | exact VTo.nilfunc | exact VTo.ptr rfl | exact VTo.gl rfl | exact VTo.map rfl | exact VTo.yld rfl | exact VTo.fmMap rfl | exact VTo.fm | exact VTo.glNil' (by decide) rfl rfl | exact VTo.fsNil (by decide) | exact VTo.fsSl rfl rfl (by simp [flat_len encE_len]) | exact VTo.fpPtr rfl | exact VTo.fsGl rfl (by first | rfl | exact flat_len encI_len _ | exact flat_len encS_len _ | exact flat_len encP_len _ | exact flat_len encL_len _ | exact flat_len encE_len _ | (simp [flat_len encP_len]; done) | simp [flat_len encI_len, flat_len encS_len]))) (by first | rfl | (repeat' (first | exact MkTo.nil | refine MkTo.keep rfl ?_ | refine MkTo.drop (by decide) rfl ?_)))
        · have hje : j = T.length := by omega
          subst hje
          rw [List.take_of_length_le (Nat.le_refl _), ← hts]
          conv => whnf
          repeat (first | (refine VLd.intro rfl ?_; conv => whnf) | (refine VArith.i64 (by omega) ?_; conv => whnf) | (refine VNeed.intro (by first | rfl | (simp; omega)) ?_; conv => whnf) | (refine VMem.store rfl rfl rfl rfl ?_; conv => whnf) | (refine VSame.intro rfl ?_; conv => whnf) | (refine VDraw.go [] (by kernel_rfl) (by kernel_rfl) ?_; conv => whnf))
          refine LEnd.intro (k + 1) (by omega) (by omega) ?_
          conv => whnf
          refine Retell.turn ⟨[0], 2, [(1, (tru (f.ps.take (k + 1))).flatMap encL)], []⟩ (TurnOk.mk' _ _ [(1, (tru (f.ps.take (k + 1))).flatMap encL)] [] (OutOk.lift _) rfl (by decide) (by repeat' (first | exact BTos.nil | refine BTos.flat rfl rfl (by first | rfl | simp) ?_ | refine BTos.new rfl ?_ | refine BTos.dead rfl rfl ?_ | refine BTos.esE rfl rfl ?_ | refine BTos.row rfl rfl rfl (RowTo.snoc (RowTo.one rfl (by simp))) ?_ | refine BTos.cells rfl rfl rfl (by repeat' (first | exact VTo.undef | exact FrTo.leaf | refine FrTo.node ?_ ?_ ?_ | refine FrTo.none ?_ ?_ | exact VTo.sc (by first | rfl | (congr 1; omega) | (congr 1; simp; omega)) | exact VTos_dv _ _ | refine VTos.cons ?_ ?_ | exact VTos.nil | refine VTo.agg ?_ | refine VTo.tuple ?_ | refine VTo.func ?_ ?_ | exact VTo.fs | exact VTo.fp | exact VTo.nilptr | exact VTo.nilslice | exact VTo.nilfunc | exact VTo.ptr rfl | exact VTo.gl rfl | exact VTo.map rfl | exact VTo.yld rfl | exact VTo.fmMap rfl | exact VTo.fm | exact VTo.glNil' (by decide) rfl rfl | exact VTo.fsNil (by decide) | exact VTo.fsSl rfl rfl (by simp [flat_len encE_len]) | exact VTo.fpPtr rfl | exact VTo.fsGl rfl (by first | rfl | exact flat_len encI_len _ | exact flat_len encS_len _ | exact flat_len encP_len _ | exact flat_len encL_len _ | exact flat_len encE_len _ | (simp [flat_len encP_len]; done) | simp [flat_len encI_len, flat_len encS_len]))) ?_)) (by repeat' (first | exact FzAll.nil | refine FzAll.flat rfl ?_ | refine FzAll.row rfl rfl (RowTo.one rfl (by simp)) ?_)) trivial rfl) (by repeat' (first | exact VTo.undef | exact FrTo.leaf | refine FrTo.node ?_ ?_ ?_ | refine FrTo.none ?_ ?_ | exact VTo.sc (by first | rfl | (congr 1; omega) | (congr 1; simp; omega)) | exact VTos_dv _ _ | refine VTos.cons ?_ ?_ | exact VTos.nil | refine VTo.agg ?_ | refine VTo.tuple ?_ | refine VTo.func ?_ ?_ | exact VTo.fs | exact VTo.fp | exact VTo.nilptr | exact VTo.nilslice | exact VTo.nilfunc | exact VTo.ptr rfl | exact VTo.gl rfl | exact VTo.map rfl | exact VTo.yld rfl | exact VTo.fmMap rfl | exact VTo.fm | exact VTo.glNil' (by decide) rfl rfl | exact VTo.fsNil (by decide) | exact VTo.fsSl rfl rfl (by simp [flat_len encE_len]) | exact VTo.fpPtr rfl | exact VTo.fsGl rfl (by first | rfl | exact flat_len encI_len _ | exact flat_len encS_len _ | exact flat_len encP_len _ | exact flat_len encL_len _ | exact flat_len encE_len _ | (simp [flat_len encP_len]; done) | simp [flat_len encI_len, flat_len encS_len]))) (by first | rfl | (repeat' (first | exact MkTo.nil | refine MkTo.keep rfl ?_ | refine MkTo.drop (by decide) rfl ?_)))
    · have hke : k = f.ps.length := by omega
      subst hke
      rw [List.take_of_length_le (Nat.le_refl _)]
      conv => whnf
      repeat (first | (refine VLd.intro rfl ?_; conv => whnf) | (refine VArith.i64 (by omega) ?_; conv => whnf) | (refine VNeed.intro (by first | rfl | (simp; omega)) ?_; conv => whnf) | (refine VMem.store rfl rfl rfl rfl ?_; conv => whnf) | (refine VSame.intro rfl ?_; conv => whnf) | (refine VDraw.go [] (by kernel_rfl) (by kernel_rfl) ?_; conv => whnf))
      exact VOut.same rfl
end Go.Proofs.Ytolnajnlcdacmaa

open Go.Vm
namespace Go.Proofs.Ytolnajnlcdacmaa
set_option maxRecDepth 20000
set_option maxHeartbeats 1000000

theorem holdsS_of : ∀ {ps : List Pap} {t : List Int}, (∀ (i : Nat) p y, ps[i]? = some p → t[i]? = some y → p.lo ≤ y ∧ y ≤ p.hi) → holdsS ps t = true
  | [], t, _ => by cases t <;> simp [holdsS]
  | p :: ps, [], _ => by simp [holdsS]
  | p :: ps, y :: t, h => by
    rw [holdsS, decide_eq_true (h 0 p y rfl rfl), Bool.true_and]
    exact holdsS_of fun i q z h1 h2 => h (i + 1) q z (by simpa using h1) (by simpa using h2)
theorem mem_yrs {p : Pap} {y : Int} : y ∈ yrs p ↔ p.lo ≤ y ∧ y ≤ p.hi := by
  unfold yrs
  rw [List.mem_map]
  constructor
  · rintro ⟨k, h1, rfl⟩
    rw [List.mem_range] at h1; omega
  · intro h
    exact ⟨(y - p.lo).toNat, by rw [List.mem_range]; omega, by omega⟩
/-- The first parts of truths are those that hold so far. -/
theorem tru_take {ps : List Pap} : ∀ {k : Nat}, k ≤ ps.length → ∀ t, t ∈ tru (ps.take k) ↔ t.length = k ∧ ∀ (i : Nat) p y, ps[i]? = some p → t[i]? = some y → p.lo ≤ y ∧ y ≤ p.hi
  | 0, _, t => by
    have : tru (ps.take 0) = [[]] := rfl
    rw [this, List.mem_singleton]
    constructor
    · rintro rfl; exact ⟨rfl, fun i p y _ h => by simp at h⟩
    · rintro ⟨h, _⟩; exact List.length_eq_zero_iff.1 h
  | k + 1, hk, t => by
    have hp : ps[k]? = some ps[k] := List.getElem?_eq_getElem (by omega)
    rw [tru_snoc hp]
    generalize ps[k] = q at hp
    simp only [ext1, List.mem_flatMap, List.mem_map]
    constructor
    · rintro ⟨t0, h1, y, h2, rfl⟩
      obtain ⟨h3, h4⟩ := (tru_take (by omega) t0).1 h1
      refine ⟨by simp [h3], fun i p z hp2 hz => ?_⟩
      rcases Nat.lt_trichotomy i k with h5 | h5 | h5
      · rw [List.getElem?_append_left (by omega)] at hz; exact h4 i p z hp2 hz
      · subst h5
        rw [hp] at hp2; cases hp2
        rw [List.getElem?_append_right (by omega), h3] at hz
        simp at hz; subst hz
        exact mem_yrs.1 h2
      · rw [List.getElem?_eq_none (by simp; omega)] at hz; cases hz
    · rintro ⟨h1, h2⟩
      have hy : t[k]? = some t[k] := List.getElem?_eq_getElem (by omega)
      refine ⟨t.take k, (tru_take (by omega) _).2 ⟨by simp; omega, fun i p z hp2 hz => ?_⟩, t[k], mem_yrs.2 (h2 k q _ hp hy), ?_⟩
      · rw [List.getElem?_take] at hz
        split at hz
        · exact h2 i p z hp2 hz
        · cases hz
      · have e9 : t.take (k + 1) = t.take k ++ [t[k]] := by rw [List.take_add_one, hy]; rfl
        rw [← e9, List.take_of_length_le (by omega)]
theorem mem_tru {ps : List Pap} {t : List Int} : t ∈ tru ps ↔ t.length = ps.length ∧ holdsS ps t = true := by
  have := tru_take (ps := ps) (Nat.le_refl _) t
  rw [List.take_of_length_le (Nat.le_refl _)] at this
  rw [this]
  constructor
  · rintro ⟨h1, h2⟩; exact ⟨h1, holdsS_of h2⟩
  · rintro ⟨h1, h2⟩; exact ⟨h1, fun i p y hp hy => holdsS_get h2 hp hy⟩
theorem tru_okt {f : Fil} (h : chk f = 0) {t : List Int} (ht : t ∈ tru f.ps) : Okt f t := by
  obtain ⟨a, b, c, d⟩ := chk_zero h
  obtain ⟨h1, h2⟩ := mem_tru.1 ht
  exact ⟨a, b, c, h1, d, h2⟩
theorem chk_paps {f : Fil} (h : chk f = 0) : ∀ p ∈ f.ps, 0 ≤ p.lo ∧ p.lo ≤ p.hi ∧ p.hi ≤ 3000 := by
  obtain ⟨_, _, _, d⟩ := chk_zero h
  intro p hp
  have := chkGo_zero d p hp
  unfold badPap at this
  omega
/-- Whether somebody is the owner in some truth. -/
def isOwn (f : Fil) (x : Int) : Bool := (tru f.ps).any fun t => decide ((own f t).1 = x)
/-- Who is the owner in some truth. -/
def osL (f : Fil) : List Int := selS (fun k => isOwn f k) 3
/-- There are not too many truths. -/
def Few (f : Fil) : Prop := ∀ k, (tru (f.ps.take k)).length ≤ 1000000
theorem vc_rOwners_no (f : Fil) (h : Hp) (hn : f.ps.length ≤ 4000000) (h0 : chk f ≠ 0) : VC Try.prog 17 [vF f] h (.tuple [.nilslice, I (chk f)]) h := by
  refine VC.body Try.func17 rfl Try.ntmps17 Try.call17 (h.grows_refl) rfl ?_; conv => whnf
  repeat' (first | (refine VLd.intro rfl ?_; conv => whnf) | (refine VArith.i64 (by omega) ?_; conv => whnf) | (refine VNeed.intro (by first | rfl | (simp; omega)) ?_; conv => whnf) | (refine VMem.store rfl rfl rfl rfl ?_; conv => whnf) | (refine VSame.intro rfl ?_; conv => whnf) | (refine VDraw.go [] (by kernel_rfl) (by kernel_rfl) ?_; conv => whnf) | (refine VIte.dec (fun _ => ?_) (fun _ => ?_) <;> conv => whnf) | (refine VIte.ndec (fun _ => ?_) (fun _ => ?_) <;> conv => whnf) | (refine VIte.beq (fun _ => ?_) (fun _ => ?_) <;> conv => whnf) | (refine VIte.bne (fun _ => ?_) (fun _ => ?_) <;> conv => whnf) | (refine VIte.intro (fun _ => ?_) (fun _ => ?_) <;> conv => whnf) | (refine VCall.intro (vc_rcheck f _ hn) ?_; conv => whnf))
  · exact VOut.same rfl
  all_goals (rename_i h1; exact absurd (by simpa using h1) h0)
theorem vc_rOwners_ok (f : Fil) (h : Hp) (h0 : chk f = 0) (hb : Few f) : VC Try.prog 17 [vF f] h (.tuple [ints (osL f), I 0]) h := by
  have hn := (chk_zero h0).2.2.1
  have hS : ∀ h, VC Try.prog 35 [vF f] h (I 0) h := fun h => h0 ▸ vc_rcheck f h (by omega)
  have hT := vc_truths f (hl := by omega) (hp := chk_paps h0) (hb := hb)
  have hok := fun t (ht : t ∈ tru f.ps) => tru_okt h0 ht
  have hln : (tru f.ps).length ≤ 1000000 := by have := hb f.ps.length; rwa [List.take_of_length_le (Nat.le_refl _)] at this
  have hio : ∀ x, isOwn f x = (tru f.ps).any fun t => decide ((own f t).1 = x) := fun x => rfl
  unfold osL
  obtain ⟨T, hTT⟩ : ∃ T, T = tru f.ps := ⟨_, rfl⟩
  rw [← hTT] at hT hok hln hio
  refine VC.body Try.func17 rfl Try.ntmps17 Try.call17 (h.grows_refl) rfl ?_; conv => whnf
  repeat' (first | (refine VLd.intro rfl ?_; conv => whnf) | (refine VArith.i64 (by omega) ?_; conv => whnf) | (refine VNeed.intro (by first | rfl | (simp; omega)) ?_; conv => whnf) | (refine VMem.store rfl rfl rfl rfl ?_; conv => whnf) | (refine VSame.intro rfl ?_; conv => whnf) | (refine VDraw.go [] (by kernel_rfl) (by kernel_rfl) ?_; conv => whnf) | (refine VIte.dec (fun _ => ?_) (fun _ => ?_) <;> conv => whnf) | (refine VIte.ndec (fun _ => ?_) (fun _ => ?_) <;> conv => whnf) | (refine VIte.beq (fun _ => ?_) (fun _ => ?_) <;> conv => whnf) | (refine VIte.bne (fun _ => ?_) (fun _ => ?_) <;> conv => whnf) | (refine VIte.intro (fun _ => ?_) (fun _ => ?_) <;> conv => whnf) | (refine VCall.intro (hS _) ?_; conv => whnf) | (refine VCall.intro (hT _) ?_; conv => whnf))
  refine VCode.lp (fun k : Nat => [(1, .ptr (.loc 0) 0), (5, intss T), (6, .gl (.loc 1) 1 (selS (fun k => isOwn f k) k).length), (7, I k)]) (fun k => [.flat true (encF f), .flat true ((selS (fun k => isOwn f k) k).flatMap encI)]) (fun k => k ≤ 3) (fun k => 3 - k) 0 (Nat.zero_le _) ?_ ?_
  · conv => whnf
    refine Retell.turn ⟨[0,1], 1, [], []⟩ (TurnOk.mk' _ _ [] [] (OutOk.lift _) rfl (by decide) (by repeat' (first | exact BTos.nil | refine BTos.flat rfl rfl (by first | rfl | simp) ?_ | refine BTos.new rfl ?_ | refine BTos.dead rfl rfl ?_ | refine BTos.esE rfl rfl ?_ | refine BTos.row rfl rfl rfl (RowTo.snoc (RowTo.one rfl (by simp))) ?_ | refine BTos.cells rfl rfl rfl (by repeat' (first | exact VTo.undef | exact FrTo.leaf | refine FrTo.node ?_ ?_ ?_ | refine FrTo.none ?_ ?_ | exact VTo.sc (by first | rfl | (congr 1; omega) | (congr 1; simp; omega)) | exact VTos_dv _ _ | refine VTos.cons ?_ ?_ | exact VTos.nil | refine VTo.agg ?_ | refine VTo.tuple ?_ | refine VTo.func ?_ ?_ | exact VTo.fs | exact VTo.fp | exact VTo.nilptr | exact VTo.nilslice | exact VTo.nilfunc | exact VTo.ptr rfl | exact VTo.gl rfl | exact VTo.map rfl | exact VTo.yld rfl | exact VTo.fmMap rfl | exact VTo.fm | exact VTo.glNil' (by decide) rfl rfl | exact VTo.fsNil (by decide) | exact VTo.fsSl rfl rfl (by simp [flat_len encE_len]) | exact VTo.fpPtr rfl | exact VTo.fsGl rfl (by first | rfl | exact flat_len encI_len _ | exact flat_len encS_len _ | exact flat_len encP_len _ | exact flat_len encL_len _ | exact flat_len encE_len _ | (simp [flat_len encP_len]; done) | simp [flat_len encI_len, flat_len encS_len]))) ?_)) trivial trivial rfl) (by repeat' (first | exact VTo.undef | exact FrTo.leaf | refine FrTo.node ?_ ?_ ?_ | refine FrTo.none ?_ ?_ | exact VTo.sc (by first | rfl | (congr 1; omega) | (congr 1; simp; omega)) | exact VTos_dv _ _ | refine VTos.cons ?_ ?_ | exact VTos.nil | refine VTo.agg ?_ | refine VTo.tuple ?_ | refine VTo.func ?_ ?_ | exact VTo.fs | exact VTo.fp | exact VTo.nilptr | exact VTo.nilslice | exact VTo.nilfunc | exact VTo.ptr rfl | exact VTo.gl rfl | exact VTo.map rfl | exact VTo.yld rfl | exact VTo.fmMap rfl | exact VTo.fm | exact VTo.glNil' (by decide) rfl rfl | exact VTo.fsNil (by decide) | exact VTo.fsSl rfl rfl (by simp [flat_len encE_len]) | exact VTo.fpPtr rfl | exact VTo.fsGl rfl (by first | rfl | exact flat_len encI_len _ | exact flat_len encS_len _ | exact flat_len encP_len _ | exact flat_len encL_len _ | exact flat_len encE_len _ | (simp [flat_len encP_len]; done) | simp [flat_len encI_len, flat_len encS_len]))) (by first | rfl | (repeat' (first | exact MkTo.nil | refine MkTo.keep rfl ?_ | refine MkTo.drop (by decide) rfl ?_)))
  · intro k hk
    have hsl := selS_len (fun k => isOwn f k) k
    conv => whnf
    refine VIte.dec (fun h3 => ?_) (fun h3 => ?_)
    · conv => whnf
      repeat (first | (refine VLd.intro rfl ?_; conv => whnf) | (refine VArith.i64 (by omega) ?_; conv => whnf) | (refine VNeed.intro (by first | rfl | (simp; omega)) ?_; conv => whnf) | (refine VMem.store rfl rfl rfl rfl ?_; conv => whnf) | (refine VSame.intro rfl ?_; conv => whnf) | (refine VDraw.go [] (by kernel_rfl) (by kernel_rfl) ?_; conv => whnf))
      obtain ⟨R, hR⟩ : ∃ R, R = isOwn f k := ⟨_, rfl⟩
      have hR2 := hR.trans (hio k)
      refine VCode.lp (fun x : Nat × Bool => [(1, .ptr (.loc 0) 0), (5, intss T), (6, .gl (.loc 1) 1 (selS (fun k => isOwn f k) k).length), (7, I k), (8, B x.2), (9, I x.1)]) (fun _ => [.flat true (encF f), .flat true ((selS (fun k => isOwn f k) k).flatMap encI)]) (fun x => x.1 ≤ T.length ∧ R = (x.2 || (T.drop x.1).any fun t => decide ((own f t).1 = k))) (fun x => T.length - x.1) (0, false) ⟨Nat.zero_le _, hR2⟩ ?_ ?_
      · conv => whnf
        refine Retell.turn ⟨[0,1], 2, [], []⟩ (TurnOk.mk' _ _ [] [] (OutOk.lift _) rfl (by decide) (by repeat' (first | exact BTos.nil | refine BTos.flat rfl rfl (by first | rfl | simp) ?_ | refine BTos.new rfl ?_ | refine BTos.dead rfl rfl ?_ | refine BTos.esE rfl rfl ?_ | refine BTos.row rfl rfl rfl (RowTo.snoc (RowTo.one rfl (by simp))) ?_ | refine BTos.cells rfl rfl rfl (by repeat' (first | exact VTo.undef | exact FrTo.leaf | refine FrTo.node ?_ ?_ ?_ | refine FrTo.none ?_ ?_ | exact VTo.sc (by first | rfl | (congr 1; omega) | (congr 1; simp; omega)) | exact VTos_dv _ _ | refine VTos.cons ?_ ?_ | exact VTos.nil | refine VTo.agg ?_ | refine VTo.tuple ?_ | refine VTo.func ?_ ?_ | exact VTo.fs | exact VTo.fp | exact VTo.nilptr | exact VTo.nilslice | exact VTo.nilfunc | exact VTo.ptr rfl | exact VTo.gl rfl | exact VTo.map rfl | exact VTo.yld rfl | exact VTo.fmMap rfl | exact VTo.fm | exact VTo.glNil' (by decide) rfl rfl | exact VTo.fsNil (by decide) | exact VTo.fsSl rfl rfl (by simp [flat_len encE_len]) | exact VTo.fpPtr rfl | exact VTo.fsGl rfl (by first | rfl | exact flat_len encI_len _ | exact flat_len encS_len _ | exact flat_len encP_len _ | exact flat_len encL_len _ | exact flat_len encE_len _ | (simp [flat_len encP_len]; done) | simp [flat_len encI_len, flat_len encS_len]))) ?_)) trivial trivial rfl) (by repeat' (first | exact VTo.undef | exact FrTo.leaf | refine FrTo.node ?_ ?_ ?_ | refine FrTo.none ?_ ?_ | exact VTo.sc (by first | rfl | (congr 1; omega) | (congr 1; simp; omega)) | exact VTos_dv _ _ | refine VTos.cons ?_ ?_ | exact VTos.nil | refine VTo.agg ?_ | refine VTo.tuple ?_ | refine VTo.func ?_ ?_ | exact VTo.fs | exact VTo.fp | exact VTo.nilptr | exact VTo.nilslice | exact VTo.nilfunc | exact VTo.ptr rfl | exact VTo.gl rfl | exact VTo.map rfl | exact VTo.yld rfl | exact VTo.fmMap rfl | exact VTo.fm | exact VTo.glNil' (by decide) rfl rfl | exact VTo.fsNil (by decide) | exact VTo.fsSl rfl rfl (by simp [flat_len encE_len]) | exact VTo.fpPtr rfl | exact VTo.fsGl rfl (by first | rfl | exact flat_len encI_len _ | exact flat_len encS_len _ | exact flat_len encP_len _ | exact flat_len encL_len _ | exact flat_len encE_len _ | (simp [flat_len encP_len]; done) | simp [flat_len encI_len, flat_len encS_len]))) (by first | rfl | (repeat' (first | exact MkTo.nil | refine MkTo.keep rfl ?_ | refine MkTo.drop (by decide) rfl ?_)))
      · rintro ⟨j, b⟩ ⟨g1, g2⟩
        simp only at g1 g2
        conv => whnf
        refine VIte.dec (fun g3 => ?_) (fun g3 => ?_)
        · have hx : T[j]? = some T[j] := List.getElem?_eq_getElem (by omega)
          have hox := hok T[j] (List.getElem_mem (by omega))
          generalize T[j] = t at hx hox
          rw [any_drop hx] at g2
          conv => whnf
          repeat' (first | (refine VLd.intro rfl ?_; conv => whnf) | (refine VArith.i64 (by omega) ?_; conv => whnf) | (refine VNeed.intro (by first | rfl | (simp; omega)) ?_; conv => whnf) | (refine VMem.store rfl rfl rfl rfl ?_; conv => whnf) | (refine VSame.intro rfl ?_; conv => whnf) | (refine VDraw.go [] (by kernel_rfl) (by kernel_rfl) ?_; conv => whnf) | (refine VIte.dec (fun _ => ?_) (fun _ => ?_) <;> conv => whnf) | (refine VIte.ndec (fun _ => ?_) (fun _ => ?_) <;> conv => whnf) | (refine VIte.beq (fun _ => ?_) (fun _ => ?_) <;> conv => whnf) | (refine VIte.bne (fun _ => ?_) (fun _ => ?_) <;> conv => whnf) | (refine VIte.intro (fun _ => ?_) (fun _ => ?_) <;> conv => whnf) | (refine VAny.ix encL_len j rfl rfl hx ?_; conv => whnf) | (refine VCall.intro (vc_owner f t _ hox) ?_; conv => whnf))
          · rename_i hbt
            have hbt : b = true := hbt
            subst hbt
            refine LEnd.intro (j + 1, true) ⟨by simp only; omega, by rw [g2]; rfl⟩ (by simp only; omega) ?_
            conv => whnf
            refine Retell.turn ⟨[0,1], 2, [], []⟩ (TurnOk.mk' _ _ [] [] (OutOk.lift _) rfl (by decide) (by repeat' (first | exact BTos.nil | refine BTos.flat rfl rfl (by first | rfl | simp) ?_ | refine BTos.new rfl ?_ | refine BTos.dead rfl rfl ?_ | refine BTos.esE rfl rfl ?_ | refine BTos.row rfl rfl rfl (RowTo.snoc (RowTo.one rfl (by simp))) ?_ | refine BTos.cells rfl rfl rfl (by repeat' (first | exact VTo.undef | exact FrTo.leaf | refine FrTo.node ?_ ?_ ?_ | refine FrTo.none ?_ ?_ | exact VTo.sc (by first | rfl | (congr 1; omega) | (congr 1; simp; omega)) | exact VTos_dv _ _ | refine VTos.cons ?_ ?_ | exact VTos.nil | refine VTo.agg ?_ | refine VTo.tuple ?_ | refine VTo.func ?_ ?_ | exact VTo.fs | exact VTo.fp | exact VTo.nilptr | exact VTo.nilslice | exact VTo.nilfunc | exact VTo.ptr rfl | exact VTo.gl rfl | exact VTo.map rfl | exact VTo.yld rfl | exact VTo.fmMap rfl | exact VTo.fm | exact VTo.glNil' (by decide) rfl rfl | exact VTo.fsNil (by decide) | exact VTo.fsSl rfl rfl (by simp [flat_len encE_len]) | exact VTo.fpPtr rfl | exact VTo.fsGl rfl (by first | rfl | exact flat_len encI_len _ | exact flat_len encS_len _ | exact flat_len encP_len _ | exact flat_len encL_len _ | exact flat_len encE_len _ | (simp [flat_len encP_len]; done) | simp [flat_len encI_len, flat_len encS_len]))) ?_)) trivial trivial rfl) (by repeat' (first | exact VTo.undef | exact FrTo.leaf | refine FrTo.node ?_ ?_ ?_ | refine FrTo.none ?_ ?_ | exact VTo.sc (by first | rfl | (congr 1; omega) | (congr 1; simp; omega)) | exact VTos_dv _ _ | refine VTos.cons ?_ ?_ | exact VTos.nil | refine VTo.agg ?_ | refine VTo.tuple ?_ | refine VTo.func ?_ ?_ | exact VTo.fs | exact VTo.fp | exact VTo.nilptr | exact VTo.nilslice | exact VTo.nilfunc | exact VTo.ptr rfl | exact VTo.gl rfl | exact VTo.map rfl | exact VTo.yld rfl | exact VTo.fmMap rfl | exact VTo.fm | exact VTo.glNil' (by decide) rfl rfl | exact VTo.fsNil (by decide) | exact VTo.fsSl rfl rfl (by simp [flat_len encE_len]) | exact VTo.fpPtr rfl | exact VTo.fsGl rfl (by first | rfl | exact flat_len encI_len _ | exact flat_len encS_len _ | exact flat_len encP_len _ | exact flat_len encL_len _ | exact flat_len encE_len _ | (simp [flat_len encP_len]; done) | simp [flat_len encI_len, flat_len encS_len]))) (by first | rfl | (repeat' (first | exact MkTo.nil | refine MkTo.keep rfl ?_ | refine MkTo.drop (by decide) rfl ?_)))
          · rename_i hbt
            have hbt : b = false := by simpa using hbt
            subst hbt
            refine LEnd.intro (j + 1, decide ((own f t).1 = k)) ⟨by simp only; omega, by rw [g2, Bool.false_or]⟩ (by simp only; omega) ?_
            conv => whnf
            refine Retell.turn ⟨[0,1], 2, [], []⟩ (TurnOk.mk' _ _ [] [] (OutOk.lift _) rfl (by decide) (by repeat' (first | exact BTos.nil | refine BTos.flat rfl rfl (by first | rfl | simp) ?_ | refine BTos.new rfl ?_ | refine BTos.dead rfl rfl ?_ | refine BTos.esE rfl rfl ?_ | refine BTos.row rfl rfl rfl (RowTo.snoc (RowTo.one rfl (by simp))) ?_ | refine BTos.cells rfl rfl rfl (by repeat' (first | exact VTo.undef | exact FrTo.leaf | refine FrTo.node ?_ ?_ ?_ | refine FrTo.none ?_ ?_ | exact VTo.sc (by first | rfl | (congr 1; omega) | (congr 1; simp; omega)) | exact VTos_dv _ _ | refine VTos.cons ?_ ?_ | exact VTos.nil | refine VTo.agg ?_ | refine VTo.tuple ?_ | refine VTo.func ?_ ?_ | exact VTo.fs | exact VTo.fp | exact VTo.nilptr | exact VTo.nilslice | exact VTo.nilfunc | exact VTo.ptr rfl | exact VTo.gl rfl | exact VTo.map rfl | exact VTo.yld rfl | exact VTo.fmMap rfl | exact VTo.fm | exact VTo.glNil' (by decide) rfl rfl | exact VTo.fsNil (by decide) | exact VTo.fsSl rfl rfl (by simp [flat_len encE_len]) | exact VTo.fpPtr rfl | exact VTo.fsGl rfl (by first | rfl | exact flat_len encI_len _ | exact flat_len encS_len _ | exact flat_len encP_len _ | exact flat_len encL_len _ | exact flat_len encE_len _ | (simp [flat_len encP_len]; done) | simp [flat_len encI_len, flat_len encS_len]))) ?_)) trivial trivial rfl) (by repeat' (first | exact VTo.undef | exact FrTo.leaf | refine FrTo.node ?_ ?_ ?_ | refine FrTo.none ?_ ?_ | exact VTo.sc (by first | rfl | (congr 1; omega) | (congr 1; simp; omega)) | exact VTos_dv _ _ | refine VTos.cons ?_ ?_ | exact VTos.nil | refine VTo.agg ?_ | refine VTo.tuple ?_ | refine VTo.func ?_ ?_ | exact VTo.fs | exact VTo.fp | exact VTo.nilptr | exact VTo.nilslice | exact VTo.nilfunc | exact VTo.ptr rfl | exact VTo.gl rfl | exact VTo.map rfl | exact VTo.yld rfl | exact VTo.fmMap rfl | exact VTo.fm | exact VTo.glNil' (by decide) rfl rfl | exact VTo.fsNil (by decide) | exact VTo.fsSl rfl rfl (by simp [flat_len encE_len]) | exact VTo.fpPtr rfl | exact VTo.fsGl rfl (by first | rfl | exact flat_len encI_len _ | exact flat_len encS_len _ | exact flat_len encP_len _ | exact flat_len encL_len _ | exact flat_len encE_len _ | (simp [flat_len encP_len]; done) | simp [flat_len encI_len, flat_len encS_len]))) (by first | rfl | (repeat' (first | exact MkTo.nil | refine MkTo.keep rfl ?_ | refine MkTo.drop (by decide) rfl ?_)))
        · rw [List.drop_of_length_le (by omega), List.any_nil, Bool.or_false] at g2
          subst g2
          conv => whnf
          repeat (first | (refine VLd.intro rfl ?_; conv => whnf) | (refine VArith.i64 (by omega) ?_; conv => whnf) | (refine VNeed.intro (by first | rfl | (simp; omega)) ?_; conv => whnf) | (refine VMem.store rfl rfl rfl rfl ?_; conv => whnf) | (refine VSame.intro rfl ?_; conv => whnf) | (refine VDraw.go [] (by kernel_rfl) (by kernel_rfl) ?_; conv => whnf))
          cases R
          · conv => whnf
            repeat (first | (refine VLd.intro rfl ?_; conv => whnf) | (refine VArith.i64 (by omega) ?_; conv => whnf) | (refine VNeed.intro (by first | rfl | (simp; omega)) ?_; conv => whnf) | (refine VMem.store rfl rfl rfl rfl ?_; conv => whnf) | (refine VSame.intro rfl ?_; conv => whnf) | (refine VDraw.go [] (by kernel_rfl) (by kernel_rfl) ?_; conv => whnf))
            refine LEnd.intro (k + 1) (by omega) (by omega) ?_
            conv => whnf
            rw [selS, ← hR, if_neg (by simp)]
            refine Retell.turn ⟨[0,1], 2, [], []⟩ (TurnOk.mk' _ _ [] [] (OutOk.lift _) rfl (by decide) (by repeat' (first | exact BTos.nil | refine BTos.flat rfl rfl (by first | rfl | simp) ?_ | refine BTos.new rfl ?_ | refine BTos.dead rfl rfl ?_ | refine BTos.esE rfl rfl ?_ | refine BTos.row rfl rfl rfl (RowTo.snoc (RowTo.one rfl (by simp))) ?_ | refine BTos.cells rfl rfl rfl (by repeat' (first | exact VTo.undef | exact FrTo.leaf | refine FrTo.node ?_ ?_ ?_ | refine FrTo.none ?_ ?_ | exact VTo.sc (by first | rfl | (congr 1; omega) | (congr 1; simp; omega)) | exact VTos_dv _ _ | refine VTos.cons ?_ ?_ | exact VTos.nil | refine VTo.agg ?_ | refine VTo.tuple ?_ | refine VTo.func ?_ ?_ | exact VTo.fs | exact VTo.fp | exact VTo.nilptr | exact VTo.nilslice | exact VTo.nilfunc | exact VTo.ptr rfl | exact VTo.gl rfl | exact VTo.map rfl | exact VTo.yld rfl | exact VTo.fmMap rfl | exact VTo.fm | exact VTo.glNil' (by decide) rfl rfl | exact VTo.fsNil (by decide) | exact VTo.fsSl rfl rfl (by simp [flat_len encE_len]) | exact VTo.fpPtr rfl | exact VTo.fsGl rfl (by first | rfl | exact flat_len encI_len _ | exact flat_len encS_len _ | exact flat_len encP_len _ | exact flat_len encL_len _ | exact flat_len encE_len _ | (simp [flat_len encP_len]; done) | simp [flat_len encI_len, flat_len encS_len]))) ?_)) trivial trivial rfl) (by repeat' (first | exact VTo.undef | exact FrTo.leaf | refine FrTo.node ?_ ?_ ?_ | refine FrTo.none ?_ ?_ | exact VTo.sc (by first | rfl | (congr 1; omega) | (congr 1; simp; omega)) | exact VTos_dv _ _ | refine VTos.cons ?_ ?_ | exact VTos.nil | refine VTo.agg ?_ | refine VTo.tuple ?_ | refine VTo.func ?_ ?_ | exact VTo.fs | exact VTo.fp | exact VTo.nilptr | exact VTo.nilslice | exact VTo.nilfunc | exact VTo.ptr rfl | exact VTo.gl rfl | exact VTo.map rfl | exact VTo.yld rfl | exact VTo.fmMap rfl | exact VTo.fm | exact VTo.glNil' (by decide) rfl rfl | exact VTo.fsNil (by decide) | exact VTo.fsSl rfl rfl (by simp [flat_len encE_len]) | exact VTo.fpPtr rfl | exact VTo.fsGl rfl (by first | rfl | exact flat_len encI_len _ | exact flat_len encS_len _ | exact flat_len encP_len _ | exact flat_len encL_len _ | exact flat_len encE_len _ | (simp [flat_len encP_len]; done) | simp [flat_len encI_len, flat_len encS_len]))) (by first | rfl | (repeat' (first | exact MkTo.nil | refine MkTo.keep rfl ?_ | refine MkTo.drop (by decide) rfl ?_)))
          · conv => whnf
            repeat (first | (refine VLd.intro rfl ?_; conv => whnf) | (refine VArith.i64 (by omega) ?_; conv => whnf) | (refine VNeed.intro (by first | rfl | (simp; omega)) ?_; conv => whnf) | (refine VMem.store rfl rfl rfl rfl ?_; conv => whnf) | (refine VSame.intro rfl ?_; conv => whnf) | (refine VDraw.go [] (by kernel_rfl) (by kernel_rfl) ?_; conv => whnf))
            refine VMem.app1 (k : Int) encI_len rfl rfl rfl rfl rfl (by omega) ?_
            conv => whnf
            repeat (first | (refine VLd.intro rfl ?_; conv => whnf) | (refine VArith.i64 (by omega) ?_; conv => whnf) | (refine VNeed.intro (by first | rfl | (simp; omega)) ?_; conv => whnf) | (refine VMem.store rfl rfl rfl rfl ?_; conv => whnf) | (refine VSame.intro rfl ?_; conv => whnf) | (refine VDraw.go [] (by kernel_rfl) (by kernel_rfl) ?_; conv => whnf))
            refine LEnd.intro (k + 1) (by omega) (by omega) ?_
            conv => whnf
            rw [selS, ← hR, if_pos rfl, List.length_append]
            refine Retell.turn ⟨[0,3], 4, [], []⟩ (TurnOk.mk' _ _ [] [] (OutOk.lift _) rfl (by decide) (by repeat' (first | exact BTos.nil | refine BTos.flat rfl rfl (by first | rfl | simp) ?_ | refine BTos.new rfl ?_ | refine BTos.dead rfl rfl ?_ | refine BTos.esE rfl rfl ?_ | refine BTos.row rfl rfl rfl (RowTo.snoc (RowTo.one rfl (by simp))) ?_ | refine BTos.cells rfl rfl rfl (by repeat' (first | exact VTo.undef | exact FrTo.leaf | refine FrTo.node ?_ ?_ ?_ | refine FrTo.none ?_ ?_ | exact VTo.sc (by first | rfl | (congr 1; omega) | (congr 1; simp; omega)) | exact VTos_dv _ _ | refine VTos.cons ?_ ?_ | exact VTos.nil | refine VTo.agg ?_ | refine VTo.tuple ?_ | refine VTo.func ?_ ?_ | exact VTo.fs | exact VTo.fp | exact VTo.nilptr | exact VTo.nilslice | exact VTo.nilfunc | exact VTo.ptr rfl | exact VTo.gl rfl | exact VTo.map rfl | exact VTo.yld rfl | exact VTo.fmMap rfl | exact VTo.fm | exact VTo.glNil' (by decide) rfl rfl | exact VTo.fsNil (by decide) | exact VTo.fsSl rfl rfl (by simp [flat_len encE_len]) | exact VTo.fpPtr rfl | exact VTo.fsGl rfl (by first | rfl | exact flat_len encI_len _ | exact flat_len encS_len _ | exact flat_len encP_len _ | exact flat_len encL_len _ | exact flat_len encE_len _ | (simp [flat_len encP_len]; done) | simp [flat_len encI_len, flat_len encS_len]))) ?_)) trivial trivial rfl) (by repeat' (first | exact VTo.undef | exact FrTo.leaf | refine FrTo.node ?_ ?_ ?_ | refine FrTo.none ?_ ?_ | exact VTo.sc (by first | rfl | (congr 1; omega) | (congr 1; simp; omega)) | exact VTos_dv _ _ | refine VTos.cons ?_ ?_ | exact VTos.nil | refine VTo.agg ?_ | refine VTo.tuple ?_ | refine VTo.func ?_ ?_ | exact VTo.fs | exact VTo.fp | exact VTo.nilptr | exact VTo.nilslice | exact VTo.nilfunc | exact VTo.ptr rfl | exact VTo.gl rfl | exact VTo.map rfl | exact VTo.yld rfl | exact VTo.fmMap rfl | exact VTo.fm | exact VTo.glNil' (by decide) rfl rfl | exact VTo.fsNil (by decide) | exact VTo.fsSl rfl rfl (by simp [flat_len encE_len]) | exact VTo.fpPtr rfl | exact VTo.fsGl rfl (by first | rfl | exact flat_len encI_len _ | exact flat_len encS_len _ | exact flat_len encP_len _ | exact flat_len encL_len _ | exact flat_len encE_len _ | (simp [flat_len encP_len]; done) | simp [flat_len encI_len, flat_len encS_len]))) (by first | rfl | (repeat' (first | exact MkTo.nil | refine MkTo.keep rfl ?_ | refine MkTo.drop (by decide) rfl ?_)))
    · conv => whnf
      have hk' : k = 3 := by omega
      subst hk'
      repeat (first | (refine VLd.intro rfl ?_; conv => whnf) | (refine VArith.i64 (by omega) ?_; conv => whnf) | (refine VNeed.intro (by first | rfl | (simp; omega)) ?_; conv => whnf) | (refine VMem.store rfl rfl rfl rfl ?_; conv => whnf) | (refine VSame.intro rfl ?_; conv => whnf) | (refine VDraw.go [] (by kernel_rfl) (by kernel_rfl) ?_; conv => whnf))
      refine VOut.data 2 [(1, (selS (fun k => isOwn f k) 3).flatMap encI)] [] rfl (by repeat' (first | exact FzAll.nil | refine FzAll.flat rfl ?_ | refine FzAll.row rfl rfl (RowTo.one rfl (by simp)) ?_)) (by exact FmAll.nil) (by repeat' (first | exact VTo.undef | exact FrTo.leaf | refine FrTo.node ?_ ?_ ?_ | refine FrTo.none ?_ ?_ | exact VTo.sc (by first | rfl | (congr 1; omega) | (congr 1; simp; omega)) | exact VTos_dv _ _ | refine VTos.cons ?_ ?_ | exact VTos.nil | refine VTo.agg ?_ | refine VTo.tuple ?_ | refine VTo.func ?_ ?_ | exact VTo.fs | exact VTo.fp | exact VTo.nilptr | exact VTo.nilslice | exact VTo.nilfunc | exact VTo.ptr rfl | exact VTo.gl rfl | exact VTo.map rfl | exact VTo.yld rfl | exact VTo.fmMap rfl | exact VTo.fm | exact VTo.glNil' (by decide) rfl rfl | exact VTo.fsNil (by decide) | exact VTo.fsSl rfl rfl (by simp [flat_len encE_len]) | exact VTo.fpPtr rfl | exact VTo.fsGl rfl (by first | rfl | exact flat_len encI_len _ | exact flat_len encS_len _ | exact flat_len encP_len _ | exact flat_len encL_len _ | exact flat_len encE_len _ | (simp [flat_len encP_len]; done) | simp [flat_len encI_len, flat_len encS_len])))
end Go.Proofs.Ytolnajnlcdacmaa

open Go.Vm
namespace Go.Proofs.Ytolnajnlcdacmaa
set_option maxRecDepth 20000
set_option maxHeartbeats 1000000

theorem mem_selS {q : Nat → Bool} {x : Int} : ∀ {k : Nat}, x ∈ selS q k ↔ ∃ j : Nat, j < k ∧ x = j ∧ q j = true
  | 0 => by simp [selS]
  | k + 1 => by
    rw [selS]
    constructor
    · intro h
      split at h
      · rename_i hq
        rcases List.mem_append.1 h with h | h
        · obtain ⟨j, h1, h2, h3⟩ := mem_selS.1 h; exact ⟨j, by omega, h2, h3⟩
        · rw [List.mem_singleton] at h; exact ⟨k, by omega, h, hq⟩
      · obtain ⟨j, h1, h2, h3⟩ := mem_selS.1 h; exact ⟨j, by omega, h2, h3⟩
    · rintro ⟨j, h1, h2, h3⟩
      rcases Nat.eq_or_lt_of_le (Nat.le_of_lt_succ h1) with h4 | h4
      · subst h4; rw [if_pos h3]; simp [h2]
      · have := mem_selS.2 ⟨j, h4, h2, h3⟩
        split
        · simp [this]
        · exact this
theorem mem_osL {f : Fil} {x : Int} (h : 0 ≤ x ∧ x ≤ 2) : x ∈ osL f ↔ isOwn f x = true := by
  unfold osL
  rw [mem_selS]
  constructor
  · rintro ⟨j, _, rfl, hq⟩; exact hq
  · intro hq; exact ⟨x.toNat, by omega, by omega, by rw [show ((x.toNat : Nat) : Int) = x by omega]; exact hq⟩
/-- The error of a truth in which somebody is the owner. -/
def someE (f : Fil) (x : Int) : Int := if chk f ≠ 0 then chk f else if x < 0 ∨ 2 < x then 4 else bif isOwn f x then 0 else 7
theorem vc_Some (f : Fil) (x : Int) (h : Hp) (hn : f.ps.length ≤ 4000000) (hb : chk f = 0 → Few f) : VC Try.prog 20 [vF f, I x] h (I (someE f x)) h := by
  unfold someE
  by_cases h0 : chk f = 0
  case neg =>
    rw [if_pos h0]
    refine VC.body Try.func20 rfl Try.ntmps20 Try.call20 (h.grows_refl) rfl ?_; conv => whnf
    repeat' (first | (refine VLd.intro rfl ?_; conv => whnf) | (refine VArith.i64 (by omega) ?_; conv => whnf) | (refine VNeed.intro (by first | rfl | (simp; omega)) ?_; conv => whnf) | (refine VMem.store rfl rfl rfl rfl ?_; conv => whnf) | (refine VSame.intro rfl ?_; conv => whnf) | (refine VDraw.go [] (by kernel_rfl) (by kernel_rfl) ?_; conv => whnf) | (refine VIte.dec (fun _ => ?_) (fun _ => ?_) <;> conv => whnf) | (refine VIte.ndec (fun _ => ?_) (fun _ => ?_) <;> conv => whnf) | (refine VIte.beq (fun _ => ?_) (fun _ => ?_) <;> conv => whnf) | (refine VIte.bne (fun _ => ?_) (fun _ => ?_) <;> conv => whnf) | (refine VIte.intro (fun _ => ?_) (fun _ => ?_) <;> conv => whnf) | (refine VCall.intro (vc_rOwners_no f _ hn h0) ?_; conv => whnf))
    · exact VOut.same rfl
    all_goals (rename_i h1; exact absurd (by simpa using h1) h0)
  case pos =>
    rw [if_neg (by simpa using h0)]
    have hol := selS_len (fun k => isOwn f k) 3
    have hmo := fun hx => mem_osL (f := f) (x := x) hx
    have hR := vc_rOwners_ok f (h0 := h0) (hb := hb h0)
    change (osL f).length ≤ 3 at hol
    obtain ⟨L, hL⟩ : ∃ L, L = osL f := ⟨_, rfl⟩
    rw [← hL] at hol hmo hR
    refine VC.body Try.func20 rfl Try.ntmps20 Try.call20 (h.grows_refl) rfl ?_; conv => whnf
    repeat' (first | (refine VLd.intro rfl ?_; conv => whnf) | (refine VArith.i64 (by omega) ?_; conv => whnf) | (refine VNeed.intro (by first | rfl | (simp; omega)) ?_; conv => whnf) | (refine VMem.store rfl rfl rfl rfl ?_; conv => whnf) | (refine VSame.intro rfl ?_; conv => whnf) | (refine VDraw.go [] (by kernel_rfl) (by kernel_rfl) ?_; conv => whnf) | (refine VIte.dec (fun _ => ?_) (fun _ => ?_) <;> conv => whnf) | (refine VIte.ndec (fun _ => ?_) (fun _ => ?_) <;> conv => whnf) | (refine VIte.beq (fun _ => ?_) (fun _ => ?_) <;> conv => whnf) | (refine VIte.bne (fun _ => ?_) (fun _ => ?_) <;> conv => whnf) | (refine VIte.intro (fun _ => ?_) (fun _ => ?_) <;> conv => whnf) | (refine VCall.intro (hR _) ?_; conv => whnf) | (refine VCall.intro (vc_beside _ _ _ _) ?_; conv => whnf))
    · rw [if_pos (by omega)]
      exact VOut.same rfl
    · rw [if_neg (by omega)]
      have hmo := hmo (by omega)
      refine VCode.lp (fun k : Nat => [(1, I x), (5, ints L), (7, I k)]) (fun _ => []) (fun k => k ≤ L.length ∧ x ∉ L.take k) (fun k => L.length - k) 0 ⟨Nat.zero_le _, by simp⟩ ?_ ?_
      · conv => whnf
        refine Retell.turn ⟨[], 1, [], []⟩ (TurnOk.mk' _ _ [] [] (OutOk.lift _) rfl (by decide) (by repeat' (first | exact BTos.nil | refine BTos.flat rfl rfl (by first | rfl | simp) ?_ | refine BTos.new rfl ?_ | refine BTos.dead rfl rfl ?_ | refine BTos.esE rfl rfl ?_ | refine BTos.row rfl rfl rfl (RowTo.snoc (RowTo.one rfl (by simp))) ?_ | refine BTos.cells rfl rfl rfl (by repeat' (first | exact VTo.undef | exact FrTo.leaf | refine FrTo.node ?_ ?_ ?_ | refine FrTo.none ?_ ?_ | exact VTo.sc (by first | rfl | (congr 1; omega) | (congr 1; simp; omega)) | exact VTos_dv _ _ | refine VTos.cons ?_ ?_ | exact VTos.nil | refine VTo.agg ?_ | refine VTo.tuple ?_ | refine VTo.func ?_ ?_ | exact VTo.fs | exact VTo.fp | exact VTo.nilptr | exact VTo.nilslice | exact VTo.nilfunc | exact VTo.ptr rfl | exact VTo.gl rfl | exact VTo.map rfl | exact VTo.yld rfl | exact VTo.fmMap rfl | exact VTo.fm | exact VTo.glNil' (by decide) rfl rfl | exact VTo.fsNil (by decide) | exact VTo.fsSl rfl rfl (by simp [flat_len encE_len]) | exact VTo.fpPtr rfl | exact VTo.fsGl rfl (by first | rfl | exact flat_len encI_len _ | exact flat_len encS_len _ | exact flat_len encP_len _ | exact flat_len encL_len _ | exact flat_len encE_len _ | (simp [flat_len encP_len]; done) | simp [flat_len encI_len, flat_len encS_len]))) ?_)) trivial trivial rfl) (by repeat' (first | exact VTo.undef | exact FrTo.leaf | refine FrTo.node ?_ ?_ ?_ | refine FrTo.none ?_ ?_ | exact VTo.sc (by first | rfl | (congr 1; omega) | (congr 1; simp; omega)) | exact VTos_dv _ _ | refine VTos.cons ?_ ?_ | exact VTos.nil | refine VTo.agg ?_ | refine VTo.tuple ?_ | refine VTo.func ?_ ?_ | exact VTo.fs | exact VTo.fp | exact VTo.nilptr | exact VTo.nilslice | exact VTo.nilfunc | exact VTo.ptr rfl | exact VTo.gl rfl | exact VTo.map rfl | exact VTo.yld rfl | exact VTo.fmMap rfl | exact VTo.fm | exact VTo.glNil' (by decide) rfl rfl | exact VTo.fsNil (by decide) | exact VTo.fsSl rfl rfl (by simp [flat_len encE_len]) | exact VTo.fpPtr rfl | exact VTo.fsGl rfl (by first | rfl | exact flat_len encI_len _ | exact flat_len encS_len _ | exact flat_len encP_len _ | exact flat_len encL_len _ | exact flat_len encE_len _ | (simp [flat_len encP_len]; done) | simp [flat_len encI_len, flat_len encS_len]))) (by first | rfl | (repeat' (first | exact MkTo.nil | refine MkTo.keep rfl ?_ | refine MkTo.drop (by decide) rfl ?_)))
      · rintro k ⟨h1, h2⟩
        conv => whnf
        refine VIte.dec (fun h3 => ?_) (fun h3 => ?_)
        · have ha : L[k]? = some L[k] := List.getElem?_eq_getElem (by omega)
          have hts : L.take (k + 1) = L.take k ++ [L[k]] := by rw [List.take_add_one, ha]; rfl
          have hmem := List.getElem_mem (l := L) (n := k) (by omega)
          generalize L[k] = a at ha hts hmem
          conv => whnf
          repeat' (first | (refine VLd.intro rfl ?_; conv => whnf) | (refine VArith.i64 (by omega) ?_; conv => whnf) | (refine VNeed.intro (by first | rfl | (simp; omega)) ?_; conv => whnf) | (refine VMem.store rfl rfl rfl rfl ?_; conv => whnf) | (refine VSame.intro rfl ?_; conv => whnf) | (refine VDraw.go [] (by kernel_rfl) (by kernel_rfl) ?_; conv => whnf) | (refine VIte.dec (fun _ => ?_) (fun _ => ?_) <;> conv => whnf) | (refine VIte.ndec (fun _ => ?_) (fun _ => ?_) <;> conv => whnf) | (refine VIte.beq (fun _ => ?_) (fun _ => ?_) <;> conv => whnf) | (refine VIte.bne (fun _ => ?_) (fun _ => ?_) <;> conv => whnf) | (refine VIte.intro (fun _ => ?_) (fun _ => ?_) <;> conv => whnf) | (refine VAny.ix encI_len k (by omega) rfl ha ?_; conv => whnf))
          · rename_i hax
            subst hax
            rw [hmo.1 hmem]
            exact VOut.same rfl
          · rename_i hax
            refine LEnd.intro (k + 1) ⟨by omega, by rw [hts]; simp [h2]; omega⟩ (by omega) ?_
            conv => whnf
            refine Retell.turn ⟨[], 0, [], []⟩ (TurnOk.mk' _ _ [] [] (OutOk.lift _) rfl (by decide) (by repeat' (first | exact BTos.nil | refine BTos.flat rfl rfl (by first | rfl | simp) ?_ | refine BTos.new rfl ?_ | refine BTos.dead rfl rfl ?_ | refine BTos.esE rfl rfl ?_ | refine BTos.row rfl rfl rfl (RowTo.snoc (RowTo.one rfl (by simp))) ?_ | refine BTos.cells rfl rfl rfl (by repeat' (first | exact VTo.undef | exact FrTo.leaf | refine FrTo.node ?_ ?_ ?_ | refine FrTo.none ?_ ?_ | exact VTo.sc (by first | rfl | (congr 1; omega) | (congr 1; simp; omega)) | exact VTos_dv _ _ | refine VTos.cons ?_ ?_ | exact VTos.nil | refine VTo.agg ?_ | refine VTo.tuple ?_ | refine VTo.func ?_ ?_ | exact VTo.fs | exact VTo.fp | exact VTo.nilptr | exact VTo.nilslice | exact VTo.nilfunc | exact VTo.ptr rfl | exact VTo.gl rfl | exact VTo.map rfl | exact VTo.yld rfl | exact VTo.fmMap rfl | exact VTo.fm | exact VTo.glNil' (by decide) rfl rfl | exact VTo.fsNil (by decide) | exact VTo.fsSl rfl rfl (by simp [flat_len encE_len]) | exact VTo.fpPtr rfl | exact VTo.fsGl rfl (by first | rfl | exact flat_len encI_len _ | exact flat_len encS_len _ | exact flat_len encP_len _ | exact flat_len encL_len _ | exact flat_len encE_len _ | (simp [flat_len encP_len]; done) | simp [flat_len encI_len, flat_len encS_len]))) ?_)) trivial trivial rfl) (by repeat' (first | exact VTo.undef | exact FrTo.leaf | refine FrTo.node ?_ ?_ ?_ | refine FrTo.none ?_ ?_ | exact VTo.sc (by first | rfl | (congr 1; omega) | (congr 1; simp; omega)) | exact VTos_dv _ _ | refine VTos.cons ?_ ?_ | exact VTos.nil | refine VTo.agg ?_ | refine VTo.tuple ?_ | refine VTo.func ?_ ?_ | exact VTo.fs | exact VTo.fp | exact VTo.nilptr | exact VTo.nilslice | exact VTo.nilfunc | exact VTo.ptr rfl | exact VTo.gl rfl | exact VTo.map rfl | exact VTo.yld rfl | exact VTo.fmMap rfl | exact VTo.fm | exact VTo.glNil' (by decide) rfl rfl | exact VTo.fsNil (by decide) | exact VTo.fsSl rfl rfl (by simp [flat_len encE_len]) | exact VTo.fpPtr rfl | exact VTo.fsGl rfl (by first | rfl | exact flat_len encI_len _ | exact flat_len encS_len _ | exact flat_len encP_len _ | exact flat_len encL_len _ | exact flat_len encE_len _ | (simp [flat_len encP_len]; done) | simp [flat_len encI_len, flat_len encS_len]))) (by first | rfl | (repeat' (first | exact MkTo.nil | refine MkTo.keep rfl ?_ | refine MkTo.drop (by decide) rfl ?_)))
        · rw [List.take_of_length_le (by omega)] at h2
          have : isOwn f x = false := Bool.eq_false_iff.2 fun hq => h2 (hmo.2 hq)
          rw [this]
          conv => whnf
          repeat (first | (refine VLd.intro rfl ?_; conv => whnf) | (refine VArith.i64 (by omega) ?_; conv => whnf) | (refine VNeed.intro (by first | rfl | (simp; omega)) ?_; conv => whnf) | (refine VMem.store rfl rfl rfl rfl ?_; conv => whnf) | (refine VSame.intro rfl ?_; conv => whnf) | (refine VDraw.go [] (by kernel_rfl) (by kernel_rfl) ?_; conv => whnf))
          exact VOut.same rfl
end Go.Proofs.Ytolnajnlcdacmaa

open Go.Vm
namespace Go.Proofs.Ytolnajnlcdacmaa
set_option maxRecDepth 20000
set_option maxHeartbeats 1000000

/-- When somebody's right can have arisen, while truths are gone through. -/
structure Sn where
  found : Bool
  lo : Int
  hi : Int
def snF (f : Fil) (x : Int) (s : Sn) (t : List Int) : Sn :=
  if (own f t).1 = x then ⟨true, if s.found = false ∨ (own f t).2 < s.lo then (own f t).2 else s.lo, if s.found = false ∨ s.hi < (own f t).2 then (own f t).2 else s.hi⟩ else s
def sn (f : Fil) (x : Int) : Sn := (tru f.ps).foldl (snF f x) ⟨false, 0, 0⟩
def sinceE (f : Fil) (x : Int) : Int := if chk f ≠ 0 then chk f else if x < 0 ∨ 1 < x then 4 else bif (sn f x).found then 0 else 7
def sinceR (f : Fil) (x : Int) : V := .tuple [bif decide (sinceE f x = 0) then .agg [I (sn f x).lo, I (sn f x).hi] else .agg [I 0, I 0], I (sinceE f x)]
theorem foldl_drop {α β : Type} (g : β → α → β) {l : List α} {k : Nat} {x : α} (s : β) (hx : l[k]? = some x) : (l.drop k).foldl g s = (l.drop (k + 1)).foldl g (g s x) := by
  obtain ⟨h1, rfl⟩ := List.getElem?_eq_some_iff.1 hx
  rw [List.drop_eq_getElem_cons h1, List.foldl_cons]
theorem vc_rSince (f : Fil) (x : Int) (h : Hp) (hn : f.ps.length ≤ 4000000) (hb : chk f = 0 → Few f) : VC Try.prog 23 [vF f, I x] h (sinceR f x) h := by
  have hre : ∀ e, sinceE f x = e → e ≠ 0 → sinceR f x = .tuple [.agg [I 0, I 0], I e] := fun e he h0 => by unfold sinceR; rw [he, decide_eq_false h0]; rfl
  by_cases h0 : chk f = 0
  case neg =>
    rw [hre (chk f) (if_pos h0) h0]
    refine VC.body Try.func23 rfl Try.ntmps23 Try.call23 (h.grows_refl) rfl ?_; conv => whnf
    repeat' (first | (refine VLd.intro rfl ?_; conv => whnf) | (refine VArith.i64 (by omega) ?_; conv => whnf) | (refine VNeed.intro (by first | rfl | (simp; omega)) ?_; conv => whnf) | (refine VMem.store rfl rfl rfl rfl ?_; conv => whnf) | (refine VSame.intro rfl ?_; conv => whnf) | (refine VDraw.go [] (by kernel_rfl) (by kernel_rfl) ?_; conv => whnf) | (refine VIte.dec (fun _ => ?_) (fun _ => ?_) <;> conv => whnf) | (refine VIte.ndec (fun _ => ?_) (fun _ => ?_) <;> conv => whnf) | (refine VIte.beq (fun _ => ?_) (fun _ => ?_) <;> conv => whnf) | (refine VIte.bne (fun _ => ?_) (fun _ => ?_) <;> conv => whnf) | (refine VIte.intro (fun _ => ?_) (fun _ => ?_) <;> conv => whnf) | (refine VCall.intro (vc_rcheck f _ hn) ?_; conv => whnf))
    · exact VOut.same rfl
    all_goals (rename_i h1; exact absurd (by simpa using h1) h0)
  case pos =>
    have hn2 := (chk_zero h0).2.2.1
    have hb := hb h0
    have hS : ∀ h, VC Try.prog 35 [vF f] h (I 0) h := fun h => h0 ▸ vc_rcheck f h (by omega)
    have hT := vc_truths f (hl := by omega) (hp := chk_paps h0) (hb := hb)
    have hok := fun t (ht : t ∈ tru f.ps) => tru_okt h0 ht
    have hln : (tru f.ps).length ≤ 1000000 := by have := hb f.ps.length; rwa [List.take_of_length_le (Nat.le_refl _)] at this
    have he2 : sinceE f x = if x < 0 ∨ 1 < x then 4 else bif (sn f x).found then 0 else 7 := by unfold sinceE; rw [if_neg (by simpa using h0)]
    have hsn : sn f x = (tru f.ps).foldl (snF f x) ⟨false, 0, 0⟩ := rfl
    obtain ⟨T, hTT⟩ : ∃ T, T = tru f.ps := ⟨_, rfl⟩
    rw [← hTT] at hT hok hln hsn
    obtain ⟨R, hRR⟩ : ∃ R, R = sinceR f x := ⟨_, rfl⟩
    rw [← hRR] at hre ⊢
    refine VC.body Try.func23 rfl Try.ntmps23 Try.call23 (h.grows_refl) rfl ?_; conv => whnf
    repeat' (first | (refine VLd.intro rfl ?_; conv => whnf) | (refine VArith.i64 (by omega) ?_; conv => whnf) | (refine VNeed.intro (by first | rfl | (simp; omega)) ?_; conv => whnf) | (refine VMem.store rfl rfl rfl rfl ?_; conv => whnf) | (refine VSame.intro rfl ?_; conv => whnf) | (refine VDraw.go [] (by kernel_rfl) (by kernel_rfl) ?_; conv => whnf) | (refine VIte.dec (fun _ => ?_) (fun _ => ?_) <;> conv => whnf) | (refine VIte.ndec (fun _ => ?_) (fun _ => ?_) <;> conv => whnf) | (refine VIte.beq (fun _ => ?_) (fun _ => ?_) <;> conv => whnf) | (refine VIte.bne (fun _ => ?_) (fun _ => ?_) <;> conv => whnf) | (refine VIte.intro (fun _ => ?_) (fun _ => ?_) <;> conv => whnf) | (refine VCall.intro (hS _) ?_; conv => whnf) | (refine VCall.intro (hT _) ?_; conv => whnf) | (refine VCall.intro (vc_beside _ _ _ _) ?_; conv => whnf))
    · rw [if_pos (by omega)] at he2
      rw [hre 4 he2 (by decide)]
      exact VOut.same rfl
    · rw [if_neg (by omega)] at he2
      refine VCode.lp (fun y : Nat × Sn => [(1, I x), (2, .ptr (.loc 0) 0), (4, .ptr (.loc 1) 0), (7, intss T), (8, .ptr (.loc 2) 0), (9, B y.2.found), (10, I y.1)]) (fun y => [.flat true (encF f), .flat true [DI 0, DI 0], .flat true [DI y.2.lo, DI y.2.hi]]) (fun y => y.1 ≤ T.length ∧ sn f x = (T.drop y.1).foldl (snF f x) y.2) (fun y => T.length - y.1) (0, ⟨false, 0, 0⟩) ⟨Nat.zero_le _, hsn⟩ ?_ ?_
      · conv => whnf
        refine Retell.turn ⟨[0,1,2], 3, [], []⟩ (TurnOk.mk' _ _ [] [] (OutOk.lift _) rfl (by decide) (by repeat' (first | exact BTos.nil | refine BTos.flat rfl rfl (by first | rfl | simp) ?_ | refine BTos.new rfl ?_ | refine BTos.dead rfl rfl ?_ | refine BTos.esE rfl rfl ?_ | refine BTos.row rfl rfl rfl (RowTo.snoc (RowTo.one rfl (by simp))) ?_ | refine BTos.cells rfl rfl rfl (by repeat' (first | exact VTo.undef | exact FrTo.leaf | refine FrTo.node ?_ ?_ ?_ | refine FrTo.none ?_ ?_ | exact VTo.sc (by first | rfl | (congr 1; omega) | (congr 1; simp; omega)) | exact VTos_dv _ _ | refine VTos.cons ?_ ?_ | exact VTos.nil | refine VTo.agg ?_ | refine VTo.tuple ?_ | refine VTo.func ?_ ?_ | exact VTo.fs | exact VTo.fp | exact VTo.nilptr | exact VTo.nilslice | exact VTo.nilfunc | exact VTo.ptr rfl | exact VTo.gl rfl | exact VTo.map rfl | exact VTo.yld rfl | exact VTo.fmMap rfl | exact VTo.fm | exact VTo.glNil' (by decide) rfl rfl | exact VTo.fsNil (by decide) | exact VTo.fsSl rfl rfl (by simp [flat_len encE_len]) | exact VTo.fpPtr rfl | exact VTo.fsGl rfl (by first | rfl | exact flat_len encI_len _ | exact flat_len encS_len _ | exact flat_len encP_len _ | exact flat_len encL_len _ | exact flat_len encE_len _ | (simp [flat_len encP_len]; done) | simp [flat_len encI_len, flat_len encS_len]))) ?_)) trivial trivial rfl) (by repeat' (first | exact VTo.undef | exact FrTo.leaf | refine FrTo.node ?_ ?_ ?_ | refine FrTo.none ?_ ?_ | exact VTo.sc (by first | rfl | (congr 1; omega) | (congr 1; simp; omega)) | exact VTos_dv _ _ | refine VTos.cons ?_ ?_ | exact VTos.nil | refine VTo.agg ?_ | refine VTo.tuple ?_ | refine VTo.func ?_ ?_ | exact VTo.fs | exact VTo.fp | exact VTo.nilptr | exact VTo.nilslice | exact VTo.nilfunc | exact VTo.ptr rfl | exact VTo.gl rfl | exact VTo.map rfl | exact VTo.yld rfl | exact VTo.fmMap rfl | exact VTo.fm | exact VTo.glNil' (by decide) rfl rfl | exact VTo.fsNil (by decide) | exact VTo.fsSl rfl rfl (by simp [flat_len encE_len]) | exact VTo.fpPtr rfl | exact VTo.fsGl rfl (by first | rfl | exact flat_len encI_len _ | exact flat_len encS_len _ | exact flat_len encP_len _ | exact flat_len encL_len _ | exact flat_len encE_len _ | (simp [flat_len encP_len]; done) | simp [flat_len encI_len, flat_len encS_len]))) (by first | rfl | (repeat' (first | exact MkTo.nil | refine MkTo.keep rfl ?_ | refine MkTo.drop (by decide) rfl ?_)))
      · rintro ⟨j, ⟨fd, lo, hi⟩⟩ ⟨g1, g2⟩
        simp only at g1 g2
        conv => whnf
        refine VIte.dec (fun g3 => ?_) (fun g3 => ?_)
        · have hx : T[j]? = some T[j] := List.getElem?_eq_getElem (by omega)
          have hox := hok T[j] (List.getElem_mem (by omega))
          generalize T[j] = t at hx hox
          rw [foldl_drop _ _ hx] at g2
          have hs1 : (own f t).1 = x → snF f x ⟨fd, lo, hi⟩ t = ⟨true, if fd = false ∨ (own f t).2 < lo then (own f t).2 else lo, if fd = false ∨ hi < (own f t).2 then (own f t).2 else hi⟩ := fun hc => if_pos hc
          have hs2 : ¬ (own f t).1 = x → snF f x ⟨fd, lo, hi⟩ t = ⟨fd, lo, hi⟩ := fun hc => if_neg hc
          obtain ⟨LO, hLO⟩ : ∃ LO, LO = (if fd = false ∨ (own f t).2 < lo then (own f t).2 else lo) := ⟨_, rfl⟩
          obtain ⟨HI, hHI⟩ : ∃ HI, HI = (if fd = false ∨ hi < (own f t).2 then (own f t).2 else hi) := ⟨_, rfl⟩
          rw [← hLO, ← hHI] at hs1
          have l1 : (fd = false ∨ (own f t).2 < lo) → LO = (own f t).2 := fun hc => by rw [hLO, if_pos hc]
          have l2 : ¬ (fd = false ∨ (own f t).2 < lo) → LO = lo := fun hc => by rw [hLO, if_neg hc]
          have m1 : (fd = false ∨ hi < (own f t).2) → HI = (own f t).2 := fun hc => by rw [hHI, if_pos hc]
          have m2 : ¬ (fd = false ∨ hi < (own f t).2) → HI = hi := fun hc => by rw [hHI, if_neg hc]
          cases fd
          all_goals (
            conv => whnf
            repeat' (first | (refine VLd.intro rfl ?_; conv => whnf) | (refine VArith.i64 (by omega) ?_; conv => whnf) | (refine VNeed.intro (by first | rfl | (simp; omega)) ?_; conv => whnf) | (refine VMem.store rfl rfl rfl rfl ?_; conv => whnf) | (refine VSame.intro rfl ?_; conv => whnf) | (refine VDraw.go [] (by kernel_rfl) (by kernel_rfl) ?_; conv => whnf) | (refine VIte.dec (fun _ => ?_) (fun _ => ?_) <;> conv => whnf) | (refine VIte.ndec (fun _ => ?_) (fun _ => ?_) <;> conv => whnf) | (refine VIte.beq (fun _ => ?_) (fun _ => ?_) <;> conv => whnf) | (refine VIte.bne (fun _ => ?_) (fun _ => ?_) <;> conv => whnf) | (refine VIte.intro (fun _ => ?_) (fun _ => ?_) <;> conv => whnf) | (refine VAny.ix encL_len j rfl rfl hx ?_; conv => whnf) | (refine VCall.intro (vc_owner f t _ hox) ?_; conv => whnf)))
          all_goals (try dsimp only at *)
          all_goals first
            | (rw [hs2 (by omega)] at g2
               refine LEnd.intro (j + 1, ⟨_, lo, hi⟩) ⟨by simp only; omega, g2⟩ (by simp only; omega) ?_
               conv => whnf
               refine Retell.turn ⟨[0,1,2], 3, [], []⟩ (TurnOk.mk' _ _ [] [] (OutOk.lift _) rfl (by decide) (by repeat' (first | exact BTos.nil | refine BTos.flat rfl rfl (by first | rfl | simp) ?_ | refine BTos.new rfl ?_ | refine BTos.dead rfl rfl ?_ | refine BTos.esE rfl rfl ?_ | refine BTos.row rfl rfl rfl (RowTo.snoc (RowTo.one rfl (by simp))) ?_ | refine BTos.cells rfl rfl rfl (by repeat' (first | exact VTo.undef | exact FrTo.leaf | refine FrTo.node ?_ ?_ ?_ | refine FrTo.none ?_ ?_ | exact VTo.sc (by first | rfl | (congr 1; omega) | (congr 1; simp; omega)) | exact VTos_dv _ _ | refine VTos.cons ?_ ?_ | exact VTos.nil | refine VTo.agg ?_ | refine VTo.tuple ?_ | refine VTo.func ?_ ?_ | exact VTo.fs | exact VTo.fp | exact VTo.nilptr | exact VTo.nilslice | exact VTo.nilfunc | exact VTo.ptr rfl | exact VTo.gl rfl | exact VTo.map rfl | exact VTo.yld rfl | exact VTo.fmMap rfl | exact VTo.fm | exact VTo.glNil' (by decide) rfl rfl | exact VTo.fsNil (by decide) | exact VTo.fsSl rfl rfl (by simp [flat_len encE_len]) | exact VTo.fpPtr rfl | exact VTo.fsGl rfl (by first | rfl | exact flat_len encI_len _ | exact flat_len encS_len _ | exact flat_len encP_len _ | exact flat_len encL_len _ | exact flat_len encE_len _ | (simp [flat_len encP_len]; done) | simp [flat_len encI_len, flat_len encS_len]))) ?_)) trivial trivial rfl) (by repeat' (first | exact VTo.undef | exact FrTo.leaf | refine FrTo.node ?_ ?_ ?_ | refine FrTo.none ?_ ?_ | exact VTo.sc (by first | rfl | (congr 1; omega) | (congr 1; simp; omega)) | exact VTos_dv _ _ | refine VTos.cons ?_ ?_ | exact VTos.nil | refine VTo.agg ?_ | refine VTo.tuple ?_ | refine VTo.func ?_ ?_ | exact VTo.fs | exact VTo.fp | exact VTo.nilptr | exact VTo.nilslice | exact VTo.nilfunc | exact VTo.ptr rfl | exact VTo.gl rfl | exact VTo.map rfl | exact VTo.yld rfl | exact VTo.fmMap rfl | exact VTo.fm | exact VTo.glNil' (by decide) rfl rfl | exact VTo.fsNil (by decide) | exact VTo.fsSl rfl rfl (by simp [flat_len encE_len]) | exact VTo.fpPtr rfl | exact VTo.fsGl rfl (by first | rfl | exact flat_len encI_len _ | exact flat_len encS_len _ | exact flat_len encP_len _ | exact flat_len encL_len _ | exact flat_len encE_len _ | (simp [flat_len encP_len]; done) | simp [flat_len encI_len, flat_len encS_len]))) (by first | rfl | (repeat' (first | exact MkTo.nil | refine MkTo.keep rfl ?_ | refine MkTo.drop (by decide) rfl ?_))))
            | (rw [hs1 (by omega)] at g2
               refine LEnd.intro (j + 1, ⟨true, LO, HI⟩) ⟨by simp only; omega, g2⟩ (by simp only; omega) ?_
               conv => whnf
               first | rw [l1 (.inl rfl)] | rw [l1 (.inr (by omega))] | rw [l2 (by intro h9; rcases h9 with h9 | h9 <;> first | (cases h9; done) | omega)]
               first | rw [m1 (.inl rfl)] | rw [m1 (.inr (by omega))] | rw [m2 (by intro h9; rcases h9 with h9 | h9 <;> first | (cases h9; done) | omega)]
               refine Retell.turn ⟨[0,1,2], 3, [], []⟩ (TurnOk.mk' _ _ [] [] (OutOk.lift _) rfl (by decide) (by repeat' (first | exact BTos.nil | refine BTos.flat rfl rfl (by first | rfl | simp) ?_ | refine BTos.new rfl ?_ | refine BTos.dead rfl rfl ?_ | refine BTos.esE rfl rfl ?_ | refine BTos.row rfl rfl rfl (RowTo.snoc (RowTo.one rfl (by simp))) ?_ | refine BTos.cells rfl rfl rfl (by repeat' (first | exact VTo.undef | exact FrTo.leaf | refine FrTo.node ?_ ?_ ?_ | refine FrTo.none ?_ ?_ | exact VTo.sc (by first | rfl | (congr 1; omega) | (congr 1; simp; omega)) | exact VTos_dv _ _ | refine VTos.cons ?_ ?_ | exact VTos.nil | refine VTo.agg ?_ | refine VTo.tuple ?_ | refine VTo.func ?_ ?_ | exact VTo.fs | exact VTo.fp | exact VTo.nilptr | exact VTo.nilslice | exact VTo.nilfunc | exact VTo.ptr rfl | exact VTo.gl rfl | exact VTo.map rfl | exact VTo.yld rfl | exact VTo.fmMap rfl | exact VTo.fm | exact VTo.glNil' (by decide) rfl rfl | exact VTo.fsNil (by decide) | exact VTo.fsSl rfl rfl (by simp [flat_len encE_len]) | exact VTo.fpPtr rfl | exact VTo.fsGl rfl (by first | rfl | exact flat_len encI_len _ | exact flat_len encS_len _ | exact flat_len encP_len _ | exact flat_len encL_len _ | exact flat_len encE_len _ | (simp [flat_len encP_len]; done) | simp [flat_len encI_len, flat_len encS_len]))) ?_)) trivial trivial rfl) (by repeat' (first | exact VTo.undef | exact FrTo.leaf | refine FrTo.node ?_ ?_ ?_ | refine FrTo.none ?_ ?_ | exact VTo.sc (by first | rfl | (congr 1; omega) | (congr 1; simp; omega)) | exact VTos_dv _ _ | refine VTos.cons ?_ ?_ | exact VTos.nil | refine VTo.agg ?_ | refine VTo.tuple ?_ | refine VTo.func ?_ ?_ | exact VTo.fs | exact VTo.fp | exact VTo.nilptr | exact VTo.nilslice | exact VTo.nilfunc | exact VTo.ptr rfl | exact VTo.gl rfl | exact VTo.map rfl | exact VTo.yld rfl | exact VTo.fmMap rfl | exact VTo.fm | exact VTo.glNil' (by decide) rfl rfl | exact VTo.fsNil (by decide) | exact VTo.fsSl rfl rfl (by simp [flat_len encE_len]) | exact VTo.fpPtr rfl | exact VTo.fsGl rfl (by first | rfl | exact flat_len encI_len _ | exact flat_len encS_len _ | exact flat_len encP_len _ | exact flat_len encL_len _ | exact flat_len encE_len _ | (simp [flat_len encP_len]; done) | simp [flat_len encI_len, flat_len encS_len]))) (by first | rfl | (repeat' (first | exact MkTo.nil | refine MkTo.keep rfl ?_ | refine MkTo.drop (by decide) rfl ?_))))
        · rw [List.drop_of_length_le (by omega), List.foldl_nil] at g2
          have hsr : sinceE f x = 0 → R = .tuple [.agg [I lo, I hi], I 0] := fun e => by rw [hRR]; unfold sinceR; rw [e, g2]; rfl
          rw [g2] at he2
          cases fd
          · rw [hre 7 he2 (by decide)]
            conv => whnf
            repeat (first | (refine VLd.intro rfl ?_; conv => whnf) | (refine VArith.i64 (by omega) ?_; conv => whnf) | (refine VNeed.intro (by first | rfl | (simp; omega)) ?_; conv => whnf) | (refine VMem.store rfl rfl rfl rfl ?_; conv => whnf) | (refine VSame.intro rfl ?_; conv => whnf) | (refine VDraw.go [] (by kernel_rfl) (by kernel_rfl) ?_; conv => whnf))
            exact VOut.same rfl
          · rw [hsr he2]
            conv => whnf
            repeat (first | (refine VLd.intro rfl ?_; conv => whnf) | (refine VArith.i64 (by omega) ?_; conv => whnf) | (refine VNeed.intro (by first | rfl | (simp; omega)) ?_; conv => whnf) | (refine VMem.store rfl rfl rfl rfl ?_; conv => whnf) | (refine VSame.intro rfl ?_; conv => whnf) | (refine VDraw.go [] (by kernel_rfl) (by kernel_rfl) ?_; conv => whnf))
            exact VOut.same rfl
end Go.Proofs.Ytolnajnlcdacmaa

open Go.Vm
namespace Go.Proofs.Ytolnajnlcdacmaa
set_option maxRecDepth 20000
set_option maxHeartbeats 1000000

def aggP (p : Pap) : V := .agg [I p.side, I p.lo, I p.hi]
theorem vc_years (p : Pap) (h : Hp) : VC Try.prog 84 [aggP p] h (.func (.func 91) [] [.fp (encP p)]) h := by
  refine VC.body Try.func84 rfl Try.ntmps84 Try.call84 (h.grows_refl) rfl ?_; conv => whnf
  repeat (first | (refine VLd.intro rfl ?_; conv => whnf) | (refine VArith.i64 (by omega) ?_; conv => whnf) | (refine VNeed.intro (by first | rfl | (simp; omega)) ?_; conv => whnf) | (refine VMem.store rfl rfl rfl rfl ?_; conv => whnf) | (refine VSame.intro rfl ?_; conv => whnf) | (refine VDraw.go [] (by kernel_rfl) (by kernel_rfl) ?_; conv => whnf))
  refine VOut.data 1 [(0, encP p)] [] rfl (by repeat' (first | exact FzAll.nil | refine FzAll.flat rfl ?_ | refine FzAll.row rfl rfl (RowTo.one rfl (by simp)) ?_)) (by exact FmAll.nil) (by repeat' (first | exact VTo.undef | exact FrTo.leaf | refine FrTo.node ?_ ?_ ?_ | refine FrTo.none ?_ ?_ | exact VTo.sc (by first | rfl | (congr 1; omega) | (congr 1; simp; omega)) | exact VTos_dv _ _ | refine VTos.cons ?_ ?_ | exact VTos.nil | refine VTo.agg ?_ | refine VTo.tuple ?_ | refine VTo.func ?_ ?_ | exact VTo.fs | exact VTo.fp | exact VTo.nilptr | exact VTo.nilslice | exact VTo.nilfunc | exact VTo.ptr rfl | exact VTo.gl rfl | exact VTo.map rfl | exact VTo.yld rfl | exact VTo.fmMap rfl | exact VTo.fm | exact VTo.glNil' (by decide) rfl rfl | exact VTo.fsNil (by decide) | exact VTo.fsSl rfl rfl (by simp [flat_len encE_len]) | exact VTo.fpPtr rfl | exact VTo.fsGl rfl (by first | rfl | exact flat_len encI_len _ | exact flat_len encS_len _ | exact flat_len encP_len _ | exact flat_len encL_len _ | exact flat_len encE_len _ | (simp [flat_len encP_len]; done) | simp [flat_len encI_len, flat_len encS_len])))
end Go.Proofs.Ytolnajnlcdacmaa

open Go.Vm
namespace Go.Proofs.Ytolnajnlcdacmaa
set_option maxRecDepth 20000
set_option maxHeartbeats 1000000

/-- The years of a paper are handed to yield, one by one. -/
theorem vc_years1 (p : Pap) (hlo : -1000000 ≤ p.lo) (hhi : p.hi ≤ 1000000) : Iter Try.prog 91 [.fp (encP p)] (p.hi - p.lo + 1).toNat (fun j => I (p.lo + j)) := by
  intro h i J hs h0
  obtain ⟨g, g0, g1, g2⟩ := iter_seq hs h0
  obtain ⟨M, hM⟩ : ∃ M, M = (p.hi - p.lo + 1).toNat := ⟨_, rfl⟩
  rw [← hM] at g1 g2 ⊢
  have hgr : ∀ j, j ≤ M → h.grows (g j) := by
    intro j
    induction j with
    | zero => intro _; rw [g0]; exact h.grows_refl
    | succ j ih => intro hj; exact fun k hk => (g2 j (by omega)).1 k (ih (by omega) k hk)
  refine ⟨g M, ?_, g1 M (Nat.le_refl _)⟩
  refine VC.body Try.func91 rfl Try.ntmps91 Try.call91 (hgr M (Nat.le_refl _)) rfl ?_
  conv => whnf
  repeat (first | (refine VLd.intro rfl ?_; conv => whnf) | (refine VArith.i64 (by omega) ?_; conv => whnf) | (refine VNeed.intro (by first | rfl | (simp; omega)) ?_; conv => whnf) | (refine VMem.store rfl rfl rfl rfl ?_; conv => whnf) | (refine VSame.intro rfl ?_; conv => whnf) | (refine VDraw.go [] (by kernel_rfl) (by kernel_rfl) ?_; conv => whnf))
  refine VCode.lpo (fun k : Nat => [(0, .yld (.out i)), (1, .fp (encP p)), (3, I (p.lo + k))]) (fun k => (g k).lift) (fun _ => []) (fun k => k ≤ M) (fun k => M - k) 0 (Nat.zero_le _) (by rw [g0]) ?_ ?_
  · conv => whnf
    refine Retell.turn ⟨[], 0, [], []⟩ (TurnOk.mk' _ _ [] [] (OutOk.lift _) rfl (by decide) (by repeat' (first | exact BTos.nil | refine BTos.flat rfl rfl (by first | rfl | simp) ?_ | refine BTos.new rfl ?_ | refine BTos.dead rfl rfl ?_ | refine BTos.esE rfl rfl ?_ | refine BTos.row rfl rfl rfl (RowTo.snoc (RowTo.one rfl (by simp))) ?_ | refine BTos.cells rfl rfl rfl (by repeat' (first | exact VTo.undef | exact FrTo.leaf | refine FrTo.node ?_ ?_ ?_ | refine FrTo.none ?_ ?_ | exact VTo.sc (by first | rfl | (congr 1; omega) | (congr 1; simp; omega)) | exact VTos_dv _ _ | refine VTos.cons ?_ ?_ | exact VTos.nil | refine VTo.agg ?_ | refine VTo.tuple ?_ | refine VTo.func ?_ ?_ | exact VTo.fs | exact VTo.fp | exact VTo.nilptr | exact VTo.nilslice | exact VTo.nilfunc | exact VTo.ptr rfl | exact VTo.gl rfl | exact VTo.map rfl | exact VTo.yld rfl | exact VTo.fmMap rfl | exact VTo.fm | exact VTo.glNil' (by decide) rfl rfl | exact VTo.fsNil (by decide) | exact VTo.fsSl rfl rfl (by simp [flat_len encE_len]) | exact VTo.fpPtr rfl | exact VTo.fsGl rfl (by first | rfl | exact flat_len encI_len _ | exact flat_len encS_len _ | exact flat_len encP_len _ | exact flat_len encL_len _ | exact flat_len encE_len _ | (simp [flat_len encP_len]; done) | simp [flat_len encI_len, flat_len encS_len]))) ?_)) trivial trivial rfl) (by repeat' (first | exact VTo.undef | exact FrTo.leaf | refine FrTo.node ?_ ?_ ?_ | refine FrTo.none ?_ ?_ | exact VTo.sc (by first | rfl | (congr 1; omega) | (congr 1; simp; omega)) | exact VTos_dv _ _ | refine VTos.cons ?_ ?_ | exact VTos.nil | refine VTo.agg ?_ | refine VTo.tuple ?_ | refine VTo.func ?_ ?_ | exact VTo.fs | exact VTo.fp | exact VTo.nilptr | exact VTo.nilslice | exact VTo.nilfunc | exact VTo.ptr rfl | exact VTo.gl rfl | exact VTo.map rfl | exact VTo.yld rfl | exact VTo.fmMap rfl | exact VTo.fm | exact VTo.glNil' (by decide) rfl rfl | exact VTo.fsNil (by decide) | exact VTo.fsSl rfl rfl (by simp [flat_len encE_len]) | exact VTo.fpPtr rfl | exact VTo.fsGl rfl (by first | rfl | exact flat_len encI_len _ | exact flat_len encS_len _ | exact flat_len encP_len _ | exact flat_len encL_len _ | exact flat_len encE_len _ | (simp [flat_len encP_len]; done) | simp [flat_len encI_len, flat_len encS_len]))) (by first | rfl | (repeat' (first | exact MkTo.nil | refine MkTo.keep rfl ?_ | refine MkTo.drop (by decide) rfl ?_)))
  · rintro k hk
    conv => whnf
    repeat' (first | (refine VLd.intro rfl ?_; conv => whnf) | (refine VArith.i64 (by omega) ?_; conv => whnf) | (refine VNeed.intro (by first | rfl | (simp; omega)) ?_; conv => whnf) | (refine VMem.store rfl rfl rfl rfl ?_; conv => whnf) | (refine VSame.intro rfl ?_; conv => whnf) | (refine VDraw.go [] (by kernel_rfl) (by kernel_rfl) ?_; conv => whnf) | (refine VIte.dec (fun _ => ?_) (fun _ => ?_) <;> conv => whnf) | (refine VIte.ndec (fun _ => ?_) (fun _ => ?_) <;> conv => whnf) | (refine VIte.beq (fun _ => ?_) (fun _ => ?_) <;> conv => whnf) | (refine VIte.bne (fun _ => ?_) (fun _ => ?_) <;> conv => whnf) | (refine VIte.intro (fun _ => ?_) (fun _ => ?_) <;> conv => whnf) | (refine VYield.intro (VY.lift [] (g2 k (by omega))) ?_; conv => whnf))
    · refine LEndO.intro (k + 1) (by omega) (by omega) rfl ?_
      conv => whnf
      refine Retell.turn ⟨[], 0, [], []⟩ (TurnOk.mk' _ _ [] [] (OutOk.lift _) rfl (by decide) (by repeat' (first | exact BTos.nil | refine BTos.flat rfl rfl (by first | rfl | simp) ?_ | refine BTos.new rfl ?_ | refine BTos.dead rfl rfl ?_ | refine BTos.esE rfl rfl ?_ | refine BTos.row rfl rfl rfl (RowTo.snoc (RowTo.one rfl (by simp))) ?_ | refine BTos.cells rfl rfl rfl (by repeat' (first | exact VTo.undef | exact FrTo.leaf | refine FrTo.node ?_ ?_ ?_ | refine FrTo.none ?_ ?_ | exact VTo.sc (by first | rfl | (congr 1; omega) | (congr 1; simp; omega)) | exact VTos_dv _ _ | refine VTos.cons ?_ ?_ | exact VTos.nil | refine VTo.agg ?_ | refine VTo.tuple ?_ | refine VTo.func ?_ ?_ | exact VTo.fs | exact VTo.fp | exact VTo.nilptr | exact VTo.nilslice | exact VTo.nilfunc | exact VTo.ptr rfl | exact VTo.gl rfl | exact VTo.map rfl | exact VTo.yld rfl | exact VTo.fmMap rfl | exact VTo.fm | exact VTo.glNil' (by decide) rfl rfl | exact VTo.fsNil (by decide) | exact VTo.fsSl rfl rfl (by simp [flat_len encE_len]) | exact VTo.fpPtr rfl | exact VTo.fsGl rfl (by first | rfl | exact flat_len encI_len _ | exact flat_len encS_len _ | exact flat_len encP_len _ | exact flat_len encL_len _ | exact flat_len encE_len _ | (simp [flat_len encP_len]; done) | simp [flat_len encI_len, flat_len encS_len]))) ?_)) trivial trivial rfl) (by repeat' (first | exact VTo.undef | exact FrTo.leaf | refine FrTo.node ?_ ?_ ?_ | refine FrTo.none ?_ ?_ | exact VTo.sc (by first | rfl | (congr 1; omega) | (congr 1; simp; omega)) | exact VTos_dv _ _ | refine VTos.cons ?_ ?_ | exact VTos.nil | refine VTo.agg ?_ | refine VTo.tuple ?_ | refine VTo.func ?_ ?_ | exact VTo.fs | exact VTo.fp | exact VTo.nilptr | exact VTo.nilslice | exact VTo.nilfunc | exact VTo.ptr rfl | exact VTo.gl rfl | exact VTo.map rfl | exact VTo.yld rfl | exact VTo.fmMap rfl | exact VTo.fm | exact VTo.glNil' (by decide) rfl rfl | exact VTo.fsNil (by decide) | exact VTo.fsSl rfl rfl (by simp [flat_len encE_len]) | exact VTo.fpPtr rfl | exact VTo.fsGl rfl (by first | rfl | exact flat_len encI_len _ | exact flat_len encS_len _ | exact flat_len encP_len _ | exact flat_len encL_len _ | exact flat_len encE_len _ | (simp [flat_len encP_len]; done) | simp [flat_len encI_len, flat_len encS_len]))) (by first | rfl | (repeat' (first | exact MkTo.nil | refine MkTo.keep rfl ?_ | refine MkTo.drop (by decide) rfl ?_)))
    · have hkM : k = M := by omega
      subst hkM
      exact VOut.lifted (r := .tuple []) (hgr k (Nat.le_refl _))
end Go.Proofs.Ytolnajnlcdacmaa

open Go.Vm
namespace Go.Proofs.Ytolnajnlcdacmaa
set_option maxRecDepth 20000
set_option maxHeartbeats 1000000

abbrev AL := List (End × End)
def hasK (a : AL) (e : End) : Bool := a.any fun x => decide (x.1 = e)
def alGet (a : AL) (e : End) : Option End := (a.find? fun x => decide (x.1 = e)).map (·.2)
/-- Whether a paper's year is of the chain of the paper ahead. -/
def goesB (f : Fil) (i : Nat) (y a : Int) : Bool := decide (0 < i ∧ sdAt f i = sdAt f (i - 1) ∧ y - a ≤ f.G)
/-- How it is behind a paper, from how it was. -/
def isE (f : Fil) (i : Nat) (p : Pap) (was : End) (y : Int) : End :=
  bif decide (¬ (bif goesB f i y was.year then was.first else y) = -1 ∧ f.Y ≤ y - (bif goesB f i y was.year then was.first else y)) then ⟨i, y, -1, p.side, y⟩
  else ⟨i, y, bif goesB f i y was.year then was.first else y, was.side, was.since⟩
def gY (f : Fil) (i : Nat) (p : Pap) (was : End) (s : AL × List End) (y : Int) : AL × List End :=
  bif hasK s.1 (isE f i p was y) then s else (s.1 ++ [(isE f i p was y, was)], s.2 ++ [isE f i p was y])
/-- The first years of a paper. -/
def gYs (f : Fil) (i : Nat) (p : Pap) (was : End) (s : AL × List End) : Nat → AL × List End
  | 0 => s
  | k + 1 => gY f i p was (gYs f i p was s k) (p.lo + k)
def gW (f : Fil) (i : Nat) (p : Pap) (s : AL × List End) (was : End) : AL × List End := gYs f i p was s (p.hi - p.lo + 1).toNat
def gP (f : Fil) : List Pap → Nat → AL × List End → AL × List End
  | [], _, s => s
  | p :: r, i, s => gP f r (i + 1) (s.2.foldl (gW f i p) (s.1, []))
def beg : End := ⟨-1, 0, 0, 2, 0⟩
def gone (f : Fil) : AL × List End := gP f f.ps 0 ([], [beg])
theorem gP_at {f : Fil} {ps : List Pap} {k : Nat} {p : Pap} {s : AL × List End} (h : ps[k]? = some p) : gP f (ps.drop k) k s = gP f (ps.drop (k + 1)) (k + 1) (s.2.foldl (gW f k p) (s.1, [])) := by
  obtain ⟨hlt, rfl⟩ := List.getElem?_eq_some_iff.1 h
  rw [List.drop_eq_getElem_cons hlt, gP]
theorem gW_at {f : Fil} {i : Nat} {p : Pap} {now : List End} {j : Nat} {w : End} {s : AL × List End} (h : now[j]? = some w) : (now.drop j).foldl (gW f i p) s = (now.drop (j + 1)).foldl (gW f i p) (gW f i p s w) := by
  obtain ⟨hlt, rfl⟩ := List.getElem?_eq_some_iff.1 h
  rw [List.drop_eq_getElem_cons hlt, List.foldl_cons]
/-! ### How many there can be -/

theorem nodup_bd : ∀ (M : Nat) (l : List Nat), l.Nodup → (∀ x ∈ l, x < M) → l.length ≤ M
  | 0, l, _, h => by
    cases l with
    | nil => simp
    | cons a l => exact absurd (h a (by simp)) (by omega)
  | M + 1, l, hn, h => by
    have ih := nodup_bd M (l.erase M) (hn.erase M) (fun x hx => by
      have h1 := (List.Nodup.mem_erase_iff hn).1 hx
      have h2 := h x h1.2
      have h3 := h1.1
      omega)
    by_cases hm : M ∈ l
    · rw [List.length_erase_of_mem hm] at ih; omega
    · rw [List.erase_of_not_mem hm] at ih; omega
/-- Numbers within bounds. -/
structure EOk (e : End) : Prop where
  year : 0 ≤ e.year ∧ e.year ≤ 3000
  first : -1 ≤ e.first ∧ e.first ≤ 3000
  side : 0 ≤ e.side ∧ e.side ≤ 2
  since : 0 ≤ e.since ∧ e.since ≤ 3000
structure GI (i : Int) (p : Pap) (s : AL × List End) : Prop where
  ok : ∀ e ∈ s.2, EOk e
  at_ : ∀ e ∈ s.2, e.i = i ∧ p.lo ≤ e.year ∧ e.year ≤ p.lo + 3
  nodup : s.2.Nodup
  has : ∀ e ∈ s.2, hasK s.1 e = true
theorem GI.len {i : Int} {p : Pap} {s : AL × List End} (g : GI i p s) : s.2.length ≤ 108108024 := by
  let c : End → Nat := fun e => (((e.year - p.lo).toNat * 3002 + (e.first + 1).toNat) * 3 + e.side.toNat) * 3001 + e.since.toNat
  have h1 : (s.2.map c).Nodup := by
    unfold List.Nodup
    rw [List.pairwise_map]
    refine List.Pairwise.imp_of_mem ?_ g.nodup
    intro a b ha hb hab hc
    apply hab
    obtain ⟨a1, a2, a3, a4⟩ := g.ok a ha
    obtain ⟨b1, b2, b3, b4⟩ := g.ok b hb
    obtain ⟨a5, a6, a7⟩ := g.at_ a ha
    obtain ⟨b5, b6, b7⟩ := g.at_ b hb
    obtain ⟨i1, y1, f1, s1, n1⟩ := a
    obtain ⟨i2, y2, f2, s2, n2⟩ := b
    simp only [c] at *
    have e1 : n1 = n2 := by omega
    have e2 : s1 = s2 := by omega
    have e3 : f1 = f2 := by omega
    have e4 : y1 = y2 := by omega
    rw [e1, e2, e3, e4, a5, b5]
  have h2 : ∀ x ∈ s.2.map c, x < 108108024 := by
    intro x hx
    obtain ⟨a, ha, rfl⟩ := List.mem_map.1 hx
    obtain ⟨a1, a2, a3, a4⟩ := g.ok a ha
    obtain ⟨a5, a6, a7⟩ := g.at_ a ha
    simp only [c]
    omega
  have := nodup_bd 108108024 _ h1 h2
  simpa using this
theorem isE_ok {f : Fil} {i : Nat} {p : Pap} {was : End} {y : Int} (hp : p.side = 0 ∨ p.side = 1) (hw : EOk was) (hy : 0 ≤ y ∧ y ≤ 3000) : EOk (isE f i p was y) ∧ (isE f i p was y).i = i ∧ (isE f i p was y).year = y := by
  obtain ⟨a1, a2, a3, a4⟩ := hw
  unfold isE
  obtain ⟨st, hst⟩ : ∃ st, st = (bif goesB f i y was.year then was.first else y) := ⟨_, rfl⟩
  have hb : -1 ≤ st ∧ st ≤ 3000 := by rw [hst]; cases goesB f i y was.year <;> simp only [cond_true, cond_false] <;> omega
  rw [← hst]
  cases decide (¬ st = -1 ∧ f.Y ≤ y - st) <;> simp only [cond_true, cond_false] <;> exact ⟨⟨by simp only; omega, by simp only; omega, by simp only; omega, by simp only; omega⟩, trivial, trivial⟩
theorem hasK_snoc (a : AL) (e v x : End) : hasK (a ++ [(e, v)]) x = (hasK a x || decide (e = x)) := by simp [hasK]
theorem GI.gY {f : Fil} {i : Nat} {p : Pap} {s : AL × List End} {was : End} {y : Int} (g : GI i p s) (hp : p.side = 0 ∨ p.side = 1) (hw : EOk was) (hy : 0 ≤ y ∧ y ≤ 3000) (hy2 : p.lo ≤ y ∧ y ≤ p.lo + 3) : GI i p (gY f i p was s y) := by
  obtain ⟨h1, h2, h3⟩ := isE_ok (f := f) (i := i) (y := y) hp hw hy
  unfold Ytolnajnlcdacmaa.gY
  generalize isE f i p was y = E at h1 h2 h3
  cases hk : hasK s.1 E
  · refine ⟨?_, ?_, ?_, ?_⟩
    · intro e he
      simp only [cond_false, List.mem_append, List.mem_singleton] at he
      rcases he with he | rfl
      · exact g.ok e he
      · exact h1
    · intro e he
      simp only [cond_false, List.mem_append, List.mem_singleton] at he
      rcases he with he | rfl
      · exact g.at_ e he
      · exact ⟨h2, by omega, by omega⟩
    · simp only [cond_false]
      rw [List.nodup_append]
      refine ⟨g.nodup, by simp, ?_⟩
      intro a ha b hb hab
      rw [List.mem_singleton] at hb
      have := g.has a ha
      rw [hab, hb, hk] at this; cases this
    · intro e he
      simp only [cond_false, List.mem_append, List.mem_singleton] at he ⊢
      rw [hasK_snoc]
      rcases he with he | rfl
      · rw [g.has e he]; rfl
      · simp
  · exact g
theorem GI.gYs {f : Fil} {i : Nat} {p : Pap} {s : AL × List End} {was : End} (g : GI i p s) (hp : p.side = 0 ∨ p.side = 1) (hw : EOk was) (h0 : 0 ≤ p.lo) (h1 : p.hi ≤ 3000) (h2 : p.hi ≤ p.lo + 3) : ∀ k, k ≤ (p.hi - p.lo + 1).toNat → GI i p (gYs f i p was s k)
  | 0, _ => g
  | k + 1, hk => by
    rw [Ytolnajnlcdacmaa.gYs]
    exact (GI.gYs g hp hw h0 h1 h2 k (by omega)).gY hp hw (by omega) (by omega)
/-- What is known of papers. -/
structure POk (p : Pap) : Prop where
  side : p.side = 0 ∨ p.side = 1
  lo : 0 ≤ p.lo
  hi : p.hi ≤ 3000
  le : p.lo ≤ p.hi
  near : p.hi ≤ p.lo + 3
theorem chk_pok {f : Fil} (h : chk f = 0) : ∀ p ∈ f.ps, POk p := by
  obtain ⟨_, _, _, d⟩ := chk_zero h
  intro p hp
  have := chkGo_zero d p hp
  unfold badPap at this
  exact ⟨by omega, by omega, by omega, by omega, by omega⟩
theorem EOk.beg : EOk beg := by constructor <;> decide
end Go.Proofs.Ytolnajnlcdacmaa

open Go.Vm
namespace Go.Proofs.Ytolnajnlcdacmaa
set_option maxRecDepth 20000
set_option maxHeartbeats 2000000

def esE (a : AL) : List (V × V) := a.map fun x => (aggE x.1, aggE x.2)
def keysE (a : AL) : List D := a.map fun x => .agg (encE x.1)
def valsE (a : AL) : List D := a.map fun x => .agg (encE x.2)
theorem esE_fst (a : AL) : (esE a).map (·.1) = (keysE a).map D.v := by simp only [esE, keysE, List.map_map]; rfl
theorem esE_snd (a : AL) : (esE a).map (·.2) = (valsE a).map D.v := by simp only [esE, valsE, List.map_map]; rfl
theorem esE_zip (a : AL) : (D.vs (keysE a)).zip (D.vs (valsE a)) = esE a := by
  rw [D.vs_eq, D.vs_eq, ← esE_fst, ← esE_snd]
  induction a with
  | nil => rfl
  | cons x a ih => simpa [esE] using ih
theorem esE_ren (a : AL) (ρ : Vm.Id → Vm.Id) : (Blk.map (esE a)).ren ρ = .map (esE a) := by
  unfold Blk.ren
  congr 1
  simp only [esE, List.map_map]
  rfl
theorem BTos.esE {c : TCtx} {loc : List Blk} {pm : List Nat} {bs : List Blk} {j : Nat} {a : AL} (hj : Nat.blt j c.L = true) (hl : loc[j]? = some (.map (esE a))) (r : BTos c loc pm bs) : BTos c loc (j :: pm) (.map (esE a) :: bs) :=
  BTos.map hj hl (by rw [esE_fst]; exact RowTo.dv c _) (by rw [esE_snd]; exact RowTo.dv c _) r
theorem EsTo.esE {c : TCtx} (a : AL) : EsTo c (esE a) (keysE a) (valsE a) := ⟨by rw [esE_fst]; exact RowTo.dv c _, by rw [esE_snd]; exact RowTo.dv c _⟩
theorem top100 : ∃ sh, eqTop Try.prog 100 = some sh ∧ ∀ x y : End, veqSh sh (aggE x) (aggE y) = some (decide (x = y)) := by
  refine ⟨Sh.cons 0 1 false Sh.int (Sh.cons 1 1 false Sh.int (Sh.cons 2 1 false Sh.int (Sh.cons 3 1 false Sh.int (Sh.cons 4 1 false Sh.int Sh.nil)))), by kernel_rfl, fun x y => ?_⟩
  have : ((x.i == y.i) && ((x.year == y.year) && ((x.first == y.first) && ((x.side == y.side) && ((x.since == y.since) && true))))) = decide (x = y) := by
    cases x; cases y; rw [Bool.eq_iff_iff, decide_eq_true_eq]; simp
  rw [← this]
  rfl
theorem found_none {sh : Sh} (hs : ∀ x y : End, veqSh sh (aggE x) (aggE y) = some (decide (x = y))) {a : AL} {e : End} (h : hasK a e = false) : Vm.Found sh (aggE e) (esE a) none := by
  intro j p hp
  simp only [esE, List.getElem?_map, Option.map_eq_some_iff] at hp
  obtain ⟨x, hx, rfl⟩ := hp
  simp only [hs]
  have : x ∈ a := List.mem_of_getElem? hx
  unfold hasK at h
  rw [List.any_eq_false] at h
  have := h x this
  simp only [decide_eq_true_eq] at this
  rw [decide_eq_false (fun e1 => this e1.symm)]
theorem found_some {sh : Sh} (hs : ∀ x y : End, veqSh sh (aggE x) (aggE y) = some (decide (x = y))) : ∀ {a : AL} {e v : End}, alGet a e = some v → ∃ i, Vm.Found sh (aggE e) (esE a) (some (i, aggE v))
  | [], e, v, h => by simp [alGet] at h
  | x :: a, e, v, h => by
    by_cases hx : x.1 = e
    · simp only [alGet, List.find?_cons, hx, decide_true, Option.map_some, Option.some.injEq] at h
      refine ⟨0, aggE x.1, by simp [esE, h], by rw [hs]; simp [hx], fun j p hj => by omega⟩
    · have h' : alGet a e = some v := by simpa [alGet, List.find?_cons, hx] using h
      obtain ⟨i, k0, h1, h2, h3⟩ := found_some hs h'
      refine ⟨i + 1, k0, by simpa [esE] using h1, h2, fun j p hj hp => ?_⟩
      cases j with
      | zero =>
        simp only [esE, List.map_cons, List.getElem?_cons_zero, Option.some.injEq] at hp
        subst hp
        rw [hs, decide_eq_false (fun e1 => hx e1.symm)]
      | succ j => exact h3 j p (by omega) (by simpa [esE] using hp)
theorem hasK_get (a : AL) (e : End) : hasK a e = (alGet a e).isSome := by
  induction a with
  | nil => rfl
  | cons x a ih =>
    by_cases hx : x.1 = e
    · simp [hasK, alGet, hx]
    · simpa [hasK, alGet, hx] using ih
theorem look_esE (a : AL) (e : End) : Look Try.prog (tiOf Try.prog) 95 true (aggE e) (esE a) (match alGet a e with | some v => .tuple [aggE v, B true] | none => .tuple [aggE ⟨0, 0, 0, 0, 0⟩, B false]) := by
  obtain ⟨sh, h1, h2⟩ := top100
  cases hg : alGet a e with
  | none =>
    exact ⟨_, 100, 100, _, sh, true, none, rfl, rfl, h1, by rw [h2]; simp, found_none h2 (by rw [hasK_get, hg]; rfl), rfl⟩
  | some v =>
    obtain ⟨i, hi⟩ := found_some h2 hg
    exact ⟨_, 100, 100, _, sh, true, some (i, aggE v), rfl, rfl, h1, by rw [h2]; simp, hi, rfl⟩
theorem VMem.newE {a : AL} {e v : End} {h : Hp} {i : Vm.Id} {K : V → Hp → Prop} (hb : h.get i = some (.map (esE a))) (hf : hasK a e = false) (hK : K .undef (h.set i (.map (esE (a ++ [(e, v)]))))) : VMem Try.prog (opMapUpdate 95) [.map i, aggE e, aggE v] h K := by
  obtain ⟨sh, h1, h2⟩ := top100
  have : esE (a ++ [(e, v)]) = esE a ++ [(aggE e, aggE v)] := by simp [esE]
  rw [this] at hK
  exact VMem.intro (does_mapNew (tiOf_ok _) (t := 95) rfl rfl h1 (by rw [h2]) (found_none h2 hf) hb) hK
end Go.Proofs.Ytolnajnlcdacmaa

open Go.Vm
namespace Go.Proofs.Ytolnajnlcdacmaa
set_option maxRecDepth 20000
set_option maxHeartbeats 4000000

def vGone (f : Fil) : V := .tuple [.fm (keysE (gone f).1) (valsE (gone f).1), ends (gone f).2]
/-- What lies there between two rounds. -/
structure GJ (o : Vm.Id → Option Blk) (s : AL × List End) (g : Hp) : Prop where
  o : g.outer = o
  c : g.get (.loc 0) = some (.cells true [.map (.loc 1)])
  mp : g.get (.loc 1) = some (.map (esE s.1))
  li : ∃ m, (m = 3 ∨ 6 ≤ m) ∧ g.get (.loc 2) = some (.cells true [.gl (.loc m) 5 s.2.length]) ∧ g.get (.loc m) = some (.flat true (s.2.flatMap encE))
  mar : g.get (.loc 4) = some .mark
theorem isE_go {f : Fil} {i : Nat} {p : Pap} {was : End} {y : Int} (h : 0 < i ∧ sdAt f i = sdAt f (i - 1) ∧ y - was.year ≤ f.G) :
    isE f i p was y = bif decide (¬ was.first = -1 ∧ f.Y ≤ y - was.first) then ⟨i, y, -1, p.side, y⟩ else ⟨i, y, was.first, was.side, was.since⟩ := by
  unfold isE goesB
  rw [decide_eq_true h]; rfl
theorem isE_no {f : Fil} {i : Nat} {p : Pap} {was : End} {y : Int} (h : ¬ (0 < i ∧ sdAt f i = sdAt f (i - 1) ∧ y - was.year ≤ f.G)) :
    isE f i p was y = bif decide (¬ y = -1 ∧ f.Y ≤ y - y) then ⟨i, y, -1, p.side, y⟩ else ⟨i, y, y, was.side, was.since⟩ := by
  unfold isE goesB
  rw [decide_eq_false h]; rfl
theorem upd_ok {g : Hp} {m : Nat} {a2 b2 : AL} {n2 : List End} {b : Blk} (jb : g.get (.loc 2) = some (.cells true [.gl (.loc m) 5 n2.length])) (jm : g.get (.loc 1) = some (.map (esE a2))) (jl : g.get (.loc m) = some (.flat true (n2.flatMap encE))) :
    ∀ p ∈ [(Vm.Id.loc 1, Blk.map (esE b2)), (.loc m, .dead), (.loc 2, b)], g.get p.1 ≠ none := by
  intro p hp
  simp only [List.mem_cons, List.not_mem_nil, or_false] at hp
  rcases hp with rfl | rfl | rfl <;> simp only
  · rw [jm]; simp
  · rw [jl]; simp
  · rw [jb]; simp
theorem GJ.step {o : Vm.Id → Option Blk} {a2 : AL} {n2 : List End} {E was : End} {g : Hp} {m : Nat} (jo : g.outer = o) (jc : g.get (.loc 0) = some (.cells true [.map (.loc 1)])) (jm : g.get (.loc 1) = some (.map (esE a2)))
    (jb : g.get (.loc 2) = some (.cells true [.gl (.loc m) 5 n2.length])) (jl : g.get (.loc m) = some (.flat true (n2.flatMap encE))) (jk : g.get (.loc 4) = some .mark) (hm : m = 3 ∨ 6 ≤ m) {b5 : Blk} (j5 : g.get (.loc 5) = some b5) :
    g.grows ((g.sets [(.loc 1, .map (esE (a2 ++ [(E, was)]))), (.loc m, .dead), (.loc 2, .cells true [.gl g.fresh 5 (n2.length + 1)])]).pushes [.flat true ((n2 ++ [E]).flatMap encE)]) ∧
    GJ o (a2 ++ [(E, was)], n2 ++ [E]) ((g.sets [(.loc 1, .map (esE (a2 ++ [(E, was)]))), (.loc m, .dead), (.loc 2, .cells true [.gl g.fresh 5 (n2.length + 1)])]).pushes [.flat true ((n2 ++ [E]).flatMap encE)]) ∧
    ∀ b, g.get (.loc 5) = some b → ((g.sets [(.loc 1, .map (esE (a2 ++ [(E, was)]))), (.loc m, .dead), (.loc 2, .cells true [.gl g.fresh 5 (n2.length + 1)])]).pushes [.flat true ((n2 ++ [E]).flatMap encE)]).get (.loc 5) = some b := by
  obtain ⟨go, gl⟩ := g
  simp only [Hp.get] at jc jm jb jl jk j5
  have l5 := (List.getElem?_eq_some_iff.1 j5).1
  have l0 := (List.getElem?_eq_some_iff.1 jc).1
  have l1 := (List.getElem?_eq_some_iff.1 jm).1
  have l2 := (List.getElem?_eq_some_iff.1 jb).1
  have l4 := (List.getElem?_eq_some_iff.1 jk).1
  have key : ∀ x, x < gl.length → x ≠ 1 → x ≠ m → x ≠ 2 → ∀ (A B C N : Blk), ((((gl.set 1 A).set m B).set 2 C) ++ [N])[x]? = gl[x]? := by
    intro x hx h1 h2 h3 A B C N
    rw [List.getElem?_append_left (by simpa using hx), List.getElem?_set_ne (Ne.symm h3), List.getElem?_set_ne (Ne.symm h2), List.getElem?_set_ne (Ne.symm h1)]
  refine ⟨Hp.grows_sets (upd_ok (g := ⟨go, gl⟩) jb jm jl), ⟨jo, ?_, ?_, ⟨gl.length, .inr (by omega), ?_, ?_⟩, ?_⟩, fun b hb => ?_⟩
  · show (_ ++ _)[_]? = _
    exact (key 0 l0 (by omega) (by omega) (by omega) _ _ _ _).trans jc
  · show ((((gl.set 1 _).set m _).set 2 _) ++ [_])[1]? = _
    rw [List.getElem?_append_left (by simpa using l1), List.getElem?_set_ne (show (2 : Nat) ≠ 1 by omega), List.getElem?_set_ne (show m ≠ 1 by omega), List.getElem?_set_self l1]
  · show ((((gl.set 1 _).set m _).set 2 _) ++ [_])[2]? = _
    rw [List.getElem?_append_left (by simpa using l2), List.getElem?_set_self (by simpa using l2)]
    simp [Hp.fresh]
  · show ((((gl.set 1 _).set m _).set 2 _) ++ [_])[gl.length]? = _
    rw [List.getElem?_append_right (by simp)]
    simp
  · show (_ ++ _)[_]? = _
    exact (key 4 l4 (by omega) (by omega) (by omega) _ _ _ _).trans jk
  · have hb : gl[5]? = some b := hb
    show (_ ++ _)[_]? = _
    exact (key 5 (List.getElem?_eq_some_iff.1 hb).1 (by omega) (by omega) (by omega) _ _ _ _).trans hb
theorem blt_of {a b : Nat} (h : a < b) : Nat.blt a b = true := Nat.ble_eq_true_of_le h
theorem outer_fix {o : Vm.Id → Option Blk} {iy i1 i2 i3 : Vm.Id} {b0 b b1 b2 b3 : Blk} (h : o iy = some b) (n1 : iy ≠ i1) (n2 : iy ≠ i2) (n3 : iy ≠ i3) : outW (outW (outW (outW (outW o iy b0) i1 b1) i2 b2) i3 b3) iy b = outW (outW (outW o i1 b1) i2 b2) i3 b3 := by
  funext j
  unfold outW
  by_cases e : j = iy
  · subst e; rw [if_pos rfl, if_neg n3, if_neg n2, if_neg n1, h]
  · rw [if_neg e, if_neg e]
theorem VOut.back {h : Hp} {loc : List Blk} {iy : Vm.Id} {b0 b : Blk} {r1 r : V} (hb : h.lift iy = some b) (hr : r1 = r.ren .out) : VOut h ⟨outW (outW h.lift iy b0) iy b, loc⟩ r1 r h := by
  rw [outW_same, ← outW_id hb]
  exact VOut.same hr
theorem vc_gone (f : Fil) (h : Hp) (hc : chk f = 0) : VC Try.prog 54 [vF f] h (vGone f) h := by
  have hpok := chk_pok hc
  obtain ⟨hY1, hY2, hn16, _⟩ := chk_zero hc
  obtain ⟨R, hR⟩ : ∃ R, R = gone f := ⟨_, rfl⟩
  unfold vGone
  rw [← hR]
  refine VC.body Try.func54 rfl Try.ntmps54 Try.call54 (h.grows_refl) rfl ?_; conv => whnf
  repeat (first | (refine VLd.intro rfl ?_; conv => whnf) | (refine VArith.i64 (by omega) ?_; conv => whnf) | (refine VNeed.intro (by first | rfl | (simp; omega)) ?_; conv => whnf) | (refine VMem.store rfl rfl rfl rfl ?_; conv => whnf) | (refine VSame.intro rfl ?_; conv => whnf) | (refine VDraw.go [] (by kernel_rfl) (by kernel_rfl) ?_; conv => whnf))
  refine VCode.lp (fun x : Nat × AL × List End => [(1, .fp (encF f)), (5, .ptr (.loc 0) 0), (6, ends x.2.2), (21, paps f.ps), (22, I f.ps.length), (23, I x.1)]) (fun x => [.cells true [.map (.loc 1)], .map (esE x.2.1)])
    (fun x => x.1 ≤ f.ps.length ∧ R = gP f (f.ps.drop x.1) x.1 x.2 ∧ (∀ e ∈ x.2.2, EOk e) ∧ x.2.2.length ≤ 108108024) (fun x => f.ps.length - x.1) (0, [], [beg]) ⟨Nat.zero_le _, hR, by simp [EOk.beg], by simp⟩ ?_ ?_
  · conv => whnf
    refine Retell.turn ⟨[3,2], 5, [(0, encF f), (4, [beg].flatMap encE)], []⟩ (TurnOk.mk' _ _ [(0, encF f), (4, [beg].flatMap encE)] [] (OutOk.lift _) rfl (by decide) (by repeat' (first | exact BTos.nil | refine BTos.flat rfl rfl (by first | rfl | simp) ?_ | refine BTos.new rfl ?_ | refine BTos.dead rfl rfl ?_ | refine BTos.esE rfl rfl ?_ | refine BTos.row rfl rfl rfl (RowTo.snoc (RowTo.one rfl (by simp))) ?_ | refine BTos.cells rfl rfl rfl (by repeat' (first | exact VTo.undef | exact FrTo.leaf | refine FrTo.node ?_ ?_ ?_ | refine FrTo.none ?_ ?_ | exact VTo.sc (by first | rfl | (congr 1; omega) | (congr 1; simp; omega)) | exact VTos_dv _ _ | refine VTos.cons ?_ ?_ | exact VTos.nil | refine VTo.agg ?_ | refine VTo.tuple ?_ | refine VTo.func ?_ ?_ | exact VTo.fs | exact VTo.fp | exact VTo.nilptr | exact VTo.nilslice | exact VTo.nilfunc | exact VTo.ptr rfl | exact VTo.gl rfl | exact VTo.map rfl | exact VTo.yld rfl | exact VTo.fmMap rfl | exact VTo.fm | exact VTo.glNil' (by decide) rfl rfl | exact VTo.fsNil (by decide) | exact VTo.fsSl rfl rfl (by simp [flat_len encE_len]) | exact VTo.fpPtr rfl | exact VTo.fsGl rfl (by first | rfl | exact flat_len encI_len _ | exact flat_len encS_len _ | exact flat_len encP_len _ | exact flat_len encL_len _ | exact flat_len encE_len _ | (simp [flat_len encP_len]; done) | simp [flat_len encI_len, flat_len encS_len]))) ?_)) (by repeat' (first | exact FzAll.nil | refine FzAll.flat rfl ?_ | refine FzAll.row rfl rfl (RowTo.one rfl (by simp)) ?_)) trivial rfl) (by repeat' (first | exact VTo.undef | exact FrTo.leaf | refine FrTo.node ?_ ?_ ?_ | refine FrTo.none ?_ ?_ | exact VTo.sc (by first | rfl | (congr 1; omega) | (congr 1; simp; omega)) | exact VTos_dv _ _ | refine VTos.cons ?_ ?_ | exact VTos.nil | refine VTo.agg ?_ | refine VTo.tuple ?_ | refine VTo.func ?_ ?_ | exact VTo.fs | exact VTo.fp | exact VTo.nilptr | exact VTo.nilslice | exact VTo.nilfunc | exact VTo.ptr rfl | exact VTo.gl rfl | exact VTo.map rfl | exact VTo.yld rfl | exact VTo.fmMap rfl | exact VTo.fm | exact VTo.glNil' (by decide) rfl rfl | exact VTo.fsNil (by decide) | exact VTo.fsSl rfl rfl (by simp [flat_len encE_len]) | exact VTo.fpPtr rfl | exact VTo.fsGl rfl (by first | rfl | exact flat_len encI_len _ | exact flat_len encS_len _ | exact flat_len encP_len _ | exact flat_len encL_len _ | exact flat_len encE_len _ | (simp [flat_len encP_len]; done) | simp [flat_len encI_len, flat_len encS_len]))) (by first | rfl | (repeat' (first | exact MkTo.nil | refine MkTo.keep rfl ?_ | refine MkTo.drop (by decide) rfl ?_)))
  · rintro ⟨i, a, now⟩ ⟨hi, hRi, hok, hnl⟩
    dsimp only at hi hRi hok hnl
    conv => whnf
    refine VIte.dec (fun h3 => ?_) (fun h3 => ?_)
    · have hp : f.ps[i]? = some f.ps[i] := List.getElem?_eq_getElem (by omega)
      have hpk := hpok f.ps[i] (List.getElem_mem (by omega))
      rw [gP_at hp] at hRi
      generalize f.ps[i] = p at hp hpk hRi
      obtain ⟨W, hW⟩ : ∃ W, W = now.foldl (gW f i p) (a, []) := ⟨_, rfl⟩
      rw [← hW] at hRi
      conv => whnf
      repeat' (first | (refine VLd.intro rfl ?_; conv => whnf) | (refine VArith.i64 (by omega) ?_; conv => whnf) | (refine VNeed.intro (by first | rfl | (simp; omega)) ?_; conv => whnf) | (refine VMem.store rfl rfl rfl rfl ?_; conv => whnf) | (refine VSame.intro rfl ?_; conv => whnf) | (refine VDraw.go [] (by kernel_rfl) (by kernel_rfl) ?_; conv => whnf) | (refine VIte.dec (fun _ => ?_) (fun _ => ?_) <;> conv => whnf) | (refine VIte.ndec (fun _ => ?_) (fun _ => ?_) <;> conv => whnf) | (refine VIte.beq (fun _ => ?_) (fun _ => ?_) <;> conv => whnf) | (refine VIte.bne (fun _ => ?_) (fun _ => ?_) <;> conv => whnf) | (refine VIte.intro (fun _ => ?_) (fun _ => ?_) <;> conv => whnf) | (refine VAny.ix encP_len i rfl rfl hp ?_; conv => whnf))
      refine VCode.lp (fun x : Nat × AL × List End => [(1, .fp (encF f)), (5, .ptr (.loc 0) 0), (7, .fp [DI i]), (8, .fp (encP p)), (9, .ptr (.loc 2) 0), (21, paps f.ps), (22, I f.ps.length), (23, I i), (28, ends now), (29, I now.length), (30, I x.1)])
        (fun x => [.cells true [.map (.loc 1)], .map (esE x.2.1), .cells true [.gl (.loc 3) 5 x.2.2.length], .flat true (x.2.2.flatMap encE)])
        (fun x => x.1 ≤ now.length ∧ W = (now.drop x.1).foldl (gW f i p) x.2 ∧ GI i p x.2) (fun x => now.length - x.1) (0, a, []) ⟨Nat.zero_le _, hW, by constructor <;> simp⟩ ?_ ?_
      · conv => whnf
        refine Retell.turn ⟨[0,1,4,5], 5, [(2, [DI i]), (3, encP p)], []⟩ (TurnOk.mk' _ _ [(2, [DI i]), (3, encP p)] [] (OutOk.lift _) rfl (by decide) (by repeat' (first | exact BTos.nil | refine BTos.flat rfl rfl (by first | rfl | simp) ?_ | refine BTos.new rfl ?_ | refine BTos.dead rfl rfl ?_ | refine BTos.esE rfl rfl ?_ | refine BTos.row rfl rfl rfl (RowTo.snoc (RowTo.one rfl (by simp))) ?_ | refine BTos.cells rfl rfl rfl (by repeat' (first | exact VTo.undef | exact FrTo.leaf | refine FrTo.node ?_ ?_ ?_ | refine FrTo.none ?_ ?_ | exact VTo.sc (by first | rfl | (congr 1; omega) | (congr 1; simp; omega)) | exact VTos_dv _ _ | refine VTos.cons ?_ ?_ | exact VTos.nil | refine VTo.agg ?_ | refine VTo.tuple ?_ | refine VTo.func ?_ ?_ | exact VTo.fs | exact VTo.fp | exact VTo.nilptr | exact VTo.nilslice | exact VTo.nilfunc | exact VTo.ptr rfl | exact VTo.gl rfl | exact VTo.map rfl | exact VTo.yld rfl | exact VTo.fmMap rfl | exact VTo.fm | exact VTo.glNil' (by decide) rfl rfl | exact VTo.fsNil (by decide) | exact VTo.fsSl rfl rfl (by simp [flat_len encE_len]) | exact VTo.fpPtr rfl | exact VTo.fsGl rfl (by first | rfl | exact flat_len encI_len _ | exact flat_len encS_len _ | exact flat_len encP_len _ | exact flat_len encL_len _ | exact flat_len encE_len _ | (simp [flat_len encP_len]; done) | simp [flat_len encI_len, flat_len encS_len]))) ?_)) (by repeat' (first | exact FzAll.nil | refine FzAll.flat rfl ?_ | refine FzAll.row rfl rfl (RowTo.one rfl (by simp)) ?_)) trivial rfl) (by repeat' (first | exact VTo.undef | exact FrTo.leaf | refine FrTo.node ?_ ?_ ?_ | refine FrTo.none ?_ ?_ | exact VTo.sc (by first | rfl | (congr 1; omega) | (congr 1; simp; omega)) | exact VTos_dv _ _ | refine VTos.cons ?_ ?_ | exact VTos.nil | refine VTo.agg ?_ | refine VTo.tuple ?_ | refine VTo.func ?_ ?_ | exact VTo.fs | exact VTo.fp | exact VTo.nilptr | exact VTo.nilslice | exact VTo.nilfunc | exact VTo.ptr rfl | exact VTo.gl rfl | exact VTo.map rfl | exact VTo.yld rfl | exact VTo.fmMap rfl | exact VTo.fm | exact VTo.glNil' (by decide) rfl rfl | exact VTo.fsNil (by decide) | exact VTo.fsSl rfl rfl (by simp [flat_len encE_len]) | exact VTo.fpPtr rfl | exact VTo.fsGl rfl (by first | rfl | exact flat_len encI_len _ | exact flat_len encS_len _ | exact flat_len encP_len _ | exact flat_len encL_len _ | exact flat_len encE_len _ | (simp [flat_len encP_len]; done) | simp [flat_len encI_len, flat_len encS_len]))) (by first | rfl | (repeat' (first | exact MkTo.nil | refine MkTo.keep rfl ?_ | refine MkTo.drop (by decide) rfl ?_)))
      · rintro ⟨j, a1, nx⟩ ⟨hj, hWj, hgi⟩
        dsimp only at hj hWj
        conv => whnf
        refine VIte.dec (fun h5 => ?_) (fun h5 => ?_)
        · have hw : now[j]? = some now[j] := List.getElem?_eq_getElem (by omega)
          have hwk := hok now[j] (List.getElem_mem (by omega))
          rw [gW_at hw] at hWj
          generalize now[j] = was at hw hwk hWj
          conv => whnf
          repeat' (first | (refine VLd.intro rfl ?_; conv => whnf) | (refine VArith.i64 (by omega) ?_; conv => whnf) | (refine VNeed.intro (by first | rfl | (simp; omega)) ?_; conv => whnf) | (refine VMem.store rfl rfl rfl rfl ?_; conv => whnf) | (refine VSame.intro rfl ?_; conv => whnf) | (refine VDraw.go [] (by kernel_rfl) (by kernel_rfl) ?_; conv => whnf) | (refine VIte.dec (fun _ => ?_) (fun _ => ?_) <;> conv => whnf) | (refine VIte.ndec (fun _ => ?_) (fun _ => ?_) <;> conv => whnf) | (refine VIte.beq (fun _ => ?_) (fun _ => ?_) <;> conv => whnf) | (refine VIte.bne (fun _ => ?_) (fun _ => ?_) <;> conv => whnf) | (refine VIte.intro (fun _ => ?_) (fun _ => ?_) <;> conv => whnf) | (refine VAny.ix encE_len j rfl rfl hw ?_; conv => whnf) | (refine VCall.intro (vc_years p _) ?_; conv => whnf))
          refine VCode.tell [(1, .fp (encF f)), (5, .ptr (.loc 0) 0), (7, .fp [DI i]), (8, .fp (encP p)), (9, .ptr (.loc 2) 0), (11, .fp (encE was)), (21, paps f.ps), (22, I f.ps.length), (23, I i), (28, ends now), (29, I now.length), (30, I j), (35, .func (.func 91) [] [.fp (encP p)])]
            [.cells true [.map (.loc 1)], .map (esE a1), .cells true [.gl (.loc 3) 5 nx.length], .flat true (nx.flatMap encE)] (marks' := []) ?_ ?_
          · conv => whnf
            refine Retell.turn ⟨[0,1,2,3], 5, [(4, encE was)], []⟩ (TurnOk.mk' _ _ [(4, encE was)] [] (OutOk.lift _) rfl (by decide) (by repeat' (first | exact BTos.nil | refine BTos.flat rfl rfl (by first | rfl | simp) ?_ | refine BTos.new rfl ?_ | refine BTos.dead rfl rfl ?_ | refine BTos.esE rfl rfl ?_ | refine BTos.row rfl rfl rfl (RowTo.snoc (RowTo.one rfl (by simp))) ?_ | refine BTos.cells rfl rfl rfl (by repeat' (first | exact VTo.undef | exact FrTo.leaf | refine FrTo.node ?_ ?_ ?_ | refine FrTo.none ?_ ?_ | exact VTo.sc (by first | rfl | (congr 1; omega) | (congr 1; simp; omega)) | exact VTos_dv _ _ | refine VTos.cons ?_ ?_ | exact VTos.nil | refine VTo.agg ?_ | refine VTo.tuple ?_ | refine VTo.func ?_ ?_ | exact VTo.fs | exact VTo.fp | exact VTo.nilptr | exact VTo.nilslice | exact VTo.nilfunc | exact VTo.ptr rfl | exact VTo.gl rfl | exact VTo.map rfl | exact VTo.yld rfl | exact VTo.fmMap rfl | exact VTo.fm | exact VTo.glNil' (by decide) rfl rfl | exact VTo.fsNil (by decide) | exact VTo.fsSl rfl rfl (by simp [flat_len encE_len]) | exact VTo.fpPtr rfl | exact VTo.fsGl rfl (by first | rfl | exact flat_len encI_len _ | exact flat_len encS_len _ | exact flat_len encP_len _ | exact flat_len encL_len _ | exact flat_len encE_len _ | (simp [flat_len encP_len]; done) | simp [flat_len encI_len, flat_len encS_len]))) ?_)) (by repeat' (first | exact FzAll.nil | refine FzAll.flat rfl ?_ | refine FzAll.row rfl rfl (RowTo.one rfl (by simp)) ?_)) trivial rfl) (by repeat' (first | exact VTo.undef | exact FrTo.leaf | refine FrTo.node ?_ ?_ ?_ | refine FrTo.none ?_ ?_ | exact VTo.sc (by first | rfl | (congr 1; omega) | (congr 1; simp; omega)) | exact VTos_dv _ _ | refine VTos.cons ?_ ?_ | exact VTos.nil | refine VTo.agg ?_ | refine VTo.tuple ?_ | refine VTo.func ?_ ?_ | exact VTo.fs | exact VTo.fp | exact VTo.nilptr | exact VTo.nilslice | exact VTo.nilfunc | exact VTo.ptr rfl | exact VTo.gl rfl | exact VTo.map rfl | exact VTo.yld rfl | exact VTo.fmMap rfl | exact VTo.fm | exact VTo.glNil' (by decide) rfl rfl | exact VTo.fsNil (by decide) | exact VTo.fsSl rfl rfl (by simp [flat_len encE_len]) | exact VTo.fpPtr rfl | exact VTo.fsGl rfl (by first | rfl | exact flat_len encI_len _ | exact flat_len encS_len _ | exact flat_len encP_len _ | exact flat_len encL_len _ | exact flat_len encE_len _ | (simp [flat_len encP_len]; done) | simp [flat_len encI_len, flat_len encS_len]))) (by first | rfl | (repeat' (first | exact MkTo.nil | refine MkTo.keep rfl ?_ | refine MkTo.drop (by decide) rfl ?_)))
          · conv => whnf
            obtain ⟨p1, p2, p3, p4, p5⟩ := hpk
            obtain ⟨w1, w2, w3, w4⟩ := hwk
            refine VCode.iter (p.hi - p.lo + 1).toNat (fun k => I (p.lo + k)) (fun k g => GJ h.lift (gYs f i p was (a1, nx) k) g) _ (.loc 5) rfl (vc_years1 p (by omega) (by omega)) rfl rfl rfl (by decide) ?_ ?_ ?_
            · exact ⟨rfl, rfl, rfl, ⟨3, .inl rfl, rfl, rfl⟩, rfl⟩
            · intro k g hk hJ hl
              have hgk := GI.gYs (was := was) (f := f) hgi p1 ⟨w1, w2, w3, w4⟩ p2 p3 p5 k (by omega)
              obtain ⟨E, hE⟩ : ∃ E, E = isE f i p was (p.lo + k) := ⟨_, rfl⟩
              have hnext : gYs f i p was (a1, nx) (k + 1) = bif hasK (gYs f i p was (a1, nx) k).1 E then gYs f i p was (a1, nx) k else ((gYs f i p was (a1, nx) k).1 ++ [(E, was)], (gYs f i p was (a1, nx) k).2 ++ [E]) := by rw [gYs, gY, hE]
              rw [hnext]
              generalize gYs f i p was (a1, nx) k = s at hJ hgk
              obtain ⟨a2, n2⟩ := s
              obtain ⟨y, hy⟩ : ∃ y, y = p.lo + k := ⟨_, rfl⟩
              dsimp only
              rw [← hy] at hE ⊢
              have hyb : 0 ≤ y ∧ y ≤ 3000 := by omega
              obtain ⟨jo, jc, jm, ⟨m, hm, jb, jl⟩, jk⟩ := hJ
              dsimp only at jb jl jm
              have hlen := hgk.len
              dsimp only at hlen
              have hm1 : Vm.Id.loc m ≠ .loc 1 := by intro h0; injection h0; omega
              have hm2 : Vm.Id.loc 2 ≠ .loc m := by intro h0; injection h0; omega
              have hm5 : Vm.Id.loc m ≠ .loc 5 := by intro h0; injection h0; omega
              have hm5' : Vm.Id.loc 5 ≠ .loc m := fun h0 => hm5 h0.symm
              cases hk2 : hasK a2 E
              · obtain ⟨s1, s2, s3⟩ := GJ.step (E := E) (was := was) jo jc jm jb jl jk hm hl
                refine ⟨_, s1, s2, s3 _ hl, fun l => ?_⟩
                refine VRound.tell [(1, .fp (encF f)), (5, .ptr (.out (.loc 0)) 0), (7, .fp [DI i]), (8, .fp (encP p)), (9, .ptr (.out (.loc 2)) 0), (11, .fp (encE was)), (36, I y)] ?_ ?_
                · conv => whnf
                  refine Retell.turn ⟨[], 0, [], []⟩ (TurnOk.mk' _ _ [] [] (OutOk.lift _) rfl (by decide) (by repeat' (first | exact BTos.nil | refine BTos.flat rfl rfl (by first | rfl | simp) ?_ | refine BTos.new rfl ?_ | refine BTos.dead rfl rfl ?_ | refine BTos.esE rfl rfl ?_ | refine BTos.row rfl rfl rfl (RowTo.snoc (RowTo.one rfl (by simp))) ?_ | refine BTos.cells rfl rfl rfl (by repeat' (first | exact VTo.undef | exact FrTo.leaf | refine FrTo.node ?_ ?_ ?_ | refine FrTo.none ?_ ?_ | exact VTo.sc (by first | rfl | (congr 1; omega) | (congr 1; simp; omega)) | exact VTos_dv _ _ | refine VTos.cons ?_ ?_ | exact VTos.nil | refine VTo.agg ?_ | refine VTo.tuple ?_ | refine VTo.func ?_ ?_ | exact VTo.fs | exact VTo.fp | exact VTo.nilptr | exact VTo.nilslice | exact VTo.nilfunc | exact VTo.ptr rfl | exact VTo.gl rfl | exact VTo.map rfl | exact VTo.yld rfl | exact VTo.fmMap rfl | exact VTo.fm | exact VTo.glNil' (by decide) rfl rfl | exact VTo.fsNil (by decide) | exact VTo.fsSl rfl rfl (by simp [flat_len encE_len]) | exact VTo.fpPtr rfl | exact VTo.fsGl rfl (by first | rfl | exact flat_len encI_len _ | exact flat_len encS_len _ | exact flat_len encP_len _ | exact flat_len encL_len _ | exact flat_len encE_len _ | (simp [flat_len encP_len]; done) | simp [flat_len encI_len, flat_len encS_len]))) ?_)) trivial trivial rfl) (by repeat' (first | exact VTo.undef | exact FrTo.leaf | refine FrTo.node ?_ ?_ ?_ | refine FrTo.none ?_ ?_ | exact VTo.sc (by first | rfl | (congr 1; omega) | (congr 1; simp; omega)) | exact VTos_dv _ _ | refine VTos.cons ?_ ?_ | exact VTos.nil | refine VTo.agg ?_ | refine VTo.tuple ?_ | refine VTo.func ?_ ?_ | exact VTo.fs | exact VTo.fp | exact VTo.nilptr | exact VTo.nilslice | exact VTo.nilfunc | exact VTo.ptr rfl | exact VTo.gl rfl | exact VTo.map rfl | exact VTo.yld rfl | exact VTo.fmMap rfl | exact VTo.fm | exact VTo.glNil' (by decide) rfl rfl | exact VTo.fsNil (by decide) | exact VTo.fsSl rfl rfl (by simp [flat_len encE_len]) | exact VTo.fpPtr rfl | exact VTo.fsGl rfl (by first | rfl | exact flat_len encI_len _ | exact flat_len encS_len _ | exact flat_len encP_len _ | exact flat_len encL_len _ | exact flat_len encE_len _ | (simp [flat_len encP_len]; done) | simp [flat_len encI_len, flat_len encS_len]))) (by first | rfl | (repeat' (first | exact MkTo.nil | refine MkTo.keep rfl ?_ | refine MkTo.drop (by decide) rfl ?_)))
                · conv => whnf
                  refine VBegin.intro (get_out hl _) rfl ?_
                  conv => whnf
                  repeat' (first | (refine VLd.intro rfl ?_; conv => whnf) | (refine VArith.i64 (by omega) ?_; conv => whnf) | (refine VNeed.intro (by first | rfl | (simp; omega)) ?_; conv => whnf) | (refine VMem.store rfl rfl rfl rfl ?_; conv => whnf) | (refine VSame.intro rfl ?_; conv => whnf) | (refine VDraw.go [] (by kernel_rfl) (by kernel_rfl) ?_; conv => whnf) | (refine VIte.dec (fun _ => ?_) (fun _ => ?_) <;> conv => whnf) | (refine VIte.ndec (fun _ => ?_) (fun _ => ?_) <;> conv => whnf) | (refine VIte.beq (fun _ => ?_) (fun _ => ?_) <;> conv => whnf) | (refine VIte.bne (fun _ => ?_) (fun _ => ?_) <;> conv => whnf) | (refine VIte.intro (fun _ => ?_) (fun _ => ?_) <;> conv => whnf) | (refine VCall.intro (vc_goes f i y was.year _ (by omega) (by omega) (by omega) (by omega)) ?_; conv => whnf))
                  · rename_i x1 x2 x3
                    rw [isE_go x1, decide_eq_true ⟨x2, x3⟩] at hE
                    dsimp only [cond_true, cond_false] at hE
                    subst hE
                    have hag : alGet a2 ⟨(i : Int), y, -1, p.side, y⟩ = none := by
                      have := hk2; rw [hasK_get] at this
                      cases hz : alGet a2 ⟨(i : Int), y, -1, p.side, y⟩ with
                      | none => rfl
                      | some v => rw [hz] at this; cases this
                    refine VLd.cell rfl rfl (get_setO (by decide) jc _) rfl ?_
                    conv => whnf
                    repeat (first | (refine VLd.intro rfl ?_; conv => whnf) | (refine VArith.i64 (by omega) ?_; conv => whnf) | (refine VNeed.intro (by first | rfl | (simp; omega)) ?_; conv => whnf) | (refine VMem.store rfl rfl rfl rfl ?_; conv => whnf) | (refine VSame.intro rfl ?_; conv => whnf) | (refine VDraw.go [] (by kernel_rfl) (by kernel_rfl) ?_; conv => whnf))
                    refine VLook.intro (es := esE a2) ((get_setO (by decide) jm _).trans (by rw [esE_ren])) (look_esE a2 ⟨(i : Int), y, -1, p.side, y⟩) ?_
                    rw [hag]
                    conv => whnf
                    repeat (first | (refine VLd.intro rfl ?_; conv => whnf) | (refine VArith.i64 (by omega) ?_; conv => whnf) | (refine VNeed.intro (by first | rfl | (simp; omega)) ?_; conv => whnf) | (refine VMem.store rfl rfl rfl rfl ?_; conv => whnf) | (refine VSame.intro rfl ?_; conv => whnf) | (refine VDraw.go [] (by kernel_rfl) (by kernel_rfl) ?_; conv => whnf))
                    refine VLd.cell rfl rfl (get_setO (by decide) jc _) rfl ?_
                    conv => whnf
                    repeat (first | (refine VLd.intro rfl ?_; conv => whnf) | (refine VArith.i64 (by omega) ?_; conv => whnf) | (refine VNeed.intro (by first | rfl | (simp; omega)) ?_; conv => whnf) | (refine VMem.store rfl rfl rfl rfl ?_; conv => whnf) | (refine VSame.intro rfl ?_; conv => whnf) | (refine VDraw.go [] (by kernel_rfl) (by kernel_rfl) ?_; conv => whnf))
                    refine VMem.newE (a := a2) (e := ⟨(i : Int), y, -1, p.side, y⟩) (v := was) ((get_setO (by decide) jm _).trans (by rw [esE_ren])) hk2 ?_
                    conv => whnf
                    refine VLd.cell rfl rfl (get_outNe (by decide) (get_setO (by decide) jb _)) rfl ?_
                    conv => whnf
                    repeat (first | (refine VLd.intro rfl ?_; conv => whnf) | (refine VArith.i64 (by omega) ?_; conv => whnf) | (refine VNeed.intro (by first | rfl | (simp; omega)) ?_; conv => whnf) | (refine VMem.store rfl rfl rfl rfl ?_; conv => whnf) | (refine VSame.intro rfl ?_; conv => whnf) | (refine VDraw.go [] (by kernel_rfl) (by kernel_rfl) ?_; conv => whnf))
                    refine VMem.app1B (α := End) (l := n2) ⟨(i : Int), y, -1, p.side, y⟩ encE_len rfl (get_outNe hm1 (get_setO hm5 jl _)) rfl rfl rfl (by omega) ?_
                    conv => whnf
                    repeat (first | (refine VLd.intro rfl ?_; conv => whnf) | (refine VArith.i64 (by omega) ?_; conv => whnf) | (refine VNeed.intro (by first | rfl | (simp; omega)) ?_; conv => whnf) | (refine VMem.store rfl rfl rfl rfl ?_; conv => whnf) | (refine VSame.intro rfl ?_; conv => whnf) | (refine VDraw.go [] (by kernel_rfl) (by kernel_rfl) ?_; conv => whnf))
                    refine VMem.st1 rfl rfl rfl (b := .cells true [.gl (.out (.loc m)) 5 n2.length]) (get_outNe hm2 (get_outNe (by decide) (get_setO (by decide) jb _))) rfl ?_
                    conv => whnf
                    refine RFin.on (get_outNe (by decide) (get_outNe hm5' (get_outNe (by decide) (outW_get _ _ _ _)))) ?_
                    refine VOut.upd [(.loc 1, .map (esE (a2 ++ [(⟨(i : Int), y, -1, p.side, y⟩, was)]))), (.loc m, .dead), (.loc 2, .cells true [.gl g.fresh 5 (n2.length + 1)])] [.flat true ((n2 ++ ([⟨(i : Int), y, -1, p.side, y⟩] : List End)).flatMap encE)] [3] 4 ?_ (upd_ok jb jm jl) ?_ ?_ ?_ ?_ ?_
                    · rfl
                    · decide
                    · rfl
                    · intro k b hk
                      cases k with
                      | zero => rw [List.getElem?_cons_zero, Option.some.injEq] at hk; subst hk; exact ⟨3, rfl, rfl⟩
                      | succ k => simp at hk
                    · intro σ x hx; exact hx
                    · have e1 : (Blk.cells true [V.gl g.fresh 5 (n2.length + 1)]).ren (backR g.loc.length [3] 4) = .cells true [.gl (.loc 3) 5 (n2.length + 1)] := by simp [Blk.ren, V.ren, backR, Hp.fresh]
                      simp only [List.map_cons, List.map_nil, e1, esE_ren]
                      exact outer_fix (get_out hl []) (by decide) hm5' (by decide)
                  · rename_i x1 x2 x3
                    rw [isE_go x1, decide_eq_false (fun hh => x3 hh.2)] at hE
                    dsimp only [cond_true, cond_false] at hE
                    subst hE
                    have hag : alGet a2 ⟨(i : Int), y, was.first, was.side, was.since⟩ = none := by
                      have := hk2; rw [hasK_get] at this
                      cases hz : alGet a2 ⟨(i : Int), y, was.first, was.side, was.since⟩ with
                      | none => rfl
                      | some v => rw [hz] at this; cases this
                    refine VLd.cell rfl rfl (get_setO (by decide) jc _) rfl ?_
                    conv => whnf
                    repeat (first | (refine VLd.intro rfl ?_; conv => whnf) | (refine VArith.i64 (by omega) ?_; conv => whnf) | (refine VNeed.intro (by first | rfl | (simp; omega)) ?_; conv => whnf) | (refine VMem.store rfl rfl rfl rfl ?_; conv => whnf) | (refine VSame.intro rfl ?_; conv => whnf) | (refine VDraw.go [] (by kernel_rfl) (by kernel_rfl) ?_; conv => whnf))
                    refine VLook.intro (es := esE a2) ((get_setO (by decide) jm _).trans (by rw [esE_ren])) (look_esE a2 ⟨(i : Int), y, was.first, was.side, was.since⟩) ?_
                    rw [hag]
                    conv => whnf
                    repeat (first | (refine VLd.intro rfl ?_; conv => whnf) | (refine VArith.i64 (by omega) ?_; conv => whnf) | (refine VNeed.intro (by first | rfl | (simp; omega)) ?_; conv => whnf) | (refine VMem.store rfl rfl rfl rfl ?_; conv => whnf) | (refine VSame.intro rfl ?_; conv => whnf) | (refine VDraw.go [] (by kernel_rfl) (by kernel_rfl) ?_; conv => whnf))
                    refine VLd.cell rfl rfl (get_setO (by decide) jc _) rfl ?_
                    conv => whnf
                    repeat (first | (refine VLd.intro rfl ?_; conv => whnf) | (refine VArith.i64 (by omega) ?_; conv => whnf) | (refine VNeed.intro (by first | rfl | (simp; omega)) ?_; conv => whnf) | (refine VMem.store rfl rfl rfl rfl ?_; conv => whnf) | (refine VSame.intro rfl ?_; conv => whnf) | (refine VDraw.go [] (by kernel_rfl) (by kernel_rfl) ?_; conv => whnf))
                    refine VMem.newE (a := a2) (e := ⟨(i : Int), y, was.first, was.side, was.since⟩) (v := was) ((get_setO (by decide) jm _).trans (by rw [esE_ren])) hk2 ?_
                    conv => whnf
                    refine VLd.cell rfl rfl (get_outNe (by decide) (get_setO (by decide) jb _)) rfl ?_
                    conv => whnf
                    repeat (first | (refine VLd.intro rfl ?_; conv => whnf) | (refine VArith.i64 (by omega) ?_; conv => whnf) | (refine VNeed.intro (by first | rfl | (simp; omega)) ?_; conv => whnf) | (refine VMem.store rfl rfl rfl rfl ?_; conv => whnf) | (refine VSame.intro rfl ?_; conv => whnf) | (refine VDraw.go [] (by kernel_rfl) (by kernel_rfl) ?_; conv => whnf))
                    refine VMem.app1B (α := End) (l := n2) ⟨(i : Int), y, was.first, was.side, was.since⟩ encE_len rfl (get_outNe hm1 (get_setO hm5 jl _)) rfl rfl rfl (by omega) ?_
                    conv => whnf
                    repeat (first | (refine VLd.intro rfl ?_; conv => whnf) | (refine VArith.i64 (by omega) ?_; conv => whnf) | (refine VNeed.intro (by first | rfl | (simp; omega)) ?_; conv => whnf) | (refine VMem.store rfl rfl rfl rfl ?_; conv => whnf) | (refine VSame.intro rfl ?_; conv => whnf) | (refine VDraw.go [] (by kernel_rfl) (by kernel_rfl) ?_; conv => whnf))
                    refine VMem.st1 rfl rfl rfl (b := .cells true [.gl (.out (.loc m)) 5 n2.length]) (get_outNe hm2 (get_outNe (by decide) (get_setO (by decide) jb _))) rfl ?_
                    conv => whnf
                    refine RFin.on (get_outNe (by decide) (get_outNe hm5' (get_outNe (by decide) (outW_get _ _ _ _)))) ?_
                    refine VOut.upd [(.loc 1, .map (esE (a2 ++ [(⟨(i : Int), y, was.first, was.side, was.since⟩, was)]))), (.loc m, .dead), (.loc 2, .cells true [.gl g.fresh 5 (n2.length + 1)])] [.flat true ((n2 ++ ([⟨(i : Int), y, was.first, was.side, was.since⟩] : List End)).flatMap encE)] [3] 4 ?_ (upd_ok jb jm jl) ?_ ?_ ?_ ?_ ?_
                    · rfl
                    · decide
                    · rfl
                    · intro k b hk
                      cases k with
                      | zero => rw [List.getElem?_cons_zero, Option.some.injEq] at hk; subst hk; exact ⟨3, rfl, rfl⟩
                      | succ k => simp at hk
                    · intro σ x hx; exact hx
                    · have e1 : (Blk.cells true [V.gl g.fresh 5 (n2.length + 1)]).ren (backR g.loc.length [3] 4) = .cells true [.gl (.loc 3) 5 (n2.length + 1)] := by simp [Blk.ren, V.ren, backR, Hp.fresh]
                      simp only [List.map_cons, List.map_nil, e1, esE_ren]
                      exact outer_fix (get_out hl []) (by decide) hm5' (by decide)
                  · rename_i x1 x2
                    rw [isE_go x1, decide_eq_false (fun hh => hh.1 x2)] at hE
                    dsimp only [cond_true, cond_false] at hE
                    subst hE
                    have hag : alGet a2 ⟨(i : Int), y, was.first, was.side, was.since⟩ = none := by
                      have := hk2; rw [hasK_get] at this
                      cases hz : alGet a2 ⟨(i : Int), y, was.first, was.side, was.since⟩ with
                      | none => rfl
                      | some v => rw [hz] at this; cases this
                    refine VLd.cell rfl rfl (get_setO (by decide) jc _) rfl ?_
                    conv => whnf
                    repeat (first | (refine VLd.intro rfl ?_; conv => whnf) | (refine VArith.i64 (by omega) ?_; conv => whnf) | (refine VNeed.intro (by first | rfl | (simp; omega)) ?_; conv => whnf) | (refine VMem.store rfl rfl rfl rfl ?_; conv => whnf) | (refine VSame.intro rfl ?_; conv => whnf) | (refine VDraw.go [] (by kernel_rfl) (by kernel_rfl) ?_; conv => whnf))
                    refine VLook.intro (es := esE a2) ((get_setO (by decide) jm _).trans (by rw [esE_ren])) (look_esE a2 ⟨(i : Int), y, was.first, was.side, was.since⟩) ?_
                    rw [hag]
                    conv => whnf
                    repeat (first | (refine VLd.intro rfl ?_; conv => whnf) | (refine VArith.i64 (by omega) ?_; conv => whnf) | (refine VNeed.intro (by first | rfl | (simp; omega)) ?_; conv => whnf) | (refine VMem.store rfl rfl rfl rfl ?_; conv => whnf) | (refine VSame.intro rfl ?_; conv => whnf) | (refine VDraw.go [] (by kernel_rfl) (by kernel_rfl) ?_; conv => whnf))
                    refine VLd.cell rfl rfl (get_setO (by decide) jc _) rfl ?_
                    conv => whnf
                    repeat (first | (refine VLd.intro rfl ?_; conv => whnf) | (refine VArith.i64 (by omega) ?_; conv => whnf) | (refine VNeed.intro (by first | rfl | (simp; omega)) ?_; conv => whnf) | (refine VMem.store rfl rfl rfl rfl ?_; conv => whnf) | (refine VSame.intro rfl ?_; conv => whnf) | (refine VDraw.go [] (by kernel_rfl) (by kernel_rfl) ?_; conv => whnf))
                    refine VMem.newE (a := a2) (e := ⟨(i : Int), y, was.first, was.side, was.since⟩) (v := was) ((get_setO (by decide) jm _).trans (by rw [esE_ren])) hk2 ?_
                    conv => whnf
                    refine VLd.cell rfl rfl (get_outNe (by decide) (get_setO (by decide) jb _)) rfl ?_
                    conv => whnf
                    repeat (first | (refine VLd.intro rfl ?_; conv => whnf) | (refine VArith.i64 (by omega) ?_; conv => whnf) | (refine VNeed.intro (by first | rfl | (simp; omega)) ?_; conv => whnf) | (refine VMem.store rfl rfl rfl rfl ?_; conv => whnf) | (refine VSame.intro rfl ?_; conv => whnf) | (refine VDraw.go [] (by kernel_rfl) (by kernel_rfl) ?_; conv => whnf))
                    refine VMem.app1B (α := End) (l := n2) ⟨(i : Int), y, was.first, was.side, was.since⟩ encE_len rfl (get_outNe hm1 (get_setO hm5 jl _)) rfl rfl rfl (by omega) ?_
                    conv => whnf
                    repeat (first | (refine VLd.intro rfl ?_; conv => whnf) | (refine VArith.i64 (by omega) ?_; conv => whnf) | (refine VNeed.intro (by first | rfl | (simp; omega)) ?_; conv => whnf) | (refine VMem.store rfl rfl rfl rfl ?_; conv => whnf) | (refine VSame.intro rfl ?_; conv => whnf) | (refine VDraw.go [] (by kernel_rfl) (by kernel_rfl) ?_; conv => whnf))
                    refine VMem.st1 rfl rfl rfl (b := .cells true [.gl (.out (.loc m)) 5 n2.length]) (get_outNe hm2 (get_outNe (by decide) (get_setO (by decide) jb _))) rfl ?_
                    conv => whnf
                    refine RFin.on (get_outNe (by decide) (get_outNe hm5' (get_outNe (by decide) (outW_get _ _ _ _)))) ?_
                    refine VOut.upd [(.loc 1, .map (esE (a2 ++ [(⟨(i : Int), y, was.first, was.side, was.since⟩, was)]))), (.loc m, .dead), (.loc 2, .cells true [.gl g.fresh 5 (n2.length + 1)])] [.flat true ((n2 ++ ([⟨(i : Int), y, was.first, was.side, was.since⟩] : List End)).flatMap encE)] [3] 4 ?_ (upd_ok jb jm jl) ?_ ?_ ?_ ?_ ?_
                    · rfl
                    · decide
                    · rfl
                    · intro k b hk
                      cases k with
                      | zero => rw [List.getElem?_cons_zero, Option.some.injEq] at hk; subst hk; exact ⟨3, rfl, rfl⟩
                      | succ k => simp at hk
                    · intro σ x hx; exact hx
                    · have e1 : (Blk.cells true [V.gl g.fresh 5 (n2.length + 1)]).ren (backR g.loc.length [3] 4) = .cells true [.gl (.loc 3) 5 (n2.length + 1)] := by simp [Blk.ren, V.ren, backR, Hp.fresh]
                      simp only [List.map_cons, List.map_nil, e1, esE_ren]
                      exact outer_fix (get_out hl []) (by decide) hm5' (by decide)
                  · rename_i x1 x2 x3
                    rw [isE_no x1, decide_eq_true ⟨x2, x3⟩] at hE
                    dsimp only [cond_true, cond_false] at hE
                    subst hE
                    have hag : alGet a2 ⟨(i : Int), y, -1, p.side, y⟩ = none := by
                      have := hk2; rw [hasK_get] at this
                      cases hz : alGet a2 ⟨(i : Int), y, -1, p.side, y⟩ with
                      | none => rfl
                      | some v => rw [hz] at this; cases this
                    refine VLd.cell rfl rfl (get_setO (by decide) jc _) rfl ?_
                    conv => whnf
                    repeat (first | (refine VLd.intro rfl ?_; conv => whnf) | (refine VArith.i64 (by omega) ?_; conv => whnf) | (refine VNeed.intro (by first | rfl | (simp; omega)) ?_; conv => whnf) | (refine VMem.store rfl rfl rfl rfl ?_; conv => whnf) | (refine VSame.intro rfl ?_; conv => whnf) | (refine VDraw.go [] (by kernel_rfl) (by kernel_rfl) ?_; conv => whnf))
                    refine VLook.intro (es := esE a2) ((get_setO (by decide) jm _).trans (by rw [esE_ren])) (look_esE a2 ⟨(i : Int), y, -1, p.side, y⟩) ?_
                    rw [hag]
                    conv => whnf
                    repeat (first | (refine VLd.intro rfl ?_; conv => whnf) | (refine VArith.i64 (by omega) ?_; conv => whnf) | (refine VNeed.intro (by first | rfl | (simp; omega)) ?_; conv => whnf) | (refine VMem.store rfl rfl rfl rfl ?_; conv => whnf) | (refine VSame.intro rfl ?_; conv => whnf) | (refine VDraw.go [] (by kernel_rfl) (by kernel_rfl) ?_; conv => whnf))
                    refine VLd.cell rfl rfl (get_setO (by decide) jc _) rfl ?_
                    conv => whnf
                    repeat (first | (refine VLd.intro rfl ?_; conv => whnf) | (refine VArith.i64 (by omega) ?_; conv => whnf) | (refine VNeed.intro (by first | rfl | (simp; omega)) ?_; conv => whnf) | (refine VMem.store rfl rfl rfl rfl ?_; conv => whnf) | (refine VSame.intro rfl ?_; conv => whnf) | (refine VDraw.go [] (by kernel_rfl) (by kernel_rfl) ?_; conv => whnf))
                    refine VMem.newE (a := a2) (e := ⟨(i : Int), y, -1, p.side, y⟩) (v := was) ((get_setO (by decide) jm _).trans (by rw [esE_ren])) hk2 ?_
                    conv => whnf
                    refine VLd.cell rfl rfl (get_outNe (by decide) (get_setO (by decide) jb _)) rfl ?_
                    conv => whnf
                    repeat (first | (refine VLd.intro rfl ?_; conv => whnf) | (refine VArith.i64 (by omega) ?_; conv => whnf) | (refine VNeed.intro (by first | rfl | (simp; omega)) ?_; conv => whnf) | (refine VMem.store rfl rfl rfl rfl ?_; conv => whnf) | (refine VSame.intro rfl ?_; conv => whnf) | (refine VDraw.go [] (by kernel_rfl) (by kernel_rfl) ?_; conv => whnf))
                    refine VMem.app1B (α := End) (l := n2) ⟨(i : Int), y, -1, p.side, y⟩ encE_len rfl (get_outNe hm1 (get_setO hm5 jl _)) rfl rfl rfl (by omega) ?_
                    conv => whnf
                    repeat (first | (refine VLd.intro rfl ?_; conv => whnf) | (refine VArith.i64 (by omega) ?_; conv => whnf) | (refine VNeed.intro (by first | rfl | (simp; omega)) ?_; conv => whnf) | (refine VMem.store rfl rfl rfl rfl ?_; conv => whnf) | (refine VSame.intro rfl ?_; conv => whnf) | (refine VDraw.go [] (by kernel_rfl) (by kernel_rfl) ?_; conv => whnf))
                    refine VMem.st1 rfl rfl rfl (b := .cells true [.gl (.out (.loc m)) 5 n2.length]) (get_outNe hm2 (get_outNe (by decide) (get_setO (by decide) jb _))) rfl ?_
                    conv => whnf
                    refine RFin.on (get_outNe (by decide) (get_outNe hm5' (get_outNe (by decide) (outW_get _ _ _ _)))) ?_
                    refine VOut.upd [(.loc 1, .map (esE (a2 ++ [(⟨(i : Int), y, -1, p.side, y⟩, was)]))), (.loc m, .dead), (.loc 2, .cells true [.gl g.fresh 5 (n2.length + 1)])] [.flat true ((n2 ++ ([⟨(i : Int), y, -1, p.side, y⟩] : List End)).flatMap encE)] [3] 4 ?_ (upd_ok jb jm jl) ?_ ?_ ?_ ?_ ?_
                    · rfl
                    · decide
                    · rfl
                    · intro k b hk
                      cases k with
                      | zero => rw [List.getElem?_cons_zero, Option.some.injEq] at hk; subst hk; exact ⟨3, rfl, rfl⟩
                      | succ k => simp at hk
                    · intro σ x hx; exact hx
                    · have e1 : (Blk.cells true [V.gl g.fresh 5 (n2.length + 1)]).ren (backR g.loc.length [3] 4) = .cells true [.gl (.loc 3) 5 (n2.length + 1)] := by simp [Blk.ren, V.ren, backR, Hp.fresh]
                      simp only [List.map_cons, List.map_nil, e1, esE_ren]
                      exact outer_fix (get_out hl []) (by decide) hm5' (by decide)
                  · rename_i x1 x2 x3
                    rw [isE_no x1, decide_eq_false (fun hh => x3 hh.2)] at hE
                    dsimp only [cond_true, cond_false] at hE
                    subst hE
                    have hag : alGet a2 ⟨(i : Int), y, y, was.side, was.since⟩ = none := by
                      have := hk2; rw [hasK_get] at this
                      cases hz : alGet a2 ⟨(i : Int), y, y, was.side, was.since⟩ with
                      | none => rfl
                      | some v => rw [hz] at this; cases this
                    refine VLd.cell rfl rfl (get_setO (by decide) jc _) rfl ?_
                    conv => whnf
                    repeat (first | (refine VLd.intro rfl ?_; conv => whnf) | (refine VArith.i64 (by omega) ?_; conv => whnf) | (refine VNeed.intro (by first | rfl | (simp; omega)) ?_; conv => whnf) | (refine VMem.store rfl rfl rfl rfl ?_; conv => whnf) | (refine VSame.intro rfl ?_; conv => whnf) | (refine VDraw.go [] (by kernel_rfl) (by kernel_rfl) ?_; conv => whnf))
                    refine VLook.intro (es := esE a2) ((get_setO (by decide) jm _).trans (by rw [esE_ren])) (look_esE a2 ⟨(i : Int), y, y, was.side, was.since⟩) ?_
                    rw [hag]
                    conv => whnf
                    repeat (first | (refine VLd.intro rfl ?_; conv => whnf) | (refine VArith.i64 (by omega) ?_; conv => whnf) | (refine VNeed.intro (by first | rfl | (simp; omega)) ?_; conv => whnf) | (refine VMem.store rfl rfl rfl rfl ?_; conv => whnf) | (refine VSame.intro rfl ?_; conv => whnf) | (refine VDraw.go [] (by kernel_rfl) (by kernel_rfl) ?_; conv => whnf))
                    refine VLd.cell rfl rfl (get_setO (by decide) jc _) rfl ?_
                    conv => whnf
                    repeat (first | (refine VLd.intro rfl ?_; conv => whnf) | (refine VArith.i64 (by omega) ?_; conv => whnf) | (refine VNeed.intro (by first | rfl | (simp; omega)) ?_; conv => whnf) | (refine VMem.store rfl rfl rfl rfl ?_; conv => whnf) | (refine VSame.intro rfl ?_; conv => whnf) | (refine VDraw.go [] (by kernel_rfl) (by kernel_rfl) ?_; conv => whnf))
                    refine VMem.newE (a := a2) (e := ⟨(i : Int), y, y, was.side, was.since⟩) (v := was) ((get_setO (by decide) jm _).trans (by rw [esE_ren])) hk2 ?_
                    conv => whnf
                    refine VLd.cell rfl rfl (get_outNe (by decide) (get_setO (by decide) jb _)) rfl ?_
                    conv => whnf
                    repeat (first | (refine VLd.intro rfl ?_; conv => whnf) | (refine VArith.i64 (by omega) ?_; conv => whnf) | (refine VNeed.intro (by first | rfl | (simp; omega)) ?_; conv => whnf) | (refine VMem.store rfl rfl rfl rfl ?_; conv => whnf) | (refine VSame.intro rfl ?_; conv => whnf) | (refine VDraw.go [] (by kernel_rfl) (by kernel_rfl) ?_; conv => whnf))
                    refine VMem.app1B (α := End) (l := n2) ⟨(i : Int), y, y, was.side, was.since⟩ encE_len rfl (get_outNe hm1 (get_setO hm5 jl _)) rfl rfl rfl (by omega) ?_
                    conv => whnf
                    repeat (first | (refine VLd.intro rfl ?_; conv => whnf) | (refine VArith.i64 (by omega) ?_; conv => whnf) | (refine VNeed.intro (by first | rfl | (simp; omega)) ?_; conv => whnf) | (refine VMem.store rfl rfl rfl rfl ?_; conv => whnf) | (refine VSame.intro rfl ?_; conv => whnf) | (refine VDraw.go [] (by kernel_rfl) (by kernel_rfl) ?_; conv => whnf))
                    refine VMem.st1 rfl rfl rfl (b := .cells true [.gl (.out (.loc m)) 5 n2.length]) (get_outNe hm2 (get_outNe (by decide) (get_setO (by decide) jb _))) rfl ?_
                    conv => whnf
                    refine RFin.on (get_outNe (by decide) (get_outNe hm5' (get_outNe (by decide) (outW_get _ _ _ _)))) ?_
                    refine VOut.upd [(.loc 1, .map (esE (a2 ++ [(⟨(i : Int), y, y, was.side, was.since⟩, was)]))), (.loc m, .dead), (.loc 2, .cells true [.gl g.fresh 5 (n2.length + 1)])] [.flat true ((n2 ++ ([⟨(i : Int), y, y, was.side, was.since⟩] : List End)).flatMap encE)] [3] 4 ?_ (upd_ok jb jm jl) ?_ ?_ ?_ ?_ ?_
                    · rfl
                    · decide
                    · rfl
                    · intro k b hk
                      cases k with
                      | zero => rw [List.getElem?_cons_zero, Option.some.injEq] at hk; subst hk; exact ⟨3, rfl, rfl⟩
                      | succ k => simp at hk
                    · intro σ x hx; exact hx
                    · have e1 : (Blk.cells true [V.gl g.fresh 5 (n2.length + 1)]).ren (backR g.loc.length [3] 4) = .cells true [.gl (.loc 3) 5 (n2.length + 1)] := by simp [Blk.ren, V.ren, backR, Hp.fresh]
                      simp only [List.map_cons, List.map_nil, e1, esE_ren]
                      exact outer_fix (get_out hl []) (by decide) hm5' (by decide)
                  · rename_i x1 x2
                    rw [isE_no x1, decide_eq_false (fun hh => hh.1 x2)] at hE
                    dsimp only [cond_true, cond_false] at hE
                    subst hE
                    have hag : alGet a2 ⟨(i : Int), y, y, was.side, was.since⟩ = none := by
                      have := hk2; rw [hasK_get] at this
                      cases hz : alGet a2 ⟨(i : Int), y, y, was.side, was.since⟩ with
                      | none => rfl
                      | some v => rw [hz] at this; cases this
                    refine VLd.cell rfl rfl (get_setO (by decide) jc _) rfl ?_
                    conv => whnf
                    repeat (first | (refine VLd.intro rfl ?_; conv => whnf) | (refine VArith.i64 (by omega) ?_; conv => whnf) | (refine VNeed.intro (by first | rfl | (simp; omega)) ?_; conv => whnf) | (refine VMem.store rfl rfl rfl rfl ?_; conv => whnf) | (refine VSame.intro rfl ?_; conv => whnf) | (refine VDraw.go [] (by kernel_rfl) (by kernel_rfl) ?_; conv => whnf))
                    refine VLook.intro (es := esE a2) ((get_setO (by decide) jm _).trans (by rw [esE_ren])) (look_esE a2 ⟨(i : Int), y, y, was.side, was.since⟩) ?_
                    rw [hag]
                    conv => whnf
                    repeat (first | (refine VLd.intro rfl ?_; conv => whnf) | (refine VArith.i64 (by omega) ?_; conv => whnf) | (refine VNeed.intro (by first | rfl | (simp; omega)) ?_; conv => whnf) | (refine VMem.store rfl rfl rfl rfl ?_; conv => whnf) | (refine VSame.intro rfl ?_; conv => whnf) | (refine VDraw.go [] (by kernel_rfl) (by kernel_rfl) ?_; conv => whnf))
                    refine VLd.cell rfl rfl (get_setO (by decide) jc _) rfl ?_
                    conv => whnf
                    repeat (first | (refine VLd.intro rfl ?_; conv => whnf) | (refine VArith.i64 (by omega) ?_; conv => whnf) | (refine VNeed.intro (by first | rfl | (simp; omega)) ?_; conv => whnf) | (refine VMem.store rfl rfl rfl rfl ?_; conv => whnf) | (refine VSame.intro rfl ?_; conv => whnf) | (refine VDraw.go [] (by kernel_rfl) (by kernel_rfl) ?_; conv => whnf))
                    refine VMem.newE (a := a2) (e := ⟨(i : Int), y, y, was.side, was.since⟩) (v := was) ((get_setO (by decide) jm _).trans (by rw [esE_ren])) hk2 ?_
                    conv => whnf
                    refine VLd.cell rfl rfl (get_outNe (by decide) (get_setO (by decide) jb _)) rfl ?_
                    conv => whnf
                    repeat (first | (refine VLd.intro rfl ?_; conv => whnf) | (refine VArith.i64 (by omega) ?_; conv => whnf) | (refine VNeed.intro (by first | rfl | (simp; omega)) ?_; conv => whnf) | (refine VMem.store rfl rfl rfl rfl ?_; conv => whnf) | (refine VSame.intro rfl ?_; conv => whnf) | (refine VDraw.go [] (by kernel_rfl) (by kernel_rfl) ?_; conv => whnf))
                    refine VMem.app1B (α := End) (l := n2) ⟨(i : Int), y, y, was.side, was.since⟩ encE_len rfl (get_outNe hm1 (get_setO hm5 jl _)) rfl rfl rfl (by omega) ?_
                    conv => whnf
                    repeat (first | (refine VLd.intro rfl ?_; conv => whnf) | (refine VArith.i64 (by omega) ?_; conv => whnf) | (refine VNeed.intro (by first | rfl | (simp; omega)) ?_; conv => whnf) | (refine VMem.store rfl rfl rfl rfl ?_; conv => whnf) | (refine VSame.intro rfl ?_; conv => whnf) | (refine VDraw.go [] (by kernel_rfl) (by kernel_rfl) ?_; conv => whnf))
                    refine VMem.st1 rfl rfl rfl (b := .cells true [.gl (.out (.loc m)) 5 n2.length]) (get_outNe hm2 (get_outNe (by decide) (get_setO (by decide) jb _))) rfl ?_
                    conv => whnf
                    refine RFin.on (get_outNe (by decide) (get_outNe hm5' (get_outNe (by decide) (outW_get _ _ _ _)))) ?_
                    refine VOut.upd [(.loc 1, .map (esE (a2 ++ [(⟨(i : Int), y, y, was.side, was.since⟩, was)]))), (.loc m, .dead), (.loc 2, .cells true [.gl g.fresh 5 (n2.length + 1)])] [.flat true ((n2 ++ ([⟨(i : Int), y, y, was.side, was.since⟩] : List End)).flatMap encE)] [3] 4 ?_ (upd_ok jb jm jl) ?_ ?_ ?_ ?_ ?_
                    · rfl
                    · decide
                    · rfl
                    · intro k b hk
                      cases k with
                      | zero => rw [List.getElem?_cons_zero, Option.some.injEq] at hk; subst hk; exact ⟨3, rfl, rfl⟩
                      | succ k => simp at hk
                    · intro σ x hx; exact hx
                    · have e1 : (Blk.cells true [V.gl g.fresh 5 (n2.length + 1)]).ren (backR g.loc.length [3] 4) = .cells true [.gl (.loc 3) 5 (n2.length + 1)] := by simp [Blk.ren, V.ren, backR, Hp.fresh]
                      simp only [List.map_cons, List.map_nil, e1, esE_ren]
                      exact outer_fix (get_out hl []) (by decide) hm5' (by decide)
              · refine ⟨g, g.grows_refl, ⟨jo, jc, jm, ⟨m, hm, jb, jl⟩, jk⟩, hl, fun l => ?_⟩
                refine VRound.tell [(1, .fp (encF f)), (5, .ptr (.out (.loc 0)) 0), (7, .fp [DI i]), (8, .fp (encP p)), (9, .ptr (.out (.loc 2)) 0), (11, .fp (encE was)), (36, I y)] ?_ ?_
                · conv => whnf
                  refine Retell.turn ⟨[], 0, [], []⟩ (TurnOk.mk' _ _ [] [] (OutOk.lift _) rfl (by decide) (by repeat' (first | exact BTos.nil | refine BTos.flat rfl rfl (by first | rfl | simp) ?_ | refine BTos.new rfl ?_ | refine BTos.dead rfl rfl ?_ | refine BTos.esE rfl rfl ?_ | refine BTos.row rfl rfl rfl (RowTo.snoc (RowTo.one rfl (by simp))) ?_ | refine BTos.cells rfl rfl rfl (by repeat' (first | exact VTo.undef | exact FrTo.leaf | refine FrTo.node ?_ ?_ ?_ | refine FrTo.none ?_ ?_ | exact VTo.sc (by first | rfl | (congr 1; omega) | (congr 1; simp; omega)) | exact VTos_dv _ _ | refine VTos.cons ?_ ?_ | exact VTos.nil | refine VTo.agg ?_ | refine VTo.tuple ?_ | refine VTo.func ?_ ?_ | exact VTo.fs | exact VTo.fp | exact VTo.nilptr | exact VTo.nilslice | exact VTo.nilfunc | exact VTo.ptr rfl | exact VTo.gl rfl | exact VTo.map rfl | exact VTo.yld rfl | exact VTo.fmMap rfl | exact VTo.fm | exact VTo.glNil' (by decide) rfl rfl | exact VTo.fsNil (by decide) | exact VTo.fsSl rfl rfl (by simp [flat_len encE_len]) | exact VTo.fpPtr rfl | exact VTo.fsGl rfl (by first | rfl | exact flat_len encI_len _ | exact flat_len encS_len _ | exact flat_len encP_len _ | exact flat_len encL_len _ | exact flat_len encE_len _ | (simp [flat_len encP_len]; done) | simp [flat_len encI_len, flat_len encS_len]))) ?_)) trivial trivial rfl) (by repeat' (first | exact VTo.undef | exact FrTo.leaf | refine FrTo.node ?_ ?_ ?_ | refine FrTo.none ?_ ?_ | exact VTo.sc (by first | rfl | (congr 1; omega) | (congr 1; simp; omega)) | exact VTos_dv _ _ | refine VTos.cons ?_ ?_ | exact VTos.nil | refine VTo.agg ?_ | refine VTo.tuple ?_ | refine VTo.func ?_ ?_ | exact VTo.fs | exact VTo.fp | exact VTo.nilptr | exact VTo.nilslice | exact VTo.nilfunc | exact VTo.ptr rfl | exact VTo.gl rfl | exact VTo.map rfl | exact VTo.yld rfl | exact VTo.fmMap rfl | exact VTo.fm | exact VTo.glNil' (by decide) rfl rfl | exact VTo.fsNil (by decide) | exact VTo.fsSl rfl rfl (by simp [flat_len encE_len]) | exact VTo.fpPtr rfl | exact VTo.fsGl rfl (by first | rfl | exact flat_len encI_len _ | exact flat_len encS_len _ | exact flat_len encP_len _ | exact flat_len encL_len _ | exact flat_len encE_len _ | (simp [flat_len encP_len]; done) | simp [flat_len encI_len, flat_len encS_len]))) (by first | rfl | (repeat' (first | exact MkTo.nil | refine MkTo.keep rfl ?_ | refine MkTo.drop (by decide) rfl ?_)))
                · conv => whnf
                  refine VBegin.intro (get_out hl _) rfl ?_
                  conv => whnf
                  repeat' (first | (refine VLd.intro rfl ?_; conv => whnf) | (refine VArith.i64 (by omega) ?_; conv => whnf) | (refine VNeed.intro (by first | rfl | (simp; omega)) ?_; conv => whnf) | (refine VMem.store rfl rfl rfl rfl ?_; conv => whnf) | (refine VSame.intro rfl ?_; conv => whnf) | (refine VDraw.go [] (by kernel_rfl) (by kernel_rfl) ?_; conv => whnf) | (refine VIte.dec (fun _ => ?_) (fun _ => ?_) <;> conv => whnf) | (refine VIte.ndec (fun _ => ?_) (fun _ => ?_) <;> conv => whnf) | (refine VIte.beq (fun _ => ?_) (fun _ => ?_) <;> conv => whnf) | (refine VIte.bne (fun _ => ?_) (fun _ => ?_) <;> conv => whnf) | (refine VIte.intro (fun _ => ?_) (fun _ => ?_) <;> conv => whnf) | (refine VCall.intro (vc_goes f i y was.year _ (by omega) (by omega) (by omega) (by omega)) ?_; conv => whnf))
                  · rename_i x1 x2 x3
                    rw [isE_go x1, decide_eq_true ⟨x2, x3⟩] at hE
                    dsimp only [cond_true, cond_false] at hE
                    subst hE
                    have hag : ∃ v, alGet a2 ⟨(i : Int), y, -1, p.side, y⟩ = some v := by
                      have := hk2; rw [hasK_get] at this
                      cases hz : alGet a2 ⟨(i : Int), y, -1, p.side, y⟩ with
                      | none => rw [hz] at this; cases this
                      | some v => exact ⟨v, rfl⟩
                    obtain ⟨v, hag⟩ := hag
                    refine VLd.cell rfl rfl (get_setO (by decide) jc _) rfl ?_
                    conv => whnf
                    repeat (first | (refine VLd.intro rfl ?_; conv => whnf) | (refine VArith.i64 (by omega) ?_; conv => whnf) | (refine VNeed.intro (by first | rfl | (simp; omega)) ?_; conv => whnf) | (refine VMem.store rfl rfl rfl rfl ?_; conv => whnf) | (refine VSame.intro rfl ?_; conv => whnf) | (refine VDraw.go [] (by kernel_rfl) (by kernel_rfl) ?_; conv => whnf))
                    refine VLook.intro (es := esE a2) ((get_setO (by decide) jm _).trans (by rw [esE_ren])) (look_esE a2 ⟨(i : Int), y, -1, p.side, y⟩) ?_
                    rw [hag]
                    conv => whnf
                    repeat (first | (refine VLd.intro rfl ?_; conv => whnf) | (refine VArith.i64 (by omega) ?_; conv => whnf) | (refine VNeed.intro (by first | rfl | (simp; omega)) ?_; conv => whnf) | (refine VMem.store rfl rfl rfl rfl ?_; conv => whnf) | (refine VSame.intro rfl ?_; conv => whnf) | (refine VDraw.go [] (by kernel_rfl) (by kernel_rfl) ?_; conv => whnf))
                    refine RFin.on (outW_get _ _ _ _) ?_
                    exact VOut.back (get_out hl []) rfl
                  · rename_i x1 x2 x3
                    rw [isE_go x1, decide_eq_false (fun hh => x3 hh.2)] at hE
                    dsimp only [cond_true, cond_false] at hE
                    subst hE
                    have hag : ∃ v, alGet a2 ⟨(i : Int), y, was.first, was.side, was.since⟩ = some v := by
                      have := hk2; rw [hasK_get] at this
                      cases hz : alGet a2 ⟨(i : Int), y, was.first, was.side, was.since⟩ with
                      | none => rw [hz] at this; cases this
                      | some v => exact ⟨v, rfl⟩
                    obtain ⟨v, hag⟩ := hag
                    refine VLd.cell rfl rfl (get_setO (by decide) jc _) rfl ?_
                    conv => whnf
                    repeat (first | (refine VLd.intro rfl ?_; conv => whnf) | (refine VArith.i64 (by omega) ?_; conv => whnf) | (refine VNeed.intro (by first | rfl | (simp; omega)) ?_; conv => whnf) | (refine VMem.store rfl rfl rfl rfl ?_; conv => whnf) | (refine VSame.intro rfl ?_; conv => whnf) | (refine VDraw.go [] (by kernel_rfl) (by kernel_rfl) ?_; conv => whnf))
                    refine VLook.intro (es := esE a2) ((get_setO (by decide) jm _).trans (by rw [esE_ren])) (look_esE a2 ⟨(i : Int), y, was.first, was.side, was.since⟩) ?_
                    rw [hag]
                    conv => whnf
                    repeat (first | (refine VLd.intro rfl ?_; conv => whnf) | (refine VArith.i64 (by omega) ?_; conv => whnf) | (refine VNeed.intro (by first | rfl | (simp; omega)) ?_; conv => whnf) | (refine VMem.store rfl rfl rfl rfl ?_; conv => whnf) | (refine VSame.intro rfl ?_; conv => whnf) | (refine VDraw.go [] (by kernel_rfl) (by kernel_rfl) ?_; conv => whnf))
                    refine RFin.on (outW_get _ _ _ _) ?_
                    exact VOut.back (get_out hl []) rfl
                  · rename_i x1 x2
                    rw [isE_go x1, decide_eq_false (fun hh => hh.1 x2)] at hE
                    dsimp only [cond_true, cond_false] at hE
                    subst hE
                    have hag : ∃ v, alGet a2 ⟨(i : Int), y, was.first, was.side, was.since⟩ = some v := by
                      have := hk2; rw [hasK_get] at this
                      cases hz : alGet a2 ⟨(i : Int), y, was.first, was.side, was.since⟩ with
                      | none => rw [hz] at this; cases this
                      | some v => exact ⟨v, rfl⟩
                    obtain ⟨v, hag⟩ := hag
                    refine VLd.cell rfl rfl (get_setO (by decide) jc _) rfl ?_
                    conv => whnf
                    repeat (first | (refine VLd.intro rfl ?_; conv => whnf) | (refine VArith.i64 (by omega) ?_; conv => whnf) | (refine VNeed.intro (by first | rfl | (simp; omega)) ?_; conv => whnf) | (refine VMem.store rfl rfl rfl rfl ?_; conv => whnf) | (refine VSame.intro rfl ?_; conv => whnf) | (refine VDraw.go [] (by kernel_rfl) (by kernel_rfl) ?_; conv => whnf))
                    refine VLook.intro (es := esE a2) ((get_setO (by decide) jm _).trans (by rw [esE_ren])) (look_esE a2 ⟨(i : Int), y, was.first, was.side, was.since⟩) ?_
                    rw [hag]
                    conv => whnf
                    repeat (first | (refine VLd.intro rfl ?_; conv => whnf) | (refine VArith.i64 (by omega) ?_; conv => whnf) | (refine VNeed.intro (by first | rfl | (simp; omega)) ?_; conv => whnf) | (refine VMem.store rfl rfl rfl rfl ?_; conv => whnf) | (refine VSame.intro rfl ?_; conv => whnf) | (refine VDraw.go [] (by kernel_rfl) (by kernel_rfl) ?_; conv => whnf))
                    refine RFin.on (outW_get _ _ _ _) ?_
                    exact VOut.back (get_out hl []) rfl
                  · rename_i x1 x2 x3
                    rw [isE_no x1, decide_eq_true ⟨x2, x3⟩] at hE
                    dsimp only [cond_true, cond_false] at hE
                    subst hE
                    have hag : ∃ v, alGet a2 ⟨(i : Int), y, -1, p.side, y⟩ = some v := by
                      have := hk2; rw [hasK_get] at this
                      cases hz : alGet a2 ⟨(i : Int), y, -1, p.side, y⟩ with
                      | none => rw [hz] at this; cases this
                      | some v => exact ⟨v, rfl⟩
                    obtain ⟨v, hag⟩ := hag
                    refine VLd.cell rfl rfl (get_setO (by decide) jc _) rfl ?_
                    conv => whnf
                    repeat (first | (refine VLd.intro rfl ?_; conv => whnf) | (refine VArith.i64 (by omega) ?_; conv => whnf) | (refine VNeed.intro (by first | rfl | (simp; omega)) ?_; conv => whnf) | (refine VMem.store rfl rfl rfl rfl ?_; conv => whnf) | (refine VSame.intro rfl ?_; conv => whnf) | (refine VDraw.go [] (by kernel_rfl) (by kernel_rfl) ?_; conv => whnf))
                    refine VLook.intro (es := esE a2) ((get_setO (by decide) jm _).trans (by rw [esE_ren])) (look_esE a2 ⟨(i : Int), y, -1, p.side, y⟩) ?_
                    rw [hag]
                    conv => whnf
                    repeat (first | (refine VLd.intro rfl ?_; conv => whnf) | (refine VArith.i64 (by omega) ?_; conv => whnf) | (refine VNeed.intro (by first | rfl | (simp; omega)) ?_; conv => whnf) | (refine VMem.store rfl rfl rfl rfl ?_; conv => whnf) | (refine VSame.intro rfl ?_; conv => whnf) | (refine VDraw.go [] (by kernel_rfl) (by kernel_rfl) ?_; conv => whnf))
                    refine RFin.on (outW_get _ _ _ _) ?_
                    exact VOut.back (get_out hl []) rfl
                  · rename_i x1 x2 x3
                    rw [isE_no x1, decide_eq_false (fun hh => x3 hh.2)] at hE
                    dsimp only [cond_true, cond_false] at hE
                    subst hE
                    have hag : ∃ v, alGet a2 ⟨(i : Int), y, y, was.side, was.since⟩ = some v := by
                      have := hk2; rw [hasK_get] at this
                      cases hz : alGet a2 ⟨(i : Int), y, y, was.side, was.since⟩ with
                      | none => rw [hz] at this; cases this
                      | some v => exact ⟨v, rfl⟩
                    obtain ⟨v, hag⟩ := hag
                    refine VLd.cell rfl rfl (get_setO (by decide) jc _) rfl ?_
                    conv => whnf
                    repeat (first | (refine VLd.intro rfl ?_; conv => whnf) | (refine VArith.i64 (by omega) ?_; conv => whnf) | (refine VNeed.intro (by first | rfl | (simp; omega)) ?_; conv => whnf) | (refine VMem.store rfl rfl rfl rfl ?_; conv => whnf) | (refine VSame.intro rfl ?_; conv => whnf) | (refine VDraw.go [] (by kernel_rfl) (by kernel_rfl) ?_; conv => whnf))
                    refine VLook.intro (es := esE a2) ((get_setO (by decide) jm _).trans (by rw [esE_ren])) (look_esE a2 ⟨(i : Int), y, y, was.side, was.since⟩) ?_
                    rw [hag]
                    conv => whnf
                    repeat (first | (refine VLd.intro rfl ?_; conv => whnf) | (refine VArith.i64 (by omega) ?_; conv => whnf) | (refine VNeed.intro (by first | rfl | (simp; omega)) ?_; conv => whnf) | (refine VMem.store rfl rfl rfl rfl ?_; conv => whnf) | (refine VSame.intro rfl ?_; conv => whnf) | (refine VDraw.go [] (by kernel_rfl) (by kernel_rfl) ?_; conv => whnf))
                    refine RFin.on (outW_get _ _ _ _) ?_
                    exact VOut.back (get_out hl []) rfl
                  · rename_i x1 x2
                    rw [isE_no x1, decide_eq_false (fun hh => hh.1 x2)] at hE
                    dsimp only [cond_true, cond_false] at hE
                    subst hE
                    have hag : ∃ v, alGet a2 ⟨(i : Int), y, y, was.side, was.since⟩ = some v := by
                      have := hk2; rw [hasK_get] at this
                      cases hz : alGet a2 ⟨(i : Int), y, y, was.side, was.since⟩ with
                      | none => rw [hz] at this; cases this
                      | some v => exact ⟨v, rfl⟩
                    obtain ⟨v, hag⟩ := hag
                    refine VLd.cell rfl rfl (get_setO (by decide) jc _) rfl ?_
                    conv => whnf
                    repeat (first | (refine VLd.intro rfl ?_; conv => whnf) | (refine VArith.i64 (by omega) ?_; conv => whnf) | (refine VNeed.intro (by first | rfl | (simp; omega)) ?_; conv => whnf) | (refine VMem.store rfl rfl rfl rfl ?_; conv => whnf) | (refine VSame.intro rfl ?_; conv => whnf) | (refine VDraw.go [] (by kernel_rfl) (by kernel_rfl) ?_; conv => whnf))
                    refine VLook.intro (es := esE a2) ((get_setO (by decide) jm _).trans (by rw [esE_ren])) (look_esE a2 ⟨(i : Int), y, y, was.side, was.since⟩) ?_
                    rw [hag]
                    conv => whnf
                    repeat (first | (refine VLd.intro rfl ?_; conv => whnf) | (refine VArith.i64 (by omega) ?_; conv => whnf) | (refine VNeed.intro (by first | rfl | (simp; omega)) ?_; conv => whnf) | (refine VMem.store rfl rfl rfl rfl ?_; conv => whnf) | (refine VSame.intro rfl ?_; conv => whnf) | (refine VDraw.go [] (by kernel_rfl) (by kernel_rfl) ?_; conv => whnf))
                    refine RFin.on (outW_get _ _ _ _) ?_
                    exact VOut.back (get_out hl []) rfl
            · intro g hJ hl
              have hgk := GI.gYs (was := was) (f := f) hgi p1 ⟨w1, w2, w3, w4⟩ p2 p3 p5 (p.hi - p.lo + 1).toNat (Nat.le_refl _)
              have e : gYs f i p was (a1, nx) (p.hi - p.lo + 1).toNat = gW f i p (a1, nx) was := rfl
              rw [e] at hJ hgk
              generalize gW f i p (a1, nx) was = s at hJ hgk hWj
              obtain ⟨a2, n2⟩ := s
              obtain ⟨go, gl⟩ := g
              obtain ⟨jo, jc, jm, ⟨m, hm, jb, jl⟩, jk⟩ := hJ
              dsimp only at jo jb jl jm
              subst jo
              simp only [Hp.get] at jc jm jb jl jk
              have l0 := (List.getElem?_eq_some_iff.1 jc).1
              have l1 := (List.getElem?_eq_some_iff.1 jm).1
              have l2 := (List.getElem?_eq_some_iff.1 jb).1
              have lm := (List.getElem?_eq_some_iff.1 jl).1
              have key : ∀ (x : Nat) (A : Blk), x ≠ 5 → (gl.set 5 A)[x]? = gl[x]? := fun x A hx => List.getElem?_set_ne (Ne.symm hx)
              conv => whnf
              repeat (first | (refine VLd.intro rfl ?_; conv => whnf) | (refine VArith.i64 (by omega) ?_; conv => whnf) | (refine VNeed.intro (by first | rfl | (simp; omega)) ?_; conv => whnf) | (refine VMem.store rfl rfl rfl rfl ?_; conv => whnf) | (refine VSame.intro rfl ?_; conv => whnf) | (refine VDraw.go [] (by kernel_rfl) (by kernel_rfl) ?_; conv => whnf))
              refine LEnd.intro (j + 1, a2, n2) ⟨by dsimp only; omega, hWj, hgk⟩ (by dsimp only; omega) ?_
              conv => whnf
              have hmn : ([0, 1, 2, m] : List Nat).Nodup := by simp; omega
              have hm4 : 4 ∉ ([0, 1, 2, m] : List Nat) := by simp; omega
              refine Retell.turn ⟨[0, 1, 2, m], gl.length, [], []⟩ (TurnOk.mk' _ _ [] [] (OutOk.lift _) (Nat.ble_eq_true_of_le (by simp)) hmn
                (BTos.cells (blt_of l0) ((key 0 _ (by omega)).trans jc) rfl (by repeat' (first | exact VTo.undef | exact FrTo.leaf | refine FrTo.node ?_ ?_ ?_ | refine FrTo.none ?_ ?_ | exact VTo.sc (by first | rfl | (congr 1; omega) | (congr 1; simp; omega)) | exact VTos_dv _ _ | refine VTos.cons ?_ ?_ | exact VTos.nil | refine VTo.agg ?_ | refine VTo.tuple ?_ | refine VTo.func ?_ ?_ | exact VTo.fs | exact VTo.fp | exact VTo.nilptr | exact VTo.nilslice | exact VTo.nilfunc | exact VTo.ptr rfl | exact VTo.gl rfl | exact VTo.map rfl | exact VTo.yld rfl | exact VTo.fmMap rfl | exact VTo.fm | exact VTo.glNil' (by decide) rfl rfl | exact VTo.fsNil (by decide) | exact VTo.fsSl rfl rfl (by simp [flat_len encE_len]) | exact VTo.fpPtr rfl | exact VTo.fsGl rfl (by first | rfl | exact flat_len encI_len _ | exact flat_len encS_len _ | exact flat_len encP_len _ | exact flat_len encL_len _ | exact flat_len encE_len _ | (simp [flat_len encP_len]; done) | simp [flat_len encI_len, flat_len encS_len]))) (BTos.esE (blt_of l1) ((key 1 _ (by omega)).trans jm) (BTos.cells (blt_of l2) ((key 2 _ (by omega)).trans jb) rfl (by repeat' (first | exact VTo.undef | exact FrTo.leaf | refine FrTo.node ?_ ?_ ?_ | refine FrTo.none ?_ ?_ | exact VTo.sc (by first | rfl | (congr 1; omega) | (congr 1; simp; omega)) | exact VTos_dv _ _ | refine VTos.cons ?_ ?_ | exact VTos.nil | refine VTo.agg ?_ | refine VTo.tuple ?_ | refine VTo.func ?_ ?_ | exact VTo.fs | exact VTo.fp | exact VTo.nilptr | exact VTo.nilslice | exact VTo.nilfunc | exact VTo.ptr rfl | exact VTo.gl rfl | exact VTo.map rfl | exact VTo.yld rfl | exact VTo.fmMap rfl | exact VTo.fm | exact VTo.glNil' (by decide) rfl rfl | exact VTo.fsNil (by decide) | exact VTo.fsSl rfl rfl (by simp [flat_len encE_len]) | exact VTo.fpPtr rfl | exact VTo.fsGl rfl (by first | rfl | exact flat_len encI_len _ | exact flat_len encS_len _ | exact flat_len encP_len _ | exact flat_len encL_len _ | exact flat_len encE_len _ | (simp [flat_len encP_len]; done) | simp [flat_len encI_len, flat_len encS_len]))) (BTos.flat (blt_of lm) ((key m _ (by omega)).trans jl) rfl BTos.nil)))) trivial trivial rfl) (by repeat' (first | exact VTo.undef | exact FrTo.leaf | refine FrTo.node ?_ ?_ ?_ | refine FrTo.none ?_ ?_ | exact VTo.sc (by first | rfl | (congr 1; omega) | (congr 1; simp; omega)) | exact VTos_dv _ _ | refine VTos.cons ?_ ?_ | exact VTos.nil | refine VTo.agg ?_ | refine VTo.tuple ?_ | refine VTo.func ?_ ?_ | exact VTo.fs | exact VTo.fp | exact VTo.nilptr | exact VTo.nilslice | exact VTo.nilfunc | exact VTo.ptr rfl | exact VTo.gl rfl | exact VTo.map rfl | exact VTo.yld rfl | exact VTo.fmMap rfl | exact VTo.fm | exact VTo.glNil' (by decide) rfl rfl | exact VTo.fsNil (by decide) | exact VTo.fsSl rfl rfl (by simp [flat_len encE_len]) | exact VTo.fpPtr rfl | exact VTo.fsGl rfl (by first | rfl | exact flat_len encI_len _ | exact flat_len encS_len _ | exact flat_len encP_len _ | exact flat_len encL_len _ | exact flat_len encE_len _ | (simp [flat_len encP_len]; done) | simp [flat_len encI_len, flat_len encS_len])))
                (MkTo.drop hm4 ((key 4 _ (by omega)).trans jk) MkTo.nil)
        · have hje : j = now.length := by omega
          subst hje
          rw [List.drop_of_length_le (Nat.le_refl _), List.foldl_nil] at hWj
          subst hWj
          conv => whnf
          repeat (first | (refine VLd.intro rfl ?_; conv => whnf) | (refine VArith.i64 (by omega) ?_; conv => whnf) | (refine VNeed.intro (by first | rfl | (simp; omega)) ?_; conv => whnf) | (refine VMem.store rfl rfl rfl rfl ?_; conv => whnf) | (refine VSame.intro rfl ?_; conv => whnf) | (refine VDraw.go [] (by kernel_rfl) (by kernel_rfl) ?_; conv => whnf))
          refine LEnd.intro (i + 1, a1, nx) ⟨by dsimp only; omega, hRi, hgi.ok, hgi.len⟩ (by dsimp only; omega) ?_
          conv => whnf
          refine Retell.turn ⟨[0,1], 4, [(3, nx.flatMap encE)], []⟩ (TurnOk.mk' _ _ [(3, nx.flatMap encE)] [] (OutOk.lift _) rfl (by decide) (by repeat' (first | exact BTos.nil | refine BTos.flat rfl rfl (by first | rfl | simp) ?_ | refine BTos.new rfl ?_ | refine BTos.dead rfl rfl ?_ | refine BTos.esE rfl rfl ?_ | refine BTos.row rfl rfl rfl (RowTo.snoc (RowTo.one rfl (by simp))) ?_ | refine BTos.cells rfl rfl rfl (by repeat' (first | exact VTo.undef | exact FrTo.leaf | refine FrTo.node ?_ ?_ ?_ | refine FrTo.none ?_ ?_ | exact VTo.sc (by first | rfl | (congr 1; omega) | (congr 1; simp; omega)) | exact VTos_dv _ _ | refine VTos.cons ?_ ?_ | exact VTos.nil | refine VTo.agg ?_ | refine VTo.tuple ?_ | refine VTo.func ?_ ?_ | exact VTo.fs | exact VTo.fp | exact VTo.nilptr | exact VTo.nilslice | exact VTo.nilfunc | exact VTo.ptr rfl | exact VTo.gl rfl | exact VTo.map rfl | exact VTo.yld rfl | exact VTo.fmMap rfl | exact VTo.fm | exact VTo.glNil' (by decide) rfl rfl | exact VTo.fsNil (by decide) | exact VTo.fsSl rfl rfl (by simp [flat_len encE_len]) | exact VTo.fpPtr rfl | exact VTo.fsGl rfl (by first | rfl | exact flat_len encI_len _ | exact flat_len encS_len _ | exact flat_len encP_len _ | exact flat_len encL_len _ | exact flat_len encE_len _ | (simp [flat_len encP_len]; done) | simp [flat_len encI_len, flat_len encS_len]))) ?_)) (by repeat' (first | exact FzAll.nil | refine FzAll.flat rfl ?_ | refine FzAll.row rfl rfl (RowTo.one rfl (by simp)) ?_)) trivial rfl) (by repeat' (first | exact VTo.undef | exact FrTo.leaf | refine FrTo.node ?_ ?_ ?_ | refine FrTo.none ?_ ?_ | exact VTo.sc (by first | rfl | (congr 1; omega) | (congr 1; simp; omega)) | exact VTos_dv _ _ | refine VTos.cons ?_ ?_ | exact VTos.nil | refine VTo.agg ?_ | refine VTo.tuple ?_ | refine VTo.func ?_ ?_ | exact VTo.fs | exact VTo.fp | exact VTo.nilptr | exact VTo.nilslice | exact VTo.nilfunc | exact VTo.ptr rfl | exact VTo.gl rfl | exact VTo.map rfl | exact VTo.yld rfl | exact VTo.fmMap rfl | exact VTo.fm | exact VTo.glNil' (by decide) rfl rfl | exact VTo.fsNil (by decide) | exact VTo.fsSl rfl rfl (by simp [flat_len encE_len]) | exact VTo.fpPtr rfl | exact VTo.fsGl rfl (by first | rfl | exact flat_len encI_len _ | exact flat_len encS_len _ | exact flat_len encP_len _ | exact flat_len encL_len _ | exact flat_len encE_len _ | (simp [flat_len encP_len]; done) | simp [flat_len encI_len, flat_len encS_len]))) (by first | rfl | (repeat' (first | exact MkTo.nil | refine MkTo.keep rfl ?_ | refine MkTo.drop (by decide) rfl ?_)))
    · have hie : i = f.ps.length := by dsimp only at h3; omega
      subst hie
      rw [List.drop_of_length_le (Nat.le_refl _), gP] at hRi
      subst hRi
      conv => whnf
      repeat (first | (refine VLd.intro rfl ?_; conv => whnf) | (refine VArith.i64 (by omega) ?_; conv => whnf) | (refine VNeed.intro (by first | rfl | (simp; omega)) ?_; conv => whnf) | (refine VMem.store rfl rfl rfl rfl ?_; conv => whnf) | (refine VSame.intro rfl ?_; conv => whnf) | (refine VDraw.go [] (by kernel_rfl) (by kernel_rfl) ?_; conv => whnf))
      refine VOut.data 2 [] [(1, keysE a, valsE a)] rfl FzAll.nil ⟨⟨esE a, rfl, EsTo.esE a⟩, trivial⟩ (by repeat' (first | exact VTo.undef | exact FrTo.leaf | refine FrTo.node ?_ ?_ ?_ | refine FrTo.none ?_ ?_ | exact VTo.sc (by first | rfl | (congr 1; omega) | (congr 1; simp; omega)) | exact VTos_dv _ _ | refine VTos.cons ?_ ?_ | exact VTos.nil | refine VTo.agg ?_ | refine VTo.tuple ?_ | refine VTo.func ?_ ?_ | exact VTo.fs | exact VTo.fp | exact VTo.nilptr | exact VTo.nilslice | exact VTo.nilfunc | exact VTo.ptr rfl | exact VTo.gl rfl | exact VTo.map rfl | exact VTo.yld rfl | exact VTo.fmMap rfl | exact VTo.fm | exact VTo.glNil' (by decide) rfl rfl | exact VTo.fsNil (by decide) | exact VTo.fsSl rfl rfl (by simp [flat_len encE_len]) | exact VTo.fpPtr rfl | exact VTo.fsGl rfl (by first | rfl | exact flat_len encI_len _ | exact flat_len encS_len _ | exact flat_len encP_len _ | exact flat_len encL_len _ | exact flat_len encE_len _ | (simp [flat_len encP_len]; done) | simp [flat_len encI_len, flat_len encS_len])))
end Go.Proofs.Ytolnajnlcdacmaa

open Go.Vm
namespace Go.Proofs.Ytolnajnlcdacmaa
set_option maxRecDepth 20000
set_option maxHeartbeats 2000000

def isG (f : Fil) (x : Int) : Bool := (gone f).2.any fun e => decide (e.side = x)
def osG (f : Fil) : List Int := selS (fun k => isG f k) 3
/-- What gone leaves is within bounds. -/
theorem foldl_inv {α β : Type} {P : β → Prop} {g : β → α → β} : ∀ {l : List α} {s : β}, P s → (∀ s a, a ∈ l → P s → P (g s a)) → P (l.foldl g s)
  | [], _, h, _ => h
  | a :: l, s, h, hg => foldl_inv (l := l) (hg s a (by simp) h) fun s b hb hs => hg s b (by simp [hb]) hs
theorem gP_inv {f : Fil} : ∀ (ps : List Pap) (i : Nat) (s : AL × List End), (∀ p ∈ ps, POk p) → (∀ e ∈ s.2, EOk e) → s.2.length ≤ 108108024 → (∀ e ∈ (gP f ps i s).2, EOk e) ∧ (gP f ps i s).2.length ≤ 108108024
  | [], _, _, _, h, hl => ⟨h, hl⟩
  | p :: r, i, s, hp, h, _ => by
    rw [gP]
    have hpk := hp p (by simp)
    have key : GI i p (s.2.foldl (gW f i p) (s.1, [])) := by
      refine foldl_inv (P := GI i p) (by constructor <;> simp) fun s' was hw hs => ?_
      exact GI.gYs hs hpk.side (h was hw) hpk.lo hpk.hi hpk.near _ (Nat.le_refl _)
    exact gP_inv r (i + 1) _ (fun q hq => hp q (by simp [hq])) key.ok key.len
theorem gone_inv {f : Fil} (h : chk f = 0) : (∀ e ∈ (gone f).2, EOk e) ∧ (gone f).2.length ≤ 108108024 :=
  gP_inv f.ps 0 _ (chk_pok h) (by simp [EOk.beg]) (by simp)
theorem vc_Owners_no (f : Fil) (h : Hp) (hn : f.ps.length ≤ 4000000) (h0 : chk f ≠ 0) : VC Try.prog 16 [vF f] h (.tuple [.nilslice, I (chk f)]) h := by
  refine VC.body Try.func16 rfl Try.ntmps16 Try.call16 (h.grows_refl) rfl ?_; conv => whnf
  repeat' (first | (refine VLd.intro rfl ?_; conv => whnf) | (refine VArith.i64 (by omega) ?_; conv => whnf) | (refine VNeed.intro (by first | rfl | (simp; omega)) ?_; conv => whnf) | (refine VMem.store rfl rfl rfl rfl ?_; conv => whnf) | (refine VSame.intro rfl ?_; conv => whnf) | (refine VDraw.go [] (by kernel_rfl) (by kernel_rfl) ?_; conv => whnf) | (refine VIte.dec (fun _ => ?_) (fun _ => ?_) <;> conv => whnf) | (refine VIte.ndec (fun _ => ?_) (fun _ => ?_) <;> conv => whnf) | (refine VIte.beq (fun _ => ?_) (fun _ => ?_) <;> conv => whnf) | (refine VIte.bne (fun _ => ?_) (fun _ => ?_) <;> conv => whnf) | (refine VIte.intro (fun _ => ?_) (fun _ => ?_) <;> conv => whnf) | (refine VCall.intro (vc_check f _ hn) ?_; conv => whnf))
  · exact VOut.same rfl
  all_goals (rename_i h1; exact absurd (by simpa using h1) h0)
theorem vc_Owners_ok (f : Fil) (h : Hp) (h0 : chk f = 0) : VC Try.prog 16 [vF f] h (.tuple [ints (osG f), I 0]) h := by
  have hn := (chk_zero h0).2.2.1
  have hS : ∀ h, VC Try.prog 34 [vF f] h (I 0) h := fun h => h0 ▸ vc_check f h (by omega)
  have hG := fun h => vc_gone f h h0
  obtain ⟨hok, hlen⟩ := gone_inv h0
  have hio : ∀ x, isG f x = (gone f).2.any fun e => decide (e.side = x) := fun x => rfl
  unfold osG vGone at *
  obtain ⟨q, hq⟩ : ∃ q : Int → Bool, q = isG f := ⟨_, rfl⟩
  rw [← hq] at hio ⊢
  generalize gone f = G at hG hok hlen hio
  obtain ⟨ga, L⟩ := G
  dsimp only at hG hok hlen hio
  refine VC.body Try.func16 rfl Try.ntmps16 Try.call16 (h.grows_refl) rfl ?_; conv => whnf
  repeat' (first | (refine VLd.intro rfl ?_; conv => whnf) | (refine VArith.i64 (by omega) ?_; conv => whnf) | (refine VNeed.intro (by first | rfl | (simp; omega)) ?_; conv => whnf) | (refine VMem.store rfl rfl rfl rfl ?_; conv => whnf) | (refine VSame.intro rfl ?_; conv => whnf) | (refine VDraw.go [] (by kernel_rfl) (by kernel_rfl) ?_; conv => whnf) | (refine VIte.dec (fun _ => ?_) (fun _ => ?_) <;> conv => whnf) | (refine VIte.ndec (fun _ => ?_) (fun _ => ?_) <;> conv => whnf) | (refine VIte.beq (fun _ => ?_) (fun _ => ?_) <;> conv => whnf) | (refine VIte.bne (fun _ => ?_) (fun _ => ?_) <;> conv => whnf) | (refine VIte.intro (fun _ => ?_) (fun _ => ?_) <;> conv => whnf) | (refine VCall.intro (hS _) ?_; conv => whnf) | (refine VCall.intro (hG _) ?_; conv => whnf))
  refine VCode.lp (fun x : Nat × Bool × Bool × Bool => [(1, .ptr (.loc 0) 0), (5, .ptr (.loc 1) 0), (22, ends L), (23, I L.length), (24, I x.1)]) (fun x => [.flat true (encF f), .flat true [DB x.2.1, DB x.2.2.1, DB x.2.2.2]])
    (fun x => x.1 ≤ L.length ∧ q 0 = (x.2.1 || (L.drop x.1).any fun e => decide (e.side = 0)) ∧ q 1 = (x.2.2.1 || (L.drop x.1).any fun e => decide (e.side = 1)) ∧ q 2 = (x.2.2.2 || (L.drop x.1).any fun e => decide (e.side = 2))) (fun x => L.length - x.1) (0, false, false, false) ⟨Nat.zero_le _, hio 0, hio 1, hio 2⟩ ?_ ?_
  · conv => whnf
    refine Retell.turn ⟨[0,1], 2, [], []⟩ (TurnOk.mk' _ _ [] [] (OutOk.lift _) rfl (by decide) (by repeat' (first | exact BTos.nil | refine BTos.flat rfl rfl (by first | rfl | simp) ?_ | refine BTos.new rfl ?_ | refine BTos.dead rfl rfl ?_ | refine BTos.esE rfl rfl ?_ | refine BTos.row rfl rfl rfl (RowTo.snoc (RowTo.one rfl (by simp))) ?_ | refine BTos.cells rfl rfl rfl (by repeat' (first | exact VTo.undef | exact FrTo.leaf | refine FrTo.node ?_ ?_ ?_ | refine FrTo.none ?_ ?_ | exact VTo.sc (by first | rfl | (congr 1; omega) | (congr 1; simp; omega)) | exact VTos_dv _ _ | refine VTos.cons ?_ ?_ | exact VTos.nil | refine VTo.agg ?_ | refine VTo.tuple ?_ | refine VTo.func ?_ ?_ | exact VTo.fs | exact VTo.fp | exact VTo.nilptr | exact VTo.nilslice | exact VTo.nilfunc | exact VTo.ptr rfl | exact VTo.gl rfl | exact VTo.map rfl | exact VTo.yld rfl | exact VTo.fmMap rfl | exact VTo.fm | exact VTo.glNil' (by decide) rfl rfl | exact VTo.fsNil (by decide) | exact VTo.fsSl rfl rfl (by simp [flat_len encE_len]) | exact VTo.fpPtr rfl | exact VTo.fsGl rfl (by first | rfl | exact flat_len encI_len _ | exact flat_len encS_len _ | exact flat_len encP_len _ | exact flat_len encL_len _ | exact flat_len encE_len _ | (simp [flat_len encP_len]; done) | simp [flat_len encI_len, flat_len encS_len]))) ?_)) trivial trivial rfl) (by repeat' (first | exact VTo.undef | exact FrTo.leaf | refine FrTo.node ?_ ?_ ?_ | refine FrTo.none ?_ ?_ | exact VTo.sc (by first | rfl | (congr 1; omega) | (congr 1; simp; omega)) | exact VTos_dv _ _ | refine VTos.cons ?_ ?_ | exact VTos.nil | refine VTo.agg ?_ | refine VTo.tuple ?_ | refine VTo.func ?_ ?_ | exact VTo.fs | exact VTo.fp | exact VTo.nilptr | exact VTo.nilslice | exact VTo.nilfunc | exact VTo.ptr rfl | exact VTo.gl rfl | exact VTo.map rfl | exact VTo.yld rfl | exact VTo.fmMap rfl | exact VTo.fm | exact VTo.glNil' (by decide) rfl rfl | exact VTo.fsNil (by decide) | exact VTo.fsSl rfl rfl (by simp [flat_len encE_len]) | exact VTo.fpPtr rfl | exact VTo.fsGl rfl (by first | rfl | exact flat_len encI_len _ | exact flat_len encS_len _ | exact flat_len encP_len _ | exact flat_len encL_len _ | exact flat_len encE_len _ | (simp [flat_len encP_len]; done) | simp [flat_len encI_len, flat_len encS_len]))) (by first | rfl | (repeat' (first | exact MkTo.nil | refine MkTo.keep rfl ?_ | refine MkTo.drop (by decide) rfl ?_)))
  · rintro ⟨j, b0, b1, b2⟩ ⟨g1, g2, g3, g4⟩
    dsimp only at g1 g2 g3 g4
    conv => whnf
    refine VIte.dec (fun h3 => ?_) (fun h3 => ?_)
    · have hx : L[j]? = some L[j] := List.getElem?_eq_getElem (by omega)
      have hox := hok L[j] (List.getElem_mem (by omega))
      generalize L[j] = e at hx hox
      rw [any_drop hx] at g2 g3 g4
      obtain ⟨ei, ey, ef, es, en⟩ := e
      have hs := hox.side
      dsimp only at hs g2 g3 g4
      have : es = 0 ∨ es = 1 ∨ es = 2 := by omega
      rcases this with rfl | rfl | rfl
      · conv => whnf
        repeat' (first | (refine VLd.intro rfl ?_; conv => whnf) | (refine VArith.i64 (by omega) ?_; conv => whnf) | (refine VNeed.intro (by first | rfl | (simp; omega)) ?_; conv => whnf) | (refine VMem.store rfl rfl rfl rfl ?_; conv => whnf) | (refine VSame.intro rfl ?_; conv => whnf) | (refine VDraw.go [] (by kernel_rfl) (by kernel_rfl) ?_; conv => whnf) | (refine VIte.dec (fun _ => ?_) (fun _ => ?_) <;> conv => whnf) | (refine VIte.ndec (fun _ => ?_) (fun _ => ?_) <;> conv => whnf) | (refine VIte.beq (fun _ => ?_) (fun _ => ?_) <;> conv => whnf) | (refine VIte.bne (fun _ => ?_) (fun _ => ?_) <;> conv => whnf) | (refine VIte.intro (fun _ => ?_) (fun _ => ?_) <;> conv => whnf) | (refine VAny.ix encE_len j rfl rfl hx ?_; conv => whnf))
        refine LEnd.intro (j + 1, true, b1, b2) ⟨by dsimp only; omega, by rw [g2]; simp, by rw [g3]; simp, by rw [g4]; simp⟩ (by dsimp only; omega) ?_
        conv => whnf
        refine Retell.turn ⟨[0,1], 3, [], []⟩ (TurnOk.mk' _ _ [] [] (OutOk.lift _) rfl (by decide) (by repeat' (first | exact BTos.nil | refine BTos.flat rfl rfl (by first | rfl | simp) ?_ | refine BTos.new rfl ?_ | refine BTos.dead rfl rfl ?_ | refine BTos.esE rfl rfl ?_ | refine BTos.row rfl rfl rfl (RowTo.snoc (RowTo.one rfl (by simp))) ?_ | refine BTos.cells rfl rfl rfl (by repeat' (first | exact VTo.undef | exact FrTo.leaf | refine FrTo.node ?_ ?_ ?_ | refine FrTo.none ?_ ?_ | exact VTo.sc (by first | rfl | (congr 1; omega) | (congr 1; simp; omega)) | exact VTos_dv _ _ | refine VTos.cons ?_ ?_ | exact VTos.nil | refine VTo.agg ?_ | refine VTo.tuple ?_ | refine VTo.func ?_ ?_ | exact VTo.fs | exact VTo.fp | exact VTo.nilptr | exact VTo.nilslice | exact VTo.nilfunc | exact VTo.ptr rfl | exact VTo.gl rfl | exact VTo.map rfl | exact VTo.yld rfl | exact VTo.fmMap rfl | exact VTo.fm | exact VTo.glNil' (by decide) rfl rfl | exact VTo.fsNil (by decide) | exact VTo.fsSl rfl rfl (by simp [flat_len encE_len]) | exact VTo.fpPtr rfl | exact VTo.fsGl rfl (by first | rfl | exact flat_len encI_len _ | exact flat_len encS_len _ | exact flat_len encP_len _ | exact flat_len encL_len _ | exact flat_len encE_len _ | (simp [flat_len encP_len]; done) | simp [flat_len encI_len, flat_len encS_len]))) ?_)) trivial trivial rfl) (by repeat' (first | exact VTo.undef | exact FrTo.leaf | refine FrTo.node ?_ ?_ ?_ | refine FrTo.none ?_ ?_ | exact VTo.sc (by first | rfl | (congr 1; omega) | (congr 1; simp; omega)) | exact VTos_dv _ _ | refine VTos.cons ?_ ?_ | exact VTos.nil | refine VTo.agg ?_ | refine VTo.tuple ?_ | refine VTo.func ?_ ?_ | exact VTo.fs | exact VTo.fp | exact VTo.nilptr | exact VTo.nilslice | exact VTo.nilfunc | exact VTo.ptr rfl | exact VTo.gl rfl | exact VTo.map rfl | exact VTo.yld rfl | exact VTo.fmMap rfl | exact VTo.fm | exact VTo.glNil' (by decide) rfl rfl | exact VTo.fsNil (by decide) | exact VTo.fsSl rfl rfl (by simp [flat_len encE_len]) | exact VTo.fpPtr rfl | exact VTo.fsGl rfl (by first | rfl | exact flat_len encI_len _ | exact flat_len encS_len _ | exact flat_len encP_len _ | exact flat_len encL_len _ | exact flat_len encE_len _ | (simp [flat_len encP_len]; done) | simp [flat_len encI_len, flat_len encS_len]))) (by first | rfl | (repeat' (first | exact MkTo.nil | refine MkTo.keep rfl ?_ | refine MkTo.drop (by decide) rfl ?_)))
      · conv => whnf
        repeat' (first | (refine VLd.intro rfl ?_; conv => whnf) | (refine VArith.i64 (by omega) ?_; conv => whnf) | (refine VNeed.intro (by first | rfl | (simp; omega)) ?_; conv => whnf) | (refine VMem.store rfl rfl rfl rfl ?_; conv => whnf) | (refine VSame.intro rfl ?_; conv => whnf) | (refine VDraw.go [] (by kernel_rfl) (by kernel_rfl) ?_; conv => whnf) | (refine VIte.dec (fun _ => ?_) (fun _ => ?_) <;> conv => whnf) | (refine VIte.ndec (fun _ => ?_) (fun _ => ?_) <;> conv => whnf) | (refine VIte.beq (fun _ => ?_) (fun _ => ?_) <;> conv => whnf) | (refine VIte.bne (fun _ => ?_) (fun _ => ?_) <;> conv => whnf) | (refine VIte.intro (fun _ => ?_) (fun _ => ?_) <;> conv => whnf) | (refine VAny.ix encE_len j rfl rfl hx ?_; conv => whnf))
        refine LEnd.intro (j + 1, b0, true, b2) ⟨by dsimp only; omega, by rw [g2]; simp, by rw [g3]; simp, by rw [g4]; simp⟩ (by dsimp only; omega) ?_
        conv => whnf
        refine Retell.turn ⟨[0,1], 3, [], []⟩ (TurnOk.mk' _ _ [] [] (OutOk.lift _) rfl (by decide) (by repeat' (first | exact BTos.nil | refine BTos.flat rfl rfl (by first | rfl | simp) ?_ | refine BTos.new rfl ?_ | refine BTos.dead rfl rfl ?_ | refine BTos.esE rfl rfl ?_ | refine BTos.row rfl rfl rfl (RowTo.snoc (RowTo.one rfl (by simp))) ?_ | refine BTos.cells rfl rfl rfl (by repeat' (first | exact VTo.undef | exact FrTo.leaf | refine FrTo.node ?_ ?_ ?_ | refine FrTo.none ?_ ?_ | exact VTo.sc (by first | rfl | (congr 1; omega) | (congr 1; simp; omega)) | exact VTos_dv _ _ | refine VTos.cons ?_ ?_ | exact VTos.nil | refine VTo.agg ?_ | refine VTo.tuple ?_ | refine VTo.func ?_ ?_ | exact VTo.fs | exact VTo.fp | exact VTo.nilptr | exact VTo.nilslice | exact VTo.nilfunc | exact VTo.ptr rfl | exact VTo.gl rfl | exact VTo.map rfl | exact VTo.yld rfl | exact VTo.fmMap rfl | exact VTo.fm | exact VTo.glNil' (by decide) rfl rfl | exact VTo.fsNil (by decide) | exact VTo.fsSl rfl rfl (by simp [flat_len encE_len]) | exact VTo.fpPtr rfl | exact VTo.fsGl rfl (by first | rfl | exact flat_len encI_len _ | exact flat_len encS_len _ | exact flat_len encP_len _ | exact flat_len encL_len _ | exact flat_len encE_len _ | (simp [flat_len encP_len]; done) | simp [flat_len encI_len, flat_len encS_len]))) ?_)) trivial trivial rfl) (by repeat' (first | exact VTo.undef | exact FrTo.leaf | refine FrTo.node ?_ ?_ ?_ | refine FrTo.none ?_ ?_ | exact VTo.sc (by first | rfl | (congr 1; omega) | (congr 1; simp; omega)) | exact VTos_dv _ _ | refine VTos.cons ?_ ?_ | exact VTos.nil | refine VTo.agg ?_ | refine VTo.tuple ?_ | refine VTo.func ?_ ?_ | exact VTo.fs | exact VTo.fp | exact VTo.nilptr | exact VTo.nilslice | exact VTo.nilfunc | exact VTo.ptr rfl | exact VTo.gl rfl | exact VTo.map rfl | exact VTo.yld rfl | exact VTo.fmMap rfl | exact VTo.fm | exact VTo.glNil' (by decide) rfl rfl | exact VTo.fsNil (by decide) | exact VTo.fsSl rfl rfl (by simp [flat_len encE_len]) | exact VTo.fpPtr rfl | exact VTo.fsGl rfl (by first | rfl | exact flat_len encI_len _ | exact flat_len encS_len _ | exact flat_len encP_len _ | exact flat_len encL_len _ | exact flat_len encE_len _ | (simp [flat_len encP_len]; done) | simp [flat_len encI_len, flat_len encS_len]))) (by first | rfl | (repeat' (first | exact MkTo.nil | refine MkTo.keep rfl ?_ | refine MkTo.drop (by decide) rfl ?_)))
      · conv => whnf
        repeat' (first | (refine VLd.intro rfl ?_; conv => whnf) | (refine VArith.i64 (by omega) ?_; conv => whnf) | (refine VNeed.intro (by first | rfl | (simp; omega)) ?_; conv => whnf) | (refine VMem.store rfl rfl rfl rfl ?_; conv => whnf) | (refine VSame.intro rfl ?_; conv => whnf) | (refine VDraw.go [] (by kernel_rfl) (by kernel_rfl) ?_; conv => whnf) | (refine VIte.dec (fun _ => ?_) (fun _ => ?_) <;> conv => whnf) | (refine VIte.ndec (fun _ => ?_) (fun _ => ?_) <;> conv => whnf) | (refine VIte.beq (fun _ => ?_) (fun _ => ?_) <;> conv => whnf) | (refine VIte.bne (fun _ => ?_) (fun _ => ?_) <;> conv => whnf) | (refine VIte.intro (fun _ => ?_) (fun _ => ?_) <;> conv => whnf) | (refine VAny.ix encE_len j rfl rfl hx ?_; conv => whnf))
        refine LEnd.intro (j + 1, b0, b1, true) ⟨by dsimp only; omega, by rw [g2]; simp, by rw [g3]; simp, by rw [g4]; simp⟩ (by dsimp only; omega) ?_
        conv => whnf
        refine Retell.turn ⟨[0,1], 3, [], []⟩ (TurnOk.mk' _ _ [] [] (OutOk.lift _) rfl (by decide) (by repeat' (first | exact BTos.nil | refine BTos.flat rfl rfl (by first | rfl | simp) ?_ | refine BTos.new rfl ?_ | refine BTos.dead rfl rfl ?_ | refine BTos.esE rfl rfl ?_ | refine BTos.row rfl rfl rfl (RowTo.snoc (RowTo.one rfl (by simp))) ?_ | refine BTos.cells rfl rfl rfl (by repeat' (first | exact VTo.undef | exact FrTo.leaf | refine FrTo.node ?_ ?_ ?_ | refine FrTo.none ?_ ?_ | exact VTo.sc (by first | rfl | (congr 1; omega) | (congr 1; simp; omega)) | exact VTos_dv _ _ | refine VTos.cons ?_ ?_ | exact VTos.nil | refine VTo.agg ?_ | refine VTo.tuple ?_ | refine VTo.func ?_ ?_ | exact VTo.fs | exact VTo.fp | exact VTo.nilptr | exact VTo.nilslice | exact VTo.nilfunc | exact VTo.ptr rfl | exact VTo.gl rfl | exact VTo.map rfl | exact VTo.yld rfl | exact VTo.fmMap rfl | exact VTo.fm | exact VTo.glNil' (by decide) rfl rfl | exact VTo.fsNil (by decide) | exact VTo.fsSl rfl rfl (by simp [flat_len encE_len]) | exact VTo.fpPtr rfl | exact VTo.fsGl rfl (by first | rfl | exact flat_len encI_len _ | exact flat_len encS_len _ | exact flat_len encP_len _ | exact flat_len encL_len _ | exact flat_len encE_len _ | (simp [flat_len encP_len]; done) | simp [flat_len encI_len, flat_len encS_len]))) ?_)) trivial trivial rfl) (by repeat' (first | exact VTo.undef | exact FrTo.leaf | refine FrTo.node ?_ ?_ ?_ | refine FrTo.none ?_ ?_ | exact VTo.sc (by first | rfl | (congr 1; omega) | (congr 1; simp; omega)) | exact VTos_dv _ _ | refine VTos.cons ?_ ?_ | exact VTos.nil | refine VTo.agg ?_ | refine VTo.tuple ?_ | refine VTo.func ?_ ?_ | exact VTo.fs | exact VTo.fp | exact VTo.nilptr | exact VTo.nilslice | exact VTo.nilfunc | exact VTo.ptr rfl | exact VTo.gl rfl | exact VTo.map rfl | exact VTo.yld rfl | exact VTo.fmMap rfl | exact VTo.fm | exact VTo.glNil' (by decide) rfl rfl | exact VTo.fsNil (by decide) | exact VTo.fsSl rfl rfl (by simp [flat_len encE_len]) | exact VTo.fpPtr rfl | exact VTo.fsGl rfl (by first | rfl | exact flat_len encI_len _ | exact flat_len encS_len _ | exact flat_len encP_len _ | exact flat_len encL_len _ | exact flat_len encE_len _ | (simp [flat_len encP_len]; done) | simp [flat_len encI_len, flat_len encS_len]))) (by first | rfl | (repeat' (first | exact MkTo.nil | refine MkTo.keep rfl ?_ | refine MkTo.drop (by decide) rfl ?_)))
    · rw [List.drop_of_length_le (by dsimp only at h3; omega), List.any_nil, Bool.or_false] at g2 g3 g4
      rw [← g2, ← g3, ← g4]
      conv => whnf
      repeat (first | (refine VLd.intro rfl ?_; conv => whnf) | (refine VArith.i64 (by omega) ?_; conv => whnf) | (refine VNeed.intro (by first | rfl | (simp; omega)) ?_; conv => whnf) | (refine VMem.store rfl rfl rfl rfl ?_; conv => whnf) | (refine VSame.intro rfl ?_; conv => whnf) | (refine VDraw.go [] (by kernel_rfl) (by kernel_rfl) ?_; conv => whnf))
      refine VCode.lp (fun k : Nat => [(5, .ptr (.loc 0) 0), (10, .gl (.loc 1) 1 (selS (fun k => q k) k).length), (32, I k)]) (fun k => [.flat true [DB (q 0), DB (q 1), DB (q 2)], .flat true ((selS (fun k => q k) k).flatMap encI)]) (fun k => k ≤ 3) (fun k => 3 - k) 0 (Nat.zero_le _) ?_ ?_
      · conv => whnf
        refine Retell.turn ⟨[1,2], 2, [], []⟩ (TurnOk.mk' _ _ [] [] (OutOk.lift _) rfl (by decide) (by repeat' (first | exact BTos.nil | refine BTos.flat rfl rfl (by first | rfl | simp) ?_ | refine BTos.new rfl ?_ | refine BTos.dead rfl rfl ?_ | refine BTos.esE rfl rfl ?_ | refine BTos.row rfl rfl rfl (RowTo.snoc (RowTo.one rfl (by simp))) ?_ | refine BTos.cells rfl rfl rfl (by repeat' (first | exact VTo.undef | exact FrTo.leaf | refine FrTo.node ?_ ?_ ?_ | refine FrTo.none ?_ ?_ | exact VTo.sc (by first | rfl | (congr 1; omega) | (congr 1; simp; omega)) | exact VTos_dv _ _ | refine VTos.cons ?_ ?_ | exact VTos.nil | refine VTo.agg ?_ | refine VTo.tuple ?_ | refine VTo.func ?_ ?_ | exact VTo.fs | exact VTo.fp | exact VTo.nilptr | exact VTo.nilslice | exact VTo.nilfunc | exact VTo.ptr rfl | exact VTo.gl rfl | exact VTo.map rfl | exact VTo.yld rfl | exact VTo.fmMap rfl | exact VTo.fm | exact VTo.glNil' (by decide) rfl rfl | exact VTo.fsNil (by decide) | exact VTo.fsSl rfl rfl (by simp [flat_len encE_len]) | exact VTo.fpPtr rfl | exact VTo.fsGl rfl (by first | rfl | exact flat_len encI_len _ | exact flat_len encS_len _ | exact flat_len encP_len _ | exact flat_len encL_len _ | exact flat_len encE_len _ | (simp [flat_len encP_len]; done) | simp [flat_len encI_len, flat_len encS_len]))) ?_)) trivial trivial rfl) (by repeat' (first | exact VTo.undef | exact FrTo.leaf | refine FrTo.node ?_ ?_ ?_ | refine FrTo.none ?_ ?_ | exact VTo.sc (by first | rfl | (congr 1; omega) | (congr 1; simp; omega)) | exact VTos_dv _ _ | refine VTos.cons ?_ ?_ | exact VTos.nil | refine VTo.agg ?_ | refine VTo.tuple ?_ | refine VTo.func ?_ ?_ | exact VTo.fs | exact VTo.fp | exact VTo.nilptr | exact VTo.nilslice | exact VTo.nilfunc | exact VTo.ptr rfl | exact VTo.gl rfl | exact VTo.map rfl | exact VTo.yld rfl | exact VTo.fmMap rfl | exact VTo.fm | exact VTo.glNil' (by decide) rfl rfl | exact VTo.fsNil (by decide) | exact VTo.fsSl rfl rfl (by simp [flat_len encE_len]) | exact VTo.fpPtr rfl | exact VTo.fsGl rfl (by first | rfl | exact flat_len encI_len _ | exact flat_len encS_len _ | exact flat_len encP_len _ | exact flat_len encL_len _ | exact flat_len encE_len _ | (simp [flat_len encP_len]; done) | simp [flat_len encI_len, flat_len encS_len]))) (by first | rfl | (repeat' (first | exact MkTo.nil | refine MkTo.keep rfl ?_ | refine MkTo.drop (by decide) rfl ?_)))
      · intro k hk
        have hsl := selS_len (fun k => q k) k
        conv => whnf
        refine VIte.dec (fun h3 => ?_) (fun h3 => ?_)
        · have : k = 0 ∨ k = 1 ∨ k = 2 := by omega
          have hs1 : selS (fun k => q k) (k + 1) = if q k then selS (fun k => q k) k ++ [(k : Int)] else selS (fun k => q k) k := rfl
          rcases this with rfl | rfl | rfl
          · have hs2 : q 0 = q ((0 : Nat) : Int) := rfl
            conv => whnf
            repeat' (first | (refine VLd.intro rfl ?_; conv => whnf) | (refine VArith.i64 (by omega) ?_; conv => whnf) | (refine VNeed.intro (by first | rfl | (simp; omega)) ?_; conv => whnf) | (refine VMem.store rfl rfl rfl rfl ?_; conv => whnf) | (refine VSame.intro rfl ?_; conv => whnf) | (refine VDraw.go [] (by kernel_rfl) (by kernel_rfl) ?_; conv => whnf) | (refine VIte.dec (fun _ => ?_) (fun _ => ?_) <;> conv => whnf) | (refine VIte.ndec (fun _ => ?_) (fun _ => ?_) <;> conv => whnf) | (refine VIte.beq (fun _ => ?_) (fun _ => ?_) <;> conv => whnf) | (refine VIte.bne (fun _ => ?_) (fun _ => ?_) <;> conv => whnf) | (refine VIte.intro (fun _ => ?_) (fun _ => ?_) <;> conv => whnf))
            · rename_i hq1
              refine VMem.app1 ((0 : Nat) : Int) encI_len rfl rfl rfl rfl rfl (by omega) ?_
              conv => whnf
              repeat (first | (refine VLd.intro rfl ?_; conv => whnf) | (refine VArith.i64 (by omega) ?_; conv => whnf) | (refine VNeed.intro (by first | rfl | (simp; omega)) ?_; conv => whnf) | (refine VMem.store rfl rfl rfl rfl ?_; conv => whnf) | (refine VSame.intro rfl ?_; conv => whnf) | (refine VDraw.go [] (by kernel_rfl) (by kernel_rfl) ?_; conv => whnf))
              refine LEnd.intro (0 + 1) (by omega) (by omega) ?_
              conv => whnf
              rw [hs1, ← hs2, if_pos hq1, List.length_append]
              refine Retell.turn ⟨[0,3], 4, [], []⟩ (TurnOk.mk' _ _ [] [] (OutOk.lift _) rfl (by decide) (by repeat' (first | exact BTos.nil | refine BTos.flat rfl rfl (by first | rfl | simp) ?_ | refine BTos.new rfl ?_ | refine BTos.dead rfl rfl ?_ | refine BTos.esE rfl rfl ?_ | refine BTos.row rfl rfl rfl (RowTo.snoc (RowTo.one rfl (by simp))) ?_ | refine BTos.cells rfl rfl rfl (by repeat' (first | exact VTo.undef | exact FrTo.leaf | refine FrTo.node ?_ ?_ ?_ | refine FrTo.none ?_ ?_ | exact VTo.sc (by first | rfl | (congr 1; omega) | (congr 1; simp; omega)) | exact VTos_dv _ _ | refine VTos.cons ?_ ?_ | exact VTos.nil | refine VTo.agg ?_ | refine VTo.tuple ?_ | refine VTo.func ?_ ?_ | exact VTo.fs | exact VTo.fp | exact VTo.nilptr | exact VTo.nilslice | exact VTo.nilfunc | exact VTo.ptr rfl | exact VTo.gl rfl | exact VTo.map rfl | exact VTo.yld rfl | exact VTo.fmMap rfl | exact VTo.fm | exact VTo.glNil' (by decide) rfl rfl | exact VTo.fsNil (by decide) | exact VTo.fsSl rfl rfl (by simp [flat_len encE_len]) | exact VTo.fpPtr rfl | exact VTo.fsGl rfl (by first | rfl | exact flat_len encI_len _ | exact flat_len encS_len _ | exact flat_len encP_len _ | exact flat_len encL_len _ | exact flat_len encE_len _ | (simp [flat_len encP_len]; done) | simp [flat_len encI_len, flat_len encS_len]))) ?_)) trivial trivial rfl) (by repeat' (first | exact VTo.undef | exact FrTo.leaf | refine FrTo.node ?_ ?_ ?_ | refine FrTo.none ?_ ?_ | exact VTo.sc (by first | rfl | (congr 1; omega) | (congr 1; simp; omega)) | exact VTos_dv _ _ | refine VTos.cons ?_ ?_ | exact VTos.nil | refine VTo.agg ?_ | refine VTo.tuple ?_ | refine VTo.func ?_ ?_ | exact VTo.fs | exact VTo.fp | exact VTo.nilptr | exact VTo.nilslice | exact VTo.nilfunc | exact VTo.ptr rfl | exact VTo.gl rfl | exact VTo.map rfl | exact VTo.yld rfl | exact VTo.fmMap rfl | exact VTo.fm | exact VTo.glNil' (by decide) rfl rfl | exact VTo.fsNil (by decide) | exact VTo.fsSl rfl rfl (by simp [flat_len encE_len]) | exact VTo.fpPtr rfl | exact VTo.fsGl rfl (by first | rfl | exact flat_len encI_len _ | exact flat_len encS_len _ | exact flat_len encP_len _ | exact flat_len encL_len _ | exact flat_len encE_len _ | (simp [flat_len encP_len]; done) | simp [flat_len encI_len, flat_len encS_len]))) (by first | rfl | (repeat' (first | exact MkTo.nil | refine MkTo.keep rfl ?_ | refine MkTo.drop (by decide) rfl ?_)))
            · rename_i hq1
              refine LEnd.intro (0 + 1) (by omega) (by omega) ?_
              conv => whnf
              rw [hs1, ← hs2, if_neg (by simpa using hq1)]
              refine Retell.turn ⟨[0,1], 2, [], []⟩ (TurnOk.mk' _ _ [] [] (OutOk.lift _) rfl (by decide) (by repeat' (first | exact BTos.nil | refine BTos.flat rfl rfl (by first | rfl | simp) ?_ | refine BTos.new rfl ?_ | refine BTos.dead rfl rfl ?_ | refine BTos.esE rfl rfl ?_ | refine BTos.row rfl rfl rfl (RowTo.snoc (RowTo.one rfl (by simp))) ?_ | refine BTos.cells rfl rfl rfl (by repeat' (first | exact VTo.undef | exact FrTo.leaf | refine FrTo.node ?_ ?_ ?_ | refine FrTo.none ?_ ?_ | exact VTo.sc (by first | rfl | (congr 1; omega) | (congr 1; simp; omega)) | exact VTos_dv _ _ | refine VTos.cons ?_ ?_ | exact VTos.nil | refine VTo.agg ?_ | refine VTo.tuple ?_ | refine VTo.func ?_ ?_ | exact VTo.fs | exact VTo.fp | exact VTo.nilptr | exact VTo.nilslice | exact VTo.nilfunc | exact VTo.ptr rfl | exact VTo.gl rfl | exact VTo.map rfl | exact VTo.yld rfl | exact VTo.fmMap rfl | exact VTo.fm | exact VTo.glNil' (by decide) rfl rfl | exact VTo.fsNil (by decide) | exact VTo.fsSl rfl rfl (by simp [flat_len encE_len]) | exact VTo.fpPtr rfl | exact VTo.fsGl rfl (by first | rfl | exact flat_len encI_len _ | exact flat_len encS_len _ | exact flat_len encP_len _ | exact flat_len encL_len _ | exact flat_len encE_len _ | (simp [flat_len encP_len]; done) | simp [flat_len encI_len, flat_len encS_len]))) ?_)) trivial trivial rfl) (by repeat' (first | exact VTo.undef | exact FrTo.leaf | refine FrTo.node ?_ ?_ ?_ | refine FrTo.none ?_ ?_ | exact VTo.sc (by first | rfl | (congr 1; omega) | (congr 1; simp; omega)) | exact VTos_dv _ _ | refine VTos.cons ?_ ?_ | exact VTos.nil | refine VTo.agg ?_ | refine VTo.tuple ?_ | refine VTo.func ?_ ?_ | exact VTo.fs | exact VTo.fp | exact VTo.nilptr | exact VTo.nilslice | exact VTo.nilfunc | exact VTo.ptr rfl | exact VTo.gl rfl | exact VTo.map rfl | exact VTo.yld rfl | exact VTo.fmMap rfl | exact VTo.fm | exact VTo.glNil' (by decide) rfl rfl | exact VTo.fsNil (by decide) | exact VTo.fsSl rfl rfl (by simp [flat_len encE_len]) | exact VTo.fpPtr rfl | exact VTo.fsGl rfl (by first | rfl | exact flat_len encI_len _ | exact flat_len encS_len _ | exact flat_len encP_len _ | exact flat_len encL_len _ | exact flat_len encE_len _ | (simp [flat_len encP_len]; done) | simp [flat_len encI_len, flat_len encS_len]))) (by first | rfl | (repeat' (first | exact MkTo.nil | refine MkTo.keep rfl ?_ | refine MkTo.drop (by decide) rfl ?_)))
          · have hs2 : q 1 = q ((1 : Nat) : Int) := rfl
            conv => whnf
            repeat' (first | (refine VLd.intro rfl ?_; conv => whnf) | (refine VArith.i64 (by omega) ?_; conv => whnf) | (refine VNeed.intro (by first | rfl | (simp; omega)) ?_; conv => whnf) | (refine VMem.store rfl rfl rfl rfl ?_; conv => whnf) | (refine VSame.intro rfl ?_; conv => whnf) | (refine VDraw.go [] (by kernel_rfl) (by kernel_rfl) ?_; conv => whnf) | (refine VIte.dec (fun _ => ?_) (fun _ => ?_) <;> conv => whnf) | (refine VIte.ndec (fun _ => ?_) (fun _ => ?_) <;> conv => whnf) | (refine VIte.beq (fun _ => ?_) (fun _ => ?_) <;> conv => whnf) | (refine VIte.bne (fun _ => ?_) (fun _ => ?_) <;> conv => whnf) | (refine VIte.intro (fun _ => ?_) (fun _ => ?_) <;> conv => whnf))
            · rename_i hq1
              refine VMem.app1 ((1 : Nat) : Int) encI_len rfl rfl rfl rfl rfl (by omega) ?_
              conv => whnf
              repeat (first | (refine VLd.intro rfl ?_; conv => whnf) | (refine VArith.i64 (by omega) ?_; conv => whnf) | (refine VNeed.intro (by first | rfl | (simp; omega)) ?_; conv => whnf) | (refine VMem.store rfl rfl rfl rfl ?_; conv => whnf) | (refine VSame.intro rfl ?_; conv => whnf) | (refine VDraw.go [] (by kernel_rfl) (by kernel_rfl) ?_; conv => whnf))
              refine LEnd.intro (1 + 1) (by omega) (by omega) ?_
              conv => whnf
              rw [hs1, ← hs2, if_pos hq1, List.length_append]
              refine Retell.turn ⟨[0,3], 4, [], []⟩ (TurnOk.mk' _ _ [] [] (OutOk.lift _) rfl (by decide) (by repeat' (first | exact BTos.nil | refine BTos.flat rfl rfl (by first | rfl | simp) ?_ | refine BTos.new rfl ?_ | refine BTos.dead rfl rfl ?_ | refine BTos.esE rfl rfl ?_ | refine BTos.row rfl rfl rfl (RowTo.snoc (RowTo.one rfl (by simp))) ?_ | refine BTos.cells rfl rfl rfl (by repeat' (first | exact VTo.undef | exact FrTo.leaf | refine FrTo.node ?_ ?_ ?_ | refine FrTo.none ?_ ?_ | exact VTo.sc (by first | rfl | (congr 1; omega) | (congr 1; simp; omega)) | exact VTos_dv _ _ | refine VTos.cons ?_ ?_ | exact VTos.nil | refine VTo.agg ?_ | refine VTo.tuple ?_ | refine VTo.func ?_ ?_ | exact VTo.fs | exact VTo.fp | exact VTo.nilptr | exact VTo.nilslice | exact VTo.nilfunc | exact VTo.ptr rfl | exact VTo.gl rfl | exact VTo.map rfl | exact VTo.yld rfl | exact VTo.fmMap rfl | exact VTo.fm | exact VTo.glNil' (by decide) rfl rfl | exact VTo.fsNil (by decide) | exact VTo.fsSl rfl rfl (by simp [flat_len encE_len]) | exact VTo.fpPtr rfl | exact VTo.fsGl rfl (by first | rfl | exact flat_len encI_len _ | exact flat_len encS_len _ | exact flat_len encP_len _ | exact flat_len encL_len _ | exact flat_len encE_len _ | (simp [flat_len encP_len]; done) | simp [flat_len encI_len, flat_len encS_len]))) ?_)) trivial trivial rfl) (by repeat' (first | exact VTo.undef | exact FrTo.leaf | refine FrTo.node ?_ ?_ ?_ | refine FrTo.none ?_ ?_ | exact VTo.sc (by first | rfl | (congr 1; omega) | (congr 1; simp; omega)) | exact VTos_dv _ _ | refine VTos.cons ?_ ?_ | exact VTos.nil | refine VTo.agg ?_ | refine VTo.tuple ?_ | refine VTo.func ?_ ?_ | exact VTo.fs | exact VTo.fp | exact VTo.nilptr | exact VTo.nilslice | exact VTo.nilfunc | exact VTo.ptr rfl | exact VTo.gl rfl | exact VTo.map rfl | exact VTo.yld rfl | exact VTo.fmMap rfl | exact VTo.fm | exact VTo.glNil' (by decide) rfl rfl | exact VTo.fsNil (by decide) | exact VTo.fsSl rfl rfl (by simp [flat_len encE_len]) | exact VTo.fpPtr rfl | exact VTo.fsGl rfl (by first | rfl | exact flat_len encI_len _ | exact flat_len encS_len _ | exact flat_len encP_len _ | exact flat_len encL_len _ | exact flat_len encE_len _ | (simp [flat_len encP_len]; done) | simp [flat_len encI_len, flat_len encS_len]))) (by first | rfl | (repeat' (first | exact MkTo.nil | refine MkTo.keep rfl ?_ | refine MkTo.drop (by decide) rfl ?_)))
            · rename_i hq1
              refine LEnd.intro (1 + 1) (by omega) (by omega) ?_
              conv => whnf
              rw [hs1, ← hs2, if_neg (by simpa using hq1)]
              refine Retell.turn ⟨[0,1], 2, [], []⟩ (TurnOk.mk' _ _ [] [] (OutOk.lift _) rfl (by decide) (by repeat' (first | exact BTos.nil | refine BTos.flat rfl rfl (by first | rfl | simp) ?_ | refine BTos.new rfl ?_ | refine BTos.dead rfl rfl ?_ | refine BTos.esE rfl rfl ?_ | refine BTos.row rfl rfl rfl (RowTo.snoc (RowTo.one rfl (by simp))) ?_ | refine BTos.cells rfl rfl rfl (by repeat' (first | exact VTo.undef | exact FrTo.leaf | refine FrTo.node ?_ ?_ ?_ | refine FrTo.none ?_ ?_ | exact VTo.sc (by first | rfl | (congr 1; omega) | (congr 1; simp; omega)) | exact VTos_dv _ _ | refine VTos.cons ?_ ?_ | exact VTos.nil | refine VTo.agg ?_ | refine VTo.tuple ?_ | refine VTo.func ?_ ?_ | exact VTo.fs | exact VTo.fp | exact VTo.nilptr | exact VTo.nilslice | exact VTo.nilfunc | exact VTo.ptr rfl | exact VTo.gl rfl | exact VTo.map rfl | exact VTo.yld rfl | exact VTo.fmMap rfl | exact VTo.fm | exact VTo.glNil' (by decide) rfl rfl | exact VTo.fsNil (by decide) | exact VTo.fsSl rfl rfl (by simp [flat_len encE_len]) | exact VTo.fpPtr rfl | exact VTo.fsGl rfl (by first | rfl | exact flat_len encI_len _ | exact flat_len encS_len _ | exact flat_len encP_len _ | exact flat_len encL_len _ | exact flat_len encE_len _ | (simp [flat_len encP_len]; done) | simp [flat_len encI_len, flat_len encS_len]))) ?_)) trivial trivial rfl) (by repeat' (first | exact VTo.undef | exact FrTo.leaf | refine FrTo.node ?_ ?_ ?_ | refine FrTo.none ?_ ?_ | exact VTo.sc (by first | rfl | (congr 1; omega) | (congr 1; simp; omega)) | exact VTos_dv _ _ | refine VTos.cons ?_ ?_ | exact VTos.nil | refine VTo.agg ?_ | refine VTo.tuple ?_ | refine VTo.func ?_ ?_ | exact VTo.fs | exact VTo.fp | exact VTo.nilptr | exact VTo.nilslice | exact VTo.nilfunc | exact VTo.ptr rfl | exact VTo.gl rfl | exact VTo.map rfl | exact VTo.yld rfl | exact VTo.fmMap rfl | exact VTo.fm | exact VTo.glNil' (by decide) rfl rfl | exact VTo.fsNil (by decide) | exact VTo.fsSl rfl rfl (by simp [flat_len encE_len]) | exact VTo.fpPtr rfl | exact VTo.fsGl rfl (by first | rfl | exact flat_len encI_len _ | exact flat_len encS_len _ | exact flat_len encP_len _ | exact flat_len encL_len _ | exact flat_len encE_len _ | (simp [flat_len encP_len]; done) | simp [flat_len encI_len, flat_len encS_len]))) (by first | rfl | (repeat' (first | exact MkTo.nil | refine MkTo.keep rfl ?_ | refine MkTo.drop (by decide) rfl ?_)))
          · have hs2 : q 2 = q ((2 : Nat) : Int) := rfl
            conv => whnf
            repeat' (first | (refine VLd.intro rfl ?_; conv => whnf) | (refine VArith.i64 (by omega) ?_; conv => whnf) | (refine VNeed.intro (by first | rfl | (simp; omega)) ?_; conv => whnf) | (refine VMem.store rfl rfl rfl rfl ?_; conv => whnf) | (refine VSame.intro rfl ?_; conv => whnf) | (refine VDraw.go [] (by kernel_rfl) (by kernel_rfl) ?_; conv => whnf) | (refine VIte.dec (fun _ => ?_) (fun _ => ?_) <;> conv => whnf) | (refine VIte.ndec (fun _ => ?_) (fun _ => ?_) <;> conv => whnf) | (refine VIte.beq (fun _ => ?_) (fun _ => ?_) <;> conv => whnf) | (refine VIte.bne (fun _ => ?_) (fun _ => ?_) <;> conv => whnf) | (refine VIte.intro (fun _ => ?_) (fun _ => ?_) <;> conv => whnf))
            · rename_i hq1
              refine VMem.app1 ((2 : Nat) : Int) encI_len rfl rfl rfl rfl rfl (by omega) ?_
              conv => whnf
              repeat (first | (refine VLd.intro rfl ?_; conv => whnf) | (refine VArith.i64 (by omega) ?_; conv => whnf) | (refine VNeed.intro (by first | rfl | (simp; omega)) ?_; conv => whnf) | (refine VMem.store rfl rfl rfl rfl ?_; conv => whnf) | (refine VSame.intro rfl ?_; conv => whnf) | (refine VDraw.go [] (by kernel_rfl) (by kernel_rfl) ?_; conv => whnf))
              refine LEnd.intro (2 + 1) (by omega) (by omega) ?_
              conv => whnf
              rw [hs1, ← hs2, if_pos hq1, List.length_append]
              refine Retell.turn ⟨[0,3], 4, [], []⟩ (TurnOk.mk' _ _ [] [] (OutOk.lift _) rfl (by decide) (by repeat' (first | exact BTos.nil | refine BTos.flat rfl rfl (by first | rfl | simp) ?_ | refine BTos.new rfl ?_ | refine BTos.dead rfl rfl ?_ | refine BTos.esE rfl rfl ?_ | refine BTos.row rfl rfl rfl (RowTo.snoc (RowTo.one rfl (by simp))) ?_ | refine BTos.cells rfl rfl rfl (by repeat' (first | exact VTo.undef | exact FrTo.leaf | refine FrTo.node ?_ ?_ ?_ | refine FrTo.none ?_ ?_ | exact VTo.sc (by first | rfl | (congr 1; omega) | (congr 1; simp; omega)) | exact VTos_dv _ _ | refine VTos.cons ?_ ?_ | exact VTos.nil | refine VTo.agg ?_ | refine VTo.tuple ?_ | refine VTo.func ?_ ?_ | exact VTo.fs | exact VTo.fp | exact VTo.nilptr | exact VTo.nilslice | exact VTo.nilfunc | exact VTo.ptr rfl | exact VTo.gl rfl | exact VTo.map rfl | exact VTo.yld rfl | exact VTo.fmMap rfl | exact VTo.fm | exact VTo.glNil' (by decide) rfl rfl | exact VTo.fsNil (by decide) | exact VTo.fsSl rfl rfl (by simp [flat_len encE_len]) | exact VTo.fpPtr rfl | exact VTo.fsGl rfl (by first | rfl | exact flat_len encI_len _ | exact flat_len encS_len _ | exact flat_len encP_len _ | exact flat_len encL_len _ | exact flat_len encE_len _ | (simp [flat_len encP_len]; done) | simp [flat_len encI_len, flat_len encS_len]))) ?_)) trivial trivial rfl) (by repeat' (first | exact VTo.undef | exact FrTo.leaf | refine FrTo.node ?_ ?_ ?_ | refine FrTo.none ?_ ?_ | exact VTo.sc (by first | rfl | (congr 1; omega) | (congr 1; simp; omega)) | exact VTos_dv _ _ | refine VTos.cons ?_ ?_ | exact VTos.nil | refine VTo.agg ?_ | refine VTo.tuple ?_ | refine VTo.func ?_ ?_ | exact VTo.fs | exact VTo.fp | exact VTo.nilptr | exact VTo.nilslice | exact VTo.nilfunc | exact VTo.ptr rfl | exact VTo.gl rfl | exact VTo.map rfl | exact VTo.yld rfl | exact VTo.fmMap rfl | exact VTo.fm | exact VTo.glNil' (by decide) rfl rfl | exact VTo.fsNil (by decide) | exact VTo.fsSl rfl rfl (by simp [flat_len encE_len]) | exact VTo.fpPtr rfl | exact VTo.fsGl rfl (by first | rfl | exact flat_len encI_len _ | exact flat_len encS_len _ | exact flat_len encP_len _ | exact flat_len encL_len _ | exact flat_len encE_len _ | (simp [flat_len encP_len]; done) | simp [flat_len encI_len, flat_len encS_len]))) (by first | rfl | (repeat' (first | exact MkTo.nil | refine MkTo.keep rfl ?_ | refine MkTo.drop (by decide) rfl ?_)))
            · rename_i hq1
              refine LEnd.intro (2 + 1) (by omega) (by omega) ?_
              conv => whnf
              rw [hs1, ← hs2, if_neg (by simpa using hq1)]
              refine Retell.turn ⟨[0,1], 2, [], []⟩ (TurnOk.mk' _ _ [] [] (OutOk.lift _) rfl (by decide) (by repeat' (first | exact BTos.nil | refine BTos.flat rfl rfl (by first | rfl | simp) ?_ | refine BTos.new rfl ?_ | refine BTos.dead rfl rfl ?_ | refine BTos.esE rfl rfl ?_ | refine BTos.row rfl rfl rfl (RowTo.snoc (RowTo.one rfl (by simp))) ?_ | refine BTos.cells rfl rfl rfl (by repeat' (first | exact VTo.undef | exact FrTo.leaf | refine FrTo.node ?_ ?_ ?_ | refine FrTo.none ?_ ?_ | exact VTo.sc (by first | rfl | (congr 1; omega) | (congr 1; simp; omega)) | exact VTos_dv _ _ | refine VTos.cons ?_ ?_ | exact VTos.nil | refine VTo.agg ?_ | refine VTo.tuple ?_ | refine VTo.func ?_ ?_ | exact VTo.fs | exact VTo.fp | exact VTo.nilptr | exact VTo.nilslice | exact VTo.nilfunc | exact VTo.ptr rfl | exact VTo.gl rfl | exact VTo.map rfl | exact VTo.yld rfl | exact VTo.fmMap rfl | exact VTo.fm | exact VTo.glNil' (by decide) rfl rfl | exact VTo.fsNil (by decide) | exact VTo.fsSl rfl rfl (by simp [flat_len encE_len]) | exact VTo.fpPtr rfl | exact VTo.fsGl rfl (by first | rfl | exact flat_len encI_len _ | exact flat_len encS_len _ | exact flat_len encP_len _ | exact flat_len encL_len _ | exact flat_len encE_len _ | (simp [flat_len encP_len]; done) | simp [flat_len encI_len, flat_len encS_len]))) ?_)) trivial trivial rfl) (by repeat' (first | exact VTo.undef | exact FrTo.leaf | refine FrTo.node ?_ ?_ ?_ | refine FrTo.none ?_ ?_ | exact VTo.sc (by first | rfl | (congr 1; omega) | (congr 1; simp; omega)) | exact VTos_dv _ _ | refine VTos.cons ?_ ?_ | exact VTos.nil | refine VTo.agg ?_ | refine VTo.tuple ?_ | refine VTo.func ?_ ?_ | exact VTo.fs | exact VTo.fp | exact VTo.nilptr | exact VTo.nilslice | exact VTo.nilfunc | exact VTo.ptr rfl | exact VTo.gl rfl | exact VTo.map rfl | exact VTo.yld rfl | exact VTo.fmMap rfl | exact VTo.fm | exact VTo.glNil' (by decide) rfl rfl | exact VTo.fsNil (by decide) | exact VTo.fsSl rfl rfl (by simp [flat_len encE_len]) | exact VTo.fpPtr rfl | exact VTo.fsGl rfl (by first | rfl | exact flat_len encI_len _ | exact flat_len encS_len _ | exact flat_len encP_len _ | exact flat_len encL_len _ | exact flat_len encE_len _ | (simp [flat_len encP_len]; done) | simp [flat_len encI_len, flat_len encS_len]))) (by first | rfl | (repeat' (first | exact MkTo.nil | refine MkTo.keep rfl ?_ | refine MkTo.drop (by decide) rfl ?_)))
        · conv => whnf
          have hk' : k = 3 := by omega
          subst hk'
          repeat (first | (refine VLd.intro rfl ?_; conv => whnf) | (refine VArith.i64 (by omega) ?_; conv => whnf) | (refine VNeed.intro (by first | rfl | (simp; omega)) ?_; conv => whnf) | (refine VMem.store rfl rfl rfl rfl ?_; conv => whnf) | (refine VSame.intro rfl ?_; conv => whnf) | (refine VDraw.go [] (by kernel_rfl) (by kernel_rfl) ?_; conv => whnf))
          refine VOut.data 2 [(1, (selS (fun k => q k) 3).flatMap encI)] [] rfl (by repeat' (first | exact FzAll.nil | refine FzAll.flat rfl ?_ | refine FzAll.row rfl rfl (RowTo.one rfl (by simp)) ?_)) (by exact FmAll.nil) (by repeat' (first | exact VTo.undef | exact FrTo.leaf | refine FrTo.node ?_ ?_ ?_ | refine FrTo.none ?_ ?_ | exact VTo.sc (by first | rfl | (congr 1; omega) | (congr 1; simp; omega)) | exact VTos_dv _ _ | refine VTos.cons ?_ ?_ | exact VTos.nil | refine VTo.agg ?_ | refine VTo.tuple ?_ | refine VTo.func ?_ ?_ | exact VTo.fs | exact VTo.fp | exact VTo.nilptr | exact VTo.nilslice | exact VTo.nilfunc | exact VTo.ptr rfl | exact VTo.gl rfl | exact VTo.map rfl | exact VTo.yld rfl | exact VTo.fmMap rfl | exact VTo.fm | exact VTo.glNil' (by decide) rfl rfl | exact VTo.fsNil (by decide) | exact VTo.fsSl rfl rfl (by simp [flat_len encE_len]) | exact VTo.fpPtr rfl | exact VTo.fsGl rfl (by first | rfl | exact flat_len encI_len _ | exact flat_len encS_len _ | exact flat_len encP_len _ | exact flat_len encL_len _ | exact flat_len encE_len _ | (simp [flat_len encP_len]; done) | simp [flat_len encI_len, flat_len encS_len])))
end Go.Proofs.Ytolnajnlcdacmaa

open Go.Vm
namespace Go.Proofs.Ytolnajnlcdacmaa
set_option maxRecDepth 20000
set_option maxHeartbeats 1000000

/-! ### What gone finds are the ends of truths -/

theorem isE_goes {f : Fil} {i : Nat} {p : Pap} {was : End} {y : Int} (h : 0 < i ∧ sdAt f i = sdAt f (i - 1) ∧ y - was.year ≤ f.G) :
    isE f i p was y = bif decide (¬ was.first = -1 ∧ f.Y ≤ y - was.first) then ⟨i, y, -1, p.side, y⟩ else ⟨i, y, was.first, was.side, was.since⟩ := by
  unfold isE goesB
  rw [decide_eq_true h]; rfl
theorem isE_new {f : Fil} {i : Nat} {p : Pap} {was : End} {y : Int} (h : ¬ (0 < i ∧ sdAt f i = sdAt f (i - 1) ∧ y - was.year ≤ f.G)) :
    isE f i p was y = bif decide (¬ y = -1 ∧ f.Y ≤ y - y) then ⟨i, y, -1, p.side, y⟩ else ⟨i, y, y, was.side, was.since⟩ := by
  unfold isE goesB
  rw [decide_eq_false h]; rfl
/-- How it is behind the first papers of a truth. -/
def stOf (f : Fil) (t : List Int) : Nat → End
  | 0 => beg
  | k + 1 => match f.ps[k]? with
    | some p => isE f k p (stOf f t k) (tAt t k)
    | none => stOf f t k
theorem stOf_congr {f : Fil} {t u : List Int} : ∀ {k : Nat}, (∀ j, j < k → tAt t j = tAt u j) → stOf f t k = stOf f u k
  | 0, _ => rfl
  | k + 1, h => by
    rw [stOf, stOf, stOf_congr (fun j hj => h j (by omega)), h k (by omega)]
/-- The state behind the first papers. -/
def goneK (f : Fil) : Nat → AL × List End
  | 0 => ([], [beg])
  | k + 1 => match f.ps[k]? with
    | some p => (goneK f k).2.foldl (gW f k p) ((goneK f k).1, [])
    | none => goneK f k
theorem goneK_gP (f : Fil) : ∀ k, k ≤ f.ps.length → gP f (f.ps.drop k) k (goneK f k) = gone f
  | 0, _ => rfl
  | k + 1, hk => by
    have hp : f.ps[k]? = some f.ps[k] := List.getElem?_eq_getElem (by omega)
    rw [← goneK_gP f k (by omega), gP_at hp, goneK, hp]
theorem gone_eq (f : Fil) : gone f = goneK f f.ps.length := by
  have := goneK_gP f f.ps.length (Nat.le_refl _)
  rw [List.drop_of_length_le (Nat.le_refl _), gP] at this
  exact this.symm
/-- What is known while a paper's years are gone through. -/
structure PInv (f : Fil) (k : Nat) (p : Pap) (a0 : AL) (s : AL × List End) (done : List (End × Int)) : Prop where
  mem : ∀ e, e ∈ s.2 ↔ ∃ w y, (w, y) ∈ done ∧ e = isE f k p w y
  al : ∀ x ∈ s.1, x ∈ a0 ∨ (x.1.i = k ∧ ∃ y, (x.2, y) ∈ done ∧ x.1 = isE f k p x.2 y)
  old : ∀ x ∈ a0, x ∈ s.1
  key : ∀ e, hasK s.1 e = true → e.i = k → e ∈ s.2
  has : ∀ e ∈ s.2, hasK s.1 e = true
theorem isE_i (f : Fil) (k : Nat) (p : Pap) (w : End) (y : Int) : (isE f k p w y).i = k := by
  unfold isE
  cases decide (¬ (bif goesB f k y w.year then w.first else y) = -1 ∧ f.Y ≤ y - (bif goesB f k y w.year then w.first else y)) <;> rfl
theorem isE_year (f : Fil) (k : Nat) (p : Pap) (w : End) (y : Int) : (isE f k p w y).year = y := by
  unfold isE
  cases decide (¬ (bif goesB f k y w.year then w.first else y) = -1 ∧ f.Y ≤ y - (bif goesB f k y w.year then w.first else y)) <;> rfl
theorem hasK_iff {a : AL} {e : End} : hasK a e = true ↔ ∃ x ∈ a, x.1 = e := by simp [hasK]
theorem PInv.gY {f : Fil} {k : Nat} {p : Pap} {a0 : AL} {s : AL × List End} {done : List (End × Int)} (h : PInv f k p a0 s done) (w : End) (y : Int) : PInv f k p a0 (gY f k p w s y) (done ++ [(w, y)]) := by
  have hi := isE_i f k p w y
  unfold Ytolnajnlcdacmaa.gY
  obtain ⟨E, hE⟩ : ∃ E, E = isE f k p w y := ⟨_, rfl⟩
  rw [← hE] at hi ⊢
  cases hk : hasK s.1 E
  · refine ⟨fun e => ?_, fun x hx => ?_, fun x hx => ?_, fun e he hi2 => ?_, fun e he => ?_⟩
    · simp only [cond_false, List.mem_append, List.mem_singleton, Prod.mk.injEq]
      rw [h.mem]
      constructor
      · rintro (⟨w', y', h1, h2⟩ | rfl)
        · exact ⟨w', y', .inl h1, h2⟩
        · exact ⟨w, y, .inr ⟨rfl, rfl⟩, hE⟩
      · rintro ⟨w', y', h1 | ⟨rfl, rfl⟩, h2⟩
        · exact .inl ⟨w', y', h1, h2⟩
        · exact .inr (h2.trans hE.symm)
    · simp only [cond_false, List.mem_append, List.mem_singleton] at hx
      rcases hx with hx | rfl
      · rcases h.al x hx with h1 | ⟨h1, y', h2, h3⟩
        · exact .inl h1
        · exact .inr ⟨h1, y', by simp [h2], h3⟩
      · exact .inr ⟨hi, y, by simp, hE⟩
    · simp only [cond_false, List.mem_append]
      exact .inl (h.old x hx)
    · simp only [cond_false] at he ⊢
      rw [hasK_snoc, Bool.or_eq_true, decide_eq_true_eq] at he
      rcases he with he | rfl
      · exact List.mem_append_left _ (h.key e he hi2)
      · simp
    · simp only [cond_false, List.mem_append, List.mem_singleton] at he ⊢
      rw [hasK_snoc]
      rcases he with he | rfl
      · rw [h.has e he]; rfl
      · simp
  · simp only [cond_true]
    refine ⟨fun e => ?_, fun x hx => ?_, h.old, h.key, h.has⟩
    · rw [h.mem]
      constructor
      · rintro ⟨w', y', h1, h2⟩
        exact ⟨w', y', by simp [h1], h2⟩
      · rintro ⟨w', y', h1, h2⟩
        simp only [List.mem_append, List.mem_singleton, Prod.mk.injEq] at h1
        rcases h1 with h1 | ⟨rfl, rfl⟩
        · exact ⟨w', y', h1, h2⟩
        · rw [← hE] at h2
          exact (h.mem e).1 (by rw [h2]; exact h.key E hk hi)
    · rcases h.al x hx with h1 | ⟨h1, y', h2, h3⟩
      · exact .inl h1
      · exact .inr ⟨h1, y', by simp [h2], h3⟩
def prs (p : Pap) (w : End) (m : Nat) : List (End × Int) := (List.range m).map fun j : Nat => (w, p.lo + (j : Int))
theorem PInv.gYs {f : Fil} {k : Nat} {p : Pap} {a0 : AL} {s : AL × List End} {done : List (End × Int)} (h : PInv f k p a0 s done) (w : End) : ∀ m, PInv f k p a0 (gYs f k p w s m) (done ++ prs p w m)
  | 0 => by simpa [prs, Ytolnajnlcdacmaa.gYs] using h
  | m + 1 => by
    have := (PInv.gYs h w m).gY w (p.lo + m)
    have e : prs p w (m + 1) = prs p w m ++ [(w, p.lo + (m : Int))] := by simp [prs, List.range_succ]
    rw [e, ← List.append_assoc]
    exact this
theorem PInv.fold {f : Fil} {k : Nat} {p : Pap} {a0 : AL} : ∀ (l : List End) {s : AL × List End} {done : List (End × Int)}, PInv f k p a0 s done → PInv f k p a0 (l.foldl (gW f k p) s) (done ++ l.flatMap fun w => prs p w (p.hi - p.lo + 1).toNat)
  | [], _, _, h => by simpa using h
  | w :: l, s, done, h => by
    rw [List.foldl_cons, List.flatMap_cons, ← List.append_assoc]
    exact PInv.fold l (h.gYs w _)
theorem mem_prs {p : Pap} {w : End} {v : End} {y : Int} : (v, y) ∈ prs p w (p.hi - p.lo + 1).toNat ↔ v = w ∧ p.lo ≤ y ∧ y ≤ p.hi := by
  unfold prs
  simp only [List.mem_map, List.mem_range, Prod.mk.injEq]
  constructor
  · rintro ⟨j, h1, rfl, rfl⟩; exact ⟨rfl, by omega, by omega⟩
  · rintro ⟨rfl, h1, h2⟩; exact ⟨(y - p.lo).toNat, by omega, rfl, by omega⟩
/-- What is known behind the first papers. -/
structure KInv (f : Fil) (k : Nat) : Prop where
  out : ∀ e ∈ (goneK f k).2, ∃ t ∈ tru (f.ps.take k), stOf f t k = e
  into : ∀ t ∈ tru (f.ps.take k), stOf f t k ∈ (goneK f k).2
  al : ∀ x ∈ (goneK f k).1, ∃ (j : Nat) (p : Pap) (y : Int), j < k ∧ f.ps[j]? = some p ∧ p.lo ≤ y ∧ y ≤ p.hi ∧ x.1 = isE f j p x.2 y ∧ x.2 ∈ (goneK f j).2
  has : ∀ j, 0 < j → j ≤ k → ∀ e ∈ (goneK f j).2, hasK (goneK f k).1 e = true
theorem tru_lenK {f : Fil} {k : Nat} {t : List Int} (hk : k ≤ f.ps.length) (ht : t ∈ tru (f.ps.take k)) : t.length = k := by
  have := (mem_tru.1 ht).1
  rw [this, List.length_take]; omega
theorem tAt_app {t : List Int} {y : Int} {j : Nat} (h : j < t.length) : tAt (t ++ [y]) j = tAt t j := by
  simp [tAt, List.getD_eq_getElem?_getD, List.getElem?_append_left h]
theorem tAt_end {t : List Int} {y : Int} : tAt (t ++ [y]) t.length = y := by simp [tAt]
theorem kinv (f : Fil) : ∀ k, k ≤ f.ps.length → KInv f k
  | 0, _ => by
    have ht : tru (f.ps.take 0) = [[]] := rfl
    refine ⟨fun e he => ?_, fun t ht2 => ?_, fun x hx => ?_, fun j h1 h2 => by omega⟩
    · simp only [goneK, List.mem_singleton] at he
      exact ⟨[], by rw [ht]; simp, he.symm⟩
    · simp [goneK, stOf]
    · simp [goneK] at hx
  | k + 1, hk => by
    have ih := kinv f k (by omega)
    have hp : f.ps[k]? = some f.ps[k] := List.getElem?_eq_getElem (by omega)
    generalize f.ps[k] = p at hp
    have hg : goneK f (k + 1) = (goneK f k).2.foldl (gW f k p) ((goneK f k).1, []) := by rw [goneK, hp]
    have hi0 : ∀ x ∈ (goneK f k).1, x.1.i ≠ k := by
      intro x hx h0
      obtain ⟨j, q, y, h1, _, _, _, h2, _⟩ := ih.al x hx
      have := isE_i f j q x.2 y
      rw [← h2] at this
      omega
    have P0 : PInv f k p (goneK f k).1 ((goneK f k).1, []) [] := by
      refine ⟨fun e => by simp, fun x hx => .inl hx, fun x hx => hx, fun e he hi => ?_, fun e he => by simp at he⟩
      obtain ⟨x, hx, rfl⟩ := hasK_iff.1 he
      exact absurd hi (hi0 x hx)
    have P := PInv.fold (goneK f k).2 P0
    rw [← hg, List.nil_append] at P
    have hmem : ∀ v y, (v, y) ∈ ((goneK f k).2.flatMap fun w => prs p w (p.hi - p.lo + 1).toNat) ↔ v ∈ (goneK f k).2 ∧ p.lo ≤ y ∧ y ≤ p.hi := by
      intro v y
      rw [List.mem_flatMap]
      constructor
      · rintro ⟨w, h1, h2⟩; obtain ⟨rfl, h3⟩ := mem_prs.1 h2; exact ⟨h1, h3⟩
      · rintro ⟨h1, h2⟩; exact ⟨v, h1, mem_prs.2 ⟨rfl, h2⟩⟩
    have hst : ∀ t ∈ tru (f.ps.take k), ∀ y, stOf f (t ++ [y]) (k + 1) = isE f k p (stOf f t k) y := by
      intro t ht y
      have hl := tru_lenK (by omega) ht
      rw [stOf, hp]
      simp only
      rw [stOf_congr (u := t) (fun j hj => tAt_app (by omega))]
      congr 1
      rw [← hl]; exact tAt_end
    refine ⟨fun e he => ?_, fun t ht => ?_, fun x hx => ?_, fun j h1 h2 e he => ?_⟩
    · obtain ⟨w, y, h1, h2⟩ := (P.mem e).1 he
      obtain ⟨h3, h4, h5⟩ := (hmem w y).1 h1
      obtain ⟨t, ht, hte⟩ := ih.out w h3
      refine ⟨t ++ [y], ?_, by rw [hst t ht, hte, h2]⟩
      rw [tru_snoc hp]
      unfold ext1 yrs
      rw [List.mem_flatMap]
      refine ⟨t, ht, ?_⟩
      rw [List.mem_map]
      exact ⟨y, by rw [List.mem_map]; exact ⟨(y - p.lo).toNat, by rw [List.mem_range]; omega, by omega⟩, rfl⟩
    · rw [tru_snoc hp] at ht
      unfold ext1 yrs at ht
      rw [List.mem_flatMap] at ht
      obtain ⟨t0, ht0, ht⟩ := ht
      rw [List.mem_map] at ht
      obtain ⟨y, hy, rfl⟩ := ht
      rw [List.mem_map] at hy
      obtain ⟨m, hm, rfl⟩ := hy
      rw [List.mem_range] at hm
      rw [P.mem]
      exact ⟨stOf f t0 k, _, (hmem _ _).2 ⟨ih.into t0 ht0, by omega, by omega⟩, hst t0 ht0 _⟩
    · rcases P.al x hx with h1 | ⟨h1, y, h2, h3⟩
      · obtain ⟨j, q, y, g1, g2⟩ := ih.al x h1
        exact ⟨j, q, y, by omega, g2⟩
      · obtain ⟨h4, h5, h6⟩ := (hmem _ _).1 h2
        exact ⟨k, p, y, by omega, hp, h5, h6, h3, h4⟩
    · by_cases hj : j = k + 1
      · subst hj; exact P.has e he
      · obtain ⟨x, hx, hxe⟩ := hasK_iff.1 (ih.has j h1 (by omega) e he)
        exact hasK_iff.2 ⟨x, P.old x hx, hxe⟩
/-! ### A state tells the owner -/

theorem Okt.wide {f : Fil} {t : List Int} (o : Okt f t) {a b : Nat} (h : a ≤ b) (hb : b < t.length) : tAt t a ≤ tAt t b := by
  rcases Nat.lt_or_eq_of_le h with h | h
  · exact Int.le_of_lt (o.mono h hb)
  · rw [h]; exact Int.le_refl _
theorem stOf_spec {f : Fil} {t : List Int} (o : Okt f t) : ∀ k, k + 1 ≤ t.length → stOf f t (k + 1) = ⟨k, tAt t k, if f.Y ≤ tAt t k - tAt t (fst f t k) then -1 else tAt t (fst f t k), (ownS f t (k + 1)).1, (ownS f t (k + 1)).2⟩ := by
  have hY := o.y
  have hlen := o.len
  intro k
  induction k with
  | zero =>
    intro hk
    have hp : f.ps[0]? = some f.ps[0] := List.getElem?_eq_getElem (by omega)
    have hpos : 0 ≤ tAt t 0 := by
      have hy : t[0]? = some t[0] := List.getElem?_eq_getElem (by omega)
      rw [tAt_eq hy]; exact (o.yr hy).1
    rw [stOf, hp]
    simp only [stOf]
    have ha : arB f t 0 = false := by unfold arB; rw [fst]; exact decide_eq_false (by omega)
    have hf0 : fst f t 0 = 0 := rfl
    have ho : ownS f t (0 + 1) = if arB f t 0 then (sdAt f 0, tAt t 0) else (2, 0) := rfl
    rw [ho, ha, isE_new (by omega), decide_eq_false (by omega), hf0, if_neg (show ¬ f.Y ≤ tAt t 0 - tAt t 0 by omega)]
    rfl
  | succ k ih =>
    intro hk
    have ih := ih (by omega)
    have hp : f.ps[k + 1]? = some f.ps[k + 1] := List.getElem?_eq_getElem (by omega)
    have hsd := sdAt_eq hp
    have hpos : 0 ≤ tAt t (k + 1) := by
      have hy : t[k + 1]? = some t[k + 1] := List.getElem?_eq_getElem (by omega)
      rw [tAt_eq hy]; exact (o.yr hy).1
    have hpos2 : ∀ j, j ≤ k → 0 ≤ tAt t j := by
      intro j hj
      have hy : t[j]? = some t[j] := List.getElem?_eq_getElem (by omega)
      rw [tAt_eq hy]; exact (o.yr hy).1
    have hlt := o.mono (a := k) (b := k + 1) (by omega) (by omega)
    have hfl := fst_le f t k
    rw [stOf, hp]
    simp only
    generalize f.ps[k + 1] = p at hp hsd
    have ho : ownS f t (k + 1 + 1) = if arB f t (k + 1) then (sdAt f (k + 1), tAt t (k + 1)) else ownS f t (k + 1) := rfl
    rw [ih, ho]
    by_cases hb : bgB f t (k + 1) = true
    · have hb2 : ¬ (0 < k + 1 ∧ sdAt f (k + 1) = sdAt f (k + 1 - 1) ∧ tAt t (k + 1) - tAt t k ≤ f.G) := by
        unfold bgB at hb
        rw [decide_eq_true_eq] at hb
        simp only [Nat.add_sub_cancel] at hb ⊢
        omega
      have hf : fst f t (k + 1) = k + 1 := by rw [fst, if_pos hb]
      have ha : arB f t (k + 1) = false := by unfold arB; rw [hf]; exact decide_eq_false (by omega)
      rw [isE_new hb2, decide_eq_false (by omega), ha, hf, if_neg (show ¬ f.Y ≤ tAt t (k + 1) - tAt t (k + 1) by omega)]
      simp
    · have hb2 : (0 < k + 1 ∧ sdAt f (k + 1) = sdAt f (k + 1 - 1) ∧ tAt t (k + 1) - tAt t k ≤ f.G) := by
        unfold bgB at hb
        rw [decide_eq_true_eq] at hb
        simp only [Nat.add_sub_cancel] at hb ⊢
        omega
      have hf : fst f t (k + 1) = fst f t k := by rw [fst, if_neg hb]
      have hp1 := hpos2 (fst f t k) hfl
      rw [isE_goes hb2]
      simp only
      have har : arB f t (k + 1) = decide (f.Y ≤ tAt t (k + 1) - tAt t (fst f t k) ∧ tAt t k - tAt t (fst f t k) < f.Y) := by unfold arB; rw [hf, Nat.add_sub_cancel]
      rw [har, hf]
      generalize tAt t (fst f t k) = z at hp1
      by_cases h1 : f.Y ≤ tAt t k - z
      · rw [if_pos h1, decide_eq_false (by omega), decide_eq_false (by omega), if_pos (show f.Y ≤ tAt t (k + 1) - z by omega)]
        simp
      · rw [if_neg h1]
        by_cases h2 : f.Y ≤ tAt t (k + 1) - z
        · rw [decide_eq_true (by omega), decide_eq_true (by omega), if_pos h2]
          simp [hsd]
        · rw [decide_eq_false (by omega), decide_eq_false (by omega), if_neg h2]
          simp
end Go.Proofs.Ytolnajnlcdacmaa

open Go.Vm
namespace Go.Proofs.Ytolnajnlcdacmaa
set_option maxRecDepth 20000
set_option maxHeartbeats 2000000

/-- Back along one way. -/
def backK (a : AL) : Nat → End → List Int
  | 0, _ => []
  | k + 1, e => e.year :: backK a k ((alGet a e).getD beg)
theorem backK_len (a : AL) : ∀ k e, (backK a k e).length = k
  | 0, _ => rfl
  | k + 1, e => by simp [backK, backK_len a k]
theorem alGet_mem {a : AL} {e v : End} (h : alGet a e = some v) : (e, v) ∈ a := by
  unfold alGet at h
  rw [Option.map_eq_some_iff] at h
  obtain ⟨x, h1, rfl⟩ := h
  have h2 := List.find?_some h1
  simp only [decide_eq_true_eq] at h2
  rw [← h2]
  exact List.mem_of_find?_eq_some h1
/-- The step back. -/
theorem back_step {f : Fil} {k : Nat} {x : End} (hk : k + 1 ≤ f.ps.length) (hx : x ∈ (goneK f (k + 1)).2) :
    x ≠ beg ∧ ∃ v p, alGet (gone f).1 x = some v ∧ v ∈ (goneK f k).2 ∧ f.ps[k]? = some p ∧ p.lo ≤ x.year ∧ x.year ≤ p.hi ∧ x = isE f k p v x.year := by
  have K := kinv f f.ps.length (Nat.le_refl _)
  have K1 := kinv f (k + 1) hk
  have hi : x.i = k := by
    obtain ⟨t, _, ht⟩ := K1.out x hx
    have hp : f.ps[k]? = some f.ps[k] := List.getElem?_eq_getElem (by omega)
    rw [stOf, hp] at ht
    rw [← ht]; exact isE_i _ _ _ _ _
  have hh := K.has (k + 1) (by omega) hk x hx
  rw [← gone_eq] at hh
  rw [hasK_get] at hh
  refine ⟨fun h0 => ?_, ?_⟩
  · rw [h0] at hi
    have : (-1 : Int) = k := hi
    omega
  · cases hg : alGet (gone f).1 x with
    | none => rw [hg] at hh; cases hh
    | some v =>
      have hm := alGet_mem hg
      rw [gone_eq] at hm
      obtain ⟨j, p, y, h1, h2, h3, h4, h5, h6⟩ := K.al (x, v) hm
      simp only at h5 h6
      have hj : (j : Int) = k := by rw [← hi, h5, isE_i]
      have hj : j = k := by omega
      subst hj
      have hy : x.year = y := by rw [h5, isE_year]
      exact ⟨v, p, rfl, h6, h2, by omega, by omega, by rw [hy]; exact h5⟩
theorem back_tru {f : Fil} : ∀ k x, k ≤ f.ps.length → x ∈ (goneK f k).2 → (backK (gone f).1 k x).reverse ∈ tru (f.ps.take k) ∧ stOf f (backK (gone f).1 k x).reverse k = x
  | 0, x, _, hx => by
    simp only [goneK, List.mem_singleton] at hx
    rw [hx]
    exact ⟨by simp [backK, tru], rfl⟩
  | k + 1, x, hk, hx => by
    obtain ⟨_, v, p, h1, h2, h3, h4, h5, h6⟩ := back_step hk hx
    obtain ⟨g1, g2⟩ := back_tru k v (by omega) h2
    rw [backK, h1, Option.getD_some, List.reverse_cons]
    have hl : (backK (gone f).1 k v).reverse.length = k := by rw [List.length_reverse, backK_len]
    generalize (backK (gone f).1 k v).reverse = t at g1 g2 hl
    constructor
    · rw [tru_snoc h3]
      unfold ext1 yrs
      rw [List.mem_flatMap]
      refine ⟨t, g1, ?_⟩
      rw [List.mem_map]
      exact ⟨x.year, by rw [List.mem_map]; exact ⟨(x.year - p.lo).toNat, by rw [List.mem_range]; omega, by omega⟩, rfl⟩
    · rw [stOf, h3]
      simp only
      rw [stOf_congr (u := t) (fun j hj => tAt_app (by omega)), g2]
      have : tAt (t ++ [x.year]) k = x.year := by rw [← hl]; exact tAt_end
      rw [this]; exact h6.symm
/-- The owner of a truth, by its end. -/
theorem own_end {f : Fil} {t : List Int} (o : Okt f t) : ((stOf f t f.ps.length).side, (stOf f t f.ps.length).since) = own f t := by
  have hl := o.len
  unfold own
  rw [← hl]
  rcases Nat.eq_zero_or_pos t.length with h | h
  · rw [h]; rfl
  · obtain ⟨k, hk⟩ : ∃ k, t.length = k + 1 := ⟨t.length - 1, by omega⟩
    rw [hk, stOf_spec o k (by omega)]
theorem isG_eq {f : Fil} (h0 : chk f = 0) (x : Int) : isG f x = isOwn f x := by
  have K := kinv f f.ps.length (Nat.le_refl _)
  have hT : f.ps.take f.ps.length = f.ps := List.take_length
  unfold isG isOwn
  rw [Bool.eq_iff_iff, List.any_eq_true, List.any_eq_true, gone_eq]
  constructor
  · rintro ⟨e, he, hx⟩
    obtain ⟨t, ht, hte⟩ := K.out e he
    rw [hT] at ht
    have := own_end (tru_okt h0 ht)
    rw [hte] at this
    exact ⟨t, ht, by rw [← this]; exact hx⟩
  · rintro ⟨t, ht, hx⟩
    have h1 := K.into t (by rw [hT]; exact ht)
    have := own_end (tru_okt h0 ht)
    rw [← this] at hx
    exact ⟨_, h1, hx⟩
theorem osG_eq {f : Fil} (h0 : chk f = 0) : osG f = osL f := by
  unfold osG osL
  congr 1
  funext k
  exact isG_eq h0 k
theorem fidx_spec (q : End → Bool) : ∀ (l : List End) (i : Int), (fidx q l i = -1 ∧ ∀ e ∈ l, q e = false) ∨ ∃ (j : Nat) (e : End), fidx q l i = i + j ∧ l[j]? = some e ∧ q e = true
  | [], i => .inl ⟨rfl, by simp⟩
  | a :: l, i => by
    rw [fidx]
    cases hq : q a
    · rcases fidx_spec q l (i + 1) with ⟨h1, h2⟩ | ⟨j, e, h1, h2, h3⟩
      · exact .inl ⟨h1, by intro e he; rcases List.mem_cons.1 he with rfl | he; exact hq; exact h2 e he⟩
      · exact .inr ⟨j + 1, e, by rw [cond_false, h1]; omega, by simpa using h2, h3⟩
    · exact .inr ⟨0, a, by simp, rfl, hq⟩
def truG (f : Fil) (x : Int) : List Int := match (gone f).2[(fidx (fun e => decide (e.side = x)) (gone f).2 0).toNat]? with
  | some e => (backK (gone f).1 f.ps.length e).reverse
  | none => []
theorem truG_ok {f : Fil} (h0 : chk f = 0) {x : Int} (h : isG f x = true) : truG f x ∈ tru f.ps ∧ (own f (truG f x)).1 = x := by
  have hT : f.ps.take f.ps.length = f.ps := List.take_length
  unfold truG
  rcases fidx_spec (fun e => decide (e.side = x)) (gone f).2 0 with ⟨_, h1⟩ | ⟨j, e, h1, h2, h3⟩
  · exfalso
    unfold isG at h
    rw [List.any_eq_true] at h
    obtain ⟨e, he, hx⟩ := h
    rw [h1 e he] at hx; cases hx
  · rw [h1, show ((0 : Int) + (j : Int)).toNat = j by omega, h2]
    simp only
    have hm := List.mem_of_getElem? h2
    obtain ⟨g1, g2⟩ := back_tru f.ps.length e (Nat.le_refl _) (by rw [← gone_eq]; exact hm)
    rw [hT] at g1
    refine ⟨g1, ?_⟩
    have := own_end (tru_okt h0 g1)
    rw [g2] at this
    rw [← this]
    simpa using h3
end Go.Proofs.Ytolnajnlcdacmaa

