/- Part 0 of the proof that passageSeen: with fewer sights word goes no faster. No condition. -/
import Derived.Test.YtoeendggmalcpaaBp8
set_option linter.unusedVariables false
set_option linter.unusedSimpArgs false
namespace Go.Vm
theorem rdN_flat {h : Hp} {i : Id} {rw : Bool} {l : List D} (hb : h.get i = some (.flat rw l)) : ∀ (n off : Nat), off + n ≤ l.length → h.rdN i off n = some (D.vs ((l.drop off).take n))
  | 0, off, _ => by simp [Hp.rdN, D.vs]
  | n + 1, off, hle => by
    have hk : off < l.length := by omega
    simp only [Hp.rdN, Hp.at, hb, List.getElem?_eq_getElem hk, Option.map_some]
    rw [rdN_flat hb n (off + 1) (by omega), List.drop_eq_getElem_cons hk, List.take_succ_cons, D.vs]
theorem VLd.recd {α : Type} {enc : α → List D} {m : Nat} (hm : ∀ a, (enc a).length = m) {T : TT} {t : TypeId} {i : Id} {off : Nat} {h : Hp} {rw : Bool} {l : List α} {a : α} {ti : TI} {K : V → Prop} (j : Nat) (hT : T t = some ti) (ha : ti.agg = true) (hs : ti.size = m) (hb : h.get i = some (.flat rw (l.flatMap enc)))
    (hj : l[j]? = some a) (ho : off = j * m) (hK : K (.agg (D.vs (enc a)))) : VLd T t (.ptr i off) h K := by
  refine VLd.intro (v := .agg (D.vs (enc a))) ?_ hK
  obtain ⟨hlt, rfl⟩ := List.getElem?_eq_some_iff.1 hj
  unfold vload
  have hle : off + ti.size ≤ (l.flatMap enc).length := by
    rw [flat_len hm, ho, hs, ← Nat.succ_mul]; exact Nat.mul_le_mul_right _ hlt
  simp only [hT, ha, rdN_flat hb ti.size off hle]
  rw [ho, flat_dropD hm, List.drop_eq_getElem_cons hlt, List.flatMap_cons, hs, List.take_left' (hm _)]
end Go.Vm

namespace Go.Vm

theorem Hp.set_set (h : Hp) (i : Id) (b b' : Blk) : (h.set i b).set i b' = h.set i b' := by
  cases i with
  | loc k => simp [Hp.set]
  | out j =>
    simp only [Hp.set]
    congr 1
    funext k
    split <;> rfl
section
variable {P : Program} {T : TT} (hT : TOk P T)
include hT
end
end Go.Vm

