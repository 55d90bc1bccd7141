/- Part 0 of the proof that what is gained is what is lost, and each number belongs to one owner alone. No condition. -/
import Derived.Test.YtkbbfeljlepgoaaBc9
set_option linter.unusedVariables false
set_option linter.unusedSimpArgs false
namespace Go.Vm
theorem VLd.recd {α : Type} {enc : α → List D} {m : Nat} (hm : ∀ a, (enc a).length = m) {T : TT} {t : TypeId} {i : Id} {off : Nat} {h : Hp} {rw : Bool} {l : List α} {a : α} {ti : TI} {K : V → Prop} (j : Nat) (hT : T t = some ti) (ha : ti.agg = true) (hs : ti.size = m) (hb : h.get i = some (.flat rw (l.flatMap enc)))
    (hj : l[j]? = some a) (ho : off = j * m) (hK : K (.agg (D.vs (enc a)))) : VLd T t (.ptr i off) h K := by
  refine VLd.intro (v := .agg (D.vs (enc a))) ?_ hK
  obtain ⟨hlt, rfl⟩ := List.getElem?_eq_some_iff.1 hj
  unfold vload
  have hle : off + ti.size ≤ (l.flatMap enc).length := by
    rw [flat_len hm, ho, hs, ← Nat.succ_mul]; exact Nat.mul_le_mul_right _ hlt
  simp only [hT, ha, rdN_flat hb ti.size off hle]
  rw [ho, flat_dropD hm, List.drop_eq_getElem_cons hlt, List.flatMap_cons, hs, List.take_left' (hm _)]
end Go.Vm

