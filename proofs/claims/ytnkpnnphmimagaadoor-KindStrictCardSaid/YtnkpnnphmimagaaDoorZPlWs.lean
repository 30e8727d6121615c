/-
  The pure layer: the steps of a region that draws its order and reads a cell. No condition.
-/
import Derived.Test.YtnkpnnphmimagaaDoorZB
namespace Go.Proofs.YtnkpnnphmimagaaDoor
set_option linter.unusedSimpArgs false
set_option linter.unusedVariables false
open Go.RowKit

theorem agW_one {p : Nat × Nat} {β γ : Bx} (h : cellB p γ = cellB p β) : AgreeW [p] β γ := fun q hq => by
  rw [List.mem_singleton] at hq
  subst hq
  exact h
section
variable {P : Program} {all r : List Oper} {σ : Sl} {β δ ups : Bx} {K : Sl → Bx → Prop} {t : Nat} {op : Op} {ty : TypeId} {pos : String} {af : Array Edge} {v : A} {rd : List Nat} {rs : List Rec} {p : Nat × Nat} {i : Nat} {b : Box}
theorem wr (hs : Does P (some t) op ty (ev σ) β v [] rd) (h : runW P all [p] r ((t, v) :: σ) β (mkRec all ⟨some t, op, ty, pos, af, none⟩ [] rd :: rs) K) : runW P all [p] (⟨some t, op, ty, pos, af, none⟩ :: r) σ β rs K := ⟨v, [], rd, .inl hs, agW_one rfl, h⟩
theorem wr1 (hs : Does P (some t) op ty (ev σ) β v [(i, b)] rd) (hk : cellB p ((i, b) :: β) = cellB p β) (h : runW P all [p] r ((t, v) :: σ) ((i, b) :: β) (mkRec all ⟨some t, op, ty, pos, af, none⟩ [(i, b)] rd :: rs) K) : runW P all [p] (⟨some t, op, ty, pos, af, none⟩ :: r) σ β rs K := ⟨v, _, rd, .inl hs, agW_one hk, h⟩
theorem wrN (hs : Does P none op ty (ev σ) β v [(i, b)] rd) (hk : cellB p ((i, b) :: β) = cellB p β) (h : runW P all [p] r σ ((i, b) :: β) (mkRec all ⟨none, op, ty, pos, af, none⟩ [(i, b)] rd :: rs) K) : runW P all [p] (⟨none, op, ty, pos, af, none⟩ :: r) σ β rs K := ⟨v, _, rd, .inl hs, agW_one hk, h⟩
theorem wrL (hs : Does P (some t) op ty (ev σ) β v ups rd) (he : ups ++ β = δ) (hk : cellB p δ = cellB p β) (h : runW P all [p] r ((t, v) :: σ) δ (mkRec all ⟨some t, op, ty, pos, af, none⟩ ups rd :: rs) K) : runW P all [p] (⟨some t, op, ty, pos, af, none⟩ :: r) σ β rs K := ⟨v, _, rd, .inl hs, agW_one (by rw [he]; exact hk), he ▸ h⟩
theorem wrC (hs : DoesW [p] P (some t) op ty (ev σ) β v []) (h : runW P all [p] r ((t, v) :: σ) β (mkRec all ⟨some t, op, ty, pos, af, none⟩ [] [] :: rs) K) : runW P all [p] (⟨some t, op, ty, pos, af, none⟩ :: r) σ β rs K := ⟨v, [], [], .inr ⟨rfl, rfl, hs⟩, agW_one rfl, h⟩
theorem w_nil (ho : okOrder rs.reverse = true) (h : K σ β) : runW P all [p] [] σ β rs K := ⟨ho, h⟩
end
theorem doesW_load {P : Program} {dst : Option Nat} {ty : TypeId} {e : Operand → A} {β : Bx} {T T0 : TypeId} {t : TyI} {x : Operand} {id off : Nat} {cs : List A} {v : A} (ht : mkTy P T = some t) (hr : t.row = false) (hx : e x = .px id off) (hl : look id β = some (.var T0 cs)) (hv : cs[off]? = some v) :
    DoesW [(id, off)] P dst (.load T x) ty e β v [] := by
  intro C γ _ hag ρ I w hm a hops o ho hd hty K Q hK
  have hc := hag (id, off) List.mem_cons_self
  unfold cellB at hc
  rw [hl] at hc
  cases hg : look id γ with
  | none => rw [hg] at hc; cases hc
  | some b =>
    rw [hg] at hc
    cases b with
    | var T1 cs1 =>
      injection hc with hc
      injection hc with _ hc
      injection hc with _ hc
      exact does_load_var (P := P) (dst := dst) (ty := ty) (β := γ) ht hr hx hg (hc.trans hv) C γ (fun _ _ => rfl) ρ I w hm a hops o ho hd hty K Q hK
    | _ => cases hc
end Go.Proofs.YtnkpnnphmimagaaDoor

