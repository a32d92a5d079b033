/-
  A shelf in memory, the row of groups apart from their sizes. No condition.
-/
import Derived.Test.YtiaabbflchdcbaaSevp
namespace Go.Proofs.Ytiaabbflchdcbaa
open Go.RowKit
set_option linter.unusedVariables false
set_option linter.unusedSimpArgs false

/-- As SX, the row of groups apart from the sizes. -/
structure SY (w : World) (B sb lb zb tb : Nat) (lv : Value) (room used : Int) (E : List (En × Value)) (ZL : List Lot) (Z : List (Lot × Int)) (T : List (List Int × Int × Int)) : Prop where
  blk : Blk w sb 81 (shC room used lb zb tb lv)
  kl : KM Try.prog 71 w lb (E.map ekv)
  lr : LR w B lv ZL
  kz : KM Try.prog 84 w zb (Z.map zkv)
  kt : KM Try.prog 82 w tb (T.map tkv)
  dat : ∀ x ∈ E, RdT w x.2 x.1.d
  ok : ∀ x ∈ E, x.1.Ok
  zok : ∀ z ∈ Z, LotOk z.1
  hs : B ≤ sb
  hl : B ≤ lb
  hz : B ≤ zb
  ht : B ≤ tb
  lz : lb ≠ zb
  lt : lb ≠ tb
  zt : zb ≠ tb
section
variable {w w' : World} {B sb lb zb tb : Nat} {lv v' : Value} {room used : Int} {E E' : List (En × Value)} {ZL ZL' : List Lot} {Z Z' : List (Lot × Int)} {T T' : List (List Int × Int × Int)}
theorem SX.sy (h : SX w B sb lb zb tb lv room used E Z T) : SY w B sb lb zb tb lv room used E (Z.map (·.1)) Z T :=
  ⟨h.blk, h.kl, h.lr, h.kz, h.kt, h.dat, h.ok, h.zok, h.hs, h.hl, h.hz, h.ht, h.lz, h.lt, h.zt⟩
theorem SY.sx (h : SY w B sb lb zb tb lv room used E ZL Z T) (e : ZL = Z.map (·.1)) : SX w B sb lb zb tb lv room used E Z T := by
  subst e
  exact ⟨h.blk, h.kl, h.lr, h.kz, h.kt, h.dat, h.ok, h.zok, h.hs, h.hl, h.hz, h.ht, h.lz, h.lt, h.zt⟩
theorem SY.kept (h : SY w B sb lb zb tb lv room used E ZL Z T) (hb : Below w.heap.size w w') : SY w' B sb lb zb tb lv room used E ZL Z T :=
  { h with blk := h.blk.same hb, kl := h.kl.below hb, lr := own_same h.lr hb, kz := h.kz.below hb, kt := h.kt.below hb, dat := fun x hx => (h.dat x hx).below hb }
theorem SY.setU (h : SY w B sb lb zb tb lv room used E ZL Z T) (u : Int) : SY (w.setCell ⟨sb, 1, none⟩ (.int .i64 u)) B sb lb zb tb lv room u E ZL Z T :=
  { h with blk := by simpa using h.blk.set_ 1 (.int .i64 u), kl := h.kl.set_ h.blk 1 _, lr := own_far h.lr (own_blk_ne h.lr h.blk (by decide)) _, kz := h.kz.set_ h.blk 1 _, kt := h.kt.set_ h.blk 1 _, dat := fun x hx => rdt_set (h.dat x hx) h.blk (by decide) 1 _ }
/-- The map of objects turns. -/
theorem SY.setL (h : SY w B sb lb zb tb lv room used E ZL Z T) (hg : w.grownBy w' (some lb)) (hk : KM Try.prog 71 w' lb (E'.map ekv)) (hd : ∀ x ∈ E', RdT w' x.2 x.1.d) (ho : ∀ x ∈ E', x.1.Ok) : SY w' B sb lb zb tb lv room used E' ZL Z T :=
  { h with blk := h.blk.grown hg (by simpa using blk_km_ne h.blk h.kl), kl := hk, lr := own_grown h.lr hg (.inr (own_km_ne h.lr h.kl)), kz := h.kz.kept hg (by simpa using Ne.symm h.lz), kt := h.kt.kept hg (by simpa using Ne.symm h.lt), dat := hd, ok := ho }
/-- The sizes turn. -/
theorem SY.setZ (h : SY w B sb lb zb tb lv room used E ZL Z T) (hg : w.grownBy w' (some zb)) (hk : KM Try.prog 84 w' zb (Z'.map zkv)) (ho : ∀ z ∈ Z', LotOk z.1) : SY w' B sb lb zb tb lv room used E ZL Z' T := by
  obtain ⟨es, clock, hb⟩ := h.kz.blk
  exact { h with blk := h.blk.grown hg (by simpa using blk_km_ne h.blk h.kz), kl := h.kl.kept hg (by simpa using h.lz), lr := own_grown h.lr hg (.inr (own_km_ne h.lr h.kz)), kz := hk, kt := h.kt.kept hg (by simpa using Ne.symm h.zt), dat := fun x hx => rdt_map (h.dat x hx) hb hg, zok := ho }
/-- The greatest places turn. -/
theorem SY.setT (h : SY w B sb lb zb tb lv room used E ZL Z T) (hg : w.grownBy w' (some tb)) (hk : KM Try.prog 82 w' tb (T'.map tkv)) : SY w' B sb lb zb tb lv room used E ZL Z T' := by
  obtain ⟨es, clock, hb⟩ := h.kt.blk
  exact { h with blk := h.blk.grown hg (by simpa using blk_km_ne h.blk h.kt), kl := h.kl.kept hg (by simpa using h.lt), lr := own_grown h.lr hg (.inr (own_km_ne h.lr h.kt)), kz := h.kz.kept hg (by simpa using h.zt), kt := hk, dat := fun x hx => rdt_map (h.dat x hx) hb hg }
/-- The row of groups turns: it is written behind its end (or laid anew), then kept. -/
theorem SY.setV (h : SY w B sb lb zb tb lv room used E ZL Z T) (hg : w.grownBy w' lv.ownBlock) (hr : LR w' B v' ZL') : SY (w'.setCell ⟨sb, 3, none⟩ v') B sb lb zb tb v' room used E ZL' Z T := by
  have b1 : Blk w' sb 81 (shC room used lb zb tb lv) := h.blk.grown hg (fun e => own_blk_ne h.lr h.blk (by decide) e.symm)
  have k1 := h.kl.kept hg (fun e => own_km_ne h.lr h.kl e.symm)
  have k2 := h.kz.kept hg (fun e => own_km_ne h.lr h.kz e.symm)
  have k3 := h.kt.kept hg (fun e => own_km_ne h.lr h.kt e.symm)
  have d1 : ∀ x ∈ E, RdT w' x.2 x.1.d := fun x hx => by
    rcases lr_form h.lr with ⟨e, _⟩ | ⟨g, c, e, _⟩
    · rw [e] at hg; exact (h.dat x hx).kept hg (fun b _ e' => by simp [Value.ownBlock] at e')
    · have hr0 := h.lr
      rw [e] at hg hr0
      obtain ⟨cur, hb, _⟩ := lr_blk hr0
      exact rdt_grown (h.dat x hx) hb (by decide) hg
  exact { h with blk := by simpa using b1.set_ 3 v', kl := k1.set_ b1 3 _, lr := own_far hr (own_blk_ne hr b1 (by decide)) _, kz := k2.set_ b1 3 _, kt := k3.set_ b1 3 _, dat := fun x hx => rdt_set (d1 x hx) b1 (by decide) 3 _ }
end

end Go.Proofs.Ytiaabbflchdcbaa
