/-
  A shelf in memory against the plain one; Put's contract. No condition.
-/
import Derived.Test.YtiaabbflchdcbaaSps
import Derived.Test.YtiaabbflchdcbaaSputc
namespace Go.Proofs.Ytiaabbflchdcbaa
open Go.RowKit
set_option linter.unusedVariables false
set_option linter.unusedSimpArgs false

/-- The shelf of block sb is the plain shelf s. -/
def HS (w : World) (B sb lb zb tb : Nat) (room : Int) (s : PS) : Prop := ∃ lv E, E.map (·.1) = s.E ∧ SX w B sb lb zb tb lv room s.used E s.Z s.T
/-- All that isn't the shelf's stays. -/
def KX (lb zb tb : Nat) (a w : World) : Prop := w.os = a.os ∧ w.tape = a.tape ∧ w.output = a.output ∧ a.heap.size ≤ w.heap.size ∧ ∀ g o, a.heap[g]? = some o → g ≠ lb → g ≠ zb → g ≠ tb → (∀ cs t, o = .cells cs t → t ≠ 81 ∧ t ≠ 84) → w.heap[g]? = some o
section
variable {a b w w' : World} {B sb lb zb tb : Nat} {lv v : Value} {room used : Int} {E : List (En × Value)} {Z : List (Lot × Int)} {T : List (List Int × Int × Int)} {s : PS} {l : List Int}
theorem KX.sz (h : KX lb zb tb a w) : a.heap.size ≤ w.heap.size := h.2.2.2.1
theorem KX.of (h : Below a.heap.size a w) : KX lb zb tb a w := ⟨h.os, h.tape, h.output, h.size, fun g o hg _ _ _ _ => (h.block g (Array.getElem?_eq_some_iff.1 hg).1).trans hg⟩
theorem KX.trans (h : KX lb zb tb a b) (k : KX lb zb tb b w) : KX lb zb tb a w := ⟨k.1.trans h.1, k.2.1.trans h.2.1, k.2.2.1.trans h.2.2.1, Nat.le_trans h.sz k.sz, fun g o hg h1 h2 h3 h4 => k.2.2.2.2 g o (h.2.2.2.2 g o hg h1 h2 h3 h4) h1 h2 h3 h4⟩
theorem KX.kb (hS : SX a B sb lb zb tb lv room used E Z T) (h : KB (fun g => g = sb ∨ g = lb ∨ g = zb ∨ g = tb ∨ lv.ownBlock = some g) a w) : KX lb zb tb a w :=
  ⟨h.1, h.2.1, h.2.2.1, h.sz, fun g o hg h1 h2 h3 h4 => (h.2.2.2.2 g (Array.getElem?_eq_some_iff.1 hg).1 (by
    rintro (e | e | e | e | e)
    · subst e
      have hb := hS.blk
      unfold Blk at hb
      rw [hb] at hg
      exact (h4 _ _ (by injection hg with e; exact e.symm)).1 rfl
    · exact h1 e
    · exact h2 e
    · exact h3 e
    · rcases hS.lr.2 with ⟨h5, _⟩ | ⟨g', cap, cur, h5, _, hb, _⟩
      · rw [h5] at e; simp [Value.ownBlock] at e
      · rw [h5] at e
        simp only [Value.ownBlock, Option.some.injEq] at e
        subst e
        rw [hb] at hg
        exact (h4 _ _ (by injection hg with e; exact e.symm)).2 rfl)).trans hg⟩
theorem HS.kept (h : HS w B sb lb zb tb room s) (hb : Below w.heap.size w w') : HS w' B sb lb zb tb room s := by
  obtain ⟨lv, E, h1, h2⟩ := h
  exact ⟨lv, E, h1, h2.kept hb⟩
theorem HS.base (h : HS w B sb lb zb tb room s) : B ≤ w.heap.size := by
  obtain ⟨lv, E, _, h⟩ := h
  exact Nat.le_trans h.hs (Nat.le_of_lt h.blk.lt)
theorem Blk.kx {g : Nat} {t : TypeId} {cs : Array Value} (h : Blk w g t cs) (hS : HS w B sb lb zb tb room s) (hx : KX lb zb tb w w') (h1 : t ≠ 81) (h2 : t ≠ 84) : Blk w' g t cs := by
  obtain ⟨lv, E, _, hS⟩ := hS
  exact hx.2.2.2.2 g _ h (blk_km_ne h hS.kl) (blk_km_ne h hS.kz) (blk_km_ne h hS.kt) (fun cs' t' e => by injection e with e1 e2; subst e2; exact ⟨h1, h2⟩)
theorem RdT.kx (h : RdT w v l) (hS : HS w B sb lb zb tb room s) (hx : KX lb zb tb w w') : RdT w' v l := by
  refine h.kb (S := fun g => ¬ ∃ cs, Blk w g 5 cs) ⟨hx.1, hx.2.1, hx.2.2.1, hx.sz, fun g _ hn => ?_⟩ (fun b hb hn => ?_)
  · obtain ⟨cs, hc⟩ := Classical.not_not.1 hn
    exact (hc.kx hS hx (by decide) (by decide)).trans (Eq.symm hc)
  · rcases h.shape with ⟨cap, rfl, _⟩ | ⟨b', off, cap, cs, rfl, k1, _⟩
    · simp [Value.ownBlock] at hb
    · simp only [Value.ownBlock, Option.some.injEq] at hb
      subst hb
      exact hn ⟨cs, k1⟩
theorem own_kx {base n size : Nat} {e : TypeId} {xs : List Value} (h : w.ownsRow base e size v n xs) (hS : HS w B sb lb zb tb room s) (hx : KX lb zb tb w w') (h1 : e ≠ 81) (h2 : e ≠ 84) : w'.ownsRow base e size v n xs := by
  obtain ⟨h0, h⟩ := h
  refine ⟨h0, ?_⟩
  rcases h with ⟨h3, h4⟩ | ⟨g', cap, cur, h5, h6, hb, h7⟩
  · exact .inl ⟨h3, h4⟩
  · exact .inr ⟨g', cap, cur, h5, h6, Blk.kx (show Blk w g' e cur from hb) hS hx h1 h2, h7⟩
theorem pl_mem (h : E.map (·.1) = s.E) : (∃ y ∈ s.E, y.is (padT l) used room) ↔ ∃ y ∈ E, y.1.t = padT l ∧ y.1.g = used ∧ y.1.n = room := by
  rw [← h]
  constructor
  · rintro ⟨y, hy, h2⟩
    obtain ⟨z, hz, rfl⟩ := List.mem_map.1 hy
    exact ⟨z, hz, h2⟩
  · rintro ⟨z, hz, h2⟩
    exact ⟨z.1, List.mem_map.2 ⟨z, hz, rfl⟩, h2⟩
end
theorem kb_below {lb zb tb B sb : Nat} {w w' : World} {lv : Value} {room used : Int} {E : List (En × Value)} {Z : List (Lot × Int)} {T : List (List Int × Int × Int)} (hS : SX w B sb lb zb tb lv room used E Z T) (h : KB (fun g => g = sb ∨ g = lb ∨ g = zb ∨ g = tb ∨ lv.ownBlock = some g) w w') : Below B w w' := by
  refine h.toBelow (fun g hg => ?_) (Nat.le_trans hS.hs (Nat.le_of_lt hS.blk.lt))
  rcases hg with rfl | rfl | rfl | rfl | hg
  · exact hS.hs
  · exact hS.hl
  · exact hS.hz
  · exact hS.ht
  · rcases lr_form hS.lr with ⟨e, _⟩ | ⟨g', c, e, h4, _⟩
    · rw [e] at hg; simp [Value.ownBlock] at hg
    · rw [e] at hg
      simp only [Value.ownBlock, Option.some.injEq] at hg
      omega
/-- Put. -/
theorem put_any (B sb lb zb tb : Nat) (v : Value) (room g n p : Int) (gr : Bool) (dA : Option Addr) (dc : Nat) (l d : List Int) (s : PS) (w : World) (hH : HS w B sb lb zb tb room s) (hok : s.Ok room) (hroom : room ≤ 1048576) (hv : Rd w .u8 v l) (hk : BytesOk l) (hll : l.length ≤ 1000000) (hdT : RdT w (.slice dA d.length dc) d) (hdk : BytesOk d) (hdl : d.length ≤ 1000000) (hg : U64 g) (hn : U64 n) (hp : 0 ≤ p ∧ p ≤ 255) :
    Calls Try.prog 12 #[.pointer (some ⟨sb, 0, none⟩), v, .agg #[.int .u64 g, .int .u64 n, .int .u8 p, .bool gr, (.slice dA d.length dc)]] w fun e w' => e = .returned (.int .i64 (pput room s l g n p d).1) ∧ HS w' B sb lb zb tb room (pput room s l g n p d).2 ∧ KX lb zb tb w w' ∧ Below B w w' := by
  have hBw := hH.base
  obtain ⟨lv, E, hE, hS⟩ := hH
  have hd : Rd w .u8 (.slice dA d.length dc) d := hdT.1
  by_cases h1 : nameE l = 0
  · by_cases h2 : ∃ y ∈ s.E, y.is (padT l) g n
    · obtain ⟨y, hy, hyk⟩ := (pl_mem hE).1 h2
      refine (put_twice B sb lb zb tb lv v room s.used g n p gr dA dc l d E s.Z s.T w hS hv hk hll hd hdk hdl hg hn h1 y hy hyk).mono ?_
      rintro e w' ⟨rfl, hS', hb⟩
      have e1 : pput room s l g n p d = (7, s) := by unfold pput; rw [if_neg (by simpa using h1), if_pos h2]
      rw [e1]
      exact ⟨rfl, ⟨lv, E, hE, hS'⟩, KX.of hb, hb.mono hBw⟩
    · have hno : ∀ y ∈ E, ¬(y.1.t = padT l ∧ y.1.g = g ∧ y.1.n = n) := fun y hy h => h2 ((pl_mem hE).2 ⟨y, hy, h⟩)
      have hle := hok.le (padT l, g)
      have hfit := hok.fit
      by_cases h3 : room < zget s.Z (padT l, g) + ((d.length : Int) + 16)
      · refine (put_long B sb lb zb tb lv v room s.used g n p gr dA dc l d E s.Z s.T w hS hv hk hll hd hdk hdl hg hn h1 hno ⟨hle.1, by omega⟩ h3).mono ?_
        rintro e w' ⟨rfl, hS', hb⟩
        have e1 : pput room s l g n p d = (3, s) := by unfold pput; rw [if_neg (by simpa using h1), if_neg h2, if_pos h3]
        rw [e1]
        exact ⟨rfl, ⟨lv, E, hE, hS'⟩, KX.of hb, hb.mono hBw⟩
      · refine (put_ok B sb lb zb tb lv v room s.used g n p gr dA dc l d E s.Z s.T w hS hv hk hll hd hdk hdl hg hn hBw hdT h1 hno ⟨hle.1, by omega⟩ (by omega) hroom ⟨hok.sum, hok.pos⟩ hfit hp).mono ?_
        rintro e w' ⟨rfl, lv', ⟨v', hS'⟩, hB, _, _⟩
        have e2 := pevict_pl (padT l, g) ((d.length : Int) + 16) room s.T s.Z.length ⟨E, s.Z, s.used⟩
        have e3 : St.pl ⟨E, s.Z, s.used⟩ s.T = s := by unfold St.pl; rw [hE]
        rw [e3] at e2
        have e1 : pput room s l g n p d = (0, ⟨(pevict (padT l, g) ((d.length : Int) + 16) room s.Z.length s).E ++ [⟨padT l, g, n, p, d⟩], zadd (pevict (padT l, g) ((d.length : Int) + 16) room s.Z.length s).Z (padT l, g) ((d.length : Int) + 16), (pevict (padT l, g) ((d.length : Int) + 16) room s.Z.length s).used + ((d.length : Int) + 16), tadd s.T (padT l) g n⟩) := by unfold pput; rw [if_neg (by simpa using h1), if_neg h2, if_neg h3]
        rw [e1, e2]
        exact ⟨rfl, ⟨lv', _, by simp [St.pl], hS'⟩, KX.kb hS hB, kb_below hS hB⟩
  · refine (put_name B sb lb zb tb lv v room s.used g n p gr dA dc l d E s.Z s.T w hS hv hk hll hd hdk hdl hg hn h1).mono ?_
    rintro e w' ⟨rfl, hS', hb⟩
    have e1 : pput room s l g n p d = (nameE l, s) := by unfold pput; rw [if_pos h1]
    rw [e1]
    exact ⟨rfl, ⟨lv, E, hE, hS'⟩, KX.of hb, hb.mono hBw⟩

end Go.Proofs.Ytiaabbflchdcbaa
