/-
  Rows of lots; IndexFunc at the closure of let. No condition.
-/
import Derived.Test.YtiaabbflchdcbaaSfun
namespace Go.Proofs.Ytiaabbflchdcbaa
open Go.RowKit
set_option linter.unusedVariables false
set_option linter.unusedSimpArgs false

abbrev Lot := List Int × Int
def LotOk (x : Lot) : Prop := T32 x.1 ∧ U64 x.2
def flat (l : List Lot) : List Value := l.flatMap fun x => (lotC x.1 x.2).toList
section
variable {l : List Lot}
theorem flat_cons (x : Lot) (l : List Lot) : flat (x :: l) = (lotC x.1 x.2).toList ++ flat l := by simp [flat]
theorem flat_app (a b : List Lot) : flat (a ++ b) = flat a ++ flat b := by simp [flat]
theorem flat_len (h : ∀ x ∈ l, LotOk x) : (flat l).length = l.length * 33 := by
  induction l with
  | nil => rfl
  | cons x l ih =>
    rw [flat_cons, List.length_append, ih (fun y hy => h y (by simp [hy])), Array.length_toList, lot_size (h x (by simp)).1, List.length_cons]
    omega
theorem lot_len (x : Lot) (h : LotOk x) : (lotC x.1 x.2).toList.length = 33 := by rw [Array.length_toList, lot_size h.1]
theorem flat_at (h : ∀ x ∈ l, LotOk x) {i : Nat} (hi : i < l.length) {j : Nat} {v : Value} (hv : (lotC l[i].1 l[i].2).toList[j]? = some v) : (flat l)[i * 33 + j]? = some v := by
  have e : l = l.take i ++ l[i] :: l.drop (i + 1) := by rw [List.getElem_cons_drop, List.take_append_drop]
  have hl : (flat (l.take i)).length = i * 33 := by rw [flat_len (fun x hx => h x (List.mem_of_mem_take hx)), List.length_take, Nat.min_eq_left (by omega)]
  have hj := (List.getElem?_eq_some_iff.1 hv).1
  rw [show (flat l) = flat (l.take i ++ l[i] :: l.drop (i + 1)) by rw [← e], flat_app, flat_cons, List.getElem?_append_right (by omega), hl, show i * 33 + j - i * 33 = j by omega, List.getElem?_append_left hj, hv]
end
/-- A row of lots of the call's own. -/
def LR (w : World) (B : Nat) (v : Value) (l : List Lot) : Prop := w.ownsRow B 84 33 v l.length (flat l)
theorem lr_range {w : World} {B g n c : Nat} {l : List Lot} (h : LR w B (.slice (some ⟨g, 0, none⟩) n c) l) (hok : ∀ x ∈ l, LotOk x) (i : Nat) (hi : i < l.length) : w.rangeAt g (i * 33) (lotC l[i].1 l[i].2).toList := fun j v hv => by
  rcases h.2 with ⟨h1, _⟩ | ⟨g', cap, cur, e, _, hb, hn, hc, hs, htk⟩
  · cases h1
  · simp only [Value.slice.injEq, Option.some.injEq, Addr.mk.injEq, and_true] at e
    obtain ⟨rfl, rfl, rfl⟩ := e
    have h1 := flat_at hok hi hv
    rw [← htk, List.getElem?_take] at h1
    split at h1
    · rw [cell_of_row w g _ cur 84 (0, 0) hb, ← h1, Array.getElem?_toList]
    · cases h1
theorem lr_form {w : World} {B : Nat} {v : Value} {l : List Lot} (h : LR w B v l) : (v = .slice none 0 0 ∧ l = []) ∨ ∃ g c, v = .slice (some ⟨g, 0, none⟩) l.length c ∧ B ≤ g ∧ g < w.heap.size ∧ l.length ≤ c ∧ c ≤ maxLen := by
  rcases h.2 with ⟨h1, h2⟩ | ⟨g', cap, cur, e, hB, hb, hn, hc, hs, htk⟩
  · exact .inl ⟨h1, List.eq_nil_of_length_eq_zero h2⟩
  · exact .inr ⟨g', cap, e, hB, (Array.getElem?_eq_some_iff.1 hb).1, hn, hc⟩
set_option maxRecDepth 100000 in
theorem idx_any (b c B xb i : Nat) (l : List Lot) (w : World) (hR : LR w B (.slice (some ⟨b, 0, none⟩) l.length c) l) (hok : ∀ x ∈ l, LotOk x) (hnd : l.Nodup) (hi : i < l.length) (hx : Blk w xb 84 (lotC l[i].1 l[i].2)) :
    Calls Try.prog 44 #[.slice (some ⟨b, 0, none⟩) l.length c, .func (.func 43) #[] #[.pointer (some ⟨xb, 0, none⟩)]] w fun e w' => e = .returned (.int .i64 i) ∧ Below w.heap.size w w' := by
  have hmax : l.length ≤ c ∧ c ≤ maxLen := by
    rcases lr_form hR with ⟨h, _⟩ | ⟨g', c', h, _, _, h1, h2⟩
    · cases h
    · simp only [Value.slice.injEq] at h; obtain ⟨_, _, rfl⟩ := h; exact ⟨h1, h2⟩
  have hcm' : c ≤ 9223372036854775807 := by have := hmax.2; unfold maxLen at this; omega
  have hlc := hmax.1
  obtain ⟨N, hN⟩ : ∃ N, N = l.length := ⟨_, rfl⟩
  rw [← hN] at hR hi hlc ⊢
  have HN := Lib.hid hN
  clear hN hmax
  go_enter Try.func44, Try.ntmps44
  go_wp2_with fail
  go_loopw [8] (fun s8 wr => ∃ (k : Nat), k ≤ i ∧ s8 = .int .i64 k ∧ Below w.heap.size w wr) (fun s8 _ => N - (intOf s8).toNat)
  case atStart => exact ⟨0, Nat.zero_le _, rfl, Below.refl _ _⟩
  case round =>
    obtain ⟨k, hki, rfl, hB⟩ := hrel
    have hkn : k < N := by omega
    have hkl : k < l.length := by rw [← HN.out]; exact hkn
    have hil : i < l.length := by rw [← HN.out]; exact hi
    have hRr : LR wr B (.slice (some ⟨b, 0, none⟩) N c) l := own_same hR hB
    have hrg := lr_range hRr hok k hkl
    have hokk := hok _ (List.getElem_mem hkl)
    have hoki := hok _ (List.getElem_mem hil)
    have hcon := del_any l[k].1 l[i].1 l[k].2 l[i].2 xb wr (hx.same hB) hokk.1 hoki.1 hokk.2 hoki.2
    have hlen := lot_len _ hokk
    have hdk : (decide (l[k].1 = l[i].1) && decide (l[k].2 = l[i].2)) = decide (k = i) := by
      rw [Bool.eq_iff_iff]
      simp only [Bool.and_eq_true, decide_eq_true_eq]
      constructor
      · rintro ⟨h1, h2⟩
        exact nodup_ix (x := l[i]) hnd (by rw [List.getElem?_eq_getElem hkl, show l[k] = l[i] from Prod.ext h1 h2]) (List.getElem?_eq_getElem hil)
      · rintro rfl; exact ⟨rfl, rfl⟩
    rw [hdk] at hcon
    clear hdk
    obtain ⟨cs, hcs⟩ : ∃ cs, cs = (lotC l[k].1 l[k].2).toList := ⟨_, rfl⟩
    have hct : Value.agg (lotC l[k].1 l[k].2) = .agg cs.toArray := by rw [hcs]
    rw [← hcs] at hrg hlen
    rw [hct] at hcon
    clear hct hcs
    have HI := Lib.hid hil
    clear hil hkl hRr hokk hoki
    by_cases hk : k = i
    · have hdk : decide (k = i) = true := decide_eq_true hk
      rw [hdk] at hcon
      have HK := Lib.hid hk
      clear hk hdk
      go_wp2_with (first | (refine wpList_load_mid rfl 84 (.tmp 14) rfl b (k * 33) rfl cs _ hrg Try.underlying84 rfl (by rw [info84, hlen]) ?_) | (go_at_call 43; refine hcon.mono ?_; rintro e w2 ⟨rfl, hb2⟩; have hB2 := hB.trans (hb2.mono hB.size)) | fail)
      go_ret
      exact ⟨by rw [HK.out]; rfl, hB2⟩
    · have hdk : decide (k = i) = false := decide_eq_false hk
      rw [hdk] at hcon
      clear hdk
      go_wp2_with (first | (refine wpList_load_mid rfl 84 (.tmp 14) rfl b (k * 33) rfl cs _ hrg Try.underlying84 rfl (by rw [info84, hlen]) ?_) | (go_at_call 43; refine hcon.mono ?_; rintro e w2 ⟨rfl, hb2⟩; have hB2 := hB.trans (hb2.mono hB.size)) | fail)
      go_roundw
      case rel => exact ⟨k + 1, by omega, by go_num, hB2⟩
      case measure => simp [intOf]; omega

end Go.Proofs.Ytiaabbflchdcbaa
