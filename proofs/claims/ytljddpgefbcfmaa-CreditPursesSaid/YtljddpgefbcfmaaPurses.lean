/-
  CreditPurses: every script of what is granted and spent has the document's answers; nothing is spent beyond the limit; a nil purse's, too. For every input; no condition.
-/
import Derived.Test.YtljddpgefbcfmaaRpur
import Derived.Deep.RegionLaw
namespace Go.Proofs.Ytljddpgefbcfmaa
open Go.RowKit
set_option linter.unusedVariables false
set_option linter.unusedSimpArgs false


/-- A grant more in the reference's purse: the row is appended to, the field is stored. -/
theorem rp_grant {w wa w1 : World} {base g : Nat} {gs ss : List Int} {gv sv : Value} {gg cp : Nat} {n : Int} (h1 : Blk w g 50 #[gv, sv]) (h2 : base ≤ g) (h3 : w.ownsRow base 22 1 gv gs.length (gs.map (Value.int .u64)))
    (h4 : w.ownsRow base 22 1 sv ss.length (ss.map (Value.int .u64))) (h5 : ∀ b, gv.ownBlock = some b → sv.ownBlock ≠ some b) (h6 : ∀ x ∈ gs, 0 ≤ x) (h7 : ∀ x ∈ ss, 0 ≤ x) (h8 : gs.length ≤ 900) (h9 : ss.length ≤ 1000)
    (hbase : base ≤ w.heap.size) (h0 : 0 ≤ n) (ha : w.grownBy wa none) (hg : wa.grownBy w1 gv.ownBlock) (ho : w1.ownsRow base 22 1 (.slice (some ⟨gg, 0, none⟩) (gs.length + 1) cp) (gs.length + 1) (gs.map (Value.int .u64) ++ [.int .u64 n]))
    (hat : gv.ownBlock = some gg ∨ gg = wa.heap.size) :
    RPur (w1.setCell ⟨g, 0, none⟩ (.slice (some ⟨gg, 0, none⟩) (gs.length + 1) cp)) base g (gs ++ [n]) ss ∧ Below base w (w1.setCell ⟨g, 0, none⟩ (.slice (some ⟨gg, 0, none⟩) (gs.length + 1) cp)) ∧
      (∀ b t cs, Blk w b t cs → t ≠ 22 → t ≠ 50 → Blk (w1.setCell ⟨g, 0, none⟩ (.slice (some ⟨gg, 0, none⟩) (gs.length + 1) cp)) b t cs) := by
  have hgv : gv.ownBlock ≠ some g := own_blk_ne h3 h1 (by decide)
  have hsv : sv.ownBlock ≠ some g := own_blk_ne h4 h1 (by decide)
  have hB1 : Blk w1 g 50 #[gv, sv] := (h1.grown ha (by simp)).grown hg (Ne.symm hgv)
  have hsz := ha.size
  have hgg : gg ≠ g := by
    rcases hat with h | h
    · rintro rfl; exact hgv h
    · have := h1.lt; omega
  refine ⟨⟨.slice (some ⟨gg, 0, none⟩) (gs.length + 1) cp, sv, hB1.set_ 0 _, h2, ?_, ?_, ?_, ?_, h7, by simp; omega, h9⟩, ?_, ?_⟩
  · rw [List.length_append, List.map_append]
    exact own_far ho (by simpa [Value.ownBlock] using hgg) _
  · refine own_far (own_grown (own_grown h4 ha (.inl rfl)) hg ?_) hsv _
    rcases hs' : gv.ownBlock with _ | b'
    · exact .inl rfl
    · exact .inr (h5 b' hs')
  · intro b hb' e
    have e' : gg = b := by simpa [Value.ownBlock] using hb'
    subst e'
    rcases hat with h | h
    · exact h5 _ h e
    · have := (h4.lt _ e).2; omega
  · intro x hx
    rcases List.mem_append.1 hx with h | h
    · exact h6 x h
    · simp at h; omega
  · exact (((Below.refl base w).grown ha hbase (fun k hk => by simp at hk)).grown hg (by omega) (fun k hk => (h3.lt k hk).1)).setCell h2 _
  · intro b t cs hB n1 n2
    exact ((hB.grown ha (by simp)).grown hg (Ne.symm (own_blk_ne h3 hB (Ne.symm n1)))).far (hB.ne_ h1 n2) _

/-- Both purses, the script's element, and that what was there is as it was. -/
def PP (w0 w : World) (gp gx o : Nat) (dv nv l s : Int) (gs ss : List Int) : Prop :=
  Pur w gp l s ∧ RPur w w0.heap.size gx gs ss ∧ Blk w o 32 #[.int .u8 dv, .int .u64 nv] ∧ Below w0.heap.size w0 w ∧ w0.heap.size ≤ gp ∧ o ≠ gp
section
variable {w0 : World} {gp gx o : Nat} {dv nv l s n : Int} {gs ss : List Int}
theorem PP.drew {w : World} (h : PP w0 w gp gx o dv nv l s gs ss) : PP w0 w.drew gp gx o dv nv l s gs ss := ⟨h.1, h.2.1, h.2.2.1, h.2.2.2.1.drew, h.2.2.2.2⟩
theorem PP.cellN {w : World} (h : PP w0 w gp gx o dv nv l s gs ss) : w.cell? ⟨o, 1, none⟩ = some (.int .u64 nv) := h.2.2.1.cell 1
theorem pp_spend_P (w : World) (h : PP w0 w gp gx o dv nv l s gs ss) (h0 : 0 ≤ n) (h1 : n ≤ l - s) :
    Calls Try.prog 20 #[.pointer (some ⟨gp, 0, none⟩), .int .u64 n] w fun e w' => e = .returned (.int .i64 0) ∧ PP w0 w' gp gx o dv nv l (s + n) gs ss := by
  obtain ⟨a1, a2, a3, a4, a5, a6⟩ := h
  exact (spend_yes gp _ _ n w a1 h0 h1).mono fun e w' ⟨he, hn, hg⟩ => ⟨he, hn, a2.grown hg (.inr ⟨gp, _, _, rfl, a1.1, by decide, by decide⟩), a3.grown hg (by simpa using a6), below_grown a4 hg a5, a5, a6⟩
theorem pp_spend_X (w : World) (h : PP w0 w gp gx o dv nv l s gs ss) (hl : ss.length ≤ 900) (hs : spentI ss ≤ limI gs) (h0 : 0 ≤ n) (h1 : n ≤ limI gs - spentI ss) :
    Calls Try.prog 23 #[.pointer (some ⟨gx, 0, none⟩), .int .u64 n] w fun e w' => e = .returned (.int .i64 0) ∧ PP w0 w' gp gx o dv nv l s gs (ss ++ [n]) := by
  obtain ⟨a1, a2, a3, a4, a5, a6⟩ := h
  exact (rspend_yes _ gx gs ss n w a2 a4.size hl hs h0 h1).mono fun e w' ⟨he, hn, hb, hk⟩ => ⟨he, ⟨hk _ _ _ a1.1 (by decide) (by decide), a1.2⟩, hn, hk _ _ _ a3 (by decide) (by decide), a4.trans hb, a5, a6⟩
end

set_option maxHeartbeats 4000000 in
set_option maxRecDepth 100000 in
theorem purses_nil (limit : Int) (A : Option Addr) (len cap : Nat) (d n : Nat → Int) (w : World) (hf : 0 ≤ limit) (hl : len ≤ 9223372036854775807) (hS : Script w A len d n) :
    Calls Try.prog 6 #[.bool true, .int .u64 limit, .slice A len cap] w fun e w' => e = .returned (.bool true) ∧ Below w.heap.size w w' := by
  go_enter Try.func6, Try.ntmps6
  go_wp2_with fail
  refine (awake_any _).mono ?_
  rintro e w1 ⟨rfl, hB1⟩
  go_wp2_with fail
  refine (newPurse_any _ _).mono ?_
  rintro e w2 ⟨rfl, rfl⟩
  go_wp2_with fail
  have hB2 := ((hB1.alloc hB1.size (.cells #[.int .u64 (mostI limit), .int .u64 0] 60)).alloc (by simp; have := hB1.size; omega) (.cells #[.int .u64 limit] 22)).alloc (by simp; have := hB1.size; omega) (.cells #[.slice (some ⟨w1.heap.size + 1, 0, none⟩) 1 1, .slice none 0 0] 50)
  obtain ⟨W, hW⟩ : ∃ W, W = ((w1.alloc (.cells #[.int .u64 (mostI limit), .int .u64 0] 60)).alloc (.cells #[.int .u64 limit] 22)).alloc (.cells #[.slice (some ⟨w1.heap.size + 1, 0, none⟩) 1 1, .slice none 0 0] 50) := ⟨_, rfl⟩
  rw [← hW] at hB2 ⊢
  clear hW hB1
  go_loopw [25] (fun i wr => ∃ (k : Nat), k ≤ len ∧ i = .int .i64 k ∧ Below w.heap.size w wr) (fun i _ => len - (intOf i).toNat)
  case atStart => exact ⟨0, Nat.zero_le _, rfl, hB2⟩
  case round =>
    obtain ⟨k, hk, rfl, hB⟩ := hrel
    by_cases hlt : k < len
    · obtain ⟨b, off, rfl, hb, c0, c1⟩ := hS.cells k hlt
      have k0 := (hB.cell (p := ⟨b, off + k * 2, none⟩) hb).trans c0
      have k1 := (hB.cell (p := ⟨b, off + k * 2 + 1, none⟩) hb).trans c1
      clear c0 c1
      have hd := hS.dom k hlt
      have hn := hS.num k hlt
      have hO := Blk.new wr 32 #[.int .u8 (d k), .int .u64 (n k)]
      have hON : (wr.alloc (.cells #[.int .u8 (d k), .int .u64 (n k)] 32)).cell? ⟨wr.heap.size, 1, none⟩ = some (.int .u64 (n k)) := hO.cell 1
      have hBa := hB.alloc hB.size (.cells #[.int .u8 (d k), .int .u64 (n k)] 32)
      by_cases h40 : (40 : Int) ≤ (k : Int)
      · go_wp2_with fail
        go_ret
        exact ⟨rfl, hBa⟩
      · have hd3 : 0 ≤ d k % 3 := by omega
        by_cases he : d k % 3 = 0
        · go_wp2_with fail
          refine (grant_nil _ _).mono ?_
          rintro e w6 ⟨rfl, q6, rfl⟩
          go_wp2_with fail
          refine (ptold_nil _).mono ?_
          rintro e w8 ⟨rfl, rfl⟩
          go_wp2_with fail
          refine (limit_nil _).mono ?_
          rintro e w9 ⟨rfl, rfl⟩
          go_wp2_with fail
          refine (spent_nil _).mono ?_
          rintro e w10 ⟨rfl, rfl⟩
          go_wp2_with fail
          refine (left_nil _).mono ?_
          rintro e w11 ⟨rfl, rfl⟩
          go_wp2_with fail
          go_roundw
          case rel => exact ⟨k + 1, by omega, by go_num, by first | exact below_drewN hBa _ | exact hBa⟩
          case measure => simp [intOf]; omega
        · go_wp2_with fail
          go_quiet (first | (go_at_call 20; first | exact quiet_one (spend_nil _ _) | exact quiet_add (spend_nil _ _)) | (go_at_call 23; first | exact quiet_one (rspend_nil _ _) | exact quiet_add (rspend_nil _ _)))
          go_wp2_with fail
          refine (ptold_nil _).mono ?_
          rintro e w8 ⟨rfl, rfl⟩
          go_wp2_with fail
          refine (limit_nil _).mono ?_
          rintro e w9 ⟨rfl, rfl⟩
          go_wp2_with fail
          refine (spent_nil _).mono ?_
          rintro e w10 ⟨rfl, rfl⟩
          go_wp2_with fail
          refine (left_nil _).mono ?_
          rintro e w11 ⟨rfl, rfl⟩
          go_wp2_with fail
          go_roundw
          case rel => exact ⟨k + 1, by omega, by go_num, by first | exact below_drewN hBa _ | exact hBa⟩
          case measure => simp [intOf]; omega
    · go_wp2_with fail
      go_ret
      exact ⟨rfl, hB⟩

set_option maxHeartbeats 4000000 in
set_option maxRecDepth 100000 in
theorem purses_some (limit : Int) (A : Option Addr) (len cap : Nat) (d n : Nat → Int) (w : World) (hf : 0 ≤ limit) (hl : len ≤ 9223372036854775807) (hS : Script w A len d n) :
    Calls Try.prog 6 #[.bool false, .int .u64 limit, .slice A len cap] w fun e w' => e = .returned (.bool true) ∧ Below w.heap.size w w' := by
  obtain ⟨i0, hi, hz0, hz1, hz2⟩ := info_parts info22
  go_enter Try.func6, Try.ntmps6
  go_wp2_with fail
  refine (awake_any _).mono ?_
  rintro e w1 ⟨rfl, hB1⟩
  go_wp2_with fail
  refine (newPurse_any _ _).mono ?_
  rintro e w2 ⟨rfl, rfl⟩
  go_wp2_with fail
  have hB2 := ((hB1.alloc hB1.size (.cells #[.int .u64 (mostI limit), .int .u64 0] 60)).alloc (by simp; have := hB1.size; omega) (.cells #[.int .u64 limit] 22)).alloc (by simp; have := hB1.size; omega) (.cells #[.slice (some ⟨w1.heap.size + 1, 0, none⟩) 1 1, .slice none 0 0] 50)
  obtain ⟨W, hW⟩ : ∃ W, W = ((w1.alloc (.cells #[.int .u64 (mostI limit), .int .u64 0] 60)).alloc (.cells #[.int .u64 limit] 22)).alloc (.cells #[.slice (some ⟨w1.heap.size + 1, 0, none⟩) 1 1, .slice none 0 0] 50) := ⟨_, rfl⟩
  have hP : Pur W w1.heap.size (limI [limit]) (spentI []) := by
    rw [hW]
    have h := ((Pur.new w1 limit hf).alloc (.cells #[.int .u64 limit] 22)).alloc (.cells #[.slice (some ⟨w1.heap.size + 1, 0, none⟩) 1 1, .slice none 0 0] 50)
    have e : limI [limit] = mostI limit := by have := mostI_nn hf; simp [limI]; omega
    rw [e]
    exact h
  have hX : RPur W w.heap.size (w1.heap.size + 2) [limit] [] := by
    have hsz := hB1.size
    rw [hW]
    refine ⟨_, _, ?_, by omega, ((World.ownsRow_lit (w1.alloc (.cells #[.int .u64 (mostI limit), .int .u64 0] 60)) #[.int .u64 limit] 1 (by simp; omega) (by decide) rfl).alloc _), World.ownsRow_nil _ _ _ _, ?_, ?_, ?_, by simp, by simp⟩
    · have h := Blk.new ((w1.alloc (.cells #[.int .u64 (mostI limit), .int .u64 0] 60)).alloc (.cells #[.int .u64 limit] 22)) 50 #[.slice (some ⟨w1.heap.size + 1, 0, none⟩) 1 1, .slice none 0 0]
      simpa [World.size_alloc] using h
    · simp [Value.ownBlock]
    · simpa using hf
    · simp
  have hsz := hB1.size
  rw [← hW] at hB2 ⊢
  clear hW hB1
  obtain ⟨gx, hgx0⟩ : ∃ gx, gx = w1.heap.size + 2 := ⟨_, rfl⟩
  simp only [Nat.add_assoc, Nat.reduceAdd]
  rw [← hgx0] at hX ⊢
  obtain ⟨gp, hgp0⟩ : ∃ gp, gp = w1.heap.size := ⟨_, rfl⟩
  rw [← hgp0] at hP ⊢
  have hgp : w.heap.size ≤ gp := by omega
  clear hgx0 hgp0 hsz
  go_loopw [25] (fun i wr => ∃ (k : Nat) (gs ss : List Int), k ≤ len ∧ k ≤ 40 ∧ i = .int .i64 k ∧ gs.length ≤ k + 1 ∧ ss.length ≤ k ∧ Pur wr gp (limI gs) (spentI ss) ∧ RPur wr w.heap.size gx gs ss ∧ Below w.heap.size w wr) (fun i _ => len - (intOf i).toNat)
  case atStart => exact ⟨0, _, _, Nat.zero_le _, by omega, rfl, by simp, by simp, hP, hX, hB2⟩
  case round =>
    obtain ⟨k, gs, ss, hk, hk40, rfl, hgl, hsl, hP, hX, hB⟩ := hrel
    by_cases hlt : k < len
    · obtain ⟨b, off, rfl, hb, c0, c1⟩ := hS.cells k hlt
      have k0 := (hB.cell (p := ⟨b, off + k * 2, none⟩) hb).trans c0
      have k1 := (hB.cell (p := ⟨b, off + k * 2 + 1, none⟩) hb).trans c1
      clear c0 c1
      have hd := hS.dom k hlt
      have hn := hS.num k hlt
      have hO := Blk.new wr 32 #[.int .u8 (d k), .int .u64 (n k)]
      have hON : (wr.alloc (.cells #[.int .u8 (d k), .int .u64 (n k)] 32)).cell? ⟨wr.heap.size, 1, none⟩ = some (.int .u64 (n k)) := hO.cell 1
      have hBa := hB.alloc hB.size (.cells #[.int .u8 (d k), .int .u64 (n k)] 32)
      have hPa := hP.alloc (.cells #[.int .u8 (d k), .int .u64 (n k)] 32)
      have hXa := hX.alloc (.cells #[.int .u8 (d k), .int .u64 (n k)] 32)
      have hS0 : PP w (wr.alloc (.cells #[.int .u8 (d k), .int .u64 (n k)] 32)) gp gx wr.heap.size (d k) (n k) (limI gs) (spentI ss) gs ss := ⟨hPa, hXa, hO, hBa, hgp, Nat.ne_of_gt hP.1.lt⟩
      obtain ⟨hq0, hq1, hq2⟩ := hP.2
      have hXH := Lib.hid hXa
      have hPH := Lib.hid hPa
      clear hXa hPa hX hP
      by_cases h40 : (40 : Int) ≤ (k : Int)
      · go_wp2_with fail
        go_ret
        exact ⟨rfl, hBa⟩
      · have hd3 : 0 ≤ d k % 3 := by omega
        by_cases he : d k % 3 = 0
        · have hml := mostI_le (n k)
          have hcases : (limI gs < mostI (n k) ∧ limI (gs ++ [n k]) = mostI (n k)) ∨ (mostI (n k) ≤ limI gs ∧ limI (gs ++ [n k]) = limI gs) := by rw [limI_snoc]; omega
          rcases hcases with ⟨hx, hy⟩ | ⟨hx, hy⟩
          all_goals
            have HY := Lib.hid hy
            clear hy
            go_wp2_with fail
            refine (top_any _ _).mono ?_
            rintro e w4 ⟨rfl, rfl⟩
            go_wp2_with fail
            refine (rlimit_any _ gx _ _ _ hXH.out).mono ?_
            rintro e w5 ⟨rfl, rfl⟩
            go_wp2_with fail
            refine (grant_any gp _ _ _ _ hPH.out).mono ?_
            rintro e w6 ⟨rfl, hP6, hg6⟩
            have hX6 := hXH.out.grown hg6 (.inr ⟨gp, _, _, rfl, hPH.out.1, by decide, by decide⟩)
            have hB6 := below_grown hBa hg6 hgp
            have hO6 := hO.grown hg6 (by have := hS0.2.2.2.2.2; simpa using this)
            have k6 : w6.cell? ⟨wr.heap.size, 1, none⟩ = some (.int .u64 (n k)) := hO6.cell 1
            obtain ⟨gv, sv, h1, h2, h3, h4, h5, h6, h7, h8, h9⟩ := hX6
            have kx : w6.cell? ⟨gx, 0, none⟩ = some gv := h1.cell 0
            have H5 := Lib.hid h5
            have H6 := Lib.hid h6
            have H7 := Lib.hid h7
            clear h5 h6 h7
            have hgx6 := h1.lt
            have ho6 := hO6.lt
            have hgvx : gv.ownBlock ≠ some gx := own_blk_ne h3 h1 (by decide)
            have hgvo : gv.ownBlock ≠ some wr.heap.size := own_blk_ne h3 hO6 (by decide)
            go_wp2_with fail
            go_region_law
              ((refine step_append_lies _ (by rfl) _ _ _ (by rfl) w.heap.size 22 i0 _ 1 8 Try.underlying48 hi hz0 hz1 hz2 rfl (by decide) gv gs.length _ (by rfl) (by exact h3.alloc _) ⟨w6.heap.size, 0, none⟩ 1 1 [.int .u64 (n k)] (by rfl) (by rfl) (World.news_of_block (cs := #[.int .u64 (n k)]) (t := 22) (fr := (0, 0)) (heap_alloc_new w6 _)) (by simp [Value.oneCell']) (by decide) (by unfold maxLen; omega) (by omega) (by simp; have := hB6.size; omega) (w6.heap.size + 1) (by simp) ?_; intro gg cp w7 hown7 hgrow7 hat7 hlt7; have hB7 : Blk w7 gx 50 #[gv, sv] := ((h1.alloc _).drew).grown hgrow7 (Ne.symm hgvx); have kx7 : w7.cell? ⟨gx, 0, none⟩ = some gv := hB7.cell 0; have fx7 := hB7.frozen 0; have ko7 : w7.cell? ⟨wr.heap.size, 1, none⟩ = some (.int .u64 (n k)) := (((hO6.alloc _).drew).grown hgrow7 (Ne.symm hgvo)).cell 1))
            all_goals
              have hR := rp_grant h1 h2 h3 h4 H5.out H6.out H7.out (by omega) (by omega) hB6.size hn.1 (by first | exact grown_drew (grown_alloc (grown_refl w6 none) _) | exact grown_drewN (grown_alloc (grown_refl w6 none) _) _ | exact grown_alloc (grown_refl w6 none) _) hgrow7 hown7 (by simpa using hat7)
              obtain ⟨hX8, hB8, hk8⟩ := hR
              have hB9 := hB6.trans hB8
              have hP9 : Pur _ gp _ _ := ⟨hk8 _ _ _ hP6.1 (by decide) (by decide), hP6.2⟩
              rw [show max (limI gs) (mostI (n k)) = limI (gs ++ [n k]) by rw [limI_snoc]] at hP9
              have hz : 0 ≤ spentI ss ∧ spentI ss ≤ limI (gs ++ [n k]) ∧ limI (gs ++ [n k]) ≤ 4611686018427387903 := hP9.2
              clear hB8 hk8 hP6 h1 h2 h3 h4 H5 H6 H7 hgrow7 hown7 hat7 hB7 kx7 fx7
              generalize hw8 : w7.setCell ⟨gx, 0, none⟩ (.slice (some ⟨gg, 0, none⟩) (gs.length + 1) cp) = w8 at *
              clear hw8
              go_wp2_with fail
              refine (ptold_any gp _ _ _ (hP9)).mono ?_
              rintro e w8 ⟨rfl, q8, rfl⟩
              go_wp2_with fail
              refine (rlimit_any _ gx _ _ _ ((hX8).drewN _)).mono ?_
              rintro e w9 ⟨rfl, rfl⟩
              go_wp2_with fail
              refine (rspent_any _ gx _ _ _ ((hX8).drewN _) (by omega)).mono ?_
              rintro e w10 ⟨rfl, rfl⟩
              go_wp2_with fail
              refine (left_any gp _ _ _ ((hP9).drewN _)).mono ?_
              rintro e w11 ⟨rfl, q11, rfl⟩
              go_wp2_with fail
              go_roundw
              case rel => exact ⟨k + 1, gs ++ [n k], ss, by omega, by omega, by go_num, by first | omega | (simp; omega), by first | omega | (simp; omega), hP9.drewN _, hX8.drewN _, below_drewN hB9 _⟩
              case measure => simp [intOf]; omega
        · by_cases hx : n k ≤ limI gs - spentI ss
          · go_wp2_with fail
            go_region_held3 (fun w' => w'.cell? ⟨wr.heap.size, 1, none⟩ = some (.int .u64 (n k))) (first | exact hON | exact hS1.cellN | exact hS2.cellN)
              (first
                | (go_at_call 20; (first | (with_reducible refine (pp_spend_P _ hS0 hn.1 hx).mono ?_) | (with_reducible refine (pp_spend_P _ hS0.drew hn.1 hx).mono ?_) | (with_reducible refine (pp_spend_P _ hS2 hn.1 hx).mono ?_) | (with_reducible refine (pp_spend_P _ hS2.drew hn.1 hx).mono ?_)); rintro e wT ⟨rfl, hS1⟩)
                | (go_at_call 23; (first | (with_reducible refine (pp_spend_X _ hS0 (by omega) (by omega) hn.1 hx).mono ?_) | (with_reducible refine (pp_spend_X _ hS0.drew (by omega) (by omega) hn.1 hx).mono ?_) | (with_reducible refine (pp_spend_X _ hS1 (by omega) (by omega) hn.1 hx).mono ?_) | (with_reducible refine (pp_spend_X _ hS1.drew (by omega) (by omega) hn.1 hx).mono ?_)); rintro e wX ⟨rfl, hS2⟩))
            all_goals
              first
              | (obtain ⟨hP9, hX9, hO9, hB9, _⟩ := hS2
                 rw [← spentI_snoc] at hP9
                 have hz : 0 ≤ spentI (ss ++ [n k]) ∧ spentI (ss ++ [n k]) ≤ limI gs ∧ limI gs ≤ 4611686018427387903 := hP9.2
                 go_wp2_with fail
                 refine (ptold_any gp _ _ _ (hP9)).mono ?_
                 rintro e w8 ⟨rfl, q8, rfl⟩
                 go_wp2_with fail
                 refine (rlimit_any _ gx _ _ _ ((hX9).drewN _)).mono ?_
                 rintro e w9 ⟨rfl, rfl⟩
                 go_wp2_with fail
                 refine (rspent_any _ gx _ _ _ ((hX9).drewN _) (by omega)).mono ?_
                 rintro e w10 ⟨rfl, rfl⟩
                 go_wp2_with fail
                 refine (left_any gp _ _ _ ((hP9).drewN _)).mono ?_
                 rintro e w11 ⟨rfl, q11, rfl⟩
                 go_wp2_with fail
                 go_roundw
                 case rel => exact ⟨k + 1, gs, ss ++ [n k], by omega, by omega, by go_num, by first | omega | (simp; omega), by first | omega | (simp; omega), hP9.drewN _, hX9.drewN _, below_drewN hB9 _⟩
                 case measure => simp [intOf]; omega)
              | (obtain ⟨hP9, hX9, hO9, hB9, _⟩ := hS1
                 rw [← spentI_snoc] at hP9
                 have hz : 0 ≤ spentI (ss ++ [n k]) ∧ spentI (ss ++ [n k]) ≤ limI gs ∧ limI gs ≤ 4611686018427387903 := hP9.2
                 go_wp2_with fail
                 refine (ptold_any gp _ _ _ (hP9)).mono ?_
                 rintro e w8 ⟨rfl, q8, rfl⟩
                 go_wp2_with fail
                 refine (rlimit_any _ gx _ _ _ ((hX9).drewN _)).mono ?_
                 rintro e w9 ⟨rfl, rfl⟩
                 go_wp2_with fail
                 refine (rspent_any _ gx _ _ _ ((hX9).drewN _) (by omega)).mono ?_
                 rintro e w10 ⟨rfl, rfl⟩
                 go_wp2_with fail
                 refine (left_any gp _ _ _ ((hP9).drewN _)).mono ?_
                 rintro e w11 ⟨rfl, q11, rfl⟩
                 go_wp2_with fail
                 go_roundw
                 case rel => exact ⟨k + 1, gs, ss ++ [n k], by omega, by omega, by go_num, by first | omega | (simp; omega), by first | omega | (simp; omega), hP9.drewN _, hX9.drewN _, below_drewN hB9 _⟩
                 case measure => simp [intOf]; omega)
          · have hx' : limI gs - spentI ss < n k := by omega
            go_wp2_with fail
            go_quiet (first | (go_at_call 20; first | exact quiet_oneN (spend_no gp _ _ _ _ (hPH.out.drewN _) hx') | exact quiet_addN (spend_no gp _ _ _ _ (hPH.out.drewN _) hx')) | (go_at_call 23; first | exact quiet_one (rspend_no _ gx _ _ _ _ (hXH.out.drewN _) (by omega) hx') | exact quiet_add (rspend_no _ gx _ _ _ _ (hXH.out.drewN _) (by omega) hx')))
            go_wp2_with fail
            refine (ptold_any gp _ _ _ (hPH.out.drewN _)).mono ?_
            rintro e w8 ⟨rfl, q8, rfl⟩
            go_wp2_with fail
            refine (rlimit_any _ gx _ _ _ ((hXH.out).drewN _)).mono ?_
            rintro e w9 ⟨rfl, rfl⟩
            go_wp2_with fail
            refine (rspent_any _ gx _ _ _ ((hXH.out).drewN _) (by omega)).mono ?_
            rintro e w10 ⟨rfl, rfl⟩
            go_wp2_with fail
            refine (left_any gp _ _ _ ((hPH.out).drewN _)).mono ?_
            rintro e w11 ⟨rfl, q11, rfl⟩
            go_wp2_with fail
            go_roundw
            case rel => exact ⟨k + 1, gs, ss, by omega, by omega, by go_num, by first | omega | (simp; omega), by first | omega | (simp; omega), hPH.out.drewN _, hXH.out.drewN _, below_drewN hBa _⟩
            case measure => simp [intOf]; omega
    · go_wp2_with fail
      go_ret
      exact ⟨rfl, hB⟩

theorem purses_walk (none : Bool) (limit : Int) (A : Option Addr) (len cap : Nat) (d n : Nat → Int) (w : World) (hf : 0 ≤ limit) (hl : len ≤ 9223372036854775807) (hS : Script w A len d n) :
    Calls Try.prog 6 #[.bool none, .int .u64 limit, .slice A len cap] w fun e w' => e = .returned (.bool true) ∧ Below w.heap.size w w' := by
  cases none
  · exact purses_some limit A len cap d n w hf hl hS
  · exact purses_nil limit A len cap d n w hf hl hS

open Go.ChangeShapes Go.WideShapes Go.ChangeAt
set_option maxRecDepth 100000 in
theorem purses_lifted (os : Os) (started : os.Started) (H : Type) (enc : TypeId × Value → H) :
    ReturnsInHanded {} Try.checked os 6 .any (Rows.creditPursesSpec.pre6 enc Try.prog Try.f6 Rows.creditPursesRow.domain false) (Rows.creditPursesSpec.post enc Try.prog Try.f6 false true false false) := by
  refine returnsInHanded_of_change (C := Try.checked) own started (by kernel_rfl) Try.func6
    (ChangeSpec.witness6 (enc := enc) (C := Try.checked) false ⟨#[], #[.bool false, .int .u64 0, .slice none 0 0], []⟩ 8 (by kernel_rfl) (by kernel_rfl) (by kernel_rfl) (by kernel_rfl)) ?_
  intro W base args ds gs before hval0 hW hcnd _
  have hval : ∀ (j : Nat) t v, Try.f6.params[j]? = some t → args[j]? = some v → Value.okWide Try.prog W .any base t v := hval0
  have hW' := hW
  obtain ⟨p, q, hA0, hV, rfl, hfz, hnd⟩ := hW
  have hA : DataW.TrodAll enc Try.prog W 0 (fun _ => true) true Try.f6.params.toList args.toList ds p := hA0
  rw [Try.params6] at hA hval
  obtain ⟨v0, vs0, d0, ds0, p0, q0, hargs, rfl, rfl, h0, r0⟩ := trodAll_cons hA
  obtain ⟨v1, vs1, d1, ds1, p1, q1, rfl, rfl, rfl, h1, r1⟩ := trodAll_cons r0
  obtain ⟨v2, vs2, d2, ds2, p2, q2, rfl, rfl, rfl, h2, r2⟩ := trodAll_cons r1
  obtain ⟨rfl, rfl, rfl⟩ := trodAll_nil r2
  obtain rfl : args = #[v0, v1, v2] := by cases args; simp_all
  obtain ⟨rfl, rfl⟩ := trodVars_none hV
  obtain ⟨a0, rfl, rfl, rfl⟩ := open_bool Try.underlying4 (hval 0 4 v0 rfl rfl) h0
  obtain ⟨a1, rfl, rfl, rfl, w1⟩ := open_int Try.underlying22 (hval 1 22 v1 rfl rfl) h1
  obtain ⟨A2, len2, cap2, rfl⟩ := okWide_slice Try.underlying23 (hval 2 23 v2 rfl rfl)
  have k2 := h2
  have lt2 : ∀ x ∈ p2, x.block < W.heap.size := by obtain ⟨m, hm⟩ := k2; exact DataW.trod_lt m _ _ _ hm
  obtain ⟨hl2, d, n, hS⟩ := script_of h2
  clear hA0 hval0
  refine (purses_walk a0 a1 A2 len2 cap2 d n W (bounds_u64 w1).1 hl2 hS).mono fun e W' ⟨he, bel⟩ => ?_
  subst he
  exact ⟨_, rfl, _, _, _, [], _, [], hW', trodAll_mk1 (shut_bool Try.underlying4 _), (trodAll_cons_mk (shut_bool Try.underlying4 _) (trodAll_cons_mk (shut_int Try.underlying22 w1) (trodAll_cons_mk (Below.trod laidOut (by kernel_rfl) (of_decide_eq_true (by kernel_rfl)) k2 bel lt2) trodAll_mk0))), rfl, bel.frame _, fun h => by cases h⟩

theorem purses_holds : Rows.CreditPursesSaid :=
  OpenClaim.holds_of_wide 6 Try.f6 rfl rfl rfl rfl rfl rfl rfl ⟨rfl, rfl, rfl, rfl, rfl⟩ rfl rfl rfl rfl rfl (by kernel_rfl) Try.func6 (by kernel_rfl)
    (of_decide_eq_true (by kernel_rfl)) (by unfold Func.isWrapper; first | (rw [if_pos (by decide +kernel)]; kernel_rfl) | (rw [if_neg (by decide +kernel)]; exact ⟨rfl, rfl⟩))
    (fun os started H enc _ => purses_lifted os started H enc)
#print axioms purses_holds

end Go.Proofs.Ytljddpgefbcfmaa
