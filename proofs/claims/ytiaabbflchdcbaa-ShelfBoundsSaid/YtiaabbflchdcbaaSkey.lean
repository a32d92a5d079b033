/-
  Keys of a shelf: a track's name, a group, a place: their cells; they are keys; equality; building. No condition.
-/
import Derived.Test.YtiaabbflchdcbaaKmap
import Derived.Test.YtiaabbflchdcbaaWide
import Derived.Test.YtiaabbflchdcbaaTyp
import Derived.DeepKeys4
namespace Go.Proofs.Ytiaabbflchdcbaa
open Go.RowKit
set_option linter.unusedVariables false
set_option linter.unusedSimpArgs false

open Go.Maps (Keyed)
/-- Thirty-two bytes. -/
def T32 (t : List Int) : Prop := t.length = 32 ∧ ∀ x ∈ t, 0 ≤ x ∧ x ≤ 255
def U64 (n : Int) : Prop := 0 ≤ n ∧ n ≤ 18446744073709551615
def trkC (t : List Int) : Array Value := (t.map (Value.int .u8)).toArray
def lotC (t : List Int) (g : Int) : Array Value := (t.map (Value.int .u8) ++ [Value.int .u64 g]).toArray
def keyC (t : List Int) (g n : Int) : Array Value := (t.map (Value.int .u8) ++ [Value.int .u64 g, Value.int .u64 n]).toArray
def z32 : List Int := List.replicate 32 0
theorem t32_zero : T32 z32 := ⟨by decide, fun x hx => by have := List.eq_of_mem_replicate hx; omega⟩
section
variable {t t' : List Int} {g n g' n' : Int}
theorem trk_size (h : T32 t) : (trkC t).size = 32 := by simp [trkC, h.1]
theorem lot_size (h : T32 t) : (lotC t g).size = 33 := by simp [lotC, h.1]
theorem key_size (h : T32 t) : (keyC t g n).size = 34 := by simp [keyC, h.1]
theorem map_u8_inj {a b : List Int} (h : a.map (Value.int .u8) = b.map (Value.int .u8)) : a = b := by
  have := congrArg (List.map (fun v => match v with | Value.int _ n => n | _ => 0)) h
  simpa [List.map_map, Function.comp_def] using this
theorem trk_inj (h : trkC t = trkC t') : t = t' := map_u8_inj (by simpa [trkC] using h)
theorem lot_inj (ht : T32 t) (ht' : T32 t') (h : lotC t g = lotC t' g') : t = t' ∧ g = g' := by
  have h1 : t.map (Value.int .u8) ++ [Value.int .u64 g] = t'.map (Value.int .u8) ++ [Value.int .u64 g'] := by simpa [lotC] using congrArg Array.toList h
  have h2 := List.append_inj h1 (by simp [ht.1, ht'.1])
  exact ⟨map_u8_inj h2.1, by simpa using h2.2⟩
theorem key_inj (ht : T32 t) (ht' : T32 t') (h : keyC t g n = keyC t' g' n') : t = t' ∧ g = g' ∧ n = n' := by
  have h1 : t.map (Value.int .u8) ++ [Value.int .u64 g, Value.int .u64 n] = t'.map (Value.int .u8) ++ [Value.int .u64 g', Value.int .u64 n'] := by simpa [keyC] using congrArg Array.toList h
  have h2 := List.append_inj h1 (by simp [ht.1, ht'.1])
  exact ⟨map_u8_inj h2.1, by simpa using h2.2⟩
theorem trk_one (t : List Int) : (trkC t).all (·.oneCell') = true := by
  rw [Array.all_eq_true_iff_forall_mem]; intro v hv; simp only [trkC, List.mem_toArray, List.mem_map] at hv; obtain ⟨x, _, rfl⟩ := hv; rfl
theorem lot_one (t : List Int) (g : Int) : (lotC t g).all (·.oneCell') = true := by
  rw [Array.all_eq_true_iff_forall_mem]; intro v hv; simp only [lotC, List.mem_toArray, List.mem_append, List.mem_map, List.mem_singleton] at hv; rcases hv with ⟨x, _, rfl⟩ | rfl <;> rfl
theorem key_one (t : List Int) (g n : Int) : (keyC t g n).all (·.oneCell') = true := by
  rw [Array.all_eq_true_iff_forall_mem]; intro v hv; simp only [keyC, List.mem_toArray, List.mem_append, List.mem_map, List.mem_cons, List.not_mem_nil, or_false] at hv; rcases hv with ⟨x, _, rfl⟩ | rfl | rfl <;> rfl
/-! what a key reads as -/
theorem mapM_isSome {α β : Type} {f : α → Option β} : ∀ (l : List α), (∀ x ∈ l, (f x).isSome = true) → (l.mapM f).isSome = true
  | [], _ => rfl
  | a :: l, h => by
    obtain ⟨y, hy⟩ := Option.isSome_iff_exists.1 (h a (by simp))
    obtain ⟨ys, hys⟩ := Option.isSome_iff_exists.1 (mapM_isSome l (fun x hx => h x (by simp [hx])))
    simp [List.mapM_cons, hy, hys]
theorem cells69 : Try.prog.cellsOf 69 = 32 := by kernel_rfl
theorem cells82 : Try.prog.cellsOf 82 = 32 := by kernel_rfl
theorem cells84 : Try.prog.cellsOf 84 = 33 := by kernel_rfl
theorem cells71 : Try.prog.cellsOf 71 = 34 := by kernel_rfl
theorem cells33 : Try.prog.cellsOf 33 = 2 := by kernel_rfl
theorem cells5 : Try.prog.cellsOf 5 = 1 := by kernel_rfl
theorem cells31 : Try.prog.cellsOf 31 = 1 := by kernel_rfl
theorem wf8 {x : Int} (h : 0 ≤ x ∧ x ≤ 255) : (Lit.int .u8 x).wf = true := by simp [Lit.wf, IntKind.min, IntKind.max, IntKind.bits, IntKind.signed]; omega
theorem wf64 {x : Int} (h : U64 x) : (Lit.int .u64 x).wf = true := by unfold U64 at h; simp [Lit.wf, IntKind.min, IntKind.max, IntKind.bits, IntKind.signed]; omega
theorem lits8 (d : Nat) {x : Int} (h : 0 ≤ x ∧ x ≤ 255) : (Try.prog.keyLits (d + 1) 5 [.int .u8 x]).isSome = true := by simp [Program.keyLits, Try.underlying5, wf8 h]
theorem lits64 (d : Nat) {x : Int} (h : U64 x) : (Try.prog.keyLits (d + 1) 31 [.int .u64 x]).isSome = true := by simp [Program.keyLits, Try.underlying31, wf64 h]
theorem lits_arr (d : Nat) (a : TypeId) (n : Nat) (hu : Try.prog.underlying a = some (.array 32 5)) (hc : Try.prog.cellsOf a = 32) (h : T32 t) : (Try.prog.keyLits (d + 2) a (t.map (Value.int .u8))).isSome = true := by
  unfold Program.keyLits
  simp only [hu]
  rw [if_pos (by rw [List.length_map, h.1, hc]), Option.isSome_map]
  refine mapM_isSome _ (fun i hi => ?_)
  have hi' : i < 32 := List.mem_range.1 hi
  rw [cells5, Nat.mul_one]
  have hl : i < t.length := by rw [h.1]; exact hi'
  have e : ((t.map (Value.int .u8)).drop i).take 1 = [.int .u8 t[i]] := by
    rw [List.drop_eq_getElem_cons (by rw [List.length_map]; exact hl), List.take_succ_cons, List.take_zero, List.getElem_map]
  rw [e]
  exact lits8 d (h.2 _ (List.getElem_mem hl))
theorem lits_place (d : Nat) (hg : U64 g) (hn : U64 n) : (Try.prog.keyLits (d + 2) 33 [.int .u64 g, .int .u64 n]).isSome = true := by
  unfold Program.keyLits
  simp only [Try.underlying33]
  rw [if_pos (by rw [cells33]; exact ⟨rfl, by simp⟩), Option.isSome_map]
  refine mapM_isSome _ (fun f hf => ?_)
  simp only [List.mem_cons, List.not_mem_nil, or_false] at hf
  rcases hf with rfl | rfl
  · exact lits64 d hg
  · exact lits64 d hn
theorem lits_lot (d : Nat) (h : T32 t) (hg : U64 g) : (Try.prog.keyLits (d + 3) 84 (lotC t g).toList).isSome = true := by
  unfold Program.keyLits
  simp only [Try.underlying84]
  have hs := lot_size (g := g) h
  rw [if_pos (by rw [cells84, Array.length_toList]; exact ⟨hs, by simp⟩), Option.isSome_map]
  refine mapM_isSome _ (fun f hf => ?_)
  simp only [List.mem_cons, List.not_mem_nil, or_false] at hf
  rcases hf with rfl | rfl
  · simp only [lotC, List.drop_zero, cells82]
    rw [List.take_left' (by rw [List.length_map, h.1])]
    exact lits_arr d 82 32 Try.underlying82 cells82 h
  · simp only [lotC, cells31]
    rw [List.drop_left' (by rw [List.length_map, h.1])]
    exact lits64 (d + 1) hg
theorem lits_key (d : Nat) (h : T32 t) (hg : U64 g) (hn : U64 n) : (Try.prog.keyLits (d + 3) 71 (keyC t g n).toList).isSome = true := by
  unfold Program.keyLits
  simp only [Try.underlying71]
  have hs := key_size (g := g) (n := n) h
  rw [if_pos (by rw [cells71, Array.length_toList]; exact ⟨hs, by simp⟩), Option.isSome_map]
  refine mapM_isSome _ (fun f hf => ?_)
  simp only [List.mem_cons, List.not_mem_nil, or_false] at hf
  rcases hf with rfl | rfl
  · simp only [keyC, List.drop_zero, cells69]
    rw [List.take_left' (by rw [List.length_map, h.1])]
    exact lits_arr d 69 32 Try.underlying69 cells69 h
  · simp only [keyC, cells33]
    rw [List.drop_left' (by rw [List.length_map, h.1])]
    exact lits_place d hg hn
theorem depth3 : ∃ d, Try.prog.types.size + 1 = d + 3 := ⟨Try.prog.types.size - 2, by have : 2 ≤ Try.prog.types.size := of_decide_eq_true (by kernel_rfl); omega⟩
theorem ok_lot (h : T32 t) (hg : U64 g) : KeyOk Try.prog 84 (.agg (lotC t g)) := by
  obtain ⟨d, hd⟩ := depth3
  obtain ⟨l, hl⟩ := Option.isSome_iff_exists.1 (lits_lot d h hg)
  have hs := lot_size (g := g) h
  have hk : Try.prog.keyType 84 = true := by kernel_rfl
  have hf : (Value.agg (lotC t g)).formed Try.prog 84 = true := by simp [Value.formed, Try.underlying84, cells84, hs]
  refine ⟨.string (keyBytes l), ?_⟩
  unfold keyOf
  simp only [Try.underlying84]
  rw [hd, hk, hf]
  simp [Value.cells, hl]
theorem ok_key (h : T32 t) (hg : U64 g) (hn : U64 n) : KeyOk Try.prog 71 (.agg (keyC t g n)) := by
  obtain ⟨d, hd⟩ := depth3
  obtain ⟨l, hl⟩ := Option.isSome_iff_exists.1 (lits_key d h hg hn)
  have hs := key_size (g := g) (n := n) h
  have hk : Try.prog.keyType 71 = true := by kernel_rfl
  have hf : (Value.agg (keyC t g n)).formed Try.prog 71 = true := by simp [Value.formed, Try.underlying71, cells71, hs]
  refine ⟨.string (keyBytes l), ?_⟩
  unfold keyOf
  simp only [Try.underlying71]
  rw [hd, hk, hf]
  simp [Value.cells, hl]
theorem ok_trk (h : T32 t) : KeyOk Try.prog 82 (.agg (trkC t)) := by
  obtain ⟨d, hd⟩ := depth3
  obtain ⟨l, hl⟩ := Option.isSome_iff_exists.1 (lits_arr (d + 1) 82 32 Try.underlying82 cells82 h)
  have hs := trk_size h
  have hk : Try.prog.keyType 82 = true := by kernel_rfl
  have hf : (Value.agg (trkC t)).formed Try.prog 82 = true := by simp [Value.formed, Try.underlying82, cells82, hs]
  refine ⟨.string (keyBytes l), ?_⟩
  unfold keyOf
  simp only [Try.underlying82]
  rw [hd, hk, hf]
  simp [Value.cells, trkC, hl]
theorem laidOutS : laidOutB Try.prog = true := by kernel_rfl
theorem law71 : Keyed Try.prog 71 := Keyed.of_law (deep_law_laid laidOutS (m := 3) (by omega) (of_decide_eq_true (by kernel_rfl)) (by kernel_rfl) (by rw [Try.underlying71]))
theorem law84 : Keyed Try.prog 84 := Keyed.of_law (deep_law_laid laidOutS (m := 3) (by omega) (of_decide_eq_true (by kernel_rfl)) (by kernel_rfl) (by rw [Try.underlying84]))
theorem law82 : Keyed Try.prog 82 := Keyed.of_law (deep_law_laid laidOutS (m := 3) (by omega) (of_decide_eq_true (by kernel_rfl)) (by kernel_rfl) (by rw [Try.underlying82]))
/-! equality -/
theorem eq_lot (ht : T32 t) (ht' : T32 t') (hg : U64 g) (hg' : U64 g') (w : World) : (Op.equal 84 (.agg (lotC t g)) (.agg (lotC t' g'))).run Try.prog w = .ok (decide (t = t' ∧ g = g')) w := by
  obtain ⟨l, hl⟩ := ok_lot ht hg
  obtain ⟨l', hl'⟩ := ok_lot ht' hg'
  obtain ⟨r, hr, hiff⟩ := run_equal_deep w (m := 3) (by omega) (k := 84) (by kernel_rfl) (by rw [Try.underlying84]) hl hl'
  rw [hr]
  congr 1
  rw [Bool.eq_iff_iff, hiff, decide_eq_true_eq]
  constructor
  · intro e
    subst e
    exact lot_inj ht ht' (by injection law84.inj hl hl')
  · rintro ⟨rfl, rfl⟩
    rw [hl] at hl'
    injection hl'
theorem eq_trk (ht : T32 t) (ht' : T32 t') (w : World) : (Op.equal 82 (.agg (trkC t)) (.agg (trkC t'))).run Try.prog w = .ok (decide (t = t')) w := by
  obtain ⟨l, hl⟩ := ok_trk ht
  obtain ⟨l', hl'⟩ := ok_trk ht'
  obtain ⟨r, hr, hiff⟩ := run_equal_deep w (m := 3) (by omega) (k := 82) (by kernel_rfl) (by rw [Try.underlying82]) hl hl'
  rw [hr]
  congr 1
  rw [Bool.eq_iff_iff, hiff, decide_eq_true_eq]
  constructor
  · intro e
    subst e
    exact trk_inj (by injection law82.inj hl hl')
  · rintro rfl
    rw [hl] at hl'
    injection hl'
end
theorem info71 : (Try.prog.info? 71).map (·.size) = some 34 := by kernel_rfl
theorem info84 : (Try.prog.info? 84).map (·.size) = some 33 := by kernel_rfl
theorem info82 : (Try.prog.info? 82).map (·.size) = some 32 := by kernel_rfl
theorem info69 : (Try.prog.info? 69).map (·.size) = some 32 := by kernel_rfl

end Go.Proofs.Ytiaabbflchdcbaa
