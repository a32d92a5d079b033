/-
  ShelfBounds: what was put, in memory. No condition.
-/
import Derived.Test.YtiaabbflchdcbaaSbk
import Derived.Test.YtiaabbflchdcbaaSbp
namespace Go.Proofs.Ytiaabbflchdcbaa
open Go.RowKit
set_option linter.unusedVariables false
set_option linter.unusedSimpArgs false

open Go.MapKept Go.ChangeMaps
open Go.Maps (Keyed)
section
variable {P : Program} {k e t : TypeId} {w : World} {b : Nat} {L : List (Value × Value)}
/-- 'm[k] += x' at a key that is there: the entry, then the store. -/
theorem KM.entry_oldv {A B : List (Value × Value)} {key v0 : Value} (h : KM P k w b (A ++ (key, v0) :: B)) (K : Keyed P k) (ht : P.underlying t = some (.map k e)) :
    ∃ (st : Int) (w' : World), (Instr.mapEntry t (.map (some b)) key).run P w = .ok (.tuple #[v0, .int .i64 st]) w' ∧ KM P k w' b (A ++ (key, v0) :: B) ∧ w.grownBy w' (some b) ∧ w'.heap.size = w.heap.size ∧
      ∀ (v : Value) (W : World), W.heap[b]? = w'.heap[b]? → ∃ W', (Instr.entryStore t (.map (some b)) (.int .i64 st) v).run P W = .ok () W' ∧ KM P k W' b (A ++ (key, v) :: B) ∧ W.grownBy W' (some b) ∧ W'.heap.size = W.heap.size := by
  have hd := h.apart
  obtain ⟨es, clock, hb, hS, hL, hk⟩ := h
  have hkey : KeyOk P k key := hk (key, v0) (by simp)
  have hk2 : ∀ x ∈ ents es.toList, KeyOk P k x.1 := by rw [hL]; exact hk
  rcases km_find K hk2 hkey w with ⟨h1, h2⟩ | ⟨j, e0, h1, h2, h3⟩
  · exact absurd rfl (h2 (key, v0) (by rw [hL]; simp))
  · obtain ⟨kl, hkl⟩ := hkey
    have hj : es[j]? = some e0 := by simpa using h2
    have hjl : j < es.toList.length := (List.getElem?_eq_some_iff.1 h2).1
    have hjA : j = A.length := by
      refine nodup_mid (v' := e0.val) hd ?_
      rw [← hL]
      simp [ents, hj, h3]
    have hv0 : e0.val = v0 := by
      have : (ents es.toList)[j]? = some (e0.key, e0.val) := by simp [ents, hj]
      rw [hL, hjA] at this
      simp at this
      exact this.2.symm
    have hm : es.modify j (fun e => { e with key := key }) = es := modify_same _ hj (by rw [← h3])
    have hb1 : (setBlock w b (.map es clock)).heap[b]? = some (.map es clock) := heap_setBlock_same hb _
    refine ⟨e0.born, setBlock w b (.map es clock), ?_, ⟨es, clock, hb1, hS, hL, hk⟩, grown_block hb, by simp [setBlock], fun v W hW => ?_⟩
    · simp [Instr.mapEntry, run_underlying ht, MapKept.run_getObj_map hb, K.check w false hkl, h1, hj, h3, K.stays w hkl, MapKept.run_setObj_map _ hb, Result.andThen, setBlock, hm, hv0, goInt]
    · have hbW : W.heap[b]? = some (.map es clock) := by rw [hW, hb1]
      refine ⟨_, run_mstore hbW hS.2.1 h2 v, ⟨es.modify j fun e => { e with val := v }, clock, heap_setBlock_same hbW _, stamped_modify hS _ _ (fun _ _ => rfl) (fun _ _ _ => rfl), ?_, ?_⟩, grown_block hbW, by simp [setBlock]⟩
      · unfold ents at hL ⊢
        rw [Array.toList_modify, modify_eq_set _ _ _ _ h2, List.map_set, hL, hjA]
        simp [h3]
      · intro x hx
        simp only [List.mem_append, List.mem_cons] at hx
        rcases hx with hx | rfl | hx
        · exact hk x (by simp [hx])
        · exact ⟨kl, hkl⟩
        · exact hk x (by simp [hx])
/-- .. at a key that isn't there. -/
theorem KM.entry_newv (h : KM P k w b L) (K : Keyed P k) (ht : P.underlying t = some (.map k e)) {z : Value} (hz : (zeroValue e).run P w = .ok z w) {key : Value} (hkey : KeyOk P k key) (hn : ∀ x ∈ L, x.1 ≠ key) :
    ∃ (st : Int) (w' : World), (Instr.mapEntry t (.map (some b)) key).run P w = .ok (.tuple #[z, .int .i64 st]) w' ∧ KM P k w' b (L ++ [(key, z)]) ∧ w.grownBy w' (some b) ∧ w'.heap.size = w.heap.size ∧
      ∀ (v : Value) (W : World), W.heap[b]? = w'.heap[b]? → ∃ W', (Instr.entryStore t (.map (some b)) (.int .i64 st) v).run P W = .ok () W' ∧ KM P k W' b (L ++ [(key, v)]) ∧ W.grownBy W' (some b) ∧ W'.heap.size = W.heap.size := by
  obtain ⟨es, clock, hb, hS, rfl, hk⟩ := h
  rcases km_find K hk hkey w with ⟨h1, h2⟩ | ⟨j, e0, h1, h2, h3⟩
  · have hkey' := hkey
    obtain ⟨kl, hkl⟩ := hkey
    have hS2 : Stamped (es.push ⟨key, z, clock⟩) (clock + 1) := stamped_push hS (fun x hx => h2 (x.key, x.val) (List.mem_map.2 ⟨x, hx, rfl⟩))
    have hb1 : (setBlock w b (.map (es.push ⟨key, z, clock⟩) (clock + 1))).heap[b]? = some (.map (es.push ⟨key, z, clock⟩) (clock + 1)) := heap_setBlock_same hb _
    have hkk : ∀ u, ∀ x ∈ ents es.toList ++ [(key, u)], KeyOk P k x.1 := fun u x hx => by
      rcases List.mem_append.1 hx with hx | hx
      · exact hk x hx
      · simp only [List.mem_singleton] at hx
        subst hx
        exact hkey'
    refine ⟨clock, setBlock w b (.map (es.push ⟨key, z, clock⟩) (clock + 1)), ?_, ⟨_, _, hb1, hS2, by simp [ents], hkk z⟩, grown_block hb, by simp [setBlock], fun v W hW => ?_⟩
    · simp [Instr.mapEntry, run_underlying ht, MapKept.run_getObj_map hb, K.check w false hkl, h1, hz, MapKept.run_setObj_map _ hb, Result.andThen, setBlock, goInt]
    · have hbW := hW.trans hb1
      have hl : (es.push ⟨key, z, clock⟩).toList[es.toList.length]? = some ⟨key, z, clock⟩ := by simp
      refine ⟨_, run_mstore hbW hS2.2.1 hl v, ⟨_, _, heap_setBlock_same hbW _, stamped_modify hS2 _ _ (fun _ _ => rfl) (fun _ _ _ => rfl), ?_, hkk v⟩, grown_block hbW, by simp [setBlock]⟩
      unfold ents
      rw [Array.toList_modify, modify_eq_set _ _ _ _ hl, List.map_set, Array.toList_push, List.map_append]
      simp
  · exact absurd h3 (hn (e0.key, e0.val) (List.mem_map.2 ⟨e0, List.mem_of_getElem? h2, rfl⟩))
end
/-- One group that was put: its row's value, its objects with their bytes. -/
structure MR where
  r : GR
  v : Value
  W : List (En × Value)
def mkv (m : MR) : Value × Value := (.agg (nkC (bstr m.r.k) m.r.g), m.v)
/-- The map of block pm is ML. -/
structure PM (w : World) (pm B : Nat) (ML : List MR) : Prop where
  km : KM Try.prog 46 w pm (ML.map mkv)
  row : ∀ m ∈ ML, OW w B m.v m.W ∧ m.W.map (·.1) = m.r.L
  ap : ML.Pairwise (fun a b => a.v.ownBlock ≠ b.v.ownBlock)
/-- What was put is right for the shelf. -/
def MOk (s : PS) (ML : List MR) : Prop := ∀ m ∈ ML, m.r.Ok s
theorem PM.below {w w' : World} {pm B : Nat} {ML : List MR} (h : PM w pm B ML) (hb : Below w.heap.size w w') : PM w' pm B ML :=
  ⟨h.km.below hb, fun m hm => ⟨(h.row m hm).1.below hb, (h.row m hm).2⟩, h.ap⟩
theorem KM.kx {P : Program} {k : TypeId} {w w' : World} {b lb zb tb : Nat} {L : List (Value × Value)} (h : KM P k w b L) (hx : KX lb zb tb w w') (h1 : b ≠ lb) (h2 : b ≠ zb) (h3 : b ≠ tb) : KM P k w' b L := by
  obtain ⟨es, clock, hb, x⟩ := h
  exact ⟨es, clock, hx.2.2.2.2 b _ hb h1 h2 h3 (fun cs t e => by cases e), x⟩
theorem OW.kx {w w' : World} {B B' sb lb zb tb : Nat} {room : Int} {s : PS} {v : Value} {L : List (En × Value)} (h : OW w B v L) (hS : HS w B' sb lb zb tb room s) (hx : KX lb zb tb w w') : OW w' B v L :=
  ⟨own_kx h.row hS hx (by decide) (by decide), fun y hy => (h.dat y hy).kx hS hx⟩
theorem PM.kx {w w' : World} {pm B B' sb lb zb tb : Nat} {room : Int} {s : PS} {ML : List MR} (h : PM w pm B ML) (hS : HS w B' sb lb zb tb room s) (hx : KX lb zb tb w w') (h1 : pm ≠ lb) (h2 : pm ≠ zb) (h3 : pm ≠ tb) : PM w' pm B ML :=
  ⟨h.km.kx hx h1 h2 h3, fun m hm => ⟨(h.row m hm).1.kx hS hx, (h.row m hm).2⟩, h.ap⟩
theorem PM.nil (w : World) (B : Nat) : PM (w.alloc (.map #[] 0)) w.heap.size B [] := ⟨km_made _ _ _, fun m hm => (by cases hm), List.Pairwise.nil⟩
/-- A row stays while another one turns. -/
theorem OW.grown {w w' : World} {B : Nat} {v u : Value} {L : List (En × Value)} {base n size : Nat} {e : TypeId} {xs : List Value} (h : OW w B v L) (ho : w.ownsRow base e size u n xs) (hg : w.grownBy w' u.ownBlock) (hne : u.ownBlock = none ∨ v.ownBlock ≠ u.ownBlock) (h5 : e ≠ 5) : OW w' B v L :=
  ⟨own_grown h.row hg hne, fun y hy => rdt_own (h.dat y hy) ho hg h5⟩
/-- Rows stay while a map turns. -/
theorem OW.map {w w' : World} {B : Nat} {v : Value} {L : List (En × Value)} {P : Program} {k : TypeId} {b : Nat} {M : List (Value × Value)} (h : OW w B v L) (hm : KM P k w b M) (hg : w.grownBy w' (some b)) : OW w' B v L := by
  refine ⟨own_grown h.row hg (.inr (own_km_ne h.row hm)), fun y hy => ?_⟩
  obtain ⟨es, clock, hb⟩ := hm.blk
  exact rdt_map (h.dat y hy) hb hg
/-- The shelf stays while another map turns. -/
theorem HS.map {w w' : World} {B sb lb zb tb : Nat} {room : Int} {s : PS} {P : Program} {k : TypeId} {b : Nat} {M : List (Value × Value)} (h : HS w B sb lb zb tb room s) (hm : KM P k w b M) (hg : w.grownBy w' (some b)) (h1 : b ≠ lb) (h2 : b ≠ zb) (h3 : b ≠ tb) : HS w' B sb lb zb tb room s := by
  obtain ⟨lv, E, hE, hS⟩ := h
  obtain ⟨es, clock, hb⟩ := hm.blk
  exact ⟨lv, E, hE, { hS with blk := hS.blk.grown hg (by simpa using blk_km_ne hS.blk hm), kl := hS.kl.kept hg (by simpa using Ne.symm h1), lr := own_grown hS.lr hg (.inr (own_km_ne hS.lr hm)), kz := hS.kz.kept hg (by simpa using Ne.symm h2), kt := hS.kt.kept hg (by simpa using Ne.symm h3), dat := fun x hx => rdt_map (hS.dat x hx) hb hg }⟩
theorem bstr_size (l : List Int) : (bstr l).size = l.length := by
  show (bstr l).data.size = _
  rw [← Array.length_toList, bstr_data, List.length_map]
/-- Bytes of a name, of its text. -/
theorem bstr_back {l : List Int} (h : BytesOk l) : (bstr l).data.toList.map (fun b => (b.toNat : Int)) = l := by
  rw [bstr_data, List.map_map]
  conv => rhs; rw [← List.map_id l]
  refine List.map_congr_left (fun x hx => ?_)
  have := h x hx
  show ((UInt8.ofNat x.toNat).toNat : Int) = x
  rw [UInt8.toNat_ofNat']
  omega
theorem conv_runS (s : ByteArray) (W : World) : (convert 9 30 (.string s)).run Try.prog W = .ok (.slice (some ⟨W.heap.size, 0, none⟩) s.size (grownCap W s.size 0 5)) (Lib.bytesWorld W 5 s) :=
  Lib.run_convert_string_bytes W 9 30 5 s Try.underlying9 Try.underlying30 Try.underlying5
theorem convS_below (s : ByteArray) (W : World) : Below W.heap.size W (Lib.bytesWorld W 5 s) :=
  ⟨rfl, rfl, rfl, by rw [Lib.bytesWorld_size]; omega, fun i hi => Lib.bytesWorld_at_old W 5 _ i hi⟩
theorem convS_rdf {l : List Int} (h : BytesOk l) (hl : l.length ≤ 1000) (W : World) : RdF (Lib.bytesWorld W 5 (bstr l)) (.slice (some ⟨W.heap.size, 0, none⟩) l.length (grownCap W l.length 0 5)) l := by
  have hs := bstr_size l
  refine ⟨⟨_, _, rfl, grownCap_ge W _ 0 5, grownCap_le_maxLen W _ 0 5 (by unfold maxLen; omega), fun e => (by cases e), fun i hi => ⟨W.heap.size, 0, rfl, by rw [Lib.bytesWorld_size]; omega, fun j hj => ?_⟩⟩, fun a n c e => ?_⟩
  · have hj0 : j = 0 := by omega
    subst hj0
    have h1 := Lib.bytesWorld_cell W 5 (bstr l) i (by rw [hs]; exact hi)
    have h2 := congrArg (fun z => z.getD i 0) (bstr_back h)
    simp only [List.getD, List.getElem?_map] at h2
    rw [show 0 + (i * 1 + 0) = i by omega, h1]
    congr 2
    have hi2 : i < (bstr l).data.toList.length := by
      have := congrArg List.length (bstr_data l)
      simp only [List.length_map] at this
      omega
    simp only [List.getElem?_eq_getElem hi2, Option.map_some, Option.getD_some] at h2
    simp only [List.getD, List.getElem?_eq_getElem hi2, Option.getD_some]
    exact h2
  · simp only [Value.slice.injEq, Option.some.injEq] at e
    obtain ⟨rfl, _⟩ := e
    exact ⟨_, _, Lib.bytesWorld_at_new W 5 (bstr l)⟩
/-- Block k holds no cells (a map, a loop over one). -/
def NC (w : World) (k : Nat) : Prop := ∀ cs t fr, w.heap[k]? ≠ some (.cells cs t fr)
section
variable {w w' : World} {k : Nat}
theorem KM.nc {P : Program} {kt : TypeId} {b : Nat} {L : List (Value × Value)} (h : KM P kt w b L) : NC w b := fun cs t fr e => by
  obtain ⟨es, c, hb⟩ := h.blk
  rw [hb] at e; cases e
theorem Blk.nc {g : Nat} {t : TypeId} {cs : Array Value} (h : Blk w g t cs) (hk : NC w k) (hg : w.grownBy w' (some k)) : Blk w' g t cs :=
  h.grown hg (fun e => by simp only [Option.some.injEq] at e; subst e; exact hk _ _ _ h)
theorem own_nc {base n size : Nat} {e : TypeId} {v : Value} {xs : List Value} (h : w.ownsRow base e size v n xs) (hk : NC w k) (hg : w.grownBy w' (some k)) : w'.ownsRow base e size v n xs := by
  refine own_grown h hg (.inr fun e2 => ?_)
  rcases h.2 with ⟨rfl, _⟩ | ⟨g', cap, cur, rfl, _, hh, _⟩
  · simp [Value.ownBlock] at e2
  · simp only [Value.ownBlock, Option.some.injEq] at e2
    subst e2
    exact hk _ _ _ hh
theorem RdT.nc {v : Value} {l : List Int} (h : RdT w v l) (hk : NC w k) (hg : w.grownBy w' (some k)) : RdT w' v l := h.kept hg (fun b hb e => by
  simp only [Option.some.injEq] at e
  subst e
  rcases h.shape with ⟨cap, e, _⟩ | ⟨b', off, cap, cs, e, k1, _⟩
  · rw [e] at hb; simp [Value.ownBlock] at hb
  · rw [e] at hb
    simp only [Value.ownBlock, Option.some.injEq] at hb
    subst hb
    exact hk _ _ _ k1)
theorem RdF.nc {v : Value} {l : List Int} (h : RdF w v l) (hk : NC w k) (hg : w.grownBy w' (some k)) : RdF w' v l :=
  h.keep hg.size (fun b cs fr hb => (hg.block b (Array.getElem?_eq_some_iff.1 hb).1 (fun e => by simp only [Option.some.injEq] at e; subst e; exact hk _ _ _ hb)).trans hb)
theorem OW.nc {B : Nat} {v : Value} {L : List (En × Value)} (h : OW w B v L) (hk : NC w k) (hg : w.grownBy w' (some k)) : OW w' B v L := ⟨own_nc h.row hk hg, fun y hy => (h.dat y hy).nc hk hg⟩
theorem HS.nc {B sb lb zb tb : Nat} {room : Int} {s : PS} (h : HS w B sb lb zb tb room s) (hk : NC w k) (hg : w.grownBy w' (some k)) (h1 : k ≠ lb) (h2 : k ≠ zb) (h3 : k ≠ tb) : HS w' B sb lb zb tb room s := by
  obtain ⟨lv, E, hE, hS⟩ := h
  exact ⟨lv, E, hE, { hS with blk := hS.blk.nc hk hg, kl := hS.kl.kept hg (by simpa using Ne.symm h1), lr := own_nc hS.lr hk hg, kz := hS.kz.kept hg (by simpa using Ne.symm h2), kt := hS.kt.kept hg (by simpa using Ne.symm h3), dat := fun x hx => (hS.dat x hx).nc hk hg }⟩
theorem HS.ne_it {B sb lb zb tb : Nat} {room : Int} {s : PS} {o : Option Nat} {q : Nat} {seen : Array Nat} {c : Nat} (h : HS w B sb lb zb tb room s) (hr : w.heap[k]? = some (.mapIter o q seen c)) : k ≠ lb ∧ k ≠ zb ∧ k ≠ tb := by
  obtain ⟨lv, E, hE, hS⟩ := h
  have key : ∀ {kt : TypeId} {b : Nat} {L : List (Value × Value)}, KM Try.prog kt w b L → k ≠ b := fun hm e => by
    subst e
    obtain ⟨es, c, hb⟩ := hm.blk
    rw [hb] at hr; cases hr
  exact ⟨key hS.kl, key hS.kz, key hS.kt⟩
end
theorem mkv_mid {E : List MR} {A B : List (Value × Value)} {v : Value × Value} (h : E.map mkv = A ++ v :: B) : ∃ A' y B', E = A' ++ y :: B' ∧ A = A'.map mkv ∧ v = mkv y ∧ B = B'.map mkv := by
  obtain ⟨l1, l2, h1, h2, h3⟩ := List.map_eq_append_iff.1 h
  obtain ⟨y, l3, h4, h5, h6⟩ := List.map_eq_cons_iff.1 h3
  exact ⟨l1, y, l3, by rw [h1, h4], h2.symm, h5.symm, h6.symm⟩
theorem infoKT : (Try.prog.info? 46).map (·.size) = some 2 := by kernel_rfl
theorem OW.cell {w : World} {B rb n rc : Nat} {LV : List (En × Value)} (h : OW w B (.slice (some ⟨rb, 0, none⟩) n rc) LV) {i j : Nat} (hi : i < LV.length) (hj : j < 5) : w.cell? ⟨rb, i * 5 + j, none⟩ = (oc5 LV[i])[j]? := by
  rcases h.row.2 with ⟨e, _⟩ | ⟨g', cap, cur, e, _, hb, hn, hc, hs, htk⟩
  · cases e
  · simp only [Value.slice.injEq, Option.some.injEq, Addr.mk.injEq, and_true] at e
    obtain ⟨rfl, _, _⟩ := e
    have h1 := flat5_at hi hj
    rw [← htk, List.getElem?_take, if_pos (by omega)] at h1
    rw [cell_of_row w rb _ cur 35 (0, 0) hb, ← Array.getElem?_toList]
    exact h1

end Go.Proofs.Ytiaabbflchdcbaa
