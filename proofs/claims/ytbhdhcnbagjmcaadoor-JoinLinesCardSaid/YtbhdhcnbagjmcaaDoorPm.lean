/- walks: the joiner's put (written by gen_pm.py) -/
import Derived.Test.YtbhdhcnbagjmcaaDoorPl
import Derived.Test.YtbhdhcnbagjmcaaDoorPq
import Derived.Deep.DeepAppendWide
import Derived.Laws.AppendOwnNone
namespace Go.Proofs.YtbhdhcnbagjmcaaDoor
open Go.RowKit Go.Maps Go.WideMaps
open Jn Lcl
theorem own_lit (w : World) (u : ByteArray) : OwnS (w.alloc (.cells #[.string u] 9)) w.heap.size (.slice (some ⟨w.heap.size, 0, none⟩) 1 1) [u] :=
  ⟨rfl, .inr ⟨_, 1, _, rfl, Nat.le_refl _, heap_alloc_new w _, Nat.le_refl _, by unfold maxLen; omega, rfl, rfl⟩⟩
theorem own_sl {w : World} {B : Nat} {v : Value} {L : List ByteArray} (h : OwnS w B v L) : ∃ a c, v = .slice a L.length c := by
  rcases h.2 with ⟨rfl, h0⟩ | ⟨g, c, cur, rfl, -⟩
  · exact ⟨none, 0, by rw [h0]⟩
  · exact ⟨_, _, rfl⟩
theorem own_cons {w : World} {B : Nat} {v : Value} {L : List ByteArray} (h : OwnS w B v L) (h0 : L ≠ []) : ∃ g n c, v = .slice (some ⟨g, 0, none⟩) n c ∧ L.length = n ∧ n ≤ c := by
  rcases h.2 with ⟨rfl, hx⟩ | ⟨g, c, cur, rfl, hb, hg, hn, r⟩
  · exact absurd (List.eq_nil_of_length_eq_zero hx) h0
  · exact ⟨g, _, c, rfl, rfl, hn⟩
theorem join_of (row : List (List UInt8)) (sp : List UInt8) (g n c B : Nat) (w W : World) (own : OwnS w B (.slice (some ⟨g, 0, none⟩) n c) (row.map bA)) (hn : (row.map bA).length = n) (hc : n ≤ c) (hl : (Lib.join row sp).length ≤ 140737488355328) (hr : row.length ≤ 140737488355328) (bel : Below w.heap.size w W) :
    Calls Tryd.prog 56 #[.slice (some ⟨g, 0, none⟩) n c, .string (bA sp)] W fun e w' => e = .returned (.string (bA (Lib.join row sp))) ∧ Hid (Below W.heap.size W w') := by
  subst hn
  have hlt := (own.lt g rfl).2
  have e : (row.map bA).map (·.data.toList) = row := by rw [List.map_map]; exact List.map_id _
  have h := Tryd.strings_Join g 0 c (row.map bA) (bA sp) W (fun j x hx => by
    have := own.cells (g := g) rfl j (.string x) (by rw [List.getElem?_map, hx]; rfl)
    rw [Go.WideShapes.add_plain] at this
    exact kp bel this) (Nat.lt_of_lt_of_le hlt bel.size) (by rw [List.length_map]; exact hr) hc (by rw [e]; exact hl)
  rw [e] at h
  exact h.mono fun _ _ ⟨h1, h2⟩ => ⟨h1, Lib.hid h2⟩
theorem sepL_len (sep : Int) : (sepL sep).length = 1 := by unfold sepL; split <;> rfl
theorem own_set {w : World} {B jb i : Nat} {v x : Value} {L : List ByteArray} (h : OwnS w B v L) (hj : jb < B) : OwnS (w.setCell ⟨jb, i, none⟩ x) B v L := by
  obtain ⟨h1, h2⟩ := h
  refine ⟨h1, ?_⟩
  rcases h2 with h2 | ⟨g, cap, cur, rfl, hB, hg, r⟩
  · exact .inl h2
  · exact .inr ⟨g, cap, cur, rfl, hB, by rw [Below.heap_setCell _ _ _ _ (by show g ≠ jb; omega)]; exact hg, r⟩
theorem own_b {w : World} {B : Nat} {v : Value} {L : List ByteArray} (h : OwnS w B v L) {g : Nat} (hg : v.ownBlock = some g) : B ≤ g ∧ g < w.heap.size := h.lt g hg
/-- append of a list of strings of the call's own -/
theorem append_listS {ops : Array Oper} {rest : List Oper} {o : Oper} {a : Act} {Q : Exit → Act → World → Prop} (hgd : o.guard = none) (s x : Operand)
    (ho : o.op = .call { callee := .builtin .append, args := #[s, x], argTypes := #[22, 22] }) (v v2 : Value) (L L2 : List ByteArray) (B B2 : Nat) (w wr : World)
    (own : OwnS wr B v L) (own2 : OwnS wr B2 v2 L2) (bel : Below B w wr) (hB : B ≤ wr.heap.size) (len : L.length + L2.length ≤ 1048577) (hs : a.eval s = v) (hx : a.eval x = v2)
    (h : ∀ v' w', Hid (OwnS w' B v' (L ++ L2)) → Hid (Below B w w') → wpList Tryd.prog ops Q rest (a.put o.dst v') w') : wpList Tryd.prog ops Q (o :: rest) a wr := by
  obtain ⟨i0, hi, hz0, hz1, hz2⟩ := info_parts infoS
  have own2' := own2
  rcases own2.2 with ⟨e2, hx0⟩ | ⟨g, cap, cur, e2, hb, hg, hn, hc, hs2, ht⟩
  · obtain rfl := List.eq_nil_of_length_eq_zero hx0
    subst e2
    refine wpList_append_own_none hgd s x 22 ho B 9 i0 1 Tryd.underlying22 hi v L.length (L.map Value.string) hs own hx ?_
    exact h v wr (Lib.hid (by rw [List.append_nil]; exact own)) (Lib.hid bel)
  · refine wpList_append_own_wide _ hgd s x 22 ho B 9 i0 (.string ⟨#[]⟩) 1 16 Tryd.underlying22 hi hz0 hz1 hz2 rfl (by decide) v L.length (L.map Value.string) hs own ⟨g, 0, none⟩ L2.length cap (L2.map Value.string) (hx.trans e2) (by rw [List.length_map, Nat.mul_one]) (own2'.cells (g := g) (by rw [e2]; rfl)) ?_ ?_ (by omega) hB ?_
    · intro u hu; obtain ⟨z, -, rfl⟩ := List.mem_map.1 hu; rfl
    · unfold maxLen; omega
    · intro v' w' h1 h2 _
      refine h v' w' (Lib.hid ?_) (Lib.hid (bel.grown h2 hB (fun k hk => (own.lt k hk).1)))
      show w'.ownsRow B 9 1 _ (L ++ L2).length ((L ++ L2).map Value.string)
      rw [List.length_append, List.map_append]; exact h1
/-- append of one string in a region that draws its order -/
theorem step_outS {ops : Array Oper} {o : Oper} {a : Act} {K : Act → World → Prop} {Q : Exit → Act → World → Prop} {E : Prop} (hgd : o.guard = none) (s x : Operand)
    (ho : o.op = .call { callee := .builtin .append, args := #[s, x], argTypes := #[22, 22] }) (v : Value) (L : List ByteArray) (u : ByteArray) (B : Nat) (wr : World)
    (own : OwnS wr B v L) (hB : B ≤ wr.heap.size) (len : L.length ≤ 1048576) (hs : a.eval s = v) (hx : a.eval x = .slice (some ⟨wr.heap.size, 0, none⟩) 1 1)
    (h : ∀ g cap w', OwnS w' B (.slice (some ⟨g, 0, none⟩) (L.length + 1) cap) (L ++ [u]) → wr.grownBy w' v.ownBlock → (v.ownBlock = some g ∨ wr.heap.size ≤ g) → g < w'.heap.size → K (a.put o.dst (.slice (some ⟨g, 0, none⟩) (L.length + 1) cap)) w') :
    if Region.wanted o (yielded ops a.tmps) = true then Oper.wp Tryd.prog o a (wr.alloc (.cells #[.string u] 9)) K Q else E := by
  obtain ⟨i0, hi, hz0, hz1, hz2⟩ := info_parts infoS
  refine step_append_lies _ hgd s x 22 ho B 9 i0 (.string ⟨#[]⟩) 1 16 Tryd.underlying22 hi hz0 hz1 hz2 rfl (by decide) v L.length (L.map Value.string) hs (own.alloc _) ⟨wr.heap.size, 0, none⟩ 1 1 [.string u] hx rfl ?_ ?_ (by omega) ?_ ?_ ?_ _ rfl ?_
  · intro j y hj
    rw [Go.WideShapes.add_plain, Nat.zero_add]
    match j, hj with
    | 0, hj => simp at hj; subst hj; exact blk_cellx (heap_alloc_new wr _) 0 _ rfl
  · intro y hy; simp at hy; subst hy; rfl
  · unfold maxLen; omega
  · omega
  · simp; omega
  · intro g cap w' h1 h2 h3 h4
    obtain ⟨q1, q2, q3, q4, q5⟩ := h2
    rw [World.size_alloc] at q4
    refine h g cap w' ?_ ⟨q1, q2, q3, by omega, fun i hi hp => ?_⟩ ?_ h4
    · have e : L.map Value.string ++ [.string u] = (L ++ [u]).map Value.string := by simp
      rw [e] at h1
      show w'.ownsRow B 9 1 _ (L ++ [u]).length ((L ++ [u]).map Value.string)
      rw [List.length_append]; exact h1
    · rw [q5 i (by rw [World.size_alloc]; omega) hp]
      exact heap_alloc_old wr _ hi
    · rcases h3 with h3 | h3
      · exact .inl h3
      · right; rw [h3, World.size_alloc]; omega
/-- but for the joiner's block, the map's and what is younger than B all is as it was -/
structure JG (jb mb B : Nat) (w w' : World) : Prop where
  os : w'.os = w.os
  tape : w'.tape = w.tape
  output : w'.output = w.output
  size : w.heap.size ≤ w'.heap.size
  block : ∀ i, i < B → i ≠ jb → i ≠ mb → w'.heap[i]? = w.heap[i]?
theorem JG.refl (jb mb B : Nat) (w : World) : JG jb mb B w w := ⟨rfl, rfl, rfl, Nat.le_refl _, fun _ _ _ _ => rfl⟩
theorem JG.trans {jb mb B : Nat} {a b c : World} (h : JG jb mb B a b) (k : JG jb mb B b c) : JG jb mb B a c :=
  ⟨k.os.trans h.os, k.tape.trans h.tape, k.output.trans h.output, Nat.le_trans h.size k.size, fun i h1 h2 h3 => (k.block i h1 h2 h3).trans (h.block i h1 h2 h3)⟩
theorem JG.map {jb mb B : Nat} {w w' : World} (h : w.grownBy w' (some mb)) (hB : B ≤ w.heap.size) : JG jb mb B w w' :=
  ⟨h.os, h.tape, h.output, h.size, fun i h1 _ h3 => h.block i (by omega) (fun e => h3 (Option.some.inj e))⟩
theorem JG.below {jb mb B : Nat} {w w' : World} (h : Below w.heap.size w w') (hB : B ≤ w.heap.size) : JG jb mb B w w' :=
  ⟨h.os, h.tape, h.output, h.size, fun i h1 _ _ => h.block i (by omega)⟩
theorem JG.cell {jb mb B : Nat} {w w' : World} (h : JG jb mb B w w') {b i : Nat} {v : Value} (hb : b < B) (h1 : b ≠ jb) (h2 : b ≠ mb) (hc : w.cell? ⟨b, i, none⟩ = some v) : w'.cell? ⟨b, i, none⟩ = some v := by
  simp only [World.cell?, h.block b hb h1 h2]; exact hc
/-- the joiner with another out -/
theorem JS.setout {f1 f2 sep m : Int} {lf rt pr : Bool} {em : ByteArray} {vo vout v' : Value} {vb pb jb mb n B g : Nat} {X : Option Nat} {w w4 : World} (h : JS f1 f2 sep m lf rt pr em vo vout vb pb jb mb B X n w)
    (hg : w.grownBy w4 X) (hgX : X = some g ∨ w.heap.size ≤ g) (hlt : g < w4.heap.size) : JS f1 f2 sep m lf rt pr em vo v' vb pb jb mb B (some g) n (w4.setCell ⟨jb, 9, none⟩ v') ∧ JG jb mb B w (w4.setCell ⟨jb, 9, none⟩ v') := by
  have nx : ∀ i, i < B → some i ≠ X := fun i hi e => by have := (h.hX i e.symm).1; omega
  have hk : ∀ i, i < B → i ≠ jb → (w4.setCell ⟨jb, 9, none⟩ v').heap[i]? = w.heap[i]? := fun i hi hj => (Below.heap_setCell _ _ _ _ hj).trans (hg.block i (Nat.lt_of_lt_of_le hi h.bw) (nx i hi))
  have hsz : w.heap.size ≤ (w4.setCell ⟨jb, 9, none⟩ v').heap.size := by simpa [World.setCell] using hg.size
  have hce : ∀ {b i : Nat} {v : Value}, b < B → b ≠ jb → w.cell? ⟨b, i, none⟩ = some v → (w4.setCell ⟨jb, 9, none⟩ v').cell? ⟨b, i, none⟩ = some v := fun {b i v} hb hj hc => by
    simp only [World.cell?, hk b hb hj]; exact hc
  refine ⟨⟨hce h.bMax h.nm2 h.hm, ?_, hce h.bv h.njv h.hv, (hk pb h.bp h.njp).trans h.hp, ?_, h.nv, h.np, h.nj, h.nm, h.nm2, h.njv, h.njp, h.bm, h.bv, h.bp, h.bj, h.bMax, Nat.le_trans h.bw hsz, fun g' e => ?_⟩, ⟨hg.os, hg.tape, hg.output, hsz, fun i h1 h2 _ => hk i h1 h2⟩⟩
  · have e0 : w4.heap[jb]? = some (.cells (jcells f1 f2 sep lf rt pr em vo mb vout) 64 (0, 0)) := (hg.block jb (Nat.lt_of_lt_of_le h.bj h.bw) (nx jb h.bj)).trans h.hj
    simp only [World.setCell, Array.getElem?_modify, e0, if_pos, Option.map_some]; rfl
  · refine h.hc.kept (hk mb h.bm h.nj.symm) hsz (fun i hi hlt hne => ?_) ?_
    · by_cases e : i = jb
      · subst e; have := h.bj; omega
      · exact (Below.heap_setCell _ _ _ _ e).trans (hg.block i hlt (fun e => hne e.symm))
    · rcases hgX with e | e
      · exact .inl e.symm
      · exact .inr (fun g' e' => by cases e'; exact e)
  · cases e
    refine ⟨?_, by simpa [World.setCell] using hlt⟩
    rcases hgX with e | e
    · exact (h.hX g e).1
    · have := h.bw; omega
/-- the row that is printed, from the lists of fields -/
def rowG (p : Sp) (XL YL : List (List UInt8)) (key : List UInt8) : List (List UInt8) :=
  if p.out = [] then key :: (othL p.f1 0 XL ++ othL p.f2 0 YL) else p.out.map (outF p XL YL key)
theorem putL_G (p : Sp) (a b : Option (List UInt8)) : putL p a b = Lib.join (rowG p (xO p a) (xO p b) (keyO p a b)) (sepL p.sep) := rfl
theorem RowsAt.kept {w w' : World} {v : Value} {k : Nat} {l : List (List Value)} (h : RowsAt w v k l) (hb : l ≠ [] → ∀ g, v.ownBlock = some g → w'.heap[g]? = w.heap[g]?) (hs : w.heap.size ≤ w'.heap.size) : RowsAt w' v k l := by
  obtain ⟨a, cap, rfl, h1, h2, h3⟩ := h
  refine ⟨a, cap, rfl, h1, h2, ?_⟩
  rcases h3 with h3 | ⟨g, o, rfl, hg, hc⟩
  · exact .inl h3
  · refine .inr ⟨g, o, rfl, Nat.lt_of_lt_of_le hg hs, fun j x hj i y hi => ?_⟩
    have := hc j x hj i y hi
    simp only [World.cell?, hb (fun e => by rw [e] at hj; simp at hj) g rfl] at this ⊢
    exact this
theorem join_len (l : List (List UInt8)) (s : List UInt8) (k : Nat) (h : ∀ x ∈ l, x.length ≤ k) : (Lib.join l s).length ≤ l.length * (k + s.length) := by
  cases l with
  | nil => simp [Lib.join]
  | cons x r =>
    have : ∀ r : List (List UInt8), (∀ x ∈ r, x.length ≤ k) → (r.flatMap fun y => s ++ y).length ≤ r.length * (k + s.length) := by
      intro r
      induction r with
      | nil => intro _; simp
      | cons y t ih =>
        intro h
        have h1 := h y List.mem_cons_self
        have h2 := ih (fun z hz => h z (List.mem_cons_of_mem _ hz))
        rw [List.flatMap_cons, List.length_append, List.length_append, List.length_cons, Nat.succ_mul]; omega
    have h1 := h x List.mem_cons_self
    have h2 := this r (fun z hz => h z (List.mem_cons_of_mem _ hz))
    rw [join_cons, List.length_append, List.length_cons, Nat.succ_mul]; omega
theorem othL_mem {n : Int} {x : List UInt8} : ∀ {l : List (List UInt8)} {i : Nat}, x ∈ othL n i l → x ∈ l
  | [], _, h => h
  | y :: r, i, h => by
    by_cases hi : (i : Int) + 1 = n
    · rw [othL_hit hi] at h; exact List.mem_cons_of_mem _ (othL_mem h)
    · rw [othL_no hi] at h
      rcases List.mem_cons.1 h with rfl | h
      · exact List.mem_cons_self
      · exact List.mem_cons_of_mem _ (othL_mem h)
theorem rowG_sz {p : Sp} {XL YL : List (List UInt8)} {key : List UInt8} (hx : ∀ x ∈ XL, x.length ≤ 60) (hy : ∀ x ∈ YL, x.length ≤ 60) (hk : key.length ≤ 60) (he : p.empty.length ≤ 60) : ∀ x ∈ rowG p XL YL key, x.length ≤ 60 := by
  intro x h
  unfold rowG at h
  split at h
  · rcases List.mem_cons.1 h with rfl | h
    · exact hk
    · rcases List.mem_append.1 h with h | h
      · exact hx _ (othL_mem h)
      · exact hy _ (othL_mem h)
  · obtain ⟨o, -, rfl⟩ := List.mem_map.1 h
    unfold outF
    by_cases h1 : o.1 = 1
    · simp only [if_pos h1]; split
      · exact he
      · exact getL_sz hx _
    · by_cases h2 : o.1 = 2
      · simp only [if_neg h1, if_pos h2]; split
        · exact he
        · exact getL_sz hy _
      · simp only [if_neg h1, if_neg h2]; split
        · exact he
        · exact hk
theorem rowG_len {p : Sp} {XL YL : List (List UInt8)} {key : List UInt8} (hx : XL.length ≤ 61) (hy : YL.length ≤ 61) (ho : p.out.length ≤ 40) : (rowG p XL YL key).length ≤ 123 := by
  unfold rowG
  split
  · rw [List.length_cons, List.length_append]
    have := othL_len p.f1 XL 0
    have := othL_len p.f2 YL 0
    omega
  · rw [List.length_map]; omega
theorem fieldsL_len (sep : Int) (l : List UInt8) : (fieldsL sep l).length ≤ l.length + 1 := by
  unfold fieldsL
  split
  · exact spA_len _ _ _
  · exact wdA_len _ _
theorem fieldsL_61 (sep : Int) {s : ByteArray} (h : s.size ≤ 60) : (fieldsL sep s.data.toList).length ≤ 61 := by
  have h1 := fieldsL_len sep s.data.toList
  have h2 : s.data.toList.length = s.size := by simp
  omega
theorem rowG_ne (p : Sp) (XL YL : List (List UInt8)) (key : List UInt8) : rowG p XL YL key ≠ [] := by
  unfold rowG
  split
  · exact List.cons_ne_nil _ _
  · rename_i h; exact fun e => h (List.map_eq_nil_iff.1 e)
end Go.Proofs.YtbhdhcnbagjmcaaDoor
