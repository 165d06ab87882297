/- lists of strings in memory, told as lists of bytes; appends; the words of FieldsFunc -/
import Derived.Test.YtbhdhcnbagjmcaaDoorStrs
import Derived.Test.YtbhdhcnbagjmcaaDoorPa
import Derived.Deep.AppendLies
import Derived.Deep.RegionLaw
import Derived.Lib.FieldsP
import Derived.Laws.RangeAny
import Derived.Laws.RangeString
namespace Go.Proofs.YtbhdhcnbagjmcaaDoor
open Go.RowKit
open Jn
abbrev bA (l : List UInt8) : ByteArray := ⟨l.toArray⟩
theorem bA_data (s : ByteArray) : bA s.data.toList = s := by cases s; simp
theorem kp {w w' : World} (h : Below w.heap.size w w') {b i : Nat} {v : Value} (hc : w.cell? ⟨b, i, none⟩ = some v) : w'.cell? ⟨b, i, none⟩ = some v := by
  refine (h.cell (p := ⟨b, i, none⟩) ?_).trans hc
  refine Decidable.byContradiction fun hn => ?_
  simp [World.cell?, Array.getElem?_eq_none (Nat.le_of_not_lt hn)] at hc
/-- a list of strings behind a value -/
def LSt (w : World) (v : Value) (L : List (List UInt8)) : Prop := Strs w v (L.map bA)
theorem LSt.below {w w' : World} {v : Value} {L : List (List UInt8)} (h : LSt w v L) (hb : Below w.heap.size w w') : LSt w' v L := Strs.below h hb
/-- a list of strings of the call's own -/
abbrev OwnS (w : World) (B : Nat) (v : Value) (L : List ByteArray) : Prop := w.ownsRow B 9 1 v L.length (L.map Value.string)
theorem infoS : (Tryd.prog.info? 9).map (fun i => (i.zero, i.size, i.bytes)) = some (some (.string ⟨#[]⟩), 1, 16) := by kernel_rfl
theorem OwnS.strs {w : World} {B : Nat} {v : Value} {L : List ByteArray} (h : OwnS w B v L) : Strs w v L := by
  rcases h.2 with ⟨rfl, hx⟩ | ⟨g, cap, cur, rfl, hb, hg, hn, hc, hs, ht⟩
  · obtain rfl := List.eq_nil_of_length_eq_zero hx
    exact Strs.empty w
  · refine ⟨_, cap, rfl, hn, hc, .inr ⟨g, 0, rfl, (Array.getElem?_eq_some_iff.1 hg).1, fun j x hj => ?_⟩⟩
    have := h.cells (g := g) rfl j (.string x) (by simp [hj])
    rw [Go.WideShapes.add_plain] at this; exact this
theorem OwnS.none (w : World) (B : Nat) : OwnS w B (.slice none 0 0) [] := ⟨rfl, .inl ⟨rfl, rfl⟩⟩
theorem own_below {w w' : World} {B : Nat} {v : Value} {L : List ByteArray} (h : OwnS w B v L) (hb : Below w.heap.size w w') : OwnS w' B v L := by
  obtain ⟨h1, h2⟩ := h
  refine ⟨h1, ?_⟩
  rcases h2 with h2 | ⟨g, cap, cur, rfl, hB, hg, r⟩
  · exact .inl h2
  · exact .inr ⟨g, cap, cur, rfl, hB, by rw [hb.block g (Array.getElem?_eq_some_iff.1 hg).1]; exact hg, r⟩
theorem own_mono {w : World} {B B' : Nat} {v : Value} {L : List ByteArray} (h : OwnS w B v L) (hB : B' ≤ B) : OwnS w B' v L := by
  obtain ⟨h1, h2⟩ := h
  refine ⟨h1, ?_⟩
  rcases h2 with h2 | ⟨g, cap, cur, rfl, hg, r⟩
  · exact .inl h2
  · exact .inr ⟨g, cap, cur, rfl, by omega, r⟩
/-- append of one string -/
theorem append_strs {ops : Array Oper} {rest : List Oper} {o : Oper} {a : Act} {Q : Exit → Act → World → Prop} (hgd : o.guard = none) (s x : Operand)
    (ho : o.op = .call { callee := .builtin .append, args := #[s, x], argTypes := #[22, 22] }) (v : Value) (L : List ByteArray) (u : ByteArray) (B : Nat) (w wr : World)
    (own : OwnS wr B v L) (bel : Below B w wr) (hB : B ≤ wr.heap.size) (len : L.length ≤ 1048577) (hs : a.eval s = v) (hx : a.eval x = .slice (some ⟨wr.heap.size, 0, none⟩) 1 1)
    (h : ∀ v' w', Hid (OwnS w' B v' (L ++ [u])) → Hid (Below B w w') → wpList Tryd.prog ops Q rest (a.put o.dst v') w') : wpList Tryd.prog ops Q (o :: rest) a (wr.alloc (.cells #[.string u] 9)) := by
  obtain ⟨i0, hi, hz0, hz1, hz2⟩ := info_parts infoS
  refine wpList_append_own _ hgd s x 22 ho B 9 i0 (.string ⟨#[]⟩) 1 16 Tryd.underlying22 hi hz0 hz1 hz2 rfl (by decide) v L.length (L.map Value.string) hs (own.alloc _) ⟨wr.heap.size, 0, none⟩ 1 1 [.string u] hx rfl ?_ ?_ ?_ ?_ ?_ ?_
  · intro j y hj
    match j, hj with
    | 0, hj => simp at hj; subst hj; simp [Addr.add]
  · intro y hy; simp at hy; subst hy; rfl
  · unfold maxLen; omega
  · omega
  · simp; omega
  · intro v' w' h1 h2 _
    refine h v' w' (Lib.hid ?_) (Lib.hid ((bel.alloc hB _).grown h2 (by simp; omega) (fun k hk => (own.lt k hk).1)))
    have e : L.map Value.string ++ [.string u] = (L ++ [u]).map Value.string := by simp
    rw [e] at h1
    show w'.ownsRow B 9 1 _ (L ++ [u]).length ((L ++ [u]).map Value.string)
    rw [List.length_append]; exact h1
theorem pc_get_eq (s : ByteArray) (i : Nat) (h : i < s.size) : s.get! i = s[i] := by
  simp [ByteArray.get!, getElem!_pos, h]; rfl
theorem pc_cont (s : ByteArray) (pos t : Nat) (h1 : 1 ≤ t) (h2 : t < (Utf8.decode s pos).2) : pos + t < s.size ∧ (s.get! (pos + t)).toNat / 64 = 2 := by
  simp only [Utf8.decode] at h2
  split at h2
  · simp at h2; omega
  · split at h2
    · rename_i h; simp only [Bool.and_eq_true, decide_eq_true_eq, beq_iff_eq] at h
      split at h2
      · obtain rfl : t = 1 := by simp at h2; omega
        exact h.2
      · simp at h2; omega
    · split at h2
      · rename_i h; simp only [Bool.and_eq_true, decide_eq_true_eq, beq_iff_eq] at h
        split at h2
        · have : t = 1 ∨ t = 2 := by simp at h2; omega
          rcases this with rfl | rfl
          · exact h.1.2
          · exact h.2
        · simp at h2; omega
      · split at h2
        · rename_i h; simp only [Bool.and_eq_true, decide_eq_true_eq, beq_iff_eq] at h
          split at h2
          · have : t = 1 ∨ t = 2 ∨ t = 3 := by simp at h2; omega
            rcases this with rfl | rfl | rfl
            · exact h.1.1.2
            · exact h.1.2
            · exact h.2
          · simp at h2; omega
        · simp at h2; omega
/-- the predicate of Fields on runes -/
def isR (r : Nat) : Bool := decide (r = 32) || decide (r = 9)
theorem isB_toNat (c : UInt8) : isB c = isR c.toNat := by
  unfold isB isR
  have e1 : (c = 32) ↔ (c.toNat = 32) := ⟨fun h => by rw [h]; rfl, fun h => UInt8.toNat_inj.1 (by rw [h]; rfl)⟩
  have e2 : (c = 9) ↔ (c.toNat = 9) := ⟨fun h => by rw [h]; rfl, fun h => UInt8.toNat_inj.1 (by rw [h]; rfl)⟩
  rw [decide_eq_decide.2 e1, decide_eq_decide.2 e2]
theorem pc_drop (s : ByteArray) (pos : Nat) (h : pos < s.size) : s.data.toList.drop pos = s[pos] :: s.data.toList.drop (pos + 1) := by
  rw [List.drop_eq_getElem_cons (by simpa using h)]; rfl
/-- one rune: a byte below 128, or bytes that are no blanks -/
theorem pc_step (s : ByteArray) (pos : Nat) (h : pos < s.size) : pos + (Utf8.decode s pos).2 ≤ s.size ∧ 1 ≤ (Utf8.decode s pos).2 ∧
    ((isR (Utf8.decode s pos).1 = true ∧ (Utf8.decode s pos).2 = 1 ∧ isB s[pos] = true) ∨ (isR (Utf8.decode s pos).1 = false ∧ ∀ c ∈ (s.data.toList.drop pos).take (Utf8.decode s pos).2, isB c = false)) := by
  by_cases ha : (s[pos]'h).toNat < 128
  · rw [decode_ascii s pos h ha]
    refine ⟨by show pos + 1 ≤ s.size; omega, Nat.le_refl _, ?_⟩
    show (isR s[pos].toNat = true ∧ _) ∨ (isR s[pos].toNat = false ∧ _)
    rw [← isB_toNat]
    cases hb : isB s[pos]
    · right
      refine ⟨rfl, fun c hc => ?_⟩
      rw [pc_drop s pos h] at hc
      simp only [List.take_succ_cons, List.take_zero, List.mem_singleton] at hc
      rw [hc]; exact hb
    · left; exact ⟨rfl, rfl, rfl⟩
  · obtain ⟨d1, d2⟩ := decode_high s pos h (by omega)
    have hn : isR (Utf8.decode s pos).1 = false := by
      unfold isR; simp; omega
    have C : ∀ t, t < (Utf8.decode s pos).2 → ∃ h : pos + t < s.size, isB s[pos + t] = false := by
      intro t ht
      have key : ∀ c : UInt8, 128 ≤ c.toNat → isB c = false := fun c hc => by
        rw [isB_toNat]; unfold isR; simp; omega
      rcases Nat.eq_zero_or_pos t with rfl | h1
      · exact ⟨h, key _ (by show 128 ≤ s[pos].toNat; omega)⟩
      · obtain ⟨g1, g2⟩ := pc_cont s pos t h1 ht
        rw [pc_get_eq s _ g1] at g2
        exact ⟨g1, key _ (by omega)⟩
    have := (C ((Utf8.decode s pos).2 - 1) (by omega)).1
    refine ⟨by omega, d2, .inr ⟨hn, fun c hc => ?_⟩⟩
    obtain ⟨i, hi, rfl⟩ := List.mem_iff_getElem.1 hc
    rw [List.length_take] at hi
    obtain ⟨g1, g2⟩ := C i (by omega)
    rw [List.getElem_take, List.getElem_drop]
    exact g2
theorem ex_snoc (s : ByteArray) (a k n : Nat) (h1 : a ≤ k) (_ : k + n ≤ s.size) : (s.extract a (k + n)).data.toList = (s.extract a k).data.toList ++ (s.data.toList.drop k).take n := by
  simp only [ByteArray.data_extract, Array.toList_extract, List.extract_eq_take_drop]
  rw [show k + n - a = (k - a) + n by omega, List.take_add, List.drop_drop, show a + (k - a) = k by omega]
open Go.Lib in
theorem spans_wd (s : ByteArray) : ∀ (f pos : Nat) (st : Option Nat) (acc : List (Nat × Nat)) (cur : List UInt8), pos ≤ s.size → s.size - pos ≤ f → (match st with | none => cur = [] | some a => a < pos ∧ cur = (s.extract a pos).data.toList) →
    ((closeSpans s (spansFromP isR s f pos st acc)).map fun x => (s.extract x.1 x.2).data.toList) = (acc.map fun x => (s.extract x.1 x.2).data.toList) ++ wdA cur (s.data.toList.drop pos) := by
  intro f
  induction f with
  | zero =>
    intro pos st acc cur hp hf hst
    obtain rfl : pos = s.size := by omega
    have e : s.data.toList.drop s.size = [] := List.drop_eq_nil_of_le (Nat.le_refl _)
    rw [e]
    cases st with
    | none => subst hst; simp [spansFromP, closeSpans, wdA]
    | some a =>
      obtain ⟨h1, rfl⟩ := hst
      have hne : (s.extract a s.size).data.toList ≠ [] := fun e => by
        have := congrArg List.length e
        simp at this; omega
      simp only [spansFromP, closeSpans, wdA]
      rw [if_neg hne]; simp
  | succ f ih =>
    intro pos st acc cur hp hf hst
    by_cases hlt : pos < s.size
    · obtain ⟨s1, s2, s3⟩ := pc_step s pos hlt
      unfold spansFromP
      rw [if_pos hlt]
      rcases s3 with ⟨r1, r2, r3⟩ | ⟨r1, r2⟩
      · rw [r2, if_pos r1, pc_drop s pos hlt, wdA_sp r3]
        cases st with
        | none =>
          subst hst
          show ((closeSpans s (spansFromP isR s f (pos + 1) none acc)).map _) = _
          rw [ih (pos + 1) none acc [] (by omega) (by omega) rfl]; simp
        | some a =>
          obtain ⟨h1, rfl⟩ := hst
          have hne : (s.extract a pos).data.toList ≠ [] := fun e => by
            have := congrArg List.length e
            simp at this; omega
          show ((closeSpans s (spansFromP isR s f (pos + 1) none (acc ++ [(a, pos)]))).map _) = _
          rw [ih (pos + 1) none _ [] (by omega) (by omega) rfl, if_neg hne]; simp
      · obtain ⟨k, hk⟩ : ∃ k, (Utf8.decode s pos).2 = k := ⟨_, rfl⟩
        rw [hk] at s1 s2 r2
        rw [if_neg (by rw [r1]; decide), hk]
        have e : s.data.toList.drop pos = (s.data.toList.drop pos).take k ++ s.data.toList.drop (pos + k) := by
          rw [← List.drop_drop, List.take_append_drop]
        rw [e, wdA_run _ _ _ r2]
        cases st with
        | none =>
          subst hst
          show ((closeSpans s (spansFromP isR s f (pos + k) (some pos) acc)).map _) = _
          rw [ih (pos + k) (some pos) acc _ (by omega) (by omega) ⟨by omega, rfl⟩]
          have := ex_snoc s pos pos k (Nat.le_refl _) s1
          rw [this]; simp
        | some a =>
          obtain ⟨h1, rfl⟩ := hst
          show ((closeSpans s (spansFromP isR s f (pos + k) (some a) acc)).map _) = _
          rw [ih (pos + k) (some a) acc _ (by omega) (by omega) ⟨by omega, rfl⟩, ex_snoc s a pos k (by omega) s1]
    · rw [spansFromP_end _ _ _ _ _ _ hlt]
      obtain rfl : pos = s.size := by omega
      have := ih s.size st acc cur (Nat.le_refl _) (by omega) hst
      rw [spansFromP_end _ _ _ _ _ _ hlt] at this
      exact this
/-- strings.FieldsFunc's pieces -/
theorem fieldsP_wd (s : ByteArray) : Lib.goFieldsP isR s = (wdA [] s.data.toList).map bA := by
  have h := spans_wd s s.size 0 none [] [] (Nat.zero_le _) (by omega) rfl
  rw [List.map_nil, List.nil_append, List.drop_zero] at h
  unfold Lib.goFieldsP Lib.spansOfP
  rw [← h, List.map_map]
  refine List.map_congr_left fun x _ => ?_
  exact (bA_data _).symm
end Go.Proofs.YtbhdhcnbagjmcaaDoor
