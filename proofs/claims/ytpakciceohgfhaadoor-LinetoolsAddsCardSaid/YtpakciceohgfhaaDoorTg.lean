/- walks: the reference's Unescape -/
import Derived.Test.YtpakciceohgfhaaDoorTf
import Derived.Test.YtpakciceohgfhaaDoorTc
import Derived.OwnWalk
import Derived.Laws.BytesArg
namespace Go.Proofs.YtpakciceohgfhaaDoor
open Go.RowKit
open Tx
theorem info5 : (Tryd.prog.info? 5).map (fun i => (i.zero, i.size, i.bytes)) = some (some (.int .u8 0), 1, 1) := by kernel_rfl
abbrev Own (w : World) (B : Nat) (v : Value) (out : List UInt8) : Prop := w.ownsRow B 5 1 v out.length (Lib.byteCells out)
theorem append_byte {ops : Array Oper} {rest : List Oper} {o : Oper} {a : Act} {Q : Exit → Act → World → Prop} (hgd : o.guard = none) (s x : Operand)
    (ho : o.op = .call { callee := .builtin .append, args := #[s, x], argTypes := #[37, 37] }) (v : Value) (out : List UInt8) (c : UInt8) (u : Int) (hu : u = (c.toNat : Int)) (B : Nat) (w wr : World)
    (own : Own wr B v out) (bel : Below B w wr) (hB : B ≤ wr.heap.size) (len : out.length + 1 ≤ 140737488355328) (hs : a.eval s = v) (hx : a.eval x = .slice (some ⟨wr.heap.size, 0, none⟩) 1 1)
    (h : ∀ v' w', Hid (Own w' B v' (out ++ [c])) → Hid (Below B w w') → wpList Tryd.prog ops Q rest (a.put o.dst v') w') : wpList Tryd.prog ops Q (o :: rest) a (wr.alloc (.cells #[.int .u8 u] 5)) := by
  subst hu
  obtain ⟨i0, hi, hz0, hz1, hz2⟩ := info_parts info5
  refine wpList_append_own _ hgd s x 37 ho B 5 i0 (.int .u8 0) 1 1 Tryd.underlying37 hi hz0 hz1 hz2 rfl (by decide) v out.length (Lib.byteCells out) hs (own.alloc _) ⟨wr.heap.size, 0, none⟩ 1 1 [.int .u8 (c.toNat : Int)] hx rfl ?_ ?_ ?_ ?_ ?_ ?_
  · intro j y hj
    match j, hj with
    | 0, hj => simp at hj; subst hj; simp [Addr.add]
  · intro y hy; simp at hy; subst hy; rfl
  · unfold maxLen; omega
  · omega
  · simp; omega
  · intro v' w' h1 h2 _
    refine h v' w' (Lib.hid ?_) (Lib.hid ?_)
    · rw [byteCells_snoc] at h1
      show w'.ownsRow B 5 1 v' (out ++ [c]).length (Lib.byteCells (out ++ [c]))
      rw [List.length_append]; exact h1
    · exact (bel.alloc hB _).grown h2 (by simp; omega) (fun k hk => (own.lt k hk).1)
theorem nums_back (out : List UInt8) : strOfNums (out.map fun c => (c.toNat : Int)) = ⟨out.toArray⟩ := by
  have h : (strOfNums (out.map fun c => (c.toNat : Int))).data.toList = out := by
    rw [strOfNums_data, List.map_map]
    conv => rhs; rw [← List.map_id out]
    apply List.map_congr_left
    intro c _
    apply UInt8.toNat_inj.1
    have := c.toNat_lt
    simp
  generalize strOfNums (out.map fun c => (c.toNat : Int)) = t at h
  obtain ⟨⟨l⟩⟩ := t
  simp only at h
  rw [h]
theorem own_string {w : World} {B : Nat} {v : Value} {out : List UInt8} (h : Own w B v out) : (convert 37 9 v).run Tryd.prog w = .ok (.string ⟨out.toArray⟩) w := by
  rcases h.2 with ⟨rfl, hx⟩ | ⟨g, cap, cur, rfl, hb, hg, hn, hc, hs, ht⟩
  · obtain rfl := List.eq_nil_of_length_eq_zero hx
    exact run_convert_bytes_nil (w := w) 37 5 Tryd.underlying37 Tryd.underlying5 0 0 9 Tryd.underlying9
  · rw [← nums_back]
    refine run_convert_bytes_arg w 37 5 Tryd.underlying37 Tryd.underlying5 g 0 out.length cap (out.map fun c => (c.toNat : Int)) (by simp) (fun i hi => ?_) 9 Tryd.underlying9
    have := h.cells (g := g) rfl i (.int .u8 ((out[i]).toNat : Int)) (by simp [Lib.byteCells, hi])
    by_cases h0 : i = 0
    · subst h0; simpa [Addr.add, hi] using this
    · simpa [Addr.add, hi, h0] using this
theorem oct_plain (c : UInt8) (h : oct c = true) : letB c = 0 ∧ isSelf c = false := by
  simp only [oct, Bool.and_eq_true, decide_eq_true_eq] at h
  refine ⟨?_, ?_⟩
  · apply Decidable.byContradiction
    intro hn
    rcases let_cases c hn with ⟨rfl, _⟩ | ⟨rfl, _⟩ | ⟨rfl, _⟩ | ⟨rfl, _⟩ | ⟨rfl, _⟩ | ⟨rfl, _⟩ | ⟨rfl, _⟩
    all_goals exact absurd h.2 (by decide)
  · unfold isSelf
    have a1 : c ≠ 92 := by rintro rfl; exact absurd h.2 (by decide)
    have a2 : c ≠ 34 := by rintro rfl; exact absurd h.1 (by decide)
    have a3 : c ≠ 47 := by rintro rfl; exact absurd h.1 (by decide)
    rw [decide_eq_false a1, decide_eq_false a2, decide_eq_false a3]; rfl
theorem oct_zero (c : UInt8) (t : List UInt8) (h : (octGo 3 (c :: t) 0 0).2 = 0) : oct c = false := by
  apply Decidable.byContradiction
  intro hn
  have hn : oct c = true := by simpa using hn
  have e : octGo 3 (c :: t) 0 0 = octGo 2 t (8 * 0 + (c.toNat - 48)) (0 + 1) := by simp only [octGo]; rw [if_pos hn]
  have := (octGo_bd 2 t (8 * 0 + (c.toNat - 48)) (0 + 1)).1
  rw [e] at h; omega
theorem seq_oc (r : List UInt8) (n k : Nat) (h : octGo 3 r 0 0 = (n, k)) (hk : 0 < k) : seqV r = n % 256 ∧ seqN r = k ∧ seqO r = decide (n < 256) := by
  cases r with
  | nil => simp [octGo] at h; omega
  | cons c t =>
    have ho : oct c = true := by
      apply Decidable.byContradiction
      intro hn
      have e : octGo 3 (c :: t) 0 0 = (0, 0) := by simp only [octGo]; rw [if_neg hn]
      rw [e] at h; injection h with h1 h2; omega
    obtain ⟨a, b⟩ := oct_plain c ho
    simp [seqV, seqN, seqO, a, b, h, hk]
theorem seq_sg (c : UInt8) (t : List UInt8) (n : Nat) (h : octGo 3 (c :: t) 0 0 = (n, 0)) : seqO (c :: t) = sglO c ∧ (sglO c = true → seqV (c :: t) = sglV c ∧ seqN (c :: t) = 1) := by
  by_cases hl : letB c = 0
  · cases hs : isSelf c
    · simp [seqV, seqN, seqO, sglO, sglV, hl, hs, h]
    · simp [seqV, seqN, seqO, sglO, sglV, hl, hs]
  · have hs : isSelf c = false := by
      rcases let_cases c hl with ⟨rfl, _⟩ | ⟨rfl, _⟩ | ⟨rfl, _⟩ | ⟨rfl, _⟩ | ⟨rfl, _⟩ | ⟨rfl, _⟩ | ⟨rfl, _⟩ <;> rfl
    simp [seqV, seqN, seqO, sglO, sglV, hl, hs]
end Go.Proofs.YtpakciceohgfhaaDoor
