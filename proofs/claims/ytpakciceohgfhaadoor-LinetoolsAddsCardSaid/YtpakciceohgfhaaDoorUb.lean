/- walks: the reference's Escape -/
import Derived.Test.YtpakciceohgfhaaDoorUa
import Derived.Test.YtpakciceohgfhaaDoorTg
namespace Go.Proofs.YtpakciceohgfhaaDoor
open Go.RowKit
open Tx
theorem append_bytes {ops : Array Oper} {rest : List Oper} {o : Oper} {a : Act} {Q : Exit → Act → World → Prop} (hgd : o.guard = none) (s x : Operand)
    (ho : o.op = .call { callee := .builtin .append, args := #[s, x], argTypes := #[37, 37] }) (v : Value) (out l : List UInt8) (us : Array Value) (hu : us.toList = Lib.byteCells l) (m : Nat) (hm : m = l.length) (h0 : 0 < m) (B : Nat) (w wr : World)
    (own : Own wr B v out) (bel : Below B w wr) (hB : B ≤ wr.heap.size) (len : out.length + l.length ≤ 140737488355328) (hs : a.eval s = v) (hx : a.eval x = .slice (some ⟨wr.heap.size, 0, none⟩) m m)
    (h : ∀ v' w', Hid (Own w' B v' (out ++ l)) → Hid (Below B w w') → wpList Tryd.prog ops Q rest (a.put o.dst v') w') : wpList Tryd.prog ops Q (o :: rest) a (wr.alloc (.cells us 5)) := by
  subst hm
  obtain ⟨i0, hi, hz0, hz1, hz2⟩ := info_parts info5
  refine wpList_append_own _ hgd s x 37 ho B 5 i0 (.int .u8 0) 1 1 Tryd.underlying37 hi hz0 hz1 hz2 rfl (by decide) v out.length (Lib.byteCells out) hs (own.alloc _) ⟨wr.heap.size, 0, none⟩ l.length l.length (Lib.byteCells l) hx (by simp [Lib.byteCells]) ?_ ?_ ?_ ?_ ?_ ?_
  · intro j y hj
    have h1 := heap_alloc_new wr (.cells us 5)
    have e : (⟨wr.heap.size, 0, none⟩ : Addr).add j = ⟨wr.heap.size, j, none⟩ := by
      by_cases h0 : j = 0
      · subst h0; simp [Addr.add]
      · simp [Addr.add, h0]
    rw [e, cells_at h1, ← hj, ← hu, Array.getElem?_toList]
  · intro y hy
    simp only [Lib.byteCells, List.mem_map] at hy
    obtain ⟨c, _, rfl⟩ := hy; rfl
  · unfold maxLen; omega
  · omega
  · simp; omega
  · intro v' w' h1 h2 _
    refine h v' w' (Lib.hid ?_) (Lib.hid ?_)
    · have e : Lib.byteCells out ++ Lib.byteCells l = Lib.byteCells (out ++ l) := by simp [Lib.byteCells]
      rw [e] at h1
      show w'.ownsRow B 5 1 v' (out ++ l).length (Lib.byteCells (out ++ l))
      rw [List.length_append]; exact h1
    · exact (bel.alloc hB _).grown h2 (by simp; omega) (fun k hk => (own.lt k hk).1)
theorem letC_no (x : UInt8) (h : escL x = 0) (h1 : x ≠ 92) : letC (x.toNat : Int) = 0 := by
  unfold escL at h
  have k : ∀ n : Nat, n < 256 → x ≠ UInt8.ofNat n → ¬ ((x.toNat : Int) = (n : Int)) := fun n hn hx e => hx (u8_of hn e.symm)
  by_cases a0 : x = 10
  · subst a0; cases h
  by_cases a1 : x = 9
  · subst a1; cases h
  by_cases a2 : x = 13
  · subst a2; cases h
  by_cases a3 : x = 7
  · subst a3; cases h
  by_cases a4 : x = 8
  · subst a4; cases h
  by_cases a5 : x = 12
  · subst a5; cases h
  by_cases a6 : x = 11
  · subst a6; cases h
  unfold letC
  rw [if_neg (show ¬ (x.toNat : Int) = 7 from k 7 (by omega) a3), if_neg (show ¬ (x.toNat : Int) = 8 from k 8 (by omega) a4), if_neg (show ¬ (x.toNat : Int) = 9 from k 9 (by omega) a1), if_neg (show ¬ (x.toNat : Int) = 10 from k 10 (by omega) a0), if_neg (show ¬ (x.toNat : Int) = 11 from k 11 (by omega) a6), if_neg (show ¬ (x.toNat : Int) = 12 from k 12 (by omega) a5), if_neg (show ¬ (x.toNat : Int) = 13 from k 13 (by omega) a2), if_neg (show ¬ (x.toNat : Int) = 92 from k 92 (by omega) h1)]
theorem oct_cells (x : UInt8) (n : Nat) (hn : x.toNat = n) : (#[Value.int .u8 92, .int .u8 (48 + (n : Int) / 64), .int .u8 (48 + (n : Int) / 8 % 8), .int .u8 (48 + (n : Int) % 8)] : Array Value).toList = Lib.byteCells (92 :: oct3 x) := by
  have hx := x.toNat_lt
  rw [hn] at hx
  have e1 : ((UInt8.ofNat (48 + n / 64)).toNat : Int) = 48 + (n : Int) / 64 := by rw [UInt8.toNat_ofNat']; omega
  have e2 : ((UInt8.ofNat (48 + n / 8 % 8)).toNat : Int) = 48 + (n : Int) / 8 % 8 := by rw [UInt8.toNat_ofNat']; omega
  have e3 : ((UInt8.ofNat (48 + n % 8)).toNat : Int) = 48 + (n : Int) % 8 := by rw [UInt8.toNat_ofNat']; omega
  simp only [Lib.byteCells, oct3, hn, List.map_cons, List.map_nil, e1, e2, e3]
  rfl
end Go.Proofs.YtpakciceohgfhaaDoor
