/- walks: texts of numbers -/
import Derived.Test.YtjngkapfngempaaDoorWj
import Derived.Test.YtjngkapfngempaaDoorShelf
import Derived.Test.YtjngkapfngempaaDoorByt5
import Derived.Lib.SmallJoins
import Derived.Laws.BytesArg
import Derived.Lib.AppendIntMem
namespace Go.Proofs.YtjngkapfngempaaDoor
open Go.RowKit
open Dcm Byt
theorem conv_one (c : Int) (W : World) : (convert 62 9 (.slice (some ⟨W.heap.size, 0, none⟩) 1 1)).run Tryd.prog (W.alloc (.cells #[.int .u8 c] 5)) = .ok (.string (strOfNums [c])) (W.alloc (.cells #[.int .u8 c] 5)) :=
  run_convert_bytes_arg (W.alloc (.cells #[.int .u8 c] 5)) 62 5 Tryd.underlying62 Tryd.underlying5 W.heap.size 0 1 1 [c] rfl (fun i hi => by
    obtain rfl : i = 0 := by omega
    exact cell_one_new _ _ _ 0 _ rfl) 9 Tryd.underlying9
theorem one_size (c : Int) : (strOfNums [c]).size = 1 := by rw [strOfNums_size]; rfl
theorem str_cons (n k : Nat) (out : ByteArray) (m : Int) (hm : m = ((n / 10 ^ k : Nat) : Int)) (ho : out.data.toList = low k n) : (strOfNums [48 + m % 10] ++ out).data.toList = low (k + 1) n := by
  rw [app_list, ho, low_cons, strOfNums_data]
  simp only [List.map_cons, List.map_nil, List.singleton_append]
  congr 1
  unfold dgt
  congr 1
  omega
theorem ret_str {a b : ByteArray} (h : a = b) : Ending.returned (.string a) = .returned (.string b) := by rw [h]
set_option maxHeartbeats 1000000 in
theorem rtext_any (n least K : Nat) (w : World) (hn : n ≤ 10000000000) (hK : Cnt n least K) :
    Calls Tryd.prog 58 #[.int .i64 (n : Int), .int .i64 (least : Int)] w fun e w' => e = .returned (.string ⟨(low K n).toArray⟩) ∧ Below w.heap.size w w' := by
  have kc := conv_one
  have ks := one_size
  have hKb := hK.big
  go_enter Tryd.func58, Tryd.ntmps58
  go_wp2
  go_loopw [0, 5, 6] (fun m o i wr => ∃ (k : Nat) (q : Nat) (out : ByteArray), k ≤ K ∧ i = .int .i64 k ∧ Hid (q = n / 10 ^ k) ∧ q ≤ 10000000000 ∧ m = .int .i64 q ∧ o = .string out ∧ Hid (out.data.toList = low k n) ∧ out.size = k ∧ Below w.heap.size w wr) (fun _ _ i _ => K - (intOf i).toNat)
  case atStart => exact ⟨0, n, _, by omega, rfl, Lib.hid (by simp), hn, rfl, rfl, Lib.hid rfl, rfl, Below.refl _ _⟩
  case round =>
    obtain ⟨k, q, out, hk, rfl, hq, hqn, rfl, rfl, ho, hos, hb⟩ := hrel
    have HOS := Lib.hid hos
    have hos' : out.size ≤ 20 := by omega
    clear hos
    by_cases hlt : k < K
    · have R := Lib.hid (str_cons n k out q (by rw [hq.out]) ho.out)
      have hq2 : Hid (q / 10 = n / 10 ^ (k + 1)) := Lib.hid (by rw [hq.out, div_succ])
      have hB : Below w.heap.size w (wr.alloc (.cells #[.int .u8 (48 + (q : Int) % 10)] 5)) := hb.alloc hb.size _
      have HB := Lib.hid hB; clear hB
      by_cases hl : k < least
      · go_wp2
        go_roundw
        case rel => exact ⟨k + 1, q / 10, _, by omega, by go_num, hq2, by omega, by go_num, rfl, R, by rw [size_len, R.out, low_length], HB.out⟩
        case measure => simp [intOf]; omega
      · have hp : 0 < q := by rw [hq.out]; exact hK.go hlt hl
        go_wp2
        go_roundw
        case rel => exact ⟨k + 1, q / 10, _, by omega, by go_num, hq2, by omega, by go_num, rfl, R, by rw [size_len, R.out, low_length], HB.out⟩
        case measure => simp [intOf]; omega
    · obtain rfl : k = K := by omega
      have hz : q = 0 := by rw [hq.out]; exact hK.zero
      have hl : ¬ k < least := by have := hK.le; omega
      have R := Lib.hid (mk_eq out _ ho.out)
      subst hz
      go_wp2
      go_ret
      exact ⟨ret_str R.out, hb⟩
theorem itoa_any (n : Nat) (hn : n ≤ 10000000000) (w : World) (htab : Lib.TabIs Tryd.prog w "internal/strconv.uint64pow10" .u64 Lib.pow10Tab) :
    Calls Tryd.prog 77 #[.int .i64 (n : Int)] w fun e w' => e = .returned (.string ⟨(Lib.decDigits n).toArray⟩) ∧ Below w.heap.size w w' :=
  (Tryd.strconv_Itoa n (by omega) (by omega) w htab).mono fun e w' ⟨h, k, os, hw⟩ => ⟨by rw [h]; unfold Lib.itoa; rw [if_neg (by omega)]; simp, by rw [hw]; exact Lib.below_grow _ w (Nat.le_refl _) k os⟩
theorem nformat_any (n : Nat) (hn : n ≤ 10000000000) (w : World) (htab : Lib.TabIs Tryd.prog w "internal/strconv.uint64pow10" .u64 Lib.pow10Tab) :
    Calls Tryd.prog 55 #[.int .i64 (n : Int)] w fun e w' => e = .returned (.string ⟨(Lib.decDigits n).toArray⟩) ∧ Below w.heap.size w w' := by
  go_enter Tryd.func55, Tryd.ntmps55
  go_wp2_with (go_at_call 77; refine (itoa_any n hn _ htab).mono ?_; rintro e w' ⟨rfl, hb⟩)
  go_ret
  exact ⟨rfl, hb⟩
end Go.Proofs.YtjngkapfngempaaDoor
