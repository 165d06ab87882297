/- walks: Unescape -/
import Derived.Test.YtbioflajonafdaaTb
namespace Go.Proofs.Ytbioflajonafdaa
open Go.RowKit
open Tx
theorem seqV_lt (l : List UInt8) : seqV l < 256 := by
  cases l with
  | nil => simp [seqV]
  | cons c r =>
    simp only [seqV]
    split
    · exact (letB c).toNat_lt
    · split
      · exact c.toNat_lt
      · exact Nat.mod_lt _ (by decide)
/-- the loop of Unescape: what is written, what is left -/
structure UnI (s : ByteArray) (j : Nat) (out : List UInt8) : Prop where
  eq : (match une (s.data.toList.drop j).length (s.data.toList.drop j) j with | .ok l => .ok (out ++ l) | .error k => .error k) = unesc s.data.toList
  js : j ≤ s.size
  ln : out.length ≤ j
theorem UnI.start (s : ByteArray) : UnI s 0 [] := by
  refine ⟨?_, by omega, by simp⟩
  rw [List.drop_zero]
  unfold unesc
  cases une s.data.toList.length s.data.toList 0 <;> rfl
theorem UnI.done {s : ByteArray} {out : List UInt8} {j : Nat} (h : UnI s j out) (hj : s.size ≤ j) : unesc s.data.toList = .ok out := by
  have e := h.eq
  rw [List.drop_eq_nil_of_le (by rw [← size_len]; exact hj)] at e
  rw [← e]; simp [une]
theorem drop_lt (s : ByteArray) (k : Nat) (h : k < s.size) : s.data.toList.drop k = s[k] :: s.data.toList.drop (k + 1) := by
  rw [List.drop_eq_getElem_cons (by rw [← size_len]; exact h)]; rfl
theorem UnI.plain {s : ByteArray} {out : List UInt8} {j : Nat} (h : UnI s j out) (hj : j < s.size) (hc : s[j] ≠ 92) : UnI s (j + 1) (out ++ [s[j]]) := by
  obtain ⟨e, _, hl⟩ := h
  refine ⟨?_, by omega, by simp; omega⟩
  rw [← e, une_plain _ _ _ j (drop_lt s j hj) hc]
  cases une (s.data.toList.drop (j + 1)).length (s.data.toList.drop (j + 1)) (j + 1) with
  | ok l => simp
  | error k => rfl
theorem UnI.bad {s : ByteArray} {out : List UInt8} {j : Nat} (h : UnI s j out) (hj : j < s.size) (hc : s[j] = 92) (ho : seqO (s.data.toList.drop (j + 1)) = false) : unesc s.data.toList = .error j := by
  rw [← h.eq, une_fail _ _ j (by rw [drop_lt s j hj, hc]) ho]
theorem UnI.seq {s : ByteArray} {out : List UInt8} {j : Nat} (h : UnI s j out) (hj : j < s.size) (hc : s[j] = 92) (ho : seqO (s.data.toList.drop (j + 1)) = true) :
    UnI s (j + 1 + seqN (s.data.toList.drop (j + 1))) (out ++ [UInt8.ofNat (seqV (s.data.toList.drop (j + 1)))]) := by
  obtain ⟨e, _, hl⟩ := h
  have hn := (seqN_bd (s.data.toList.drop (j + 1))).1
  rw [List.length_drop, ← size_len] at hn
  refine ⟨?_, by omega, by simp; omega⟩
  rw [← e, une_bs _ _ j (by rw [drop_lt s j hj, hc]) ho, List.drop_drop]
  cases une (s.data.toList.drop (j + 1 + seqN (s.data.toList.drop (j + 1)))).length (s.data.toList.drop (j + 1 + seqN (s.data.toList.drop (j + 1)))) (j + 1 + seqN (s.data.toList.drop (j + 1))) with
  | ok l => simp
  | error k => rfl
theorem byteCells_snoc (l : List UInt8) (c : UInt8) : Lib.byteCells l ++ [.int .u8 (c.toNat : Int)] = Lib.byteCells (l ++ [c]) := by simp [Lib.byteCells]
theorem writeByte_is (B b : Nat) (out : List UInt8) (c : UInt8) (v : Int) (w : World) (h : Lib.IsBuilder 78 5 B b (Lib.byteCells out) w) (hv : v = (c.toNat : Int)) (hlen : out.length + 1 ≤ 140737488355328) (hBw : B ≤ w.heap.size) :
    Calls Try.prog 69 #[.pointer (some ⟨b, 0, none⟩), .int .u8 v] w fun e w' => e = .returned .nilIface ∧ Hid (Lib.IsBuilder 78 5 B b (Lib.byteCells (out ++ [c])) w') ∧ Below B w w' := by
  subst hv
  refine (Try.Builder_WriteByte B b (Lib.byteCells out) (c.toNat : Int) w h (by rw [Lib.byteCells_length]; exact hlen) hBw).mono fun e w' ⟨h1, h2, h3⟩ => ⟨h1, Lib.hid (.inr ?_), h3⟩
  rw [← byteCells_snoc]; exact h2
theorem sequence_is (s : ByteArray) (b n : Int) (o : Bool) (w : World) (hs : s.size ≤ 140737488351232) (hb : Hid (((seqV s.data.toList : Nat) : Int) = b)) (hn : Hid (((seqN s.data.toList : Nat) : Int) = n)) (ho : Hid (seqO s.data.toList = o)) :
    Calls Try.prog 70 #[.string s] w fun e w' => e = .returned (.tuple #[.int .u8 b, .int .i64 n, .bool o]) ∧ w = w' := by
  rw [← hb.out, ← hn.out, ← ho.out]; exact sequence_any s w hs
def rS : Except Nat (List UInt8) → ByteArray
  | .ok l => ⟨l.toArray⟩
  | .error _ => ⟨#[]⟩
def rE : Except Nat (List UInt8) → Int
  | .ok _ => 0
  | .error _ => 1
def rK : Except Nat (List UInt8) → Int
  | .ok _ => 0
  | .error k => k
set_option maxHeartbeats 4000000 in
theorem unescape_any (s : ByteArray) (w : World) (hs : s.size ≤ 140737488351232) :
    Calls Try.prog 59 #[.string s] w fun e w' => e = .returned (.tuple #[.string (rS (unesc s.data.toList)), .int .i64 (rE (unesc s.data.toList)), .int .i64 (rK (unesc s.data.toList))]) ∧ Below w.heap.size w w' := by
  have IB := Lib.hid (Lib.fresh_isBuilder 78 5 w)
  go_enter Try.func59, Try.ntmps59
  go_wp2_with fail
  have B0 := (Below.refl w.heap.size w).alloc (Nat.le_refl _) (.cells #[.pointer none, .slice none 0 0] 78)
  go_loopw [6] (fun i wr => ∃ (j : Nat) (out : List UInt8), i = .int .i64 j ∧ Hid (UnI s j out) ∧ Hid (Lib.IsBuilder 78 5 w.heap.size w.heap.size (Lib.byteCells out) wr) ∧ Hid (Below w.heap.size w wr)) (fun i _ => s.size - (intOf i).toNat)
  case atStart => exact ⟨0, [], rfl, Lib.hid (UnI.start s), IB, Lib.hid B0⟩
  case round =>
    obtain ⟨j, out, rfl, I, IBr, Br⟩ := hrel
    have js := I.out.js
    have hout : out.length + 1 ≤ 140737488355328 := by have := I.out.ln; omega
    have HO := Lib.hid hout; clear hout
    by_cases hlt : j < s.size
    · by_cases hc : s[j] = 92
      · have t : ((s[j].toNat : Int) != 92) = false := by rw [hc]; rfl
        obtain ⟨u, hu⟩ : ∃ u, s.extract (j + 1) s.size = u := ⟨_, rfl⟩
        have hul : u.data.toList = s.data.toList.drop (j + 1) := by rw [← hu]; exact Lib.extract_to_end s (j + 1)
        have hus : u.size ≤ 140737488351232 := by
          rw [size_len, hul, List.length_drop, ← size_len]; omega
        have US := Lib.hid hus; clear hus
        obtain ⟨b, hb⟩ : ∃ b : Nat, seqV u.data.toList = b := ⟨_, rfl⟩
        obtain ⟨n, hn⟩ : ∃ n : Nat, seqN u.data.toList = n := ⟨_, rfl⟩
        have hb2 := seqV_lt u.data.toList
        have hn2 := (seqN_bd u.data.toList).2
        rw [hb] at hb2
        rw [hn] at hn2
        have VB : Hid (((seqV u.data.toList : Nat) : Int) = (b : Int)) := Lib.hid (by rw [hb])
        have VN : Hid (((seqN u.data.toList : Nat) : Int) = (n : Int)) := Lib.hid (by rw [hn])
        cases ho : seqO u.data.toList
        · have F := Lib.hid (I.out.bad hlt hc (by rw [← hul]; exact ho))
          have VO := Lib.hid ho; clear ho
          clear hul hb hn hc
          go_wp2_with (go_at_call 70; refine (sequence_is u b n false _ US.out VB VN VO).mono ?_; rintro e w' ⟨rfl, rfl⟩)
          go_ret3
          exact ⟨by rw [F.out]; rfl, Br.out⟩
        · have F := Lib.hid (I.out.seq hlt hc (by rw [← hul]; exact ho))
          rw [← hul, hb, hn] at F
          have VO := Lib.hid ho; clear ho
          have hcv : (b : Int) = ((UInt8.ofNat b).toNat : Int) := by rw [UInt8.toNat_ofNat']; omega
          have CV := Lib.hid hcv; clear hcv
          clear hul hb hn hc
          go_wp2_with (first
            | (go_at_call 70; refine (sequence_is u b n true _ US.out VB VN VO).mono ?_; rintro e w' ⟨rfl, rfl⟩)
            | (go_at_call 69; refine (writeByte_is w.heap.size w.heap.size out (UInt8.ofNat b) b _ IBr.out CV.out HO.out Br.out.size).mono ?_; rintro e w2 ⟨rfl, hib, hbl⟩))
          go_roundw
          case rel => exact ⟨j + 1 + n, out ++ [UInt8.ofNat b], by go_num, F, hib, Lib.hid (Br.out.trans hbl)⟩
          case measure => simp [intOf]; omega
      · have t : ((s[j].toNat : Int) != 92) = true := by
          rw [bne_iff_ne]; intro e; apply hc
          apply UInt8.toNat_inj.1
          have e2 : (92 : UInt8).toNat = 92 := rfl
          omega
        have F := Lib.hid (I.out.plain hlt hc)
        clear hc
        obtain ⟨c, hcx⟩ : ∃ c, s[j] = c := ⟨_, rfl⟩
        rw [hcx] at F t
        go_wp2_with (go_at_call 69; refine (writeByte_is w.heap.size w.heap.size out c _ _ IBr.out rfl HO.out Br.out.size).mono ?_; rintro e w2 ⟨rfl, hib, hbl⟩)
        go_roundw
        case rel => exact ⟨j + 1, out ++ [c], by go_num, F, hib, Lib.hid (Br.out.trans hbl)⟩
        case measure => simp [intOf]; omega
    · have F := Lib.hid (I.out.done (by omega))
      go_wp2_with (go_at_call 71; refine (Try.Builder_String_any w.heap.size w.heap.size out _ IBr.out Br.out.size).mono ?_; rintro e w2 ⟨rfl, hbl⟩)
      go_ret3
      exact ⟨by rw [F.out]; rfl, Br.out.trans hbl⟩
end Go.Proofs.Ytbioflajonafdaa
