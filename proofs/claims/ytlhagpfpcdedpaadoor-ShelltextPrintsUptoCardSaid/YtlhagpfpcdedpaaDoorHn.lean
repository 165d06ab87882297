/- walks: plain, Quote -/
import Derived.Test.YtlhagpfpcdedpaaDoorHe
import Derived.Shelf.Strings.Replace
namespace Go.Proofs.YtlhagpfpcdedpaaDoor
open Go.RowKit
open Shp
/-- a byte that needs no quotes -/
def safeB (c : UInt8) : Bool := (97 ≤ c && c ≤ 122) || (65 ≤ c && c ≤ 90) || (48 ≤ c && c ≤ 57) || decide (c ∈ ([95, 45, 46, 47, 44, 58, 61, 43, 64, 37] : List UInt8))
def lowB (c : UInt8) : Nat := (Go.bits .or .u8 (c.toNat : Int) 32).toNat
theorem low_all : ∀ n : Fin 256, let c := UInt8.ofNat n.val; (Go.bits .or .u8 (c.toNat : Int) 32) = (lowB c : Int) ∧ safeB c = (decide (97 ≤ lowB c ∧ lowB c ≤ 122) || decide (48 ≤ c.toNat ∧ c.toNat ≤ 57) || decide (c ∈ ([95, 45, 46, 47, 44, 58, 61, 43, 64, 37] : List UInt8))) := by decide +kernel
theorem low_is (c : UInt8) : (Go.bits .or .u8 (c.toNat : Int) 32) = (lowB c : Int) ∧ safeB c = (decide (97 ≤ lowB c ∧ lowB c ≤ 122) || decide (48 ≤ c.toNat ∧ c.toNat ≤ 57) || decide (c ∈ ([95, 45, 46, 47, 44, 58, 61, 43, 64, 37] : List UInt8))) := by
  have h := low_all ⟨c.toNat, c.toNat_lt⟩
  simp only [UInt8.ofNat_toNat] at h
  exact h
set_option maxRecDepth 100000 in
set_option maxHeartbeats 2000000 in
theorem plain_any (c : UInt8) (v : Int) (hv : v = (c.toNat : Int)) (w : World) :
    Calls Tryd.prog 31 #[.int .u8 v] w fun e w' => e = .returned (.bool (safeB c)) ∧ w' = w := by
  subst hv
  obtain ⟨h1, h2⟩ := low_is c
  have HS := Lib.hid h2
  obtain ⟨k, hk⟩ : ∃ k, Lib.indexByte [95, 45, 46, 47, 44, 58, 61, 43, 64, 37] c = k := ⟨_, rfl⟩
  have HK : Hid (decide (0 ≤ k) = decide (c ∈ ([95, 45, 46, 47, 44, 58, 61, 43, 64, 37] : List UInt8))) := Lib.hid (by
    have := idx_mem c [95, 45, 46, 47, 44, 58, 61, 43, 64, 37]
    rw [hk] at this
    exact decide_eq_decide.2 this)
  have IX : Hid (Lib.indexByte (ByteArray.mk #[95, 45, 46, 47, 44, 58, 61, 43, 64, 37]).data.toList c = k) := Lib.hid hk
  obtain ⟨x, hx⟩ : ∃ x, lowB c = x := ⟨_, rfl⟩
  rw [hx] at h1 HS
  obtain ⟨n, hn⟩ : ∃ n, c.toNat = n := ⟨_, rfl⟩
  rw [hn] at h1 HS
  have HN : Hid ((n : Int) = (c.toNat : Int)) := Lib.hid (by rw [hn])
  rw [hn]
  clear hk h2 hx hn
  go_enter Tryd.func31, Tryd.ntmps31
  go_wp2_with (go_at_call 53; refine (ix_is _ c k _ IX HN.out).mono ?_; rintro e w' ⟨rfl, rfl⟩)
  all_goals
    go_ret
    have hs := HS.out
    have hk := HK.out
    refine ⟨?_, rfl⟩
    rw [hs, ← hk]
    show Ending.returned (Value.bool _) = _
    congr 2
    clear hs hk HS HK IX
    rw [Bool.eq_iff_iff]
    simp only [Bool.or_eq_true, decide_eq_true_eq]
    first | omega | (simp only [true_iff]; omega) | (simp only [or_true, true_iff]; omega)
/-- what stands for a text between single quotes -/
def quL (l : List UInt8) : List UInt8 := l.flatMap fun c => if c = 39 then [39, 92, 39, 39] else [c]
def quoteL (l : List UInt8) : List UInt8 := if l ≠ [] ∧ l.all safeB = true then l else [39] ++ quL l ++ [39]
theorem replaceK_ne (c : UInt8) (new l : List UInt8) (h : c ≠ 39) : ∀ k, Lib.replaceK [39] new k (c :: l) = c :: Lib.replaceK [39] new k l := by
  have hp : List.isPrefixOf [39] (c :: l) = false := by
    have : ((39 : UInt8) == c) = false := by rw [beq_eq_false_iff_ne]; exact fun e => h e.symm
    simp [List.isPrefixOf, this]
  have hi : Lib.index (c :: l) [39] = if Lib.index l [39] == -1 then -1 else Lib.index l [39] + 1 := by
    rw [Lib.index, hp]; rfl
  intro k
  cases k with
  | zero => rfl
  | succ k =>
    rw [Lib.replaceK, Lib.replaceK, hi]
    by_cases e : (Lib.index l [39] == -1) = true
    · rw [if_pos e, if_pos (by rfl), if_pos e]
    · have hge := Lib.index_ge l [39]
      have hne : Lib.index l [39] ≠ -1 := by simpa using e
      obtain ⟨n, hn⟩ : ∃ n : Nat, Lib.index l [39] = n := ⟨(Lib.index l [39]).toNat, by omega⟩
      rw [if_neg e, if_neg e, hn, if_neg (by rw [beq_iff_eq]; omega)]
      have e1 : ((n : Int) + 1).toNat = n + 1 := by omega
      rw [e1, Int.toNat_natCast]
      rfl
theorem replaceK_eq (new l : List UInt8) (k : Nat) : Lib.replaceK [39] new (k + 1) (39 :: l) = new ++ Lib.replaceK [39] new k l := by
  have hi : Lib.index (39 :: l) [39] = 0 := by rw [Lib.index, if_pos (by simp [List.isPrefixOf])]
  rw [Lib.replaceK, hi, if_neg (by decide)]
  rfl
theorem replace_qu : ∀ l : List UInt8, Lib.replaceK [39] [39, 92, 39, 39] (Lib.count l [39]) l = quL l
  | [] => rfl
  | c :: l => by
    by_cases h : c = 39
    · subst h
      rw [Lib.count_cons_eq, Nat.add_comm, replaceK_eq, replace_qu l]
      rfl
    · rw [Lib.count_cons_ne _ _ _ h, replaceK_ne c _ l h, replace_qu l]
      show _ = (if c = 39 then [39, 92, 39, 39] else [c]) ++ quL l
      rw [if_neg h]; rfl
theorem replaceAll_qu (l : List UInt8) : Lib.replaceAll l [39] [39, 92, 39, 39] = quL l := by
  unfold Lib.replaceAll Lib.replace Lib.replaceNum
  rw [if_neg (by decide), if_pos (.inl (by decide)), replace_qu]
theorem quL_len : ∀ l : List UInt8, (quL l).length ≤ 4 * l.length
  | [] => Nat.le_refl _
  | c :: l => by
    have ih := quL_len l
    have e : quL (c :: l) = (if c = 39 then [39, 92, 39, 39] else [c]) ++ quL l := rfl
    rw [e, List.length_append, List.length_cons]
    split <;> simp only [List.length_cons, List.length_nil] <;> omega
theorem replace_st (s : ByteArray) (m : Int) (w : World) (hm : w.cell? ⟨0, 0, none⟩ = some (.int .i64 m)) (hs : s.size ≤ 16777216) :
    Calls Tryd.prog 32 #[.string s, .string ⟨#[39]⟩, .string ⟨#[39, 92, 39, 39]⟩] w fun e w' => e = .returned (.string ⟨(quL s.data.toList).toArray⟩) ∧ Hid (Below w.heap.size w w') := by
  have hc := Lib.countB_le ⟨#[39]⟩ (by decide) s.size s (Nat.le_refl _)
  refine (Any.strings_ReplaceAll { Tryd.laysM155 with } Tryd.Builder_Extra_M155 s ⟨#[39]⟩ ⟨#[39, 92, 39, 39]⟩ m w (by omega) hm (by decide) (by show s.size + _ * 4 ≤ _; omega)).mono fun e w' ⟨h1, h2⟩ => ⟨?_, Lib.hid h2⟩
  rw [h1]
  congr 4
  exact congrArg _ (replaceAll_qu _)
theorem quote_len (l : List UInt8) : (quoteL l).length ≤ 4 * l.length + 2 := by
  unfold quoteL
  have := quL_len l
  split
  · omega
  · simp only [List.length_append, List.length_cons, List.length_nil]; omega
set_option maxRecDepth 100000 in
set_option maxHeartbeats 4000000 in
theorem quote_any (s : ByteArray) (m : Int) (w : World) (hm : w.cell? ⟨0, 0, none⟩ = some (.int .i64 m)) (hs : s.size ≤ 16777216) :
    Calls Tryd.prog 13 #[.string s] w fun e w' => e = .returned (.string ⟨(quoteL s.data.toList).toArray⟩) ∧ Hid (Below w.heap.size w w') := by
  have HM := Lib.hid hm
  obtain ⟨e0, he0⟩ : ∃ e0, s.toList.isEmpty = e0 := ⟨_, rfl⟩
  have E0 : Hid (e0 = true ↔ s.data.toList = []) := Lib.hid (by rw [← he0, Lib.toList_data, List.isEmpty_iff])
  go_enter Tryd.func13, Tryd.ntmps13
  go_wp2_with fail
  go_loopw [3, 9] (fun b i wr => ∃ k : Nat, i = .int .i64 k ∧ b = .bool (!e0 && (s.data.toList.take k).all safeB) ∧ k ≤ s.size ∧ wr = w) (fun _ i _ => s.size - (intOf i).toNat)
  case atStart => exact ⟨0, rfl, by simp, Nat.zero_le _, rfl⟩
  case round =>
    obtain ⟨k, rfl, rfl, hk, rfl⟩ := hrel
    clear he0
    by_cases hlt : k < s.size
    · have hT : Hid ((!e0 && (s.data.toList.take (k + 1)).all safeB) = ((!e0 && (s.data.toList.take k).all safeB) && safeB s[k])) := Lib.hid (by
        have e : s.data.toList[k]? = some s[k] := at_lt hlt
        rw [List.take_add_one, e, Option.toList_some, List.all_append, List.all_cons, List.all_nil, Bool.and_true, Bool.and_assoc])
      obtain ⟨b, hb⟩ : ∃ b, (!e0 && (s.data.toList.take k).all safeB) = b := ⟨_, rfl⟩
      rw [hb] at hT ⊢
      clear hb E0
      cases b with
      | true =>
        go_wp2_with (go_at_call 31; refine (plain_any s[k] _ rfl _).mono ?_; rintro e w' ⟨rfl, rfl⟩)
        go_roundw
        case rel => exact ⟨k + 1, by go_num, by rw [hT.out]; rfl, by omega, trivial⟩
        case measure => simp [intOf]; omega
      | false =>
        go_wp2_with fail
        go_roundw
        case rel => exact ⟨k + 1, by go_num, by rw [hT.out]; rfl, by omega, trivial⟩
        case measure => simp [intOf]; omega
    · have ek : k = s.size := by omega
      subst ek
      have et : Hid ((!e0 && (s.data.toList.take s.size).all safeB) = true ↔ s.data.toList ≠ [] ∧ s.data.toList.all safeB = true) := Lib.hid (by
        rw [show s.data.toList.take s.size = s.data.toList from List.take_of_length_le (Nat.le_refl _)]
        have h0 := E0.out
        cases e0 with
        | true => simp [h0.1 rfl]
        | false =>
          have hne : s.data.toList ≠ [] := fun h => by have := h0.2 h; cases this
          simp only [Bool.not_false, Bool.true_and]
          exact ⟨fun h => ⟨hne, h⟩, fun h => h.2⟩)
      obtain ⟨b, hb⟩ : ∃ b, (!e0 && (s.data.toList.take s.size).all safeB) = b := ⟨_, rfl⟩
      rw [hb] at et ⊢
      clear hb E0
      cases b with
      | true =>
        go_wp2_with fail
        go_ret
        exact ⟨by unfold quoteL; rw [if_pos (et.out.1 (by trivial))]; cases s; simp, Lib.hid (Below.refl _ _)⟩
      | false =>
        obtain ⟨u, hu⟩ : ∃ u, ByteArray.mk (quL s.data.toList).toArray = u := ⟨_, rfl⟩
        have HU := Lib.hid hu
        have us : u.size ≤ 4 * 16777216 := by
          rw [← hu]
          have := quL_len s.data.toList
          have e1 : s.data.toList.length = s.size := rfl
          show (quL s.data.toList).length ≤ _
          omega
        clear hu
        go_wp2_with (go_at_call 32; refine (replace_st s m _ HM.out hs).mono ?_; rw [HU.out]; rintro e w1 ⟨rfl, B1⟩)
        go_ret
        refine ⟨?_, B1⟩
        have e : quoteL s.data.toList = [39] ++ quL s.data.toList ++ [39] := by unfold quoteL; rw [if_neg (fun h => by have := et.out.2 h; cases this)]
        rw [e, ← HU.out]
        congr 3
end Go.Proofs.YtlhagpfpcdedpaaDoor
