/- walks: parse -/
import Derived.Test.YtpacfinfbcpfnaaDoorWh
import Derived.Test.YtpacfinfbcpfnaaDoorByt2
namespace Go.Proofs.YtpacfinfbcpfnaaDoor
open Go.RowKit
open Dcm Byt
set_option linter.unusedVariables false
def PartsPost (l : List UInt8) (w : World) (e : Ending) (w' : World) : Prop :=
  (∃ a f : ByteArray, e = .returned (.tuple #[.string a, .string f, .bool (okP l)]) ∧ (okP l = true → a.data.toList = wholeP l ∧ f.data.toList = fracP l)) ∧ w = w'
theorem parts_no (l : List UInt8) (w : World) (a f : ByteArray) (b : Bool) (hb : b = false) (h : okP l = false) : PartsPost l w (.returned (.tuple #[.string a, .string f, .bool b])) w :=
  ⟨⟨a, f, by rw [h, hb], fun h' => by rw [h] at h'; cases h'⟩, rfl⟩
theorem parts_yes (l : List UInt8) (w : World) (a f : ByteArray) (b : Bool) (hb : b = true) (h : okP l = true) (ha : a.data.toList = wholeP l) (hf : f.data.toList = fracP l) : PartsPost l w (.returned (.tuple #[.string a, .string f, .bool b])) w :=
  ⟨⟨a, f, by rw [h, hb], fun _ => ⟨ha, hf⟩⟩, rfl⟩
theorem digits_is (s : ByteArray) (n : Nat) (w : World) (hs : s.size ≤ 9223372036854775807) (hn : run dg s.data.toList = n) :
    Calls Tryd.prog 47 #[.string s] w fun e w' => e = .returned (.int .i64 (n : Int)) ∧ w = w' := by rw [← hn]; exact digits_any s w hs
theorem and_one {n : Nat} (h : ¬ 1 < n) (b : Bool) : (decide (1 < n) && b) = false := by simp [h]
set_option maxHeartbeats 4000000 in
theorem parts_frac (s f : ByteArray) (n : Nat) (w : World) (hs : s.size ≤ 9223372036854775807) (hnl : n < s.size) (hf : s.extract (n + 1) s.size = f) (hN : run dg s.data.toList = n) (h0 : ¬ n = 0)
    (hne : ((n : Int) == (s.size : Int)) = false) (hz : ((n : Int) == 0) = false) (hp : 0 < s.size) (hfs : f.size ≤ 9223372036854775807) (hfr : Hid (f.data.toList = fracP s.data.toList))
    (A : Hid ((s.extract 0 n).data.toList = wholeP s.data.toList)) (QQ : Hid (okP s.data.toList = (isAt s.data.toList n 46 && okF f.data.toList))) (hc : (decide ((1 : Int) < (n : Int)) = false) ∨ (decide ((1 : Int) < (n : Int)) = true ∧ ((s[0].toNat : Int) == 48) = false)) :
    Calls Tryd.prog 42 #[.string s] w (PartsPost s.data.toList w) := by
  by_cases g1 : (s[n].toNat : Int) = 46
  · have I1 := Lib.hid (isAt_t s n hnl 46 (by rw [g1]; rfl))
    have g1' : ((s[n].toNat : Int) == 46) = true := by rw [g1]; rfl
    clear g1
    by_cases g2 : 1 ≤ f.size
    · by_cases g3 : f.size ≤ 4
      · by_cases g4 : run dg f.data.toList = f.size
        · have hfp : f.size - 1 < f.size := by omega
          by_cases g5 : (f[f.size - 1].toNat : Int) = 48
          · have Q : Hid (okP s.data.toList = false) := Lib.hid (by rw [QQ.out]; unfold okF; rw [ends_t f hfp 48 (by rw [g5]; rfl)]; simp)
            have g5' : ((f[f.size - 1].toNat : Int) != 48) = false := by simp [g5]
            clear g5
            rcases hc with hc | ⟨hc, hc2⟩
            all_goals
              go_enter Tryd.func42, Tryd.ntmps42
              go_wp2_with (go_at_call 47; refine (digits_any _ _ (by assumption)).mono ?_; rintro e w' ⟨rfl, rfl⟩)
              go_ret3
              exact parts_no _ _ _ _ _ rfl Q.out
          · have Q : Hid (okP s.data.toList = true) := Lib.hid (by rw [QQ.out, I1.out]; unfold okF; rw [ends_f f hfp 48 g5, ← size_len]; simp [g2, g3, g4])
            have g5' : ((f[f.size - 1].toNat : Int) != 48) = true := by simpa using g5
            clear g5
            rcases hc with hc | ⟨hc, hc2⟩
            all_goals
              go_enter Tryd.func42, Tryd.ntmps42
              go_wp2_with (go_at_call 47; refine (digits_any _ _ (by assumption)).mono ?_; rintro e w' ⟨rfl, rfl⟩)
              go_ret3
              exact parts_yes _ _ _ _ _ rfl Q.out A.out hfr.out
        · have Q : Hid (okP s.data.toList = false) := Lib.hid (by rw [QQ.out]; unfold okF; rw [← size_len]; simp [g4])
          have g4' : ((run dg f.data.toList : Nat) : Int) = (f.size : Int) → False := by omega
          have g4'' : (((run dg f.data.toList : Nat) : Int) == (f.size : Int)) = false := by simp; omega
          clear g4 g4'
          rcases hc with hc | ⟨hc, hc2⟩
          all_goals
            go_enter Tryd.func42, Tryd.ntmps42
            go_wp2_with (go_at_call 47; refine (digits_any _ _ (by assumption)).mono ?_; rintro e w' ⟨rfl, rfl⟩)
            go_ret3
            exact parts_no _ _ _ _ _ rfl Q.out
      · have Q : Hid (okP s.data.toList = false) := Lib.hid (by rw [QQ.out]; unfold okF; rw [← size_len]; simp [g3])
        rcases hc with hc | ⟨hc, hc2⟩
        all_goals
          go_enter Tryd.func42, Tryd.ntmps42
          go_wp2_with (go_at_call 47; refine (digits_any _ _ (by assumption)).mono ?_; rintro e w' ⟨rfl, rfl⟩)
          go_ret3
          exact parts_no _ _ _ _ _ rfl Q.out
    · have Q : Hid (okP s.data.toList = false) := Lib.hid (by rw [QQ.out]; unfold okF; rw [← size_len]; simp [g2])
      rcases hc with hc | ⟨hc, hc2⟩
      all_goals
        go_enter Tryd.func42, Tryd.ntmps42
        go_wp2_with (go_at_call 47; refine (digits_any _ _ (by assumption)).mono ?_; rintro e w' ⟨rfl, rfl⟩)
        go_ret3
        exact parts_no _ _ _ _ _ rfl Q.out
  · have Q : Hid (okP s.data.toList = false) := Lib.hid (by rw [QQ.out, isAt_f s n hnl 46 g1]; simp)
    have g1' : ((s[n].toNat : Int) == 46) = false := by simpa using g1
    clear g1
    rcases hc with hc | ⟨hc, hc2⟩
    all_goals
      go_enter Tryd.func42, Tryd.ntmps42
      go_wp2_with (go_at_call 47; refine (digits_any _ _ (by assumption)).mono ?_; rintro e w' ⟨rfl, rfl⟩)
      go_ret3
      exact parts_no _ _ _ _ _ rfl Q.out
set_option maxHeartbeats 4000000 in
theorem parts_any (s : ByteArray) (w : World) (hs : s.size ≤ 9223372036854775807) :
    Calls Tryd.prog 42 #[.string s] w (PartsPost s.data.toList w) := by
  obtain ⟨n, hn⟩ : ∃ n, run dg s.data.toList = n := ⟨_, rfl⟩
  have hns : n ≤ s.size := by rw [← hn]; exact run_le_size _ _
  by_cases h0 : n = 0
  · have Q : Hid (okP s.data.toList = false) := Lib.hid (by simp [okP, hn, h0])
    subst h0
    go_enter Tryd.func42, Tryd.ntmps42
    go_wp2_with (go_at_call 47; refine (digits_any _ _ (by assumption)).mono ?_; rintro e w' ⟨rfl, rfl⟩)
    go_ret3
    exact parts_no _ _ _ _ _ rfl Q.out
  · have hz : ((n : Int) == 0) = false := by simp; omega
    have hp : 0 < s.size := by omega
    by_cases h1 : 1 < n ∧ (s[0].toNat : Int) = 48
    · obtain ⟨h1, h2⟩ := h1
      have Q : Hid (okP s.data.toList = false) := Lib.hid (by simp [okP, hn, h1, isAt_t s 0 hp 48 (by rw [h2]; rfl)])
      go_enter Tryd.func42, Tryd.ntmps42
      go_wp2_with (go_at_call 47; refine (digits_any _ _ (by assumption)).mono ?_; rintro e w' ⟨rfl, rfl⟩)
      go_ret3
      exact parts_no _ _ _ _ _ rfl Q.out
    · have Q1 : Hid ((decide (1 < n) && isAt s.data.toList 0 48) = false) := Lib.hid (by
        by_cases h4 : 1 < n
        · rw [isAt_f s 0 hp 48 (fun h => h1 ⟨h4, h⟩)]; simp
        · exact and_one h4 _)
      have hc : (decide ((1 : Int) < (n : Int)) = false) ∨ (decide ((1 : Int) < (n : Int)) = true ∧ ((s[0].toNat : Int) == 48) = false) := by
        by_cases h4 : 1 < n
        · right; exact ⟨by simp; omega, by simpa using fun h => h1 ⟨h4, h⟩⟩
        · left; simp; omega
      clear h1
      by_cases h2 : n = s.size
      · have Q : Hid (okP s.data.toList = true) := Lib.hid (by unfold okP; rw [hn, Q1.out, ← size_len, decide_eq_true h2, decide_eq_false h0]; rfl)
        have A : Hid (s.data.toList = wholeP s.data.toList) := Lib.hid (by unfold wholeP; rw [hn, h2, size_len, List.take_length])
        have F : Hid (([] : List UInt8) = fracP s.data.toList) := Lib.hid (by unfold fracP; rw [hn, drop_ge s (n + 1) (by omega)])
        subst h2
        have hne : ((s.size : Int) == (s.size : Int)) = true := by simp
        rcases hc with hc | ⟨hc, hc2⟩
        all_goals
          go_enter Tryd.func42, Tryd.ntmps42
          go_wp2_with (go_at_call 47; refine (digits_any _ _ (by assumption)).mono ?_; rintro e w' ⟨rfl, rfl⟩)
          go_ret3
          exact parts_yes _ _ _ _ _ rfl Q.out A.out F.out
      · have hnl : n < s.size := by omega
        have hne : ((n : Int) == (s.size : Int)) = false := by simp; omega
        obtain ⟨f, hf⟩ : ∃ f, s.extract (n + 1) s.size = f := ⟨_, rfl⟩
        have hfl : f.data.toList = fracP s.data.toList := by rw [← hf, ext_to]; unfold fracP; rw [hn]
        have hfz : f.size = s.size - (n + 1) := by rw [size_len, hfl]; unfold fracP; rw [hn, List.length_drop, ← size_len]
        exact parts_frac s f n w hs hnl hf hn h0 hne hz hp (by omega) hfl (Lib.hid (by rw [ext_mid]; unfold wholeP; rw [hn]; simp)) (Lib.hid (by
          unfold okP; rw [hn, Q1.out, ← size_len, ← hfl]
          rw [decide_eq_false h0, decide_eq_false h2]; rfl)) hc
end Go.Proofs.YtpacfinfbcpfnaaDoor
