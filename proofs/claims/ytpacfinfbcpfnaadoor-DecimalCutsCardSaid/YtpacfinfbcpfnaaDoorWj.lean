/- walks: Parse -/
import Derived.Test.YtpacfinfbcpfnaaDoorWi
namespace Go.Proofs.YtpacfinfbcpfnaaDoor
open Go.RowKit
open Dcm Byt
theorem mem_whole (l : List UInt8) : ∀ c ∈ wholeP l, dg c = true := fun c h => mem_run dg l c h
theorem run_all : ∀ (l : List UInt8), run dg l = l.length → ∀ c ∈ l, dg c = true := by
  intro l h c hc
  have := mem_run dg l c
  rw [h, List.take_length] at this
  exact this hc
theorem okP_frac (l : List UInt8) (h : okP l = true) : ∀ c ∈ fracP l, dg c = true := by
  unfold okP at h
  simp only [Bool.and_eq_true, Bool.or_eq_true, decide_eq_true_eq] at h
  rcases h.2 with h2 | ⟨_, h2⟩
  · unfold fracP
    rw [h2, List.drop_eq_nil_of_le (by omega)]
    intro c hc; cases hc
  · unfold okF at h2
    simp only [Bool.and_eq_true, decide_eq_true_eq] at h2
    exact run_all _ h2.1.2
theorem value_bd (a f : List UInt8) (ha : ∀ c ∈ a, dg c = true) (hf : ∀ c ∈ f, dg c = true) : 0 ≤ valueV a f ∧ valueV a f ≤ 10000000000001 := by
  unfold valueV
  cases h : val a 0 with
  | none => simp
  | some v =>
    have h1 := val_bd a 0 v ha (by omega) (by omega) h
    have h2 := fr4_bd f hf
    simp only
    omega
theorem parse_no (l : List UInt8) (h : parseOk l = false) : parseV l = 0 ∧ parseE l = 1 := by simp [parseV, parseE, h]
theorem parse_yes (l : List UInt8) (h : parseOk l = true) : parseV l = fitV (if negL l then -(parseN l) else parseN l) ∧ parseE l = fitE (if negL l then -(parseN l) else parseN l) := by simp [parseV, parseE, h]
theorem str_eq (s : ByteArray) (l : List UInt8) : (s.toList == l) = decide (s.data.toList = l) := by
  rw [Lib.toList_data]; by_cases h : s.data.toList = l <;> simp [h]
theorem parts_f (s : ByteArray) (w : World) (hs : s.size ≤ 9223372036854775807) (h : okP s.data.toList = false) :
    Calls Tryd.prog 42 #[.string s] w fun e w' => ∃ a f : ByteArray, e = .returned (.tuple #[.string a, .string f, .bool false]) ∧ w = w' :=
  (parts_any s w hs).mono fun e w' ⟨⟨a, f, he, _⟩, hw⟩ => ⟨a, f, by rw [he, h], hw⟩
structure Got (l : List UInt8) (a f : ByteArray) : Prop where
  ha : a.data.toList = wholeP l
  hf : f.data.toList = fracP l
  da : ∀ c ∈ a.data.toList, dg c = true
  df : ∀ c ∈ f.data.toList, dg c = true
theorem parts_t (s : ByteArray) (w : World) (hs : s.size ≤ 9223372036854775807) (h : okP s.data.toList = true) :
    Calls Tryd.prog 42 #[.string s] w fun e w' => ∃ a f : ByteArray, e = .returned (.tuple #[.string a, .string f, .bool true]) ∧ Got s.data.toList a f ∧ a.size ≤ 9223372036854775807 ∧ f.size ≤ 9223372036854775807 ∧ 0 ≤ valueV a.data.toList f.data.toList ∧ valueV a.data.toList f.data.toList ≤ 10000000000001 ∧ w = w' :=
  (parts_any s w hs).mono fun e w' ⟨⟨a, f, he, hq⟩, hw⟩ => by
    obtain ⟨h1, h2⟩ := hq h
    have d1 : ∀ c ∈ a.data.toList, dg c = true := by rw [h1]; exact mem_whole _
    have d2 : ∀ c ∈ f.data.toList, dg c = true := by rw [h2]; exact okP_frac _ h
    have hv := value_bd _ _ d1 d2
    refine ⟨a, f, by rw [he, h], ⟨h1, h2, d1, d2⟩, ?_, ?_, hv.1, hv.2, hw⟩
    · rw [size_len, h1]; unfold wholeP; rw [List.length_take, ← size_len]; omega
    · rw [size_len, h2]; unfold fracP; rw [List.length_drop, ← size_len]; omega
theorem Got.n {l : List UInt8} {a f : ByteArray} (g : Got l a f) : valueV a.data.toList f.data.toList = valueV (wholeP l) (fracP l) := by rw [g.ha, g.hf]
set_option maxHeartbeats 2000000 in
theorem parse_any (s : ByteArray) (w : World) (hs : s.size ≤ 9223372036854775807) :
    Calls Tryd.prog 14 #[.string s] w fun e w' => e = .returned (.tuple #[.int .i64 (parseV s.data.toList), .int .i64 (parseE s.data.toList)]) ∧ w = w' := by
  by_cases hp : 0 < s.size ∧ isAt s.data.toList 0 45 = true
  · obtain ⟨h0, hi⟩ := hp
    have hng : negL s.data.toList = true := hi
    have h0' : decide ((0 : Int) < (s.size : Int)) = true := by rw [decide_eq_true_eq]; omega
    have hc : ((s[0].toNat : Int) == 45) = true := by
      rcases Decidable.em ((s[0].toNat : Int) = 45) with h | h
      · rw [h]; rfl
      · rw [isAt_f s 0 h0 45 h] at hi; cases hi
    clear hi
    obtain ⟨t, ht⟩ : ∃ t, s.extract 1 s.size = t := ⟨_, rfl⟩
    have hr : restL s.data.toList = t.data.toList := by unfold restL; rw [hng, ← ht, ext_to]; rfl
    have hts : t.size ≤ 9223372036854775807 := by
      have : t.size = s.size - 1 := by rw [← ht]; simp
      omega
    cases hok : okP t.data.toList
    · have Q := Lib.hid (parse_no s.data.toList (by unfold parseOk; rw [hr, hok]; rfl))
      have OK := Lib.hid hok; clear hok
      clear hng hr
      go_enter Tryd.func14, Tryd.ntmps14
      go_wp2_with (go_at_call 42; refine (parts_f _ _ (by assumption) OK.out).mono ?_; rintro e w' ⟨a, f, rfl, rfl⟩)
      go_ret2
      exact ⟨ret_ii Q.out.1.symm Q.out.2.symm, rfl⟩
    · have OK := Lib.hid hok; clear hok
      cases hz : decide (t.data.toList = [48])
      · have Q := Lib.hid (parse_yes s.data.toList (by unfold parseOk; rw [hr, OK.out, hng, hz]; rfl))
        have N : Hid (parseN s.data.toList = valueV (wholeP t.data.toList) (fracP t.data.toList)) := Lib.hid (by unfold parseN; rw [hr])
        have hz' : (t.toList == [48]) = false := by rw [str_eq, hz]
        have NG := Lib.hid hng
        clear hng hr hz
        go_enter Tryd.func14, Tryd.ntmps14
        go_wp2_with (first | (go_at_call 42; refine (parts_t _ _ (by assumption) OK.out).mono ?_; rintro e w' ⟨a, f, rfl, G, sa, sf, v1, v2, rfl⟩) | (go_at_call 43; refine (value_any _ _ _ (by assumption) (by assumption) (Lib.hid G.da) (Lib.hid G.df)).mono ?_; rintro e w' ⟨rfl, rfl⟩) | (go_at_call 44; refine (fit_any _ _).mono ?_; rintro e w' ⟨rfl, rfl⟩))
        go_ret2
        exact ⟨ret_ii (by rw [Q.out.1, NG.out, N.out, ← G.n, if_pos rfl]) (by rw [Q.out.2, NG.out, N.out, ← G.n, if_pos rfl]), rfl⟩
      · have Q := Lib.hid (parse_no s.data.toList (by unfold parseOk; rw [hr, hng, hz]; simp))
        have hz' : (t.toList == [48]) = true := by rw [str_eq, hz]
        clear hng hr hz
        go_enter Tryd.func14, Tryd.ntmps14
        go_wp2_with (first | (go_at_call 42; refine (parts_t _ _ (by assumption) OK.out).mono ?_; rintro e w' ⟨a, f, rfl, G, sa, sf, v1, v2, rfl⟩))
        go_ret2
        exact ⟨ret_ii Q.out.1.symm Q.out.2.symm, rfl⟩
  · have hng : negL s.data.toList = false := by
      unfold negL
      by_cases h : 0 < s.size
      · simpa [h] using hp
      · exact isAt_e s 0 (by omega) 45
    have hr : restL s.data.toList = s.data.toList := by unfold restL; rw [hng]; rfl
    have hc : decide ((0 : Int) < (s.size : Int)) = false ∨ decide ((0 : Int) < (s.size : Int)) = true ∧ ∀ h : 0 < s.size, (((s[0]'h).toNat : Int) == 45) = false := by
      by_cases h : 0 < s.size
      · right
        refine ⟨by rw [decide_eq_true_eq]; omega, fun h => ?_⟩
        have h2 : isAt s.data.toList 0 45 = false := by simpa [h] using hp
        apply beq_eq_false_iff_ne.2
        intro h3
        rw [isAt_t s 0 h 45 (by rw [h3]; rfl)] at h2; cases h2
      · left; rw [decide_eq_false_iff_not]; omega
    clear hp
    cases hok : okP s.data.toList
    · have Q := Lib.hid (parse_no s.data.toList (by unfold parseOk; rw [hr, hok]; rfl))
      have OK := Lib.hid hok; clear hok
      clear hng hr
      rcases hc with hc | ⟨hc, hc2⟩
      · have h0 : s.size = 0 := by have := of_decide_eq_false hc; omega
        obtain ⟨⟨l⟩⟩ := s
        have h1 : l = [] := List.eq_nil_of_length_eq_zero h0
        subst h1
        clear hc h0 hs OK
        go_enter Tryd.func14, Tryd.ntmps14
        go_wp2_with (go_at_call 42; refine (parts_f _ _ (by decide) (by decide)).mono ?_; rintro e w' ⟨a, f, rfl, rfl⟩)
        go_ret2
        exact ⟨ret_ii Q.out.1.symm Q.out.2.symm, rfl⟩
      · have hp : 0 < s.size := by have := of_decide_eq_true hc; omega
        have hc2 := hc2 hp
        go_enter Tryd.func14, Tryd.ntmps14
        go_wp2_with (go_at_call 42; refine (parts_f _ _ (by assumption) OK.out).mono ?_; rintro e w' ⟨a, f, rfl, rfl⟩)
        go_ret2
        exact ⟨ret_ii Q.out.1.symm Q.out.2.symm, rfl⟩
    · have OK := Lib.hid hok; clear hok
      have Q := Lib.hid (parse_yes s.data.toList (by unfold parseOk; rw [hr, OK.out, hng]; rfl))
      have N : Hid (parseN s.data.toList = valueV (wholeP s.data.toList) (fracP s.data.toList)) := Lib.hid (by unfold parseN; rw [hr])
      have NG := Lib.hid hng
      clear hng hr
      rcases hc with hc | ⟨hc, hc2⟩
      · exfalso
        have h0 : s.size = 0 := by have := of_decide_eq_false hc; omega
        have h1 : s.data.toList = [] := List.eq_nil_of_length_eq_zero (by rw [← size_len]; exact h0)
        have := OK.out
        rw [h1] at this
        exact absurd this (by decide)
      · have hp : 0 < s.size := by have := of_decide_eq_true hc; omega
        have hc2 := hc2 hp
        go_enter Tryd.func14, Tryd.ntmps14
        go_wp2_with (first | (go_at_call 42; refine (parts_t _ _ (by assumption) OK.out).mono ?_; rintro e w' ⟨a, f, rfl, G, sa, sf, v1, v2, rfl⟩) | (go_at_call 43; refine (value_any _ _ _ (by assumption) (by assumption) (Lib.hid G.da) (Lib.hid G.df)).mono ?_; rintro e w' ⟨rfl, rfl⟩) | (go_at_call 44; refine (fit_any _ _).mono ?_; rintro e w' ⟨rfl, rfl⟩))
        go_ret2
        exact ⟨ret_ii (by rw [Q.out.1, NG.out, N.out, ← G.n, if_neg Bool.false_ne_true]) (by rw [Q.out.2, NG.out, N.out, ← G.n, if_neg Bool.false_ne_true]), rfl⟩
end Go.Proofs.YtpacfinfbcpfnaaDoor
