/- plain: a word twice is a command with one argument -/
import Derived.Test.YtlhagpfpcdedpaaDoorHx
namespace Go.Proofs.YtlhagpfpcdedpaaDoor
namespace Shp
theorem stop32 (r : List UInt8) : Stop (32 :: r) := .inr ⟨32, r, rfl, rfl⟩
theorem isO_word {t : Tk} {a : Nat} {o : List UInt8} (h : t.k ≠ 2) : isO o (.run t a) = false := by
  unfold isO
  simp only
  rw [decide_eq_false h, Bool.false_and]
theorem knd_not {t : Tk} {a : Nat} (h : t.k ≠ 2) : knd (.run t a) = 0 := by
  unfold knd
  rw [isO_word h, isO_word h, isO_word h]; rfl
theorem two_words (l : List UInt8) (s : ByteArray) (hs : s.data.toList = quoteL l ++ 32 :: quoteL l) (hn : s.size ≤ 8192) : paR s = ([⟨[⟨l, [l], [], 0⟩], false, 1⟩], 0, 0) := by
  have h0 : nx s 0 = .run ⟨1, l, false, 0⟩ (quoteL l).length := by
    have := nx_quote (s := s) (j := 0) (l := l) (rest := 32 :: quoteL l) (by rw [List.drop_zero]; exact hs) (stop32 _)
    rw [Nat.zero_add] at this; exact this
  have d0 : s.data.toList.drop (quoteL l).length = 32 :: quoteL l := by rw [hs, List.drop_left]
  obtain ⟨b1, d1⟩ := at_drop d0
  have h1 : nx s (quoteL l).length = .run ⟨1, l, false, (quoteL l).length + 1⟩ ((quoteL l).length + 1 + (quoteL l).length) := by
    have := nx_quote (s := s) (j := (quoteL l).length + 1) (l := l) (rest := []) (by rw [List.append_nil]; exact d1) (.inl rfl)
    rw [← this]
    unfold nx
    rw [sk_blank b1]
  have d2 : s.data.toList.drop ((quoteL l).length + 1 + (quoteL l).length) = [] := by rw [← List.drop_drop, d1, List.drop_length]
  have h2 := nx_end d2
  have w0 : WfS s (nx s 0) := nx_wf (Nat.zero_le _)
  have w1 : WfS s (nx s (quoteL l).length) := nx_wf (by rw [h0] at w0; exact w0.1)
  have w2 : WfS s (nx s ((quoteL l).length + 1 + (quoteL l).length)) := nx_wf (by rw [h1] at w1; exact w1.1)
  have c0 : cm1 s (nx s 0, ⟨[], [], [], tokAt (nx s 0)⟩, false) = some (nx s (quoteL l).length, ⟨l, [], [], 0⟩, true) := by
    rw [h0]
    unfold cm1
    simp only
    rw [if_neg (by rw [knd_not (by simp)]; decide), if_pos trivial]
    rfl
  have c1 : cm1 s (nx s (quoteL l).length, ⟨l, [], [], 0⟩, true) = some (nx s ((quoteL l).length + 1 + (quoteL l).length), ⟨l, [l], [], 0⟩, true) := by
    rw [h1]
    unfold cm1
    simp only
    rw [if_neg (by rw [knd_not (by simp)]; decide), if_pos trivial]
    rfl
  have c2 : cm1 s (nx s ((quoteL l).length + 1 + (quoteL l).length), ⟨l, [l], [], 0⟩, true) = none := by
    rw [h2]
    unfold cm1
    simp only
    rw [if_neg (by rw [knd_not (by simp)]; decide), if_neg (by decide)]
  have cs : cmS s (nx s 0) = (.run ⟨0, [], false, s.size⟩ s.size, ⟨l, [l], [], 0⟩) := by
    unfold cmS
    rw [cm_step (z := (nx s 0, ⟨[], [], [], tokAt (nx s 0)⟩, false)) w0 c0, cm_step (z := (nx s (quoteL l).length, ⟨l, [], [], 0⟩, true)) w1 c1, cm_none c2, h2]
    rfl
  have hb : beg (nx s 0) = true := by rw [h0]; rfl
  have ho : okB (nx s 0) = true := by rw [h0]; rfl
  have pb : plB s (nx s 0) 1 = (nx s 0, false) := by
    unfold plB
    rw [if_neg (by decide), if_pos hb, h0]
    rfl
  have p1 : pl1 s (nx s 0, [], false) = some (.run ⟨0, [], false, s.size⟩ s.size, [⟨l, [l], [], 0⟩], true) := by
    unfold pl1
    simp only
    rw [if_neg (by simp [ho]), if_neg (by simp [hb]), if_neg (by decide), cs]
    rfl
  have ps : plS s (nx s 0) 1 1 = (.run ⟨0, [], false, s.size⟩ s.size, ⟨[⟨l, [l], [], 0⟩], false, 1⟩) := by
    unfold plS
    rw [pb]
    simp only
    rw [pl_step (z := (nx s 0, [], false)) w0 p1, pl_done]
  have wE : WfS s (.run ⟨0, [], false, s.size⟩ s.size) := h2 ▸ w2
  have sn : sepN s (.run ⟨0, [], false, s.size⟩ s.size) = .run ⟨0, [], false, s.size⟩ s.size := by
    have e1 : sepS (.run ⟨0, [], false, s.size⟩ s.size) = .run ⟨0, [], false, s.size⟩ s.size := rfl
    unfold sepN
    rw [e1, if_pos (show endB (.run ⟨0, [], false, s.size⟩ s.size) = true from rfl), lf_none rfl]
  have a0 : pa1 s (nx s 0, [], 1) = some (.run ⟨0, [], false, s.size⟩ s.size, [⟨[⟨l, [l], [], 0⟩], false, 1⟩], 1) := by
    unfold pa1
    simp only
    rw [if_neg (by rw [h0]; simp [okB, endB])]
    show some (sepN s (plS s (nx s 0) 1 1).1, [] ++ [(plS s (nx s 0) 1 1).2], cnO (plS s (nx s 0) 1 1).1) = _
    rw [ps]
    simp only
    rw [sn]
    rfl
  have a1 : pa1 s (.run ⟨0, [], false, s.size⟩ s.size, [⟨[⟨l, [l], [], 0⟩], false, 1⟩], 1) = none := by
    unfold pa1
    rw [if_pos (.inr ⟨rfl, rfl⟩)]
  have lf : lfS s (nx s 0) = nx s 0 := lf_none (by rw [h0]; exact isO_word (by simp))
  unfold paR
  rw [if_neg (by omega)]
  unfold paS
  rw [lf, pa_step (z := (nx s 0, [], 1)) w0 a0, pa_none a1]
end Shp
end Go.Proofs.YtlhagpfpcdedpaaDoor
