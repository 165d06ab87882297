/- walks: mark -/
import Derived.Test.YtbioflajonafdaaSg
namespace Go.Proofs.Ytbioflajonafdaa
open Go.RowKit
open Tx
theorem idx_one (c : UInt8) (k : Int) (w : World) (h : Lib.indexByte onL c = k) :
    Calls Try.prog 36 #[.string ⟨#[123, 125, 40, 41, 91, 93, 59, 44, 43, 45, 42, 47, 37, 94, 33, 60, 62, 63, 58, 126, 36, 61]⟩, .int .u8 (c.toNat : Int)] w fun e w' => e = .returned (.int .i64 k) ∧ w = w' := by
  refine (Try.strings_IndexByte _ (c.toNat : Int) w).mono fun e w' ⟨h1, h2⟩ => ⟨?_, h2.symm⟩
  rw [h1, ← h]
  have e : ((c.toNat : Int)).toNat.toUInt8 = c := by simp
  rw [e]; rfl
theorem idx_mem (l : List UInt8) (c : UInt8) : (Lib.indexByte l c < 0 ↔ c ∉ l) := by
  induction l with
  | nil => simp [Lib.indexByte]
  | cons b r ih =>
    have hge : -1 ≤ Lib.indexByte r c := by rw [← Lib.index_one]; exact Lib.index_ge _ _
    by_cases hb : b = c
    · subst hb; simp [Lib.indexByte]
    · simp only [Lib.indexByte]
      rw [if_neg (by simpa using hb)]
      by_cases hm : Lib.indexByte r c = -1
      · rw [hm]
        have := ih.mp (by omega)
        simp [this, Ne.symm hb]
      · rw [if_neg (by simpa using hm)]
        have h2 : ¬ (c ∉ r) := fun x => by have := ih.mpr x; omega
        constructor
        · intro x; omega
        · intro x; exact absurd (fun y => x (List.mem_cons_of_mem _ y)) h2
set_option maxHeartbeats 4000000 in
theorem smark_no (p : Nat) (s : ByteArray) (a : Nat) (v : Value) (T : List Tok) (pos : Int) (w : World) (h : LX p s a v T 0 pos w) (hs : s.size ≤ 8192) (ha : a < s.size) (hT : T.length ≤ 1048576) (u : ByteArray) (hu : s.extract a (min ((a : Int) + 2) (s.size : Int)).toNat = u) (hm : u.data.toList ∉ twL) (x : ByteArray) (hx : s.extract a (a + 1) = x) (hux : u.extract 0 1 = x) (hu1 : 1 ≤ u.size) :
    Calls Try.prog 44 #[.pointer (some ⟨p, 0, none⟩)] w fun e w' => e = .returned (.tuple #[]) ∧ OutP p s T a pos w' (markM s a) ∧ Below p w w' := by
  have HX := Lib.hid h
  have HT := Lib.hid hT
  have hp : p < w.heap.size := by have := h.size; omega
  obtain ⟨c0, c1, -, -, -, -⟩ := h.cells
  have i1 : (0 : Int) ≤ (a : Int) := by omega
  have i3 : (a : Int) < (s.size : Int) := by omega
  have i2 : (a : Int) ≤ min ((a : Int) + 2) (s.size : Int) := by omega
  have i4 : min ((a : Int) + 2) (s.size : Int) ≤ (s.size : Int) := by omega
  have hmn : (min ((a : Int) + 2) (s.size : Int)).toNat = min (a + 2) s.size := by omega
  have wr2 : IntKind.i64.wrap ((a : Int) + 2) = (a : Int) + 2 := by rw [IntKind.wrap_i64]; omega
  have wr1 : IntKind.i64.wrap ((a : Int) + 1) = (a : Int) + 1 := by rw [IntKind.wrap_i64]; omega
  have i8 : (1 : Int) ≤ (u.size : Int) := by omega
  have e0 := eqs_not hm [43, 61] (by decide)
  have e1 := eqs_not hm [45, 61] (by decide)
  have e2 := eqs_not hm [42, 61] (by decide)
  have e3 := eqs_not hm [47, 61] (by decide)
  have e4 := eqs_not hm [37, 61] (by decide)
  have e5 := eqs_not hm [94, 61] (by decide)
  have e6 := eqs_not hm [61, 61] (by decide)
  have e7 := eqs_not hm [60, 61] (by decide)
  have e8 := eqs_not hm [62, 61] (by decide)
  have e9 := eqs_not hm [33, 61] (by decide)
  have e10 := eqs_not hm [33, 126] (by decide)
  have e11 := eqs_not hm [43, 43] (by decide)
  have e12 := eqs_not hm [45, 45] (by decide)
  have e13 := eqs_not hm [38, 38] (by decide)
  have e14 := eqs_not hm [124, 124] (by decide)
  have e15 := eqs_not hm [62, 62] (by decide)
  have PK := pk_at ha
  have KP : Hid (∀ w', Below w.heap.size w w' → Below w.heap.size w w' ∧ w'.cell? ⟨p, 0, none⟩ = some (.string s) ∧ w'.cell? ⟨p, 1, none⟩ = some (.int .i64 a)) := Lib.hid fun w' b => ⟨b, (b.cell (p := ⟨p, 0, none⟩) hp).trans c0, (b.cell (p := ⟨p, 1, none⟩) hp).trans c1⟩
  by_cases ho : s[a] ∈ onL
  · have O : Hid (markM s a = .tk 7 x 0 (a + 1)) := Lib.hid (by unfold markM; rw [← hmn, hu, if_neg hm, PK, if_pos (by simpa using ho), hx])
    obtain ⟨k, hk⟩ : ∃ k, Lib.indexByte onL s[a] = k := ⟨_, rfl⟩
    have HK := Lib.hid hk
    have i7 : ¬ k < 0 := by rw [← hk, idx_mem]; simpa using ho
    clear h hT hm hk PK hx hu1 hmn ho
    go_enter Try.func44, Try.ntmps44
    go_wp2_with fail
    go_quiet (fail)
    go_wp2_with fail
    have S0 := KP.out _ (tx_below_drewN (Below.refl w.heap.size w) nq).drew
    go_region_held3 (fun w' => Below w.heap.size w w' ∧ w'.cell? ⟨p, 0, none⟩ = some (.string s) ∧ w'.cell? ⟨p, 1, none⟩ = some (.int .i64 a)) (first | exact S0) (first | (go_at_call 36; refine (idx_one s[a] k _ HK.out).mono ?_; rintro e w2 ⟨rfl, rfl⟩))
    go_wp2_with fail
    clear S0
    go_region_with (first | (go_at_call 25; refine (put_any p s a (a + 1) v T ⟨7, x, 0, 0⟩ 0 pos _ ?_ HT.out).mono ?_; exact HX.out.below (tx_below_drewN (Below.refl w.heap.size w) _); rintro er w3 ⟨rfl, hb3, v3, L3⟩))
    go_end0
    exact ⟨rfl, OutP.of O.out ⟨v3, L3.cast (by omega)⟩, ((tx_below_drewN (Below.refl w.heap.size w) _).mono (by omega)).trans hb3⟩
  · have O : Hid (markM s a = .er 1 a) := Lib.hid (by unfold markM; rw [← hmn, hu, if_neg hm, PK, if_neg (by simpa using ho)])
    obtain ⟨k, hk⟩ : ∃ k, Lib.indexByte onL s[a] = k := ⟨_, rfl⟩
    have HK := Lib.hid hk
    have i7 : k < 0 := by rw [← hk, idx_mem]; exact ho
    clear h hT hm hk PK hx hu1 hmn ho
    go_enter Try.func44, Try.ntmps44
    go_wp2_with fail
    go_quiet (fail)
    go_wp2_with fail
    have S0 := KP.out _ (tx_below_drewN (Below.refl w.heap.size w) nq).drew
    go_region_held3 (fun w' => Below w.heap.size w w' ∧ w'.cell? ⟨p, 0, none⟩ = some (.string s) ∧ w'.cell? ⟨p, 1, none⟩ = some (.int .i64 a)) (first | exact S0) (first | (go_at_call 36; refine (idx_one s[a] k _ HK.out).mono ?_; rintro e w2 ⟨rfl, rfl⟩))
    go_wp2_with (go_at_call 57; refine (fail_any p s a v T pos 1 a _ (HX.out.below (tx_below_drewN (Below.refl _ _) (nq + 1)))).mono ?_; rintro er w3 ⟨rfl, L3, hb3⟩)
    (try simp only [Exit.inBlock, Exit.then]); refine bodyPost_ret (results_none rfl _ _ _) rfl ?_
    exact ⟨rfl, OutP.of O.out ⟨v, L3⟩, (tx_below_drewN (Below.refl _ _) (nq + 1)).trans hb3⟩
set_option maxHeartbeats 4000000 in
theorem smark_two (p : Nat) (s : ByteArray) (a : Nat) (v : Value) (T : List Tok) (pos : Int) (w : World) (h : LX p s a v T 0 pos w) (hs : s.size ≤ 8192) (ha : a < s.size) (hT : T.length ≤ 1048576) (u : ByteArray) (hu : s.extract a (min ((a : Int) + 2) (s.size : Int)).toNat = u) (hm : u.data.toList ∈ twL) :
    Calls Try.prog 44 #[.pointer (some ⟨p, 0, none⟩)] w fun e w' => e = .returned (.tuple #[]) ∧ OutP p s T a pos w' (markM s a) ∧ Below p w w' := by
  have HX := Lib.hid h
  have HT := Lib.hid hT
  obtain ⟨c0, c1, -, -, -, -⟩ := h.cells
  have i1 : (0 : Int) ≤ (a : Int) := by omega
  have i2 : (a : Int) ≤ min ((a : Int) + 2) (s.size : Int) := by omega
  have i4 : min ((a : Int) + 2) (s.size : Int) ≤ (s.size : Int) := by omega
  have hmn : (min ((a : Int) + 2) (s.size : Int)).toNat = min (a + 2) s.size := by omega
  have wr2 : IntKind.i64.wrap ((a : Int) + 2) = (a : Int) + 2 := by rw [IntKind.wrap_i64]; omega
  have O : Hid (markM s a = .tk 7 u 0 (a + 2)) := Lib.hid (by unfold markM; rw [← hmn, hu, if_pos hm])
  clear h hT hmn ha
  simp only [twL, List.mem_cons, List.not_mem_nil, or_false] at hm
  rcases hm with hm | hm | hm | hm | hm | hm | hm | hm | hm | hm | hm | hm | hm | hm | hm | hm
  · have e0 := eqs_of hm [43, 61] true (by decide)
    clear hm
    go_enter Try.func44, Try.ntmps44
    go_wp2_with fail
    go_quiet (fail)
    go_wp2_with (go_at_call 25; refine (put_any p s a (a + 2) v T ⟨7, u, 0, 0⟩ 0 pos _ (HX.out.below (tx_below_drewN (Below.refl _ _) nq)) HT.out).mono ?_; rintro er w3 ⟨rfl, hb3, v3, L3⟩)
    (try simp only [Exit.inBlock, Exit.then]); refine bodyPost_ret (results_none rfl _ _ _) rfl ?_
    exact ⟨rfl, OutP.of O.out ⟨v3, L3.cast (by omega)⟩, (tx_below_drewN (Below.refl _ _) nq).trans hb3⟩
  · have e0 := eqs_of hm [43, 61] false (by decide)
    have e1 := eqs_of hm [45, 61] true (by decide)
    clear hm
    go_enter Try.func44, Try.ntmps44
    go_wp2_with fail
    go_quiet (fail)
    go_wp2_with (go_at_call 25; refine (put_any p s a (a + 2) v T ⟨7, u, 0, 0⟩ 0 pos _ (HX.out.below (tx_below_drewN (Below.refl _ _) nq)) HT.out).mono ?_; rintro er w3 ⟨rfl, hb3, v3, L3⟩)
    (try simp only [Exit.inBlock, Exit.then]); refine bodyPost_ret (results_none rfl _ _ _) rfl ?_
    exact ⟨rfl, OutP.of O.out ⟨v3, L3.cast (by omega)⟩, (tx_below_drewN (Below.refl _ _) nq).trans hb3⟩
  · have e0 := eqs_of hm [43, 61] false (by decide)
    have e1 := eqs_of hm [45, 61] false (by decide)
    have e2 := eqs_of hm [42, 61] true (by decide)
    clear hm
    go_enter Try.func44, Try.ntmps44
    go_wp2_with fail
    go_quiet (fail)
    go_wp2_with (go_at_call 25; refine (put_any p s a (a + 2) v T ⟨7, u, 0, 0⟩ 0 pos _ (HX.out.below (tx_below_drewN (Below.refl _ _) nq)) HT.out).mono ?_; rintro er w3 ⟨rfl, hb3, v3, L3⟩)
    (try simp only [Exit.inBlock, Exit.then]); refine bodyPost_ret (results_none rfl _ _ _) rfl ?_
    exact ⟨rfl, OutP.of O.out ⟨v3, L3.cast (by omega)⟩, (tx_below_drewN (Below.refl _ _) nq).trans hb3⟩
  · have e0 := eqs_of hm [43, 61] false (by decide)
    have e1 := eqs_of hm [45, 61] false (by decide)
    have e2 := eqs_of hm [42, 61] false (by decide)
    have e3 := eqs_of hm [47, 61] true (by decide)
    clear hm
    go_enter Try.func44, Try.ntmps44
    go_wp2_with fail
    go_quiet (fail)
    go_wp2_with (go_at_call 25; refine (put_any p s a (a + 2) v T ⟨7, u, 0, 0⟩ 0 pos _ (HX.out.below (tx_below_drewN (Below.refl _ _) nq)) HT.out).mono ?_; rintro er w3 ⟨rfl, hb3, v3, L3⟩)
    (try simp only [Exit.inBlock, Exit.then]); refine bodyPost_ret (results_none rfl _ _ _) rfl ?_
    exact ⟨rfl, OutP.of O.out ⟨v3, L3.cast (by omega)⟩, (tx_below_drewN (Below.refl _ _) nq).trans hb3⟩
  · have e0 := eqs_of hm [43, 61] false (by decide)
    have e1 := eqs_of hm [45, 61] false (by decide)
    have e2 := eqs_of hm [42, 61] false (by decide)
    have e3 := eqs_of hm [47, 61] false (by decide)
    have e4 := eqs_of hm [37, 61] true (by decide)
    clear hm
    go_enter Try.func44, Try.ntmps44
    go_wp2_with fail
    go_quiet (fail)
    go_wp2_with (go_at_call 25; refine (put_any p s a (a + 2) v T ⟨7, u, 0, 0⟩ 0 pos _ (HX.out.below (tx_below_drewN (Below.refl _ _) nq)) HT.out).mono ?_; rintro er w3 ⟨rfl, hb3, v3, L3⟩)
    (try simp only [Exit.inBlock, Exit.then]); refine bodyPost_ret (results_none rfl _ _ _) rfl ?_
    exact ⟨rfl, OutP.of O.out ⟨v3, L3.cast (by omega)⟩, (tx_below_drewN (Below.refl _ _) nq).trans hb3⟩
  · have e0 := eqs_of hm [43, 61] false (by decide)
    have e1 := eqs_of hm [45, 61] false (by decide)
    have e2 := eqs_of hm [42, 61] false (by decide)
    have e3 := eqs_of hm [47, 61] false (by decide)
    have e4 := eqs_of hm [37, 61] false (by decide)
    have e5 := eqs_of hm [94, 61] true (by decide)
    clear hm
    go_enter Try.func44, Try.ntmps44
    go_wp2_with fail
    go_quiet (fail)
    go_wp2_with (go_at_call 25; refine (put_any p s a (a + 2) v T ⟨7, u, 0, 0⟩ 0 pos _ (HX.out.below (tx_below_drewN (Below.refl _ _) nq)) HT.out).mono ?_; rintro er w3 ⟨rfl, hb3, v3, L3⟩)
    (try simp only [Exit.inBlock, Exit.then]); refine bodyPost_ret (results_none rfl _ _ _) rfl ?_
    exact ⟨rfl, OutP.of O.out ⟨v3, L3.cast (by omega)⟩, (tx_below_drewN (Below.refl _ _) nq).trans hb3⟩
  · have e0 := eqs_of hm [43, 61] false (by decide)
    have e1 := eqs_of hm [45, 61] false (by decide)
    have e2 := eqs_of hm [42, 61] false (by decide)
    have e3 := eqs_of hm [47, 61] false (by decide)
    have e4 := eqs_of hm [37, 61] false (by decide)
    have e5 := eqs_of hm [94, 61] false (by decide)
    have e6 := eqs_of hm [61, 61] true (by decide)
    clear hm
    go_enter Try.func44, Try.ntmps44
    go_wp2_with fail
    go_quiet (fail)
    go_wp2_with (go_at_call 25; refine (put_any p s a (a + 2) v T ⟨7, u, 0, 0⟩ 0 pos _ (HX.out.below (tx_below_drewN (Below.refl _ _) nq)) HT.out).mono ?_; rintro er w3 ⟨rfl, hb3, v3, L3⟩)
    (try simp only [Exit.inBlock, Exit.then]); refine bodyPost_ret (results_none rfl _ _ _) rfl ?_
    exact ⟨rfl, OutP.of O.out ⟨v3, L3.cast (by omega)⟩, (tx_below_drewN (Below.refl _ _) nq).trans hb3⟩
  · have e0 := eqs_of hm [43, 61] false (by decide)
    have e1 := eqs_of hm [45, 61] false (by decide)
    have e2 := eqs_of hm [42, 61] false (by decide)
    have e3 := eqs_of hm [47, 61] false (by decide)
    have e4 := eqs_of hm [37, 61] false (by decide)
    have e5 := eqs_of hm [94, 61] false (by decide)
    have e6 := eqs_of hm [61, 61] false (by decide)
    have e7 := eqs_of hm [60, 61] true (by decide)
    clear hm
    go_enter Try.func44, Try.ntmps44
    go_wp2_with fail
    go_quiet (fail)
    go_wp2_with (go_at_call 25; refine (put_any p s a (a + 2) v T ⟨7, u, 0, 0⟩ 0 pos _ (HX.out.below (tx_below_drewN (Below.refl _ _) nq)) HT.out).mono ?_; rintro er w3 ⟨rfl, hb3, v3, L3⟩)
    (try simp only [Exit.inBlock, Exit.then]); refine bodyPost_ret (results_none rfl _ _ _) rfl ?_
    exact ⟨rfl, OutP.of O.out ⟨v3, L3.cast (by omega)⟩, (tx_below_drewN (Below.refl _ _) nq).trans hb3⟩
  · have e0 := eqs_of hm [43, 61] false (by decide)
    have e1 := eqs_of hm [45, 61] false (by decide)
    have e2 := eqs_of hm [42, 61] false (by decide)
    have e3 := eqs_of hm [47, 61] false (by decide)
    have e4 := eqs_of hm [37, 61] false (by decide)
    have e5 := eqs_of hm [94, 61] false (by decide)
    have e6 := eqs_of hm [61, 61] false (by decide)
    have e7 := eqs_of hm [60, 61] false (by decide)
    have e8 := eqs_of hm [62, 61] true (by decide)
    clear hm
    go_enter Try.func44, Try.ntmps44
    go_wp2_with fail
    go_quiet (fail)
    go_wp2_with (go_at_call 25; refine (put_any p s a (a + 2) v T ⟨7, u, 0, 0⟩ 0 pos _ (HX.out.below (tx_below_drewN (Below.refl _ _) nq)) HT.out).mono ?_; rintro er w3 ⟨rfl, hb3, v3, L3⟩)
    (try simp only [Exit.inBlock, Exit.then]); refine bodyPost_ret (results_none rfl _ _ _) rfl ?_
    exact ⟨rfl, OutP.of O.out ⟨v3, L3.cast (by omega)⟩, (tx_below_drewN (Below.refl _ _) nq).trans hb3⟩
  · have e0 := eqs_of hm [43, 61] false (by decide)
    have e1 := eqs_of hm [45, 61] false (by decide)
    have e2 := eqs_of hm [42, 61] false (by decide)
    have e3 := eqs_of hm [47, 61] false (by decide)
    have e4 := eqs_of hm [37, 61] false (by decide)
    have e5 := eqs_of hm [94, 61] false (by decide)
    have e6 := eqs_of hm [61, 61] false (by decide)
    have e7 := eqs_of hm [60, 61] false (by decide)
    have e8 := eqs_of hm [62, 61] false (by decide)
    have e9 := eqs_of hm [33, 61] true (by decide)
    clear hm
    go_enter Try.func44, Try.ntmps44
    go_wp2_with fail
    go_quiet (fail)
    go_wp2_with (go_at_call 25; refine (put_any p s a (a + 2) v T ⟨7, u, 0, 0⟩ 0 pos _ (HX.out.below (tx_below_drewN (Below.refl _ _) nq)) HT.out).mono ?_; rintro er w3 ⟨rfl, hb3, v3, L3⟩)
    (try simp only [Exit.inBlock, Exit.then]); refine bodyPost_ret (results_none rfl _ _ _) rfl ?_
    exact ⟨rfl, OutP.of O.out ⟨v3, L3.cast (by omega)⟩, (tx_below_drewN (Below.refl _ _) nq).trans hb3⟩
  · have e0 := eqs_of hm [43, 61] false (by decide)
    have e1 := eqs_of hm [45, 61] false (by decide)
    have e2 := eqs_of hm [42, 61] false (by decide)
    have e3 := eqs_of hm [47, 61] false (by decide)
    have e4 := eqs_of hm [37, 61] false (by decide)
    have e5 := eqs_of hm [94, 61] false (by decide)
    have e6 := eqs_of hm [61, 61] false (by decide)
    have e7 := eqs_of hm [60, 61] false (by decide)
    have e8 := eqs_of hm [62, 61] false (by decide)
    have e9 := eqs_of hm [33, 61] false (by decide)
    have e10 := eqs_of hm [33, 126] true (by decide)
    clear hm
    go_enter Try.func44, Try.ntmps44
    go_wp2_with fail
    go_quiet (fail)
    go_wp2_with (go_at_call 25; refine (put_any p s a (a + 2) v T ⟨7, u, 0, 0⟩ 0 pos _ (HX.out.below (tx_below_drewN (Below.refl _ _) nq)) HT.out).mono ?_; rintro er w3 ⟨rfl, hb3, v3, L3⟩)
    (try simp only [Exit.inBlock, Exit.then]); refine bodyPost_ret (results_none rfl _ _ _) rfl ?_
    exact ⟨rfl, OutP.of O.out ⟨v3, L3.cast (by omega)⟩, (tx_below_drewN (Below.refl _ _) nq).trans hb3⟩
  · have e0 := eqs_of hm [43, 61] false (by decide)
    have e1 := eqs_of hm [45, 61] false (by decide)
    have e2 := eqs_of hm [42, 61] false (by decide)
    have e3 := eqs_of hm [47, 61] false (by decide)
    have e4 := eqs_of hm [37, 61] false (by decide)
    have e5 := eqs_of hm [94, 61] false (by decide)
    have e6 := eqs_of hm [61, 61] false (by decide)
    have e7 := eqs_of hm [60, 61] false (by decide)
    have e8 := eqs_of hm [62, 61] false (by decide)
    have e9 := eqs_of hm [33, 61] false (by decide)
    have e10 := eqs_of hm [33, 126] false (by decide)
    have e11 := eqs_of hm [43, 43] true (by decide)
    clear hm
    go_enter Try.func44, Try.ntmps44
    go_wp2_with fail
    go_quiet (fail)
    go_wp2_with (go_at_call 25; refine (put_any p s a (a + 2) v T ⟨7, u, 0, 0⟩ 0 pos _ (HX.out.below (tx_below_drewN (Below.refl _ _) nq)) HT.out).mono ?_; rintro er w3 ⟨rfl, hb3, v3, L3⟩)
    (try simp only [Exit.inBlock, Exit.then]); refine bodyPost_ret (results_none rfl _ _ _) rfl ?_
    exact ⟨rfl, OutP.of O.out ⟨v3, L3.cast (by omega)⟩, (tx_below_drewN (Below.refl _ _) nq).trans hb3⟩
  · have e0 := eqs_of hm [43, 61] false (by decide)
    have e1 := eqs_of hm [45, 61] false (by decide)
    have e2 := eqs_of hm [42, 61] false (by decide)
    have e3 := eqs_of hm [47, 61] false (by decide)
    have e4 := eqs_of hm [37, 61] false (by decide)
    have e5 := eqs_of hm [94, 61] false (by decide)
    have e6 := eqs_of hm [61, 61] false (by decide)
    have e7 := eqs_of hm [60, 61] false (by decide)
    have e8 := eqs_of hm [62, 61] false (by decide)
    have e9 := eqs_of hm [33, 61] false (by decide)
    have e10 := eqs_of hm [33, 126] false (by decide)
    have e11 := eqs_of hm [43, 43] false (by decide)
    have e12 := eqs_of hm [45, 45] true (by decide)
    clear hm
    go_enter Try.func44, Try.ntmps44
    go_wp2_with fail
    go_quiet (fail)
    go_wp2_with (go_at_call 25; refine (put_any p s a (a + 2) v T ⟨7, u, 0, 0⟩ 0 pos _ (HX.out.below (tx_below_drewN (Below.refl _ _) nq)) HT.out).mono ?_; rintro er w3 ⟨rfl, hb3, v3, L3⟩)
    (try simp only [Exit.inBlock, Exit.then]); refine bodyPost_ret (results_none rfl _ _ _) rfl ?_
    exact ⟨rfl, OutP.of O.out ⟨v3, L3.cast (by omega)⟩, (tx_below_drewN (Below.refl _ _) nq).trans hb3⟩
  · have e0 := eqs_of hm [43, 61] false (by decide)
    have e1 := eqs_of hm [45, 61] false (by decide)
    have e2 := eqs_of hm [42, 61] false (by decide)
    have e3 := eqs_of hm [47, 61] false (by decide)
    have e4 := eqs_of hm [37, 61] false (by decide)
    have e5 := eqs_of hm [94, 61] false (by decide)
    have e6 := eqs_of hm [61, 61] false (by decide)
    have e7 := eqs_of hm [60, 61] false (by decide)
    have e8 := eqs_of hm [62, 61] false (by decide)
    have e9 := eqs_of hm [33, 61] false (by decide)
    have e10 := eqs_of hm [33, 126] false (by decide)
    have e11 := eqs_of hm [43, 43] false (by decide)
    have e12 := eqs_of hm [45, 45] false (by decide)
    have e13 := eqs_of hm [38, 38] true (by decide)
    clear hm
    go_enter Try.func44, Try.ntmps44
    go_wp2_with fail
    go_quiet (fail)
    go_wp2_with (go_at_call 25; refine (put_any p s a (a + 2) v T ⟨7, u, 0, 0⟩ 0 pos _ (HX.out.below (tx_below_drewN (Below.refl _ _) nq)) HT.out).mono ?_; rintro er w3 ⟨rfl, hb3, v3, L3⟩)
    (try simp only [Exit.inBlock, Exit.then]); refine bodyPost_ret (results_none rfl _ _ _) rfl ?_
    exact ⟨rfl, OutP.of O.out ⟨v3, L3.cast (by omega)⟩, (tx_below_drewN (Below.refl _ _) nq).trans hb3⟩
  · have e0 := eqs_of hm [43, 61] false (by decide)
    have e1 := eqs_of hm [45, 61] false (by decide)
    have e2 := eqs_of hm [42, 61] false (by decide)
    have e3 := eqs_of hm [47, 61] false (by decide)
    have e4 := eqs_of hm [37, 61] false (by decide)
    have e5 := eqs_of hm [94, 61] false (by decide)
    have e6 := eqs_of hm [61, 61] false (by decide)
    have e7 := eqs_of hm [60, 61] false (by decide)
    have e8 := eqs_of hm [62, 61] false (by decide)
    have e9 := eqs_of hm [33, 61] false (by decide)
    have e10 := eqs_of hm [33, 126] false (by decide)
    have e11 := eqs_of hm [43, 43] false (by decide)
    have e12 := eqs_of hm [45, 45] false (by decide)
    have e13 := eqs_of hm [38, 38] false (by decide)
    have e14 := eqs_of hm [124, 124] true (by decide)
    clear hm
    go_enter Try.func44, Try.ntmps44
    go_wp2_with fail
    go_quiet (fail)
    go_wp2_with (go_at_call 25; refine (put_any p s a (a + 2) v T ⟨7, u, 0, 0⟩ 0 pos _ (HX.out.below (tx_below_drewN (Below.refl _ _) nq)) HT.out).mono ?_; rintro er w3 ⟨rfl, hb3, v3, L3⟩)
    (try simp only [Exit.inBlock, Exit.then]); refine bodyPost_ret (results_none rfl _ _ _) rfl ?_
    exact ⟨rfl, OutP.of O.out ⟨v3, L3.cast (by omega)⟩, (tx_below_drewN (Below.refl _ _) nq).trans hb3⟩
  · have e0 := eqs_of hm [43, 61] false (by decide)
    have e1 := eqs_of hm [45, 61] false (by decide)
    have e2 := eqs_of hm [42, 61] false (by decide)
    have e3 := eqs_of hm [47, 61] false (by decide)
    have e4 := eqs_of hm [37, 61] false (by decide)
    have e5 := eqs_of hm [94, 61] false (by decide)
    have e6 := eqs_of hm [61, 61] false (by decide)
    have e7 := eqs_of hm [60, 61] false (by decide)
    have e8 := eqs_of hm [62, 61] false (by decide)
    have e9 := eqs_of hm [33, 61] false (by decide)
    have e10 := eqs_of hm [33, 126] false (by decide)
    have e11 := eqs_of hm [43, 43] false (by decide)
    have e12 := eqs_of hm [45, 45] false (by decide)
    have e13 := eqs_of hm [38, 38] false (by decide)
    have e14 := eqs_of hm [124, 124] false (by decide)
    have e15 := eqs_of hm [62, 62] true (by decide)
    clear hm
    go_enter Try.func44, Try.ntmps44
    go_wp2_with fail
    go_quiet (fail)
    go_wp2_with (go_at_call 25; refine (put_any p s a (a + 2) v T ⟨7, u, 0, 0⟩ 0 pos _ (HX.out.below (tx_below_drewN (Below.refl _ _) nq)) HT.out).mono ?_; rintro er w3 ⟨rfl, hb3, v3, L3⟩)
    (try simp only [Exit.inBlock, Exit.then]); refine bodyPost_ret (results_none rfl _ _ _) rfl ?_
    exact ⟨rfl, OutP.of O.out ⟨v3, L3.cast (by omega)⟩, (tx_below_drewN (Below.refl _ _) nq).trans hb3⟩
theorem smark_any (p : Nat) (s : ByteArray) (a : Nat) (v : Value) (T : List Tok) (pos : Int) (w : World) (h : LX p s a v T 0 pos w) (hs : s.size ≤ 8192) (ha : a < s.size) (hT : T.length ≤ 1048576) :
    Calls Try.prog 44 #[.pointer (some ⟨p, 0, none⟩)] w fun e w' => e = .returned (.tuple #[]) ∧ OutP p s T a pos w' (markM s a) ∧ Below p w w' := by
  by_cases hm : (s.extract a (min ((a : Int) + 2) (s.size : Int)).toNat).data.toList ∈ twL
  · exact smark_two p s a v T pos w h hs ha hT _ rfl hm
  · have hmn : (min ((a : Int) + 2) (s.size : Int)).toNat = min (a + 2) s.size := by omega
    refine smark_no p s a v T pos w h hs ha hT _ rfl hm _ rfl ?_ ?_
    · rw [hmn]
      apply str_ext
      rw [ext_take, Byt.ext_mid, Byt.ext_mid, List.take_take]
      congr 1; omega
    · rw [hmn, size_len, Byt.ext_mid, List.length_take, List.length_drop, ← size_len]; omega
end Go.Proofs.Ytbioflajonafdaa
