/- walks: PatchPlaces (written by gen_vcj.py) -/
import Derived.Test.YtnkpigibjicmaaaDoorVci
import Derived.Test.YtnkpigibjicmaaaDoorVcf
namespace Go.Proofs.YtnkpigibjicmaaaDoor
open Go.RowKit Go.Maps
open Pt
theorem run_pl {old : List Ln} {fuzz : Int} : ∀ (l : List Hk) (s : Wk), (l.foldl (stepP old fuzz) s).placed.length = s.placed.length + l.length ∧ (l.foldl (stepP old fuzz) s).bad.length ≤ s.bad.length + l.length
  | [], s => ⟨rfl, Nat.le_refl _⟩
  | x :: r, s => by
    obtain ⟨h1, h2⟩ := run_pl (old := old) (fuzz := fuzz) r (stepP old fuzz s x)
    rw [List.foldl_cons, List.length_cons]
    have h3 : (stepP old fuzz s x).placed.length = s.placed.length + 1 ∧ (stepP old fuzz s x).bad.length ≤ s.bad.length + 1 := by
      unfold stepP
      split
      · exact ⟨by simp, by simp⟩
      · exact ⟨by simp, by simp⟩
    omega
theorem apply_small {s : ByteArray} {L M : List HV} {fuzz : Int} {t : List UInt8} {pl : List (Int × Int × Int)} {bd : List Hk} (hl : smallA L) (ha : applyP s (L.map (·.1)) fuzz = (t, pl, bd)) : pl.length ≤ 100 ∧ (M.map (·.1) = bd → smallA M) := by
  have hb : pl.length ≤ 100 ∧ bd.length ≤ 100 ∧ ∀ h ∈ bd, h ∈ L.map (·.1) := by
    unfold applyP at ha
    split at ha
    · cases ha
      exact ⟨Nat.zero_le _, by rw [List.length_map]; exact hl.1, fun h hh => hh⟩
    · cases ha
      obtain ⟨h1, h2⟩ := run_pl (old := lnsP s) (fuzz := fuzz) (L.map (·.1)) ⟨[], 0, 0, [], []⟩
      rw [List.length_map] at h1 h2
      have h3 := hl.1
      refine ⟨by unfold runP; rw [h1]; simpa using h3, by unfold runP; simp only [List.length_nil] at h2; omega, fun h hh => ?_⟩
      rcases run_bad _ _ h hh with q | q
      · simp at q
      · exact q
  refine ⟨hb.1, fun e => ⟨?_, fun p hp => ?_⟩⟩
  · have := congrArg List.length e
    rw [List.length_map] at this
    rw [this]; exact hb.2.1
  · have hm : p.1 ∈ bd := by rw [← e]; exact List.mem_map_of_mem hp
    obtain ⟨q, hq, e2⟩ := List.mem_map.1 (hb.2.2 _ hm)
    rw [← e2]; exact hl.2 q hq
set_option maxRecDepth 100000 in
set_option maxHeartbeats 8000000 in
theorem law_places (s old new : ByteArray) (L : List HV) (v : Value) (fuzz m : Int) (w : World) (hm : w.cell? ⟨0, 0, none⟩ = some (.int .i64 m)) (hv : HksAt w v L) (hz : ∀ p ∈ L, ∀ x ∈ p.1.ls, x.2.1.size ≤ 9223372036854775807) (hs : s.size ≤ 140737488351232) :
    Calls Tryd.prog 3 #[.string s, .agg #[.string old, .string new, v], .int .i64 fuzz] w fun e w' => e = .returned (.bool true) ∧ Below w.heap.size w w' := by
  obtain ⟨n, hn⟩ : ∃ n, L.length = n := ⟨_, rfl⟩
  have HVH := Lib.hid hv
  have HM := Lib.hid hm
  have HZ := Lib.hid hz
  obtain ⟨a, cap, rfl, -⟩ := hv.rows.sl (n := n) (by rw [List.length_map]; exact hn)
  have B0 : Hid (Below w.heap.size w (w.alloc (.cells #[.string old, .string new, .slice a n cap] 24))) := Lib.hid ((Below.refl _ _).alloc (Nat.le_refl _) _)
  have NA : Hid ((w.alloc (.cells #[.string old, .string new, .slice a n cap] 24)).heap[w.heap.size]? = some (.cells #[.string old, .string new, .slice a n cap] 24 (0, 0))) := Lib.hid (heap_alloc_new w _)
  have y0 := blk_cellx NA.out 0 _ rfl
  have y1 := blk_cellx NA.out 1 _ rfl
  have y2 := blk_cellx NA.out 2 _ rfl
  have FW := Lib.hid (fun W (hb : Below w.heap.size w W) => few_any old new L (.slice a n cap) W (HVH.out.below hb) HZ.out)
  have AW := Lib.hid (fun W (hb : Below w.heap.size w W) => awake_any m W (kp hb HM.out))
  clear hv hm hz hn
  cases hf : fewPB L with
  | false =>
    rw [hf] at FW
    go_enter Tryd.func3, Tryd.ntmps3
    go_wp2_with (first | (go_at_call 9; (with_reducible refine (FW.out _ B0.out).mono ?_); rintro e w' ⟨rfl, hb⟩; have B0 := Lib.hid (B0.out.trans (hb.out.mono B0.out.size)); have y0 := kp hb.out y0; have y1 := kp hb.out y1; have y2 := kp hb.out y2) | (go_at_call 10; (with_reducible refine (AW.out _ B0.out).mono ?_); rintro e w' ⟨rfl, hb⟩; have B0 := Lib.hid (B0.out.trans (hb.out.mono B0.out.size)); have y0 := kp hb.out y0; have y1 := kp hb.out y1; have y2 := kp hb.out y2))
    go_ret
    exact ⟨rfl, B0.out⟩
  | true =>
    rw [hf] at FW
    by_cases h4 : s.size ≤ 400
    rotate_left
    · have t4 : (400 : Int) < (s.size : Int) := by omega
      go_enter Tryd.func3, Tryd.ntmps3
      go_wp2_with (first | (go_at_call 9; (with_reducible refine (FW.out _ B0.out).mono ?_); rintro e w' ⟨rfl, hb⟩; have B0 := Lib.hid (B0.out.trans (hb.out.mono B0.out.size)); have y0 := kp hb.out y0; have y1 := kp hb.out y1; have y2 := kp hb.out y2) | (go_at_call 10; (with_reducible refine (AW.out _ B0.out).mono ?_); rintro e w' ⟨rfl, hb⟩; have B0 := Lib.hid (B0.out.trans (hb.out.mono B0.out.size)); have y0 := kp hb.out y0; have y1 := kp hb.out y1; have y2 := kp hb.out y2))
      go_ret
      exact ⟨rfl, B0.out⟩
    have t4 : ¬ (400 : Int) < (s.size : Int) := by omega
    have SA := Lib.hid (few_smallA hf)
    clear hf
    obtain ⟨⟨t, pl, bd⟩, hap⟩ : ∃ x, applyP s (L.map (·.1)) fuzz = x := ⟨_, rfl⟩
    have HAP := Lib.hid hap
    have SMB := Lib.hid (fun M => apply_small (M := M) SA.out hap)
    have PLL : Hid (pl.length ≤ 1048576) := Lib.hid (by have := (SMB.out []).1; omega)
    have SM := Lib.hid (fun (M : List HV) (e : M.map (·.1) = bd) => ((SMB.out M).2 e).h)
    have AP := Lib.hid (fun W (hb : Below w.heap.size w W) => apply_any s old new L (.slice a n cap) fuzz m W (kp hb HM.out) (HVH.out.below hb) SA.out (by omega) HAP)
    have RP := Lib.hid (fun W (hb : Below w.heap.size w W) => rapply_any s old new L (.slice a n cap) fuzz W (HVH.out.below hb) SA.out (by omega) HAP)
    obtain ⟨tx, htx⟩ : ∃ x, bA t = x := ⟨_, rfl⟩
    rw [htx] at AP RP
    clear hap htx
    go_enter Tryd.func3, Tryd.ntmps3
    go_wp2_with (first | (go_at_call 9; (with_reducible refine (FW.out _ B0.out).mono ?_); rintro e w' ⟨rfl, hb⟩; have B0 := Lib.hid (B0.out.trans (hb.out.mono B0.out.size)); have y0 := kp hb.out y0; have y1 := kp hb.out y1; have y2 := kp hb.out y2) | (go_at_call 11; (with_reducible refine (AP.out _ B0.out).mono ?_); rintro e w' ⟨vp, vh, M, rfl, P1, h1, H1, -, -, hb⟩; have B0 := Lib.hid (B0.out.trans (hb.out.mono B0.out.size)); have y0 := kp hb.out y0; have y1 := kp hb.out y1; have y2 := kp hb.out y2) | (go_at_call 12; (with_reducible refine (RP.out _ B0.out).mono ?_); rintro e w' ⟨vq, vj, M2, rfl, P2, h2, H2, -, -, hb⟩; have P1 := Lib.hid (P1.out.below hb.out); have H1 := Lib.hid (H1.out.below hb.out); have B0 := Lib.hid (B0.out.trans (hb.out.mono B0.out.size)); have y0 := kp hb.out y0; have y1 := kp hb.out y1; have y2 := kp hb.out y2) | (go_at_call 13; (with_reducible refine (placed_eq pl vp vq _ P1.out P2.out PLL.out).mono ?_); rintro e w' ⟨rfl, hb⟩; have H1 := Lib.hid (H1.out.below hb.out); have H2 := Lib.hid (H2.out.below hb.out); have B0 := Lib.hid (B0.out.trans (hb.out.mono B0.out.size)); have y0 := kp hb.out y0; have y1 := kp hb.out y1; have y2 := kp hb.out y2) | (go_at_call 14; (with_reducible refine (samehunks_eq M M2 vh vj _ H1.out H2.out (h1.out.trans h2.out.symm) (SM.out M h1.out)).mono ?_); rintro e w' ⟨rfl, hb⟩; have B0 := Lib.hid (B0.out.trans (hb.out.mono B0.out.size)); have y0 := kp hb.out y0; have y1 := kp hb.out y1; have y2 := kp hb.out y2) | (go_at_call 10; (with_reducible refine (AW.out _ B0.out).mono ?_); rintro e w' ⟨rfl, hb⟩; have B0 := Lib.hid (B0.out.trans (hb.out.mono B0.out.size)); have y0 := kp hb.out y0; have y1 := kp hb.out y1; have y2 := kp hb.out y2))
    go_ret
    exact ⟨rfl, B0.out⟩
end Go.Proofs.YtnkpigibjicmaaaDoor
