/- walks: PatchChecks (written by gen_vcf.py) -/
import Derived.Test.YtnkpigibjicmaaaDoorVce
import Derived.Test.YtnkpigibjicmaaaDoorVl
import Derived.Test.YtnkpigibjicmaaaDoorVn
namespace Go.Proofs.YtnkpigibjicmaaaDoor
open Go.RowKit Go.Maps
open Pt
theorem revF_len : ∀ (l X : List DL), (revF X l).length = X.length + l.length
  | [], X => by simp [revF]
  | x :: r, X => by
    unfold revF
    split
    · rw [List.length_cons, revF_len r X, List.length_cons]; omega
    · split
      · rw [revF_len r, List.length_append, List.length_singleton, List.length_cons]; omega
      · rw [List.length_append, List.length_cons, revF_len r [], List.length_cons, List.length_nil]; omega
theorem revF_mem : ∀ (l X : List DL) (y : DL), y ∈ revF X l → ∃ x, (x ∈ X ∨ x ∈ l) ∧ x.2 = y.2
  | [], X, y, h => ⟨y, .inl h, rfl⟩
  | x :: r, X, y, h => by
    unfold revF at h
    split at h
    · rcases List.mem_cons.1 h with h | h
      · exact ⟨x, .inr List.mem_cons_self, by rw [h]⟩
      · obtain ⟨z, hz, e⟩ := revF_mem r X y h
        exact ⟨z, hz.imp id (List.mem_cons_of_mem _), e⟩
    · split at h
      · obtain ⟨z, hz, e⟩ := revF_mem r _ y h
        rcases hz with hz | hz
        · rcases List.mem_append.1 hz with hz | hz
          · exact ⟨z, .inl hz, e⟩
          · rw [List.mem_singleton] at hz; subst hz; exact ⟨x, .inr List.mem_cons_self, e⟩
        · exact ⟨z, .inr (List.mem_cons_of_mem _ hz), e⟩
      · rcases List.mem_append.1 h with h | h
        · exact ⟨y, .inl h, rfl⟩
        · rcases List.mem_cons.1 h with h | h
          · exact ⟨x, .inr List.mem_cons_self, by rw [h]⟩
          · obtain ⟨z, hz, e⟩ := revF_mem r [] y h
            rcases hz with hz | hz
            · simp at hz
            · exact ⟨z, .inr (List.mem_cons_of_mem _ hz), e⟩
theorem smallA_rev {L M : List HV} (h : smallA L) (e : M.map (·.1) = L.map (fun p => revH p.1)) : smallA M := by
  have hl := congrArg List.length e
  rw [List.length_map, List.length_map] at hl
  refine ⟨by rw [hl]; exact h.1, fun p hp => ?_⟩
  have hm : p.1 ∈ L.map (fun p => revH p.1) := by rw [← e]; exact List.mem_map_of_mem hp
  obtain ⟨q, hq, eq⟩ := List.mem_map.1 hm
  rw [← eq]
  refine ⟨by show (revF [] q.1.ls).length ≤ 100; rw [revF_len, List.length_nil]; have := (h.2 q hq).1; omega, fun x hx => ?_⟩
  obtain ⟨z, hz, e2⟩ := revF_mem _ _ _ hx
  rcases hz with hz | hz
  · simp at hz
  · rw [← e2]; exact (h.2 q hq).2 z hz
theorem few_smallA {L : List HV} (h : fewPB L = true) : smallA L := by
  unfold fewPB at h
  rw [Bool.and_eq_true, List.all_eq_true] at h
  have h1 := of_decide_eq_true h.1
  refine ⟨by omega, fun p hp => ?_⟩
  have := h.2 p hp
  unfold fewLB at this
  rw [Bool.and_eq_true, List.all_eq_true] at this
  have h2 := of_decide_eq_true this.1
  exact ⟨by omega, fun x hx => by have := of_decide_eq_true (this.2 x hx); omega⟩
set_option maxRecDepth 100000 in
set_option maxHeartbeats 8000000 in
theorem law_checks (old new : ByteArray) (L : List HV) (v : Value) (m : Int) (w : World) (hm : w.cell? ⟨0, 0, none⟩ = some (.int .i64 m)) (hv : HksAt w v L) (hz : ∀ p ∈ L, ∀ x ∈ p.1.ls, x.2.1.size ≤ 9223372036854775807) :
    Calls Tryd.prog 6 #[.agg #[.string old, .string new, v]] w fun e w' => e = .returned (.bool true) ∧ Below w.heap.size w w' := by
  obtain ⟨n, hn⟩ : ∃ n, L.length = n := ⟨_, rfl⟩
  have HVH := Lib.hid hv
  have HM := Lib.hid hm
  have HZ := Lib.hid hz
  obtain ⟨a, cap, rfl, -⟩ := hv.rows.sl (n := n) (by rw [List.length_map]; exact hn)
  have BA : Hid (Below w.heap.size w (w.alloc (.cells #[.string old, .string new, .slice a n cap] 24))) := Lib.hid ((Below.refl _ _).alloc (Nat.le_refl _) _)
  have NA : Hid ((w.alloc (.cells #[.string old, .string new, .slice a n cap] 24)).heap[w.heap.size]? = some (.cells #[.string old, .string new, .slice a n cap] 24 (0, 0))) := Lib.hid (heap_alloc_new w _)
  have KP : Hid (∀ w' : World, Below (w.alloc (.cells #[.string old, .string new, .slice a n cap] 24)).heap.size (w.alloc (.cells #[.string old, .string new, .slice a n cap] 24)) w' → (fun w' => Below (w.alloc (.cells #[.string old, .string new, .slice a n cap] 24)).heap.size (w.alloc (.cells #[.string old, .string new, .slice a n cap] 24)) w' ∧ w'.cell? ⟨w.heap.size, 0, none⟩ = some (.string old) ∧ w'.cell? ⟨w.heap.size, 1, none⟩ = some (.string new) ∧ w'.cell? ⟨w.heap.size, 2, none⟩ = some (.slice a n cap)) w') := Lib.hid (fun w' hb => ⟨hb, kp hb (blk_cellx NA.out 0 _ rfl), kp hb (blk_cellx NA.out 1 _ rfl), kp hb (blk_cellx NA.out 2 _ rfl)⟩)
  have BW : Hid (∀ w' : World, Below (w.alloc (.cells #[.string old, .string new, .slice a n cap] 24)).heap.size (w.alloc (.cells #[.string old, .string new, .slice a n cap] 24)) w' → Below w.heap.size w w') := Lib.hid (fun w' hb => BA.out.trans (hb.mono BA.out.size))
  have FW := Lib.hid (fun W (hb : Below (w.alloc (.cells #[.string old, .string new, .slice a n cap] 24)).heap.size (w.alloc (.cells #[.string old, .string new, .slice a n cap] 24)) W) => few_any old new L (.slice a n cap) W (HVH.out.below (BW.out W hb)) HZ.out)
  have AW := Lib.hid (fun W (hb : Below (w.alloc (.cells #[.string old, .string new, .slice a n cap] 24)).heap.size (w.alloc (.cells #[.string old, .string new, .slice a n cap] 24)) W) => awake_any m W (kp (BW.out W hb) HM.out))
  have S0 := KP.out _ (Below.refl _ _)
  clear hv hm hz hn
  cases hf : fewPB L with
  | false =>
    rw [hf] at FW
    go_enter Tryd.func6, Tryd.ntmps6
    go_wp2_with (first | (go_at_call 9; (with_reducible refine (FW.out _ S0.1).mono ?_); rintro e w' ⟨rfl, hb⟩; have S0 := KP.out _ (S0.1.trans (hb.out.mono S0.1.size))) | (go_at_call 10; (with_reducible refine (AW.out _ S0.1).mono ?_); rintro e w' ⟨rfl, hb⟩; have S0 := KP.out _ (S0.1.trans (hb.out.mono S0.1.size))))
    go_ret
    exact ⟨rfl, BW.out _ S0.1⟩
  | true =>
    rw [hf] at FW
    have SA := Lib.hid (few_smallA hf)
    clear hf
    have CK := Lib.hid (fun W (hb : Below (w.alloc (.cells #[.string old, .string new, .slice a n cap] 24)).heap.size (w.alloc (.cells #[.string old, .string new, .slice a n cap] 24)) W) => check_any old new L (.slice a n cap) W (HVH.out.below (BW.out W hb)) SA.out.h)
    have RK := Lib.hid (fun W (hb : Below (w.alloc (.cells #[.string old, .string new, .slice a n cap] 24)).heap.size (w.alloc (.cells #[.string old, .string new, .slice a n cap] 24)) W) => rcheck_any old new L (.slice a n cap) W (HVH.out.below (BW.out W hb)) SA.out.h)
    have RV := Lib.hid (fun W (hb : Below (w.alloc (.cells #[.string old, .string new, .slice a n cap] 24)).heap.size (w.alloc (.cells #[.string old, .string new, .slice a n cap] 24)) W) => reverse_any old new L (.slice a n cap) W (HVH.out.below (BW.out W hb)) SA.out.r)
    have RR := Lib.hid (fun W (hb : Below (w.alloc (.cells #[.string old, .string new, .slice a n cap] 24)).heap.size (w.alloc (.cells #[.string old, .string new, .slice a n cap] 24)) W) => rreverse_any old new L (.slice a n cap) W (HVH.out.below (BW.out W hb)) SA.out.r)
    have SM := Lib.hid (fun (M : List HV) (e : M.map (·.1) = L.map (fun p => revH p.1)) => (smallA_rev SA.out e).h)
    obtain ⟨c, hc⟩ : ∃ c, chk (L.map (·.1)) = c := ⟨_, rfl⟩
    rw [hc] at CK RK
    clear hc
    go_enter Tryd.func6, Tryd.ntmps6
    go_upto_region 3 with (first | (go_at_call 9; (with_reducible refine (FW.out _ S0.1).mono ?_); rintro e w' ⟨rfl, hb⟩; have S0 := KP.out _ (S0.1.trans (hb.out.mono S0.1.size))))
    have S0 := KP.out _ (S0.1.drew)
    go_region_held3 (fun w' => Below (w.alloc (.cells #[.string old, .string new, .slice a n cap] 24)).heap.size (w.alloc (.cells #[.string old, .string new, .slice a n cap] 24)) w' ∧ w'.cell? ⟨w.heap.size, 0, none⟩ = some (.string old) ∧ w'.cell? ⟨w.heap.size, 1, none⟩ = some (.string new) ∧ w'.cell? ⟨w.heap.size, 2, none⟩ = some (.slice a n cap)) (first | exact S0) (first | (go_at_call 20; (with_reducible refine (CK.out _ S0.1).mono ?_); rintro e w' ⟨rfl, hb⟩; have S0 := KP.out _ (S0.1.trans (hb.out.mono S0.1.size))) | (go_at_call 21; (with_reducible refine (RK.out _ S0.1).mono ?_); rintro e w' ⟨rfl, hb⟩; have S0 := KP.out _ (S0.1.trans (hb.out.mono S0.1.size))) | (go_at_call 23; (with_reducible refine (RV.out _ S0.1).mono ?_); rintro e w' ⟨v1, M1, rfl, h1, H1, hb⟩; have S0 := KP.out _ (S0.1.trans (hb.out.mono S0.1.size))) | (go_at_call 24; (with_reducible refine (RR.out _ S0.1).mono ?_); rintro e w' ⟨v2, M2, rfl, h2, H2, hb⟩; have H13 := Lib.hid (H1.out.below hb.out); have S0 := KP.out _ (S0.1.trans (hb.out.mono S0.1.size))) | (go_at_call 22; (with_reducible refine (samepatch_eq new old M1 M2 v1 v2 _ H13.out H2.out (h1.out.trans h2.out.symm) (SM.out M1 h1.out)).mono ?_); rintro e w' ⟨rfl, hb⟩; have S0 := KP.out _ (S0.1.trans (hb.out.mono S0.1.size))) | (go_at_call 10; (with_reducible refine (AW.out _ S0.1).mono ?_); rintro e w' ⟨rfl, hb⟩; have S0 := KP.out _ (S0.1.trans (hb.out.mono S0.1.size))))
    go_wp2_with (first | (go_at_call 20; (with_reducible refine (CK.out _ S0.1).mono ?_); rintro e w' ⟨rfl, hb⟩; have S0 := KP.out _ (S0.1.trans (hb.out.mono S0.1.size))) | (go_at_call 21; (with_reducible refine (RK.out _ S0.1).mono ?_); rintro e w' ⟨rfl, hb⟩; have S0 := KP.out _ (S0.1.trans (hb.out.mono S0.1.size))) | (go_at_call 23; (with_reducible refine (RV.out _ S0.1).mono ?_); rintro e w' ⟨v1, M1, rfl, h1, H1, hb⟩; have S0 := KP.out _ (S0.1.trans (hb.out.mono S0.1.size))) | (go_at_call 24; (with_reducible refine (RR.out _ S0.1).mono ?_); rintro e w' ⟨v2, M2, rfl, h2, H2, hb⟩; have H13 := Lib.hid (H1.out.below hb.out); have S0 := KP.out _ (S0.1.trans (hb.out.mono S0.1.size))) | (go_at_call 22; (with_reducible refine (samepatch_eq new old M1 M2 v1 v2 _ H13.out H2.out (h1.out.trans h2.out.symm) (SM.out M1 h1.out)).mono ?_); rintro e w' ⟨rfl, hb⟩; have S0 := KP.out _ (S0.1.trans (hb.out.mono S0.1.size))) | (go_at_call 10; (with_reducible refine (AW.out _ S0.1).mono ?_); rintro e w' ⟨rfl, hb⟩; have S0 := KP.out _ (S0.1.trans (hb.out.mono S0.1.size))))
    go_ret
    exact ⟨rfl, BW.out _ S0.1⟩
end Go.Proofs.YtnkpigibjicmaaaDoor
