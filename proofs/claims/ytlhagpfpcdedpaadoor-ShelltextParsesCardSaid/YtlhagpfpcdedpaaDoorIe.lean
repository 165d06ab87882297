/- plain: where the commands of a script stand; a moved script is alike -/
import Derived.Test.YtlhagpfpcdedpaaDoorId
import Derived.Test.YtlhagpfpcdedpaaDoorHv
namespace Go.Proofs.YtlhagpfpcdedpaaDoor
namespace Shp
/-- offsets within the text -/
def AtC (s : ByteArray) (c : Cm) : Prop := 0 ≤ c.at_ ∧ c.at_ ≤ s.size
theorem cm_at {s : ByteArray} {x : St} (w : WfS s x) : AtC s (cmS s x).2 := by
  have h0 : 0 ≤ tokAt x ∧ tokAt x ≤ s.size := by
    cases x with
    | bad e q => exact ⟨Int.le_refl _, by show (0 : Int) ≤ _; omega⟩
    | run t a => have := w.2.1; exact ⟨by show (0 : Int) ≤ (t.a : Int); omega, by show (t.a : Int) ≤ _; omega⟩
  have := iter_keeps (mu := fun z : St × Cm × Bool => mu s z.1) (step := cm1 s) (fun z => z.2.1.at_ = tokAt x) (fun a b ha hb => by
    obtain ⟨a1, a2, a3⟩ := a
    unfold cm1 at hb
    simp only at ha hb
    split at hb
    · cases hb
    · split at hb
      · split at hb <;> (cases hb; exact ha)
      · split at hb
        · cases hb
          simp only
          split <;> exact ha
        · cases hb) (x, ⟨[], [], [], tokAt x⟩, false) rfl
  unfold AtC cmS cmF cmI
  simp only
  rw [this]; exact h0
theorem pl_at {s : ByteArray} {x : St} {num cn : Int} (w : WfS s x) : ∀ c ∈ (plS s x num cn).2.cmds, AtC s c := by
  have := iter_keeps (mu := plMu s) (step := pl1 s) (fun z => WfS s z.1 ∧ ∀ c ∈ z.2.1, AtC s c) (fun a b ha hb => by
    refine ⟨(pl1_mu ha.1 hb).1, ?_⟩
    unfold pl1 at hb
    split at hb
    · cases hb
    split at hb
    · cases hb; exact ha.2
    split at hb
    · cases hb; exact ha.2
    have key : ∀ c ∈ a.2.1 ++ [(cmS s a.1).2], AtC s c := fun c hc => by
      rcases List.mem_append.1 hc with hc | hc
      · exact ha.2 c hc
      · rw [List.mem_singleton] at hc; subst hc; exact cm_at ha.1
    split at hb
    · cases hb; exact key
    · cases hb; exact key) ((plB s x num).1, [], false) ⟨(plB_wf w).1, fun c hc => by cases hc⟩
  exact this.2
theorem pa_at {s : ByteArray} : ∀ p ∈ (paS s).2.1, ∀ c ∈ p.cmds, AtC s c := by
  have := iter_keeps (mu := paMu s) (step := pa1 s) (fun z => WfS s z.1 ∧ ∀ p ∈ z.2.1, ∀ c ∈ p.cmds, AtC s c) (fun a b ha hb => by
    refine ⟨(pa1_mu ha.1 hb).1, ?_⟩
    unfold pa1 at hb
    split at hb
    · cases hb
    cases hb
    intro p hp
    rcases List.mem_append.1 hp with hp | hp
    · exact ha.2 p hp
    · rw [List.mem_singleton] at hp; subst hp; exact pl_at ha.1) (lfS s (nx s 0), [], 1) ⟨lf_wf (nx_wf (Nat.zero_le _)), fun p hp => by cases hp⟩
  exact this.2
theorem paR_at {s : ByteArray} {l : List Pl} {e q : Int} (h : paR s = (l, e, q)) : ∀ p ∈ l, ∀ c ∈ p.cmds, 0 ≤ c.at_ ∧ c.at_ ≤ 8192 := by
  unfold paR at h
  split at h
  · cases h; intro p hp; cases hp
  rename_i hs
  split at h
  · cases h
    intro p hp c hc
    have := pa_at p hp c hc
    unfold AtC at this
    omega
  · cases h; intro p hp; cases hp
theorem wrap_in {n : Int} (h : -9223372036854775808 ≤ n ∧ n ≤ 9223372036854775807) : IntKind.i64.wrap n = n := IntWalk.i64_in n h
theorem same_move (d : Nat) (hd : d ≤ 8192) : ∀ l : List Pl, (∀ p ∈ l, ∀ c ∈ p.cmds, 0 ≤ c.at_ ∧ c.at_ ≤ 8192) → sameL d true l (l.map (shP d)) = true := by
  intro l hl
  unfold sameL
  rw [List.length_map, decide_eq_true rfl, Bool.true_and, List.all_eq_true]
  intro x hx
  obtain ⟨i, hi⟩ := List.mem_iff_getElem?.1 hx
  rw [List.getElem?_zip_eq_some, List.getElem?_map] at hi
  obtain ⟨h1, h2⟩ := hi
  rw [h1] at h2
  have h3 : shP d x.1 = x.2 := Option.some.inj h2
  rw [← h3]
  have hm := hl x.1 (List.mem_of_getElem? h1)
  unfold samePl shP
  simp only [List.length_map, decide_true, Bool.true_and, List.all_eq_true]
  intro y hy
  obtain ⟨j, hj⟩ := List.mem_iff_getElem?.1 hy
  rw [List.getElem?_zip_eq_some, List.getElem?_map] at hj
  obtain ⟨k1, k2⟩ := hj
  rw [k1] at k2
  have k3 : shC d y.1 = y.2 := Option.some.inj k2
  rw [← k3]
  have hc := hm y.1 (List.mem_of_getElem? k1)
  unfold sameC shC
  simp only
  rw [wrap_in (by omega)]
  simp
theorem same_self (l : List Pl) (hl : ∀ p ∈ l, ∀ c ∈ p.cmds, 0 ≤ c.at_ ∧ c.at_ ≤ 8192) : sameL 0 true l l = true := by
  have h := same_move 0 (by omega) l hl
  have e : l.map (shP 0) = l := by
    have ec : ∀ c : Cm, shC 0 c = c := fun c => by unfold shC; simp
    have ep : ∀ p : Pl, shP 0 p = p := fun p => by
      unfold shP
      rw [show p.cmds.map (shC 0) = p.cmds from (List.map_congr_left (fun c _ => ec c)).trans (List.map_id _)]
    exact (List.map_congr_left (fun p _ => ep p)).trans (List.map_id _)
  rw [e] at h
  exact h
end Shp
end Go.Proofs.YtlhagpfpcdedpaaDoor
