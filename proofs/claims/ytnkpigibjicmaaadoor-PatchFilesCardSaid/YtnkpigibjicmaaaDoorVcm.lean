/- walks: the program's Whole (written by gen_vcm.py) -/
import Derived.Test.YtnkpigibjicmaaaDoorVci
import Derived.Test.YtnkpigibjicmaaaDoorVcj
import Derived.Test.YtnkpigibjicmaaaDoorVcl
namespace Go.Proofs.YtnkpigibjicmaaaDoor
open Go.RowKit Go.Maps
open Pt
/-- a patch that lies in memory: its names, its hunks, where these lie -/
abbrev PV := (ByteArray × ByteArray × List HV) × Value
abbrev rowP (p : PV) : List Value := [.string p.1.1, .string p.1.2.1, p.2]
abbrev phP (p : PV) : PH := (p.1.1, p.1.2.1, p.1.2.2.map (·.1))
structure PsAt (w : World) (v : Value) (L : List PV) : Prop where
  rows : RowsAt w v 3 (L.map rowP)
  each : ∀ p ∈ L, HksAt w p.2 p.1.2.2
theorem PsAt.below {w w' : World} {v : Value} {L : List PV} (h : PsAt w v L) (hb : Below w.heap.size w w') : PsAt w' v L := ⟨h.rows.below hb, fun p hp => (h.each p hp).below hb⟩
/-- files in a block of the call's own -/
def NB (w : World) (B : Nat) (v : Value) (l : List Nm) : Prop := (l = [] ∧ ∃ a, v = .slice a 0 0) ∨ ∃ g c, v = .slice (some ⟨g, 0, none⟩) l.length c ∧ l.length ≤ c ∧ c ≤ maxLen ∧ B ≤ g ∧ BlkR w g 2 c 35 (l.map rowN)
theorem NB.of {w : World} {B : Nat} {v : Value} {l : List Nm} (h : OwnR w B 35 2 v (l.map rowN)) : NB w B v l := by
  have h0 := h
  rcases h.2 with ⟨rfl, hx⟩ | ⟨g, cap, cur, rfl, hb, hg, hn, hc, hs, ht⟩
  · left
    rw [List.length_map] at hx
    exact ⟨List.eq_nil_of_length_eq_zero hx, _, rfl⟩
  · right
    rw [List.length_map] at hn
    refine ⟨g, cap, by rw [List.length_map], hn, hc, hb, cur, hg, hs, fun j x hj i y hi => ?_⟩
    have := h0.cells (g := g) rfl (j * 2 + i) y (flat_at j rowN_len hj hi)
    rw [Go.WideShapes.add_plain, Nat.zero_add] at this
    simpa [World.cell?, hg] using this
theorem NB.rows {w : World} {B : Nat} {v : Value} {l : List Nm} (h : NB w B v l) : RowsAt w v 2 (l.map rowN) := by
  rcases h with ⟨rfl, a, rfl⟩ | ⟨g, c, rfl, h1, h2, h3, h4⟩
  · exact .inl ⟨rfl, _, rfl⟩
  · refine .inr ⟨g, 0, c, by rw [List.length_map], by rw [List.length_map]; exact h1, h2, h4.lt, fun j x hj i y hi => ?_⟩
    rw [Nat.zero_add]
    exact h4.at hj hi
theorem BlkR.kt {pb : Nat} {T S : TypeId} {w w' : World} {g k n : Nat} {L : List (List Value)} (h : BlkR w g k n S L) (hk : KT pb T w w') (hS : S ≠ T) : BlkR w' g k n S L := by
  obtain ⟨cs, h1, h2⟩ := h
  exact ⟨cs, (hk.other _ _ _ _ hS h1).trans h1, h2⟩
theorem NB.kt {pb : Nat} {T : TypeId} {w w' : World} {B : Nat} {v : Value} {l : List Nm} (h : NB w B v l) (hk : KT pb T w w') (hT : 35 ≠ T) : NB w' B v l := by
  rcases h with h | ⟨g, c, e, h1, h2, h3, h4⟩
  · exact .inl h
  · exact .inr ⟨g, c, e, h1, h2, h3, h4.kt hk hT⟩
theorem NB.keep {w w' : World} {B : Nat} {v : Value} {l : List Nm} (h : NB w B v l) (hb : Below w.heap.size w w') : NB w' B v l := by
  rcases h with h | ⟨g, c, e, h1, h2, h3, h4⟩
  · exact .inl h
  · exact .inr ⟨g, c, e, h1, h2, h3, h4.below hb⟩
theorem kt_set {B g : Nat} {w : World} {cs : Array Value} {T : TypeId} (hg : w.heap[g]? = some (.cells cs T (0, 0))) (hB : B ≤ g) (i : Nat) (v : Value) : KT B T w (w.setCell ⟨g, i, none⟩ v) :=
  ⟨(Below.refl _ _).setCell (p := ⟨g, i, none⟩) hB v, fun a c S z hS hc => by
    have : a ≠ g := fun e => by subst e; rw [hg] at hc; cases hc; exact hS rfl
    simp only [World.setCell, Array.getElem?_modify, if_neg (Ne.symm this)]⟩
/-- a file is put in the place of another -/
theorem NB.store {w : World} {B g c k n : Nat} {l : List Nm} (h : NB w B (.slice (some ⟨g, 0, none⟩) n c) l) (hk : k < l.length) (a b : ByteArray) :
    NB ((w.setCell ⟨g, k * 2, none⟩ (.string a)).setCell ⟨g, k * 2 + 1, none⟩ (.string b)) B (.slice (some ⟨g, 0, none⟩) n c) (l.set k (a, b)) ∧ KT B 35 w ((w.setCell ⟨g, k * 2, none⟩ (.string a)).setCell ⟨g, k * 2 + 1, none⟩ (.string b)) := by
  rcases h with ⟨rfl, x, e⟩ | ⟨g2, c2, e, h1, h2, h3, h4⟩
  · simp at hk
  · cases e
    obtain ⟨x, hx⟩ : ∃ x, l[k]? = some x := ⟨_, List.getElem?_eq_getElem hk⟩
    have s1 := h4.set rowN_len k 0 (by omega) (.string a) (x := rowN x) (by rw [List.getElem?_map, hx]; rfl)
    rw [Nat.add_zero] at s1
    have s2 := s1.set (x := [.string a, .string x.2]) (by
      intro y hy
      rcases List.mem_or_eq_of_mem_set hy with hy | hy
      · exact rowN_len y hy
      · rw [hy]; rfl) k 1 (by omega) (.string b) (by rw [List.getElem?_set_self (by rw [List.length_map]; exact hk)]; rfl)
    obtain ⟨cs, q1, -⟩ := h4
    have k1 := kt_set (B := B) q1 h3 (k * 2) (.string a)
    obtain ⟨cs2, q2, -⟩ := s1
    have k2 := kt_set (B := B) q2 h3 (k * 2 + 1) (.string b)
    refine ⟨.inr ⟨g, c, by rw [List.length_set], by rw [List.length_set]; exact h1, h2, h3, ?_⟩, k1.trans k2⟩
    have e : (l.set k (a, b)).map rowN = ((l.map rowN).set k ((rowN x).set 0 (.string a))).set k ([Value.string a, Value.string x.2].set 1 (.string b)) := by
      rw [List.set_set, List.map_set]; rfl
    rw [e]; exact s2
theorem NB.len {w : World} {B n c : Nat} {a : Option Addr} {l : List Nm} (h : NB w B (.slice a n c) l) : l.length = n := by
  rcases h with ⟨rfl, x, e⟩ | ⟨g, c2, e, -⟩
  · cases e; rfl
  · cases e; rfl
theorem NB.head {w : World} {B n c : Nat} {a : Option Addr} {l : List Nm} (h : NB w B (.slice a n c) l) (hn : 0 < n) : ∃ g, a = some ⟨g, 0, none⟩ := by
  rcases h with ⟨rfl, x, e⟩ | ⟨g, c2, e, -⟩
  · cases e; omega
  · cases e; exact ⟨g, rfl⟩
theorem NB.cells {w : World} {B g c k n : Nat} {l : List Nm} {y : Nm} (h : NB w B (.slice (some ⟨g, 0, none⟩) n c) l) (hk : l[k]? = some y) :
    w.cell? ⟨g, k * 2, none⟩ = some (.string y.1) ∧ w.cell? ⟨g, k * 2 + 1, none⟩ = some (.string y.2) ∧ w.frozen? ⟨g, k * 2, none⟩ = false ∧ w.frozen? ⟨g, k * 2 + 1, none⟩ = false := by
  rcases h with ⟨rfl, x, e⟩ | ⟨g2, c2, e, h1, h2, h3, h4⟩
  · simp at hk
  · cases e
    have hr : (l.map rowN)[k]? = some (rowN y) := by rw [List.getElem?_map, hk]; rfl
    exact ⟨h4.at hr (i := 0) rfl, h4.at hr (i := 1) rfl, h4.fr _, h4.fr _⟩
theorem wholeP_cons (fuzz : Int) (p : PH) (r : List PH) (out : List Nm) (rej : List Hk) : wholeP fuzz (p :: r) out rej =
    if chk p.2.2 ≠ 0 then ([], [], chk p.2.2) else
    if idxN p.1 0 out < 0 then ([], [], 5) else
    if clashB (idxN p.1 0 out) p.2.1 0 out = true then ([], [], 6) else
    wholeP fuzz r (out.set (idxN p.1 0 out).toNat (p.2.1, bA (applyP (out.getD (idxN p.1 0 out).toNat (⟨#[]⟩, ⟨#[]⟩)).2 p.2.2 fuzz).1)) (rej ++ (applyP (out.getD (idxN p.1 0 out).toNat (⟨#[]⟩, ⟨#[]⟩)).2 p.2.2 fuzz).2.2) := rfl
theorem whole_e1 {fuzz : Int} {p : PH} {r : List PH} {out : List Nm} {rej : List Hk} (h : chk p.2.2 ≠ 0) : wholeP fuzz (p :: r) out rej = ([], [], chk p.2.2) := by rw [wholeP_cons, if_pos h]
theorem whole_e2 {fuzz : Int} {p : PH} {r : List PH} {out : List Nm} {rej : List Hk} (h : chk p.2.2 = 0) (h2 : idxN p.1 0 out = -1) : wholeP fuzz (p :: r) out rej = ([], [], 5) := by rw [wholeP_cons, if_neg (by rw [h]; decide), h2, if_pos (by decide)]
theorem whole_e3 {fuzz : Int} {p : PH} {r : List PH} {out : List Nm} {rej : List Hk} {k : Nat} (h : chk p.2.2 = 0) (h2 : idxN p.1 0 out = (k : Int)) (h3 : clashB (k : Int) p.2.1 0 out = true) : wholeP fuzz (p :: r) out rej = ([], [], 6) := by
  rw [wholeP_cons, if_neg (by rw [h]; decide), h2, if_neg (by omega), if_pos h3]
theorem whole_ok {fuzz : Int} {p : PH} {r : List PH} {out : List Nm} {rej : List Hk} {k : Nat} {y : Nm} {t : List UInt8} {pl : List (Int × Int × Int)} {bd : List Hk} (h : chk p.2.2 = 0) (h2 : idxN p.1 0 out = (k : Int)) (h3 : clashB (k : Int) p.2.1 0 out = false) (hy : out[k]? = some y) (ha : applyP y.2 p.2.2 fuzz = (t, pl, bd)) :
    wholeP fuzz (p :: r) out rej = wholeP fuzz r (out.set k (p.2.1, bA t)) (rej ++ bd) := by
  have hg : out.getD k (⟨#[]⟩, ⟨#[]⟩) = y := by rw [List.getD_eq_getElem?_getD, hy]; rfl
  rw [wholeP_cons, if_neg (by rw [h]; decide), h2, if_neg (by omega), if_neg (by rw [h3]; decide), Int.toNat_natCast, hg, ha]
/-- the lines of a rejected hunk: of a kind of their own, or older than the call -/
def EQ (B : Nat) (w : World) (p : HV) : Prop := (∃ B2, OwnR w B2 59 3 p.2 (p.1.ls.map rowD)) ∨ OldR B w p.2 3 (p.1.ls.map rowD)
theorem EQ.kt {B : Nat} {T : TypeId} {w w' : World} {p : HV} (h : EQ B w p) (hk : KT B T w w') (hT : 59 ≠ T) : EQ B w' p := by
  rcases h with ⟨B2, h⟩ | h
  · exact .inl ⟨B2, h.kt hk hT⟩
  · exact .inr (h.kt hk)
theorem EQ.keep {B : Nat} {w w' : World} {p : HV} (h : EQ B w p) (hB : B ≤ w.heap.size) (hb : Below w.heap.size w w') : EQ B w' p := by
  rcases h with ⟨B2, h⟩ | h
  · exact .inl ⟨B2, h.below hb⟩
  · exact .inr (h.keep hB hb)
theorem EQ.rows {B : Nat} {w : World} {p : HV} (h : EQ B w p) : RowsAt w p.2 3 (p.1.ls.map rowD) := by
  rcases h with ⟨B2, h⟩ | h
  · exact OwnR.rows h rowD_len
  · exact h.rows
/-- the state of Whole's loop -/
structure WQ (B : Nat) (vo vr : Value) (out : List Nm) (MB : List HV) (w0 w : World) : Prop where
  nb : NB w B vo out
  rj : OwnR w B 38 5 vr (MB.map rowH)
  each : ∀ p ∈ MB, EQ B w p
  bel : Below B w0 w
  sz : B ≤ w.heap.size
section
variable {B : Nat} {vo vr : Value} {out : List Nm} {MB : List HV} {w0 w w' : World}
theorem WQ.keep (h : WQ B vo vr out MB w0 w) (hb : Below w.heap.size w w') : WQ B vo vr out MB w0 w' :=
  ⟨h.nb.keep hb, h.rj.below hb, fun p hp => (h.each p hp).keep h.sz hb, h.bel.trans (hb.mono h.sz), Nat.le_trans h.sz hb.size⟩
theorem WQ.kt {T : TypeId} (h : WQ B vo vr out MB w0 w) {out' : List Nm} (hn : NB w' B vo out') (k : KT B T w w') (h1 : 38 ≠ T) (h2 : 59 ≠ T) : WQ B vo vr out' MB w0 w' :=
  ⟨hn, h.rj.kt k h1, fun p hp => (h.each p hp).kt k h2, h.bel.trans k.below, Nat.le_trans h.sz k.below.size⟩
theorem WQ.push {v' : Value} {M : List HV} (h : WQ B vo vr out MB w0 w) (o : OwnR w' B 38 5 v' (MB.map rowH ++ M.map rowH)) (g : w.grownBy w' vr.ownBlock) (hM : ∀ p ∈ M, EQ B w p) : WQ B vo v' out (MB ++ M) w0 w' := by
  have k := KT.grown (pb := B) h.rj g (Nat.le_refl _) h.sz
  refine ⟨h.nb.kt k (by decide), by rw [List.map_append]; exact o, fun p hp => ?_, h.bel.trans k.below, Nat.le_trans h.sz k.below.size⟩
  rcases List.mem_append.1 hp with hp | hp
  · exact (h.each p hp).kt k (by decide)
  · exact (hM p hp).kt k (by decide)
end
theorem clash_next {k : Int} {nm : ByteArray} {x : Nm} {r : List Nm} {i : Nat} (h : ¬ ((i : Int) ≠ k ∧ x.1 = nm)) : clashB k nm i (x :: r) = clashB k nm (i + 1) r := by
  rw [clashB]
  have : (decide ((i : Int) ≠ k) && decide (x.1 = nm)) = false := by
    rw [Bool.and_eq_false_iff, decide_eq_false_iff_not, decide_eq_false_iff_not]
    by_cases h1 : (i : Int) ≠ k
    · exact .inr (fun e => h ⟨h1, e⟩)
    · exact .inl h1
  rw [this, Bool.false_or]
theorem clash_here {k : Int} {nm : ByteArray} {x : Nm} {r : List Nm} {i : Nat} (h1 : (i : Int) ≠ k) (h2 : x.1 = nm) : clashB k nm i (x :: r) = true := by
  rw [clashB, decide_eq_true h1, decide_eq_true h2]; rfl
theorem few_sum {L : List HV} (h : fewPB L = true) : ((L.map (·.1)).map fun h => szD h.ls).sum ≤ 6560 := by
  unfold fewPB at h
  rw [Bool.and_eq_true, List.all_eq_true] at h
  have h1 := of_decide_eq_true h.1
  have hs : ∀ l : List HV, (∀ p ∈ l, fewLB p.1.ls = true) → ((l.map (·.1)).map fun h => szD h.ls).sum ≤ l.length * 820 := by
    intro l
    induction l with
    | nil => intro _; simp
    | cons x r ih =>
      intro hx
      have h2 := ih (fun p hp => hx p (List.mem_cons_of_mem _ hp))
      have h3 := hx x List.mem_cons_self
      unfold fewLB at h3
      rw [Bool.and_eq_true, List.all_eq_true] at h3
      have h4 := of_decide_eq_true h3.1
      have h5 := szD_few x.1.ls 40 (fun y hy => of_decide_eq_true (h3.2 y hy))
      have h6 : x.1.ls.length * (40 + 1) ≤ 20 * 41 := Nat.mul_le_mul h4 (Nat.le_refl _)
      rw [List.map_cons, List.map_cons, List.sum_cons, List.length_cons, Nat.add_mul]
      omega
  have := hs L h.2
  have h7 : L.length * 820 ≤ 8 * 820 := Nat.mul_le_mul h1 (Nat.le_refl _)
  omega
set_option maxRecDepth 100000 in
set_option maxHeartbeats 8000000 in
theorem whole_any (files : List Nm) (L : List PV) (fv pv : Value) (fuzz m : Int) (w : World) (hm : w.cell? ⟨0, 0, none⟩ = some (.int .i64 m)) (hf : RowsAt w fv 2 (files.map rowN)) (hp : PsAt w pv L) (hf6 : files.length ≤ 6) (hp4 : L.length ≤ 4) (hfz : ∀ x ∈ files, x.2.size ≤ 200) (hpz : ∀ p ∈ L, fewPB p.1.2.2 = true) {out : List Nm} {rej : List Hk} {er : Int} (ha : Hid (wholeP fuzz (L.map phP) files [] = (out, rej, er))) :
    Calls Tryd.prog 18 #[fv, pv, .int .i64 fuzz] w fun e w' => ∃ vo vr M, e = .returned (.tuple #[vo, vr, .int .i64 er]) ∧ Hid (RowsAt w' vo 2 (out.map rowN)) ∧ Hid (M.map (·.1) = rej) ∧ Hid (HksAt w' vr M) ∧ Hid (Below w.heap.size w w') := by
  obtain ⟨n, hn⟩ : ∃ n, L.length = n := ⟨_, rfl⟩
  have HN := Lib.hid hn
  have HPS := Lib.hid hp
  have HM := Lib.hid hm
  have HPZ := Lib.hid hpz
  have HFZ := Lib.hid hfz
  have CLC := Lib.hid (cloneN_any files fv w hf (by omega))
  obtain ⟨a, cap, rfl, q1, q2, hc⟩ := hp.rows.sl (n := n) (by rw [List.length_map]; exact hn)
  have HC := Lib.hid hc
  rw [hn] at hp4
  unfold maxLen at q2
  have HF6 := Lib.hid hf6
  have HWH := ha
  clear ha
  clear hm hf hp hn hc hfz hpz
  go_enter Tryd.func18, Tryd.ntmps18
  go_upto_region 2 with (go_at_call 42; (with_reducible refine (CLC.out).mono ?_); rintro _ w1 ⟨v1, rfl, O1, B1⟩)
  obtain ⟨va, vc, ev⟩ := O1.out.sl
  obtain ⟨fn, hfn⟩ : ∃ k, (files.map rowN).length = k := ⟨_, rfl⟩
  rw [hfn] at ev
  have hf6 : fn ≤ 6 := by rw [← hfn, List.length_map]; exact HF6.out
  clear hfn
  subst ev
  obtain ⟨B, hB⟩ : ∃ b, w.heap.size = b := ⟨_, rfl⟩
  have HB := Lib.hid hB
  have A0 : Hid (WQ B (.slice va fn vc) (.slice none 0 0) files [] w w1) := Lib.hid ⟨by rw [← hB]; exact NB.of O1.out, OwnR.nil _ _ _ _, (fun p hp => by simp at hp), by rw [← hB]; exact B1.out, by rw [← hB]; exact B1.out.size⟩
  clear hB
  go_wp2_with fail
  go_loopw [10, 12, 13, 14, 15, 16, 17, 18, 19, 24] (fun x10 b12 b13 b14 b15 b16 b17 b18 b19 i wr => ∃ (j : Nat) (ou : List Nm) (MB : List HV), i = .int .i64 j ∧ j ≤ n ∧ Hid (wholeP fuzz (L.map phP) files [] = wholeP fuzz ((L.drop j).map phP) ou (MB.map (·.1))) ∧ Hid (ou.length ≤ 6 ∧ ∀ x ∈ ou, x.2.size ≤ 200 + 6600 * j) ∧ Hid (MB.length ≤ 100 * j) ∧ Hid (WQ B (.slice va fn vc) x10 ou MB w wr)) (fun _ _ _ _ _ _ _ _ _ i _ => n - (intOf i).toNat)
  case atStart => exact ⟨0, files, [], rfl, Nat.zero_le _, Lib.hid rfl, Lib.hid ⟨HF6.out, fun x hx => by have := HFZ.out x hx; omega⟩, Lib.hid (Nat.zero_le _), A0⟩
  case round =>
    obtain ⟨j, ou, MB, rfl, hj, HW, HOZ, HML, HA⟩ := hrel
    have BW : Hid (Below w.heap.size w wr) := Lib.hid (by rw [HB.out]; exact HA.out.bel)
    by_cases hlt : j < n
    · obtain ⟨x, hx⟩ : ∃ x, L[j]? = some x := ⟨_, List.getElem?_eq_getElem (by rw [HN.out]; exact hlt)⟩
      have hmem := List.mem_of_getElem? hx
      rcases HC.out with h0 | ⟨g, o, rfl, -, hcc⟩
      · omega
      have m1 : (L.map rowP)[j]? = some (rowP x) := by rw [List.getElem?_map, hx]; rfl
      have d0 := kp BW.out (hcc j _ m1 0 _ rfl)
      have d1 := kp BW.out (hcc j _ m1 1 _ rfl)
      have d2 := kp BW.out (hcc j _ m1 2 _ rfl)
      rw [Nat.add_zero] at d0
      have HK := Lib.hid (HPS.out.each x hmem)
      have FP := Lib.hid (HPZ.out x hmem)
      have DR : Hid ((L.drop j).map phP = phP x :: (L.drop (j + 1)).map phP) := Lib.hid (by rw [drop_get hx]; rfl)
      have p0 : (0 : Int) ≤ (j : Int) := by omega
      have p1 : (j : Int) < (n : Int) := by omega
      have p2 : IntKind.i64.wrap (j : Int) = (j : Int) := IntWalk.i64_in _ (by omega)
      obtain ⟨⟨old, new, H⟩, u⟩ := x
      simp only at d0 d1 d2 HK FP DR
      clear hcc m1 hx hmem
      obtain ⟨hn, hhn⟩ : ∃ k, (H.map rowH).length = k := ⟨_, rfl⟩
      obtain ⟨ha, hc, e2, -⟩ := HK.out.rows.sl hhn
      clear hhn
      subst e2
      have SA := Lib.hid (few_smallA FP.out)
      obtain ⟨bx, hbx⟩ : ∃ b, wr.heap.size = b := ⟨_, rfl⟩
      obtain ⟨w5, hw5⟩ : ∃ W, wr.alloc (.cells #[.string old, .string new, .slice ha hn hc] 24) = W := ⟨_, rfl⟩
      have B5 : Hid (Below wr.heap.size wr w5) := Lib.hid (by rw [← hw5]; exact (Below.refl _ _).alloc (Nat.le_refl _) _)
      have X5 : Hid (w5.heap[bx]? = some (.cells #[.string old, .string new, .slice ha hn hc] 24 (0, 0))) := Lib.hid (by rw [← hw5, ← hbx]; exact heap_alloc_new wr _)
      have S5 := Lib.hid (HA.out.keep B5.out)
      have C5 := Lib.hid (BW.out.trans (B5.out.mono BW.out.size))
      have x0 := blk_cellx X5.out 0 _ rfl
      have x1 := blk_cellx X5.out 1 _ rfl
      have x2 := blk_cellx X5.out 2 _ rfl
      have CK := Lib.hid (fun W (hb : Below w.heap.size w W) => check_any old new H (.slice ha hn hc) W (HK.out.below hb) SA.out.h)
      obtain ⟨ck, hck⟩ : ∃ c, chk (H.map (·.1)) = c := ⟨_, rfl⟩
      have HCK := Lib.hid hck
      rw [hck] at CK
      clear hck
      by_cases h0 : ck = 0
      rotate_left
      · have t0 : (ck != 0) = true := bne_iff_ne.2 h0
        have E : Hid (out = [] ∧ rej = [] ∧ er = ck) := Lib.hid (by
          have h := HWH.out.symm.trans HW.out
          rw [DR.out, whole_e1 (by show chk (H.map (·.1)) ≠ 0; rw [HCK.out]; exact h0)] at h
          simp only [Prod.mk.injEq] at h
          exact ⟨h.1, h.2.1, by rw [h.2.2]; exact HCK.out⟩)
        clear h0
        go_wp2_with (first | (go_at_call 20; (with_reducible refine (CK.out _ C5.out).mono ?_); rintro _ w6 ⟨rfl, B6⟩; have x0 := kp B6.out x0; have x1 := kp B6.out x1; have x2 := kp B6.out x2))
        go_ret3
        first | exact ⟨_, _, [], by rw [E.out.2.2]; rfl, Lib.hid (by rw [E.out.1]; exact .inl ⟨rfl, _, rfl⟩), Lib.hid (by rw [E.out.2.1]; rfl), Lib.hid (HksAt.nil _), Lib.hid (C5.out.trans (B6.out.mono C5.out.size))⟩ | exact ⟨_, _, by rw [E.out.2.2]; rfl, Lib.hid (by rw [E.out.1]; exact .inl ⟨rfl, _, rfl⟩), [], Lib.hid (by rw [E.out.2.1]; rfl), Lib.hid (HksAt.nil _), Lib.hid (C5.out.trans (B6.out.mono C5.out.size))⟩
      subst h0
      obtain ⟨k, hk⟩ : ∃ k, idxN old 0 ou = k := ⟨_, rfl⟩
      have KL := Lib.hid (idxN_lt old ou 0)
      have X0 := Lib.hid x0
      have IN := Lib.hid (fun W (h5 : Below w5.heap.size w5 W) => indexN_any ou old bx (.slice va fn vc) W ((S5.out.keep h5).nb.rows) (by have := HOZ.out.1; omega) (kp h5 X0.out))
      rw [hk] at IN KL
      have HK1 := Lib.hid hk
      clear hk
      go_upto_region 10 with (first | (go_at_call 20; (with_reducible refine (CK.out _ C5.out).mono ?_); rintro _ w6 ⟨rfl, B6⟩; have x0 := kp B6.out x0; have x1 := kp B6.out x1; have x2 := kp B6.out x2) | (go_at_call 43; (with_reducible refine (IN.out _ B6.out).mono ?_); rintro _ w7 ⟨rfl, B7⟩; have x0 := kp B7.out x0; have x1 := kp B7.out x1; have x2 := kp B7.out x2))
      try rw [hw5]
      have B57 := Lib.hid (B6.out.trans (B7.out.mono B6.out.size))
      have S7 := Lib.hid (S5.out.keep B57.out)
      have X7 := Lib.hid ((B57.out.block _ (Array.getElem?_eq_some_iff.1 X5.out).1).trans X5.out)
      have C7 := Lib.hid (C5.out.trans (B57.out.mono C5.out.size))
      clear hw5 hbx d0 d1 d2
      rcases KL.out with rfl | ⟨hk1, hk2⟩
      · have E : Hid (out = [] ∧ rej = [] ∧ er = 5) := Lib.hid (by
          have h := HWH.out.symm.trans HW.out
          rw [DR.out, whole_e2 HCK.out HK1.out] at h
          simp only [Prod.mk.injEq] at h
          exact h)
        go_wp2_with fail
        go_ret3
        first | exact ⟨_, _, [], by rw [E.out.2.2]; rfl, Lib.hid (by rw [E.out.1]; exact .inl ⟨rfl, _, rfl⟩), Lib.hid (by rw [E.out.2.1]; rfl), Lib.hid (HksAt.nil _), C7⟩ | exact ⟨_, _, by rw [E.out.2.2]; rfl, Lib.hid (by rw [E.out.1]; exact .inl ⟨rfl, _, rfl⟩), [], Lib.hid (by rw [E.out.2.1]; rfl), Lib.hid (HksAt.nil _), C7⟩
      obtain ⟨kk, rfl⟩ : ∃ kk : Nat, k = (kk : Int) := ⟨k.toNat, by omega⟩
      have HOF : Hid (ou.length = fn) := Lib.hid S7.out.nb.len
      have hkk : kk < fn := by have := HOF.out; omega
      have nk : ¬ (kk : Int) < 0 := by omega
      obtain ⟨y, hy⟩ : ∃ y, ou[kk]? = some y := ⟨_, List.getElem?_eq_getElem (by rw [HOF.out]; exact hkk)⟩
      have HY := Lib.hid hy
      obtain ⟨g1, rfl⟩ := S7.out.nb.head (by omega)
      clear hk1 hk2 hy
      go_wp2_with fail
      go_loopw [15, 16, 40] (fun b15 b16 q wr => ∃ r : Nat, q = .int .i64 r ∧ r ≤ fn ∧ Hid (clashB (kk : Int) new 0 ou = clashB (kk : Int) new r (ou.drop r)) ∧ Hid (Below w7.heap.size w7 wr)) (fun _ _ q _ => fn - (intOf q).toNat)
      case atStart => exact ⟨0, rfl, Nat.zero_le _, Lib.hid rfl, Lib.hid (Below.refl _ _)⟩
      case round =>
        obtain ⟨r, rfl, hr, HI, BK⟩ := hrel
        have S8 := Lib.hid (S7.out.keep BK.out)
        have z1 := kp BK.out x1
        by_cases hrl : r < fn
        · obtain ⟨u, hu⟩ : ∃ u, ou[r]? = some u := ⟨_, List.getElem?_eq_getElem (by rw [HOF.out]; exact hrl)⟩
          have DU := Lib.hid (drop_get hu)
          obtain ⟨e0, e1, -, -⟩ := S8.out.nb.cells hu
          have p0 : (0 : Int) ≤ (r : Int) := by omega
          have p1 : (r : Int) < (fn : Int) := by omega
          have p2 : IntKind.i64.wrap (r : Int) = (r : Int) := IntWalk.i64_in _ (by omega)
          have BN := Lib.hid (BK.out.alloc BK.out.size (.cells #[.string u.1, .string u.2] 35))
          have Z1 : Hid ((wr.alloc (.cells #[.string u.1, .string u.2] 35)).cell? ⟨bx, 1, none⟩ = some (.string new)) := Lib.hid (kp ((Below.refl wr.heap.size wr).alloc (Nat.le_refl _) _) z1)
          obtain ⟨un, ut⟩ := u
          simp only at e0 e1 BN Z1
          clear hu
          by_cases hrk : r = kk
          · have t1 : ((r : Int) != (kk : Int)) = false := by rw [hrk]; simp
            have E2 : Hid (clashB (kk : Int) new 0 ou = clashB (kk : Int) new (r + 1) (ou.drop (r + 1))) := Lib.hid (by rw [HI.out, DU.out]; exact clash_next (fun e => e.1 (by rw [hrk])))
            clear hrk HI DU
            go_wp2_with fail
            go_roundw
            case rel => exact ⟨r + 1, by go_num, by omega, E2, BN⟩
            case measure => simp [intOf]; omega
          · have t1 : ((r : Int) != (kk : Int)) = true := bne_iff_ne.2 (by omega)
            by_cases hun : un = new
            · subst hun
              have E2 : Hid (out = [] ∧ rej = [] ∧ er = 6) := Lib.hid (by
                have h := HWH.out.symm.trans HW.out
                rw [DR.out, whole_e3 HCK.out HK1.out (by show clashB (kk : Int) un 0 ou = true; rw [HI.out, DU.out]; exact clash_here (by omega) rfl)] at h
                simp only [Prod.mk.injEq] at h
                exact h)
              clear hrk HI DU
              have z1n := Z1.out
              go_wp2_with fail
              go_ret3
              first | exact ⟨_, _, [], by rw [E2.out.2.2]; rfl, Lib.hid (by rw [E2.out.1]; exact .inl ⟨rfl, _, rfl⟩), Lib.hid (by rw [E2.out.2.1]; rfl), Lib.hid (HksAt.nil _), Lib.hid (C7.out.trans (BN.out.mono C7.out.size))⟩ | exact ⟨_, _, by rw [E2.out.2.2]; rfl, Lib.hid (by rw [E2.out.1]; exact .inl ⟨rfl, _, rfl⟩), [], Lib.hid (by rw [E2.out.2.1]; rfl), Lib.hid (HksAt.nil _), Lib.hid (C7.out.trans (BN.out.mono C7.out.size))⟩
            · have ts := strs_ne hun
              have E2 : Hid (clashB (kk : Int) new 0 ou = clashB (kk : Int) new (r + 1) (ou.drop (r + 1))) := Lib.hid (by rw [HI.out, DU.out]; exact clash_next (fun e => hun e.2))
              clear hrk HI DU hun
              have z1n := Z1.out
              go_wp2_with fail
              go_roundw
              case rel => exact ⟨r + 1, by go_num, by omega, E2, BN⟩
              case measure => simp [intOf]; omega
        · obtain rfl : r = fn := by omega
          have HCL : Hid (clashB (kk : Int) new 0 ou = false) := Lib.hid (by rw [HI.out, List.drop_eq_nil_of_le (by rw [HOF.out]; exact Nat.le_refl _)]; rfl)
          obtain ⟨⟨t, pl, bd⟩, hap⟩ : ∃ x, applyP y.2 (H.map (·.1)) fuzz = x := ⟨_, rfl⟩
          have HAP := Lib.hid hap
          have TS := Lib.hid (apply_sz y.2 (H.map (·.1)) fuzz)
          rw [hap] at TS
          have FS := Lib.hid (few_sum FP.out)
          have YS : Hid (y.2.size ≤ 200 + 6600 * j) := Lib.hid (HOZ.out.2 y (List.mem_of_getElem? HY.out))
          have hj4 : j < 4 := by omega
          have APS := Lib.hid (fun M => apply_small (M := M) SA.out hap)
          have C8 := Lib.hid (C7.out.trans (BK.out.mono C7.out.size))
          have APC := Lib.hid (fun W (hb : Below wr.heap.size wr W) => apply_any y.2 old new H (.slice ha hn hc) fuzz m W (kp (C8.out.trans (hb.mono C8.out.size)) HM.out) (HK.out.below (C8.out.trans (hb.mono C8.out.size))) SA.out (by have := YS.out; omega) HAP)
          clear hap
          obtain ⟨tx, htx⟩ : ∃ x, bA t = x := ⟨_, rfl⟩
          rw [htx] at APC
          have HTX := Lib.hid htx
          clear htx
          obtain ⟨e0, e1, -, -⟩ := S8.out.nb.cells HY.out
          have KPP : Hid (∀ w' : World, Below wr.heap.size wr w' → (fun w' => Below wr.heap.size wr w' ∧ w'.cell? ⟨g1, kk * 2 + 1, none⟩ = some (.string y.2) ∧ w'.cell? ⟨bx, 0, none⟩ = some (.string old) ∧ w'.cell? ⟨bx, 1, none⟩ = some (.string new) ∧ w'.cell? ⟨bx, 2, none⟩ = some (.slice ha hn hc)) w') := Lib.hid (fun w' hb => ⟨hb, kp hb e1, kp hb (kp BK.out x0), kp hb (kp BK.out x1), kp hb (kp BK.out x2)⟩)
          have p0 : (0 : Int) ≤ (kk : Int) := by omega
          have p1 : (kk : Int) < (r : Int) := by omega
          have p2 : IntKind.i64.wrap (kk : Int) = (kk : Int) := IntWalk.i64_in _ (by omega)
          clear x0 x1 x2 e0 e1 z1
          go_upto_region 18 with (fail)
          have S0 := KPP.out _ (Below.refl wr.heap.size wr).drew
          go_region_held3 (fun w' => Below wr.heap.size wr w' ∧ w'.cell? ⟨g1, kk * 2 + 1, none⟩ = some (.string y.2) ∧ w'.cell? ⟨bx, 0, none⟩ = some (.string old) ∧ w'.cell? ⟨bx, 1, none⟩ = some (.string new) ∧ w'.cell? ⟨bx, 2, none⟩ = some (.slice ha hn hc)) (first | exact S0) (first | (go_at_call 11; (with_reducible refine (APC.out _ S0.1).mono ?_); rintro e w9 ⟨vp, vh, M, rfl, P1, h1, H1, D1, L1, hb⟩; have S0 := KPP.out _ (S0.1.trans (hb.out.mono S0.1.size))))
          have S9 := Lib.hid (S8.out.keep S0.1)
          have x1 := S0.2.2.2.1
          obtain ⟨e0, e1, f0, f1⟩ := S9.out.nb.cells HY.out
          have ST := Lib.hid (S9.out.nb.store (by rw [HOF.out]; exact hkk) new tx)
          have S10 := Lib.hid (S9.out.kt ST.out.1 ST.out.2 (by decide) (by decide))
          have LR := Lib.hid ((L1.out.kt ST.out.2 (by decide)).rows rowH_len)
          have EM : Hid (∀ p ∈ M, EQ B ((w9.setCell ⟨g1, kk * 2, none⟩ (.string new)).setCell ⟨g1, kk * 2 + 1, none⟩ (.string tx)) p) := Lib.hid (fun p hp => .inl ⟨_, (D1.out p hp).kt ST.out.2 (by decide)⟩)
          have ONE : Hid (∀ x ∈ M.map rowH, ∀ u ∈ x, u.oneCell' = true) := Lib.hid (by intro x hx; obtain ⟨y, hy, rfl⟩ := List.mem_map.1 hx; exact one_H (H1.out.each y hy).one)
          have ML := Lib.hid (((APS.out M).2 h1.out).1)
          have LEN : Hid ((MB.map rowH).length + (M.map rowH).length ≤ 1048577) := Lib.hid (by rw [List.length_map, List.length_map]; have h2 := HML.out; have h3 := ML.out; omega)
          clear S0
          go_wp2_with (first | (at_builtin; (refine append_own3 rtH rfl (.tmp 75) (.tmp 76) rfl _ _ (MB.map rowH) (M.map rowH) B _ S10.out.rj LR.out rowH_len ONE.out S10.out.sz LEN.out (by simp [Act.eval]) (by simp [Act.eval]) ?_; intro v11 w11 own11 gr11; have NN := Lib.hid (S10.out.push own11.out gr11.out EM.out))))
          go_roundw
          case rel => exact ⟨j + 1, ou.set kk (new, tx), MB ++ M, by go_num, by omega, Lib.hid (by rw [HW.out, DR.out, whole_ok HCK.out HK1.out HCL.out HY.out HAP.out, List.map_append, h1.out, ← HTX.out]), Lib.hid ⟨by rw [List.length_set]; exact HOZ.out.1, fun x hx => by
            rcases List.mem_or_eq_of_mem_set hx with hx | hx
            · have := HOZ.out.2 x hx; omega
            · rw [hx, ← HTX.out]
              show t.toArray.size ≤ _
              rw [List.size_toArray]
              have h2 := TS.out; have h3 := FS.out; have h4 := YS.out
              try simp only at h2
              omega⟩, Lib.hid (by rw [List.length_append]; have h2 := HML.out; have h3 := ML.out; omega), NN⟩
          case measure => simp [intOf]; omega
    · obtain rfl : j = n := by omega
      have E : Hid (out = ou ∧ rej = MB.map (·.1) ∧ er = 0) := Lib.hid (by
        have h := HWH.out.symm.trans HW.out
        rw [List.drop_eq_nil_of_le (by rw [HN.out]; exact Nat.le_refl _)] at h
        simp only [List.map_nil, wholeP, Prod.mk.injEq] at h
        exact h)
      go_wp2_with fail
      go_ret3
      exact ⟨_, _, MB, by rw [E.out.2.2]; rfl, Lib.hid (by rw [E.out.1]; exact HA.out.nb.rows), Lib.hid E.out.2.1.symm, Lib.hid ⟨HA.out.rj.rows rowH_len, fun p hp => (HA.out.each p hp).rows⟩, BW⟩
end Go.Proofs.YtnkpigibjicmaaaDoor
