/- walks: the difference of two texts -/
import Derived.Test.YtnkpigibjicmaaaDoorVxa
import Derived.Test.YtnkpigibjicmaaaDoorVy
namespace Go.Proofs.YtnkpigibjicmaaaDoor
open Go.RowKit Go.Maps
open Pt
/-- the hunks so far -/
def INV (l : List DL) (out : List Hk) (i : Nat) : Prop := ∀ hs, SegL (nA (l.take i)) (nB (l.take i)) (l.drop i) hs → SegL 0 0 l (out ++ hs)
theorem INV.start (l : List DL) : INV l [] 0 := fun hs h => by simpa [nA, nB] using h
theorem nA_snoc (l : List DL) (x : DL) : nA (l ++ [x]) = nA l + (if x.1 = 3 then 0 else 1) := by
  unfold nA; rw [List.countP_append]; by_cases e : x.1 = 3 <;> simp [e]
theorem nB_snoc (l : List DL) (x : DL) : nB (l ++ [x]) = nB l + (if x.1 = 2 then 0 else 1) := by
  unfold nB; rw [List.countP_append]; by_cases e : x.1 = 2 <;> simp [e]
theorem INV.skip {l : List DL} {out : List Hk} {i : Nat} {x : DL} (h : INV l out i) (hx : l[i]? = some x) (h1 : x.1 = 1) : INV l out (i + 1) := fun hs hh => by
  refine h hs ?_
  rw [drop_get hx]
  refine SegL.skip h1 ?_
  rw [take_get hx, nA_snoc, nB_snoc, if_neg (by omega), if_neg (by omega)] at hh
  exact hh
theorem INV.hunk {l : List DL} {out : List Hk} {f i : Nat} (h : INV l out f) (hfi : f < i) (hi : i ≤ l.length) (hk : ∀ x, l[i]? = some x → x.1 = 1) : INV l (out ++ [mkH (nA (l.take f)) (nB (l.take f)) ((l.take i).drop f)]) i := fun hs hh => by
  rw [List.append_assoc]
  refine h _ ?_
  have e : l.take i = l.take f ++ (l.take i).drop f := by
    have := List.take_append_drop f (l.take i)
    rw [List.take_take, Nat.min_eq_left (by omega)] at this
    exact this.symm
  have e2 : l.drop f = [] ++ (l.take i).drop f ++ l.drop i := by
    rw [List.nil_append]
    have := List.take_append_drop (i - f) (l.drop f)
    rw [List.drop_drop, show f + (i - f) = i by omega] at this
    rw [← this]
    congr 1
    rw [List.drop_take]
  rw [e2]
  have hA : nA (l.take i) = nA (l.take f) + nA ((l.take i).drop f) := by
    unfold nA
    rw [← List.countP_append, ← e]
  have hB : nB (l.take i) = nB (l.take f) + nB ((l.take i).drop f) := by
    unfold nB
    rw [← List.countP_append, ← e]
  rw [hA, hB] at hh
  have := SegL.cons (a := nA (l.take f)) (b := nB (l.take f)) (k := []) (s := (l.take i).drop f) (t := l.drop i) (r := hs) (fun x hx => by simp at hx) (fun e => by
    have := congrArg List.length e
    rw [List.length_drop, List.length_take] at this
    simp at this; omega) (by
    rcases Nat.lt_or_ge i l.length with hl | hl
    · obtain ⟨x, hx⟩ : ∃ x, l[i]? = some x := ⟨_, List.getElem?_eq_getElem hl⟩
      exact .inr ⟨x, _, drop_get hx, hk x hx⟩
    · exact .inl (List.drop_eq_nil_of_le hl)) (by simpa using hh)
  simpa using this
theorem INV.done {l : List DL} {out : List Hk} {n : Nat} (h : INV l out n) (hn : l.length = n) : SegL 0 0 l out := by
  have := h [] (.nil (fun x hx => by rw [List.drop_eq_nil_of_le (by omega)] at hx; simp at hx))
  rwa [List.append_nil] at this
theorem RV.kept {ob b0 : Nat} {new old : ByteArray} {vv v9 : Value} {M : List HV} {w0 w5 w9 : World} {row : Obj} (r : RV ob b0 new old vv M w0 w5) (gr : (w5.alloc row).grownBy w9 vv.ownBlock) : ∀ (i : Nat) (cs : Array Value) (T : TypeId) (z : Nat × Nat), w5.heap[i]? = some (Obj.cells cs T z) → T ≠ 38 → i ≠ ob → (w9.setCell ⟨ob, 2, none⟩ v9).heap[i]? = w5.heap[i]? := by
  intro i cs T z hi hT hne
  have hil := (Array.getElem?_eq_some_iff.1 hi).1
  have e : (w9.setCell ⟨ob, 2, none⟩ v9).heap[i]? = w9.heap[i]? := by simp only [World.setCell, Array.getElem?_modify, if_neg (Ne.symm hne)]
  rw [e]
  refine (gr.block i (by rw [World.size_alloc]; omega) (fun e2 => ?_)).trans (heap_alloc_old w5 row hil)
  obtain ⟨cs2, h2⟩ := r.own.blk e2.symm
  rw [hi] at h2
  cases h2
  exact hT rfl
set_option maxRecDepth 100000 in
set_option maxHeartbeats 8000000 in
theorem compare_any (on nn a b : ByteArray) (ctx : Int) (w : World) (ha : a.size ≤ 300) (hb : b.size ≤ 300) :
    Calls Tryd.prog 15 #[.agg #[.string on, .string a], .agg #[.string nn, .string b], .int .i64 ctx] w fun e w' => ∃ v' M, e = .returned (.agg #[.string on, .string nn, v']) ∧ Hid (SegL 0 0 (scrD a b) (M.map (·.1))) ∧ Hid (HksAt w' v' M) ∧ Hid (Below w.heap.size w w') := by
  obtain ⟨D, hD⟩ : ∃ D, scrD a b = D := ⟨_, rfl⟩
  obtain ⟨n, hn⟩ : ∃ n, D.length = n := ⟨_, rfl⟩
  have hn2 : n ≤ 602 := by have := scr_len a b; rw [hD, hn] at this; omega
  have HD := Lib.hid hD
  have HN := Lib.hid hn
  have HSZ := Lib.hid (And.intro ha hb)
  have FA := Lib.hid (fun W => fed_any a W (by omega))
  have FB := Lib.hid (fun W => fed_any b W (by omega))
  have AL := Lib.hid (fun v1 v2 W (h1 : Strs W v1 ((lnsP a).map fedS)) (h2 : Strs W v2 ((lnsP b).map fedS)) => all_any _ _ v1 v2 W h1 h2 (by rw [List.length_map]; have := lnsP_len a; omega) (by rw [List.length_map]; have := lnsP_len b; omega) (fun x hx => by
    obtain ⟨y, hy, rfl⟩ := List.mem_map.1 hx
    have := lnsP_size hy
    unfold fedS; split
    · omega
    · rw [ByteArray.size_append]; show _ + 1 ≤ _; omega) (fun x hx => by
    obtain ⟨y, hy, rfl⟩ := List.mem_map.1 hx
    have := lnsP_size hy
    unfold fedS; split
    · omega
    · rw [ByteArray.size_append]; show _ + 1 ≤ _; omega))
  rw [hD]
  clear hD hn ha hb
  go_enter Tryd.func15, Tryd.ntmps15
  go_upto_region 2 with (fail)
  have s1 : (w.alloc (.cells #[.string on, .string a] 35)).heap.size = w.heap.size + 1 := World.size_alloc _ _
  have s2 : ((w.alloc (.cells #[.string on, .string a] 35)).alloc (.cells #[.string nn, .string b] 35)).heap.size = w.heap.size + 1 + 1 := by rw [World.size_alloc, s1]
  have s3 : (((w.alloc (.cells #[.string on, .string a] 35)).alloc (.cells #[.string nn, .string b] 35)).alloc (.cells #[.string ⟨#[]⟩, .string ⟨#[]⟩, .slice none 0 0] 24)).heap.size = w.heap.size + 1 + 1 + 1 := by rw [World.size_alloc, s2]
  have s4 : ((((w.alloc (.cells #[.string on, .string a] 35)).alloc (.cells #[.string nn, .string b] 35)).alloc (.cells #[.string ⟨#[]⟩, .string ⟨#[]⟩, .slice none 0 0] 24)).alloc (.cells #[.string on, .string nn, .slice none 0 0] 24)).heap.size = w.heap.size + 1 + 1 + 1 + 1 := by rw [World.size_alloc, s3]
  have n0 : ((((w.alloc (.cells #[.string on, .string a] 35)).alloc (.cells #[.string nn, .string b] 35)).alloc (.cells #[.string ⟨#[]⟩, .string ⟨#[]⟩, .slice none 0 0] 24)).alloc (.cells #[.string on, .string nn, .slice none 0 0] 24)).heap[w.heap.size]? = some (.cells #[.string on, .string a] 35 (0, 0)) := (heap_alloc_old (((w.alloc (.cells #[.string on, .string a] 35)).alloc (.cells #[.string nn, .string b] 35)).alloc (.cells #[.string ⟨#[]⟩, .string ⟨#[]⟩, .slice none 0 0] 24)) _ (by rw [s3]; omega)).trans ((heap_alloc_old ((w.alloc (.cells #[.string on, .string a] 35)).alloc (.cells #[.string nn, .string b] 35)) _ (by rw [s2]; omega)).trans ((heap_alloc_old (w.alloc (.cells #[.string on, .string a] 35)) _ (by rw [s1]; omega)).trans (heap_alloc_new w _)))
  have n1 : ((((w.alloc (.cells #[.string on, .string a] 35)).alloc (.cells #[.string nn, .string b] 35)).alloc (.cells #[.string ⟨#[]⟩, .string ⟨#[]⟩, .slice none 0 0] 24)).alloc (.cells #[.string on, .string nn, .slice none 0 0] 24)).heap[w.heap.size + 1]? = some (.cells #[.string nn, .string b] 35 (0, 0)) := (heap_alloc_old (((w.alloc (.cells #[.string on, .string a] 35)).alloc (.cells #[.string nn, .string b] 35)).alloc (.cells #[.string ⟨#[]⟩, .string ⟨#[]⟩, .slice none 0 0] 24)) _ (by rw [s3]; omega)).trans ((heap_alloc_old ((w.alloc (.cells #[.string on, .string a] 35)).alloc (.cells #[.string nn, .string b] 35)) _ (by rw [s2]; omega)).trans (by have := heap_alloc_new (w.alloc (.cells #[.string on, .string a] 35)) (.cells #[.string nn, .string b] 35); rw [s1] at this; exact this))
  have n2 : ((((w.alloc (.cells #[.string on, .string a] 35)).alloc (.cells #[.string nn, .string b] 35)).alloc (.cells #[.string ⟨#[]⟩, .string ⟨#[]⟩, .slice none 0 0] 24)).alloc (.cells #[.string on, .string nn, .slice none 0 0] 24)).heap[w.heap.size + 1 + 1]? = some (.cells #[.string ⟨#[]⟩, .string ⟨#[]⟩, .slice none 0 0] 24 (0, 0)) := (heap_alloc_old (((w.alloc (.cells #[.string on, .string a] 35)).alloc (.cells #[.string nn, .string b] 35)).alloc (.cells #[.string ⟨#[]⟩, .string ⟨#[]⟩, .slice none 0 0] 24)) _ (by rw [s3]; omega)).trans (by have := heap_alloc_new ((w.alloc (.cells #[.string on, .string a] 35)).alloc (.cells #[.string nn, .string b] 35)) (.cells #[.string ⟨#[]⟩, .string ⟨#[]⟩, .slice none 0 0] 24); rw [s2] at this; exact this)
  have n3 : ((((w.alloc (.cells #[.string on, .string a] 35)).alloc (.cells #[.string nn, .string b] 35)).alloc (.cells #[.string ⟨#[]⟩, .string ⟨#[]⟩, .slice none 0 0] 24)).alloc (.cells #[.string on, .string nn, .slice none 0 0] 24)).heap[w.heap.size + 1 + 1 + 1]? = some (.cells #[.string on, .string nn, .slice none 0 0] 24 (0, 0)) := by have := heap_alloc_new (((w.alloc (.cells #[.string on, .string a] 35)).alloc (.cells #[.string nn, .string b] 35)).alloc (.cells #[.string ⟨#[]⟩, .string ⟨#[]⟩, .slice none 0 0] 24)) (.cells #[.string on, .string nn, .slice none 0 0] 24); rw [s3] at this; exact this
  have bx : Below w.heap.size w ((((w.alloc (.cells #[.string on, .string a] 35)).alloc (.cells #[.string nn, .string b] 35)).alloc (.cells #[.string ⟨#[]⟩, .string ⟨#[]⟩, .slice none 0 0] 24)).alloc (.cells #[.string on, .string nn, .slice none 0 0] 24)) := ((((Below.refl _ _).alloc (Nat.le_refl _) _).alloc (by rw [s1]; omega) _).alloc (by rw [s2]; omega) _).alloc (by rw [s3]; omega) _
  obtain ⟨wx, hwx⟩ : ∃ W, ((((w.alloc (.cells #[.string on, .string a] 35)).alloc (.cells #[.string nn, .string b] 35)).alloc (.cells #[.string ⟨#[]⟩, .string ⟨#[]⟩, .slice none 0 0] 24)).alloc (.cells #[.string on, .string nn, .slice none 0 0] 24)) = W := ⟨_, rfl⟩
  rw [hwx] at n0 n1 n2 n3 bx s4 ⊢
  have BX := Lib.hid bx
  have N2 := Lib.hid n2
  have LX := Lib.hid s4
  have RV0 : Hid (RV (w.heap.size + 1 + 1 + 1) (w.heap.size + 1 + 1 + 1 + 1) on nn (.slice none 0 0) [] w wx) := Lib.hid ⟨n3, OwnR.nil _ _ _ _, (fun p hp => by cases hp), bx, by omega⟩
  have KP : Hid (∀ W : World, Below wx.heap.size wx W → (fun W => Below wx.heap.size wx W ∧ W.cell? ⟨w.heap.size, 1, none⟩ = some (.string a) ∧ W.cell? ⟨w.heap.size + 1, 1, none⟩ = some (.string b)) W) := Lib.hid (fun W hb => ⟨hb, kp hb (blk_cellx n0 1 _ rfl), kp hb (blk_cellx n1 1 _ rfl)⟩)
  clear n0 n1 n2 n3 bx hwx s1 s2 s3 s4
  have S0 := KP.out _ ((Below.refl wx.heap.size wx).drew)
  go_region_held3 (fun W => Below wx.heap.size wx W ∧ W.cell? ⟨w.heap.size, 1, none⟩ = some (.string a) ∧ W.cell? ⟨w.heap.size + 1, 1, none⟩ = some (.string b)) (first | exact S0) (first
    | (go_at_call 38; (first
      | ((with_reducible refine (FA.out _).mono ?_); rintro e w' ⟨vA, rfl, SAx, hb⟩; have S0 := KP.out _ (S0.1.trans (hb.out.mono S0.1.size)))
      | ((with_reducible refine (FB.out _).mono ?_); rintro e w' ⟨vB, rfl, SBx, hb⟩; have SAx := Lib.hid (SAx.out.below hb.out); have S0 := KP.out _ (S0.1.trans (hb.out.mono S0.1.size)))))
    | (go_at_call 37; (with_reducible refine (AL.out vA vB _ SAx.out SBx.out).mono ?_); rintro e w5 ⟨v8, rfl, O8, hb⟩; have S0 := KP.out _ (S0.1.trans (hb.out.mono S0.1.size))))
  have E8 : ((diffP ((lnsP a).map fedS) ((lnsP b).map fedS)).map rwD) = D.map rowD := by rw [← HD.out]; unfold scrD; rw [List.map_map]; rfl
  rw [E8] at O8
  have OD := Lib.hid (O8.out.mono (Nat.zero_le _))
  clear O8 E8
  obtain ⟨ga, gc, rfl, q1, q2, -⟩ := (OD.out.rows rowD_len).sl (n := n) (by rw [List.length_map]; exact HN.out)
  unfold maxLen at q2
  have B5 := Lib.hid S0.1
  have RV5 := Lib.hid (RV0.out.below B5.out)
  have N5 := Lib.hid ((B5.out.block _ (Array.getElem?_eq_some_iff.1 N2.out).1).trans N2.out)
  clear S0 SAx SBx FA FB AL KP RV0 N2
  go_upto_region 3 with (fail)
  go_cut [29] from 28 to 30 (fun u w' => ∃ bo : Bool, u = .bool bo ∧ Hid (bo = true ↔ ctx < 0) ∧ w5 = w')
  · go_wp2_with fail
    all_goals (go_meet; case rel => exact ⟨_, rfl, Lib.hid (by simp), rfl⟩)
  obtain ⟨bo, rfl, HBO, rfl⟩ := hcut
  refine ‹∀ (a : Act) (w : World), Code.wp _ _ _ a w → _› _ _ ?_
  go_cut [2] from 29 to 30 (fun u w' => ∃ C1 : Nat, u = .int .i64 C1 ∧ w5 = w')
  · cases bo with
    | true =>
      go_wp2_with fail
      go_meet
      case rel => exact ⟨0, rfl, rfl⟩
    | false =>
      have h0 : ¬ ctx < 0 := fun h => by have := HBO.out.2 h; cases this
      obtain ⟨C, hC⟩ := Int.eq_ofNat_of_zero_le (show 0 ≤ ctx by omega)
      have HC := Lib.hid hC
      clear hC h0
      go_wp2_with fail
      go_meet
      case rel => exact ⟨C, by rw [HC.out], rfl⟩
  obtain ⟨C1, rfl, rfl⟩ := hcut
  clear HBO
  refine ‹∀ (a : Act) (w : World), Code.wp _ _ _ a w → _› _ _ ?_
  go_upto_region 5 with (fail)
  go_cut [33] from 30 to 36 (fun u w' => ∃ bo : Bool, u = .bool bo ∧ Hid (bo = true ↔ n < C1) ∧ w5 = w')
  · go_wp2_with fail
    all_goals (go_meet; case rel => exact ⟨_, rfl, Lib.hid (by simp), rfl⟩)
  obtain ⟨bo, rfl, HBO, rfl⟩ := hcut
  refine ‹∀ (a : Act) (w : World), Code.wp _ _ _ a w → _› _ _ ?_
  go_cut [2] from 33 to 36 (fun u w' => ∃ C : Nat, u = .int .i64 C ∧ C ≤ n ∧ w5 = w')
  · cases bo with
    | true =>
      go_wp2_with fail
      go_meet
      case rel => exact ⟨n, rfl, Nat.le_refl _, rfl⟩
    | false =>
      have HC : Hid (C1 ≤ n) := Lib.hid (Decidable.byContradiction fun h => by have := HBO.out.2 (by omega); cases this)
      go_wp2_with fail
      go_meet
      case rel => exact ⟨C1, rfl, HC.out, rfl⟩
  obtain ⟨C, rfl, hC, rfl⟩ := hcut
  clear HBO
  refine ‹∀ (a : Act) (w : World), Code.wp _ _ _ a w → _› _ _ ?_
  go_wp2_with fail
  go_loopw [9, 10, 11, 12, 13, 14, 15] (fun i b10 b11 b12 b13 b14 b15 wr => ∃ (j : Nat) (vv : Value) (M : List HV), i = .int .i64 j ∧ j ≤ n ∧ Hid (INV D (M.map (·.1)) j ∧ M.length ≤ j) ∧ Hid (RV (w.heap.size + 1 + 1 + 1) (w.heap.size + 1 + 1 + 1 + 1) on nn vv M w wr) ∧ Hid (OwnR wr 0 59 3 (.slice ga n gc) (D.map rowD)) ∧ Hid (wr.heap[w.heap.size + 1 + 1]? = some (.cells #[.string ⟨#[]⟩, .string ⟨#[]⟩, .slice none 0 0] 24 (0, 0)))) (fun i _ _ _ _ _ _ _ => n - (intOf i).toNat)
  case atStart => exact ⟨0, _, [], rfl, Nat.zero_le _, Lib.hid ⟨INV.start D, Nat.zero_le _⟩, RV5, OD, N5⟩
  case round =>
    obtain ⟨j, vv, M, rfl, hj, HI, HR, OW, HZ⟩ := hrel
    by_cases hlt : j < n
    · have p0 : (0 : Int) ≤ (j : Int) := by omega
      have p1 : (j : Int) < (n : Int) := by omega
      have p3 : IntKind.i64.wrap ((j : Int) + 1) = (j : Int) + 1 := IntWalk.i64_in _ (by omega)
      have OR := Lib.hid (OW.out.rows rowD_len)
      obtain ⟨g, o, rfl⟩ : ∃ g o, ga = some ⟨g, o, none⟩ := by
        rcases OR.out with ⟨h0, -⟩ | ⟨g, o, c2, e, -⟩
        · have h1 := congrArg List.length h0; rw [List.length_map, HN.out] at h1; simp at h1; omega
        · cases e; exact ⟨g, o, rfl⟩
      go_wp2_with fail
      go_loop [9] (fun i => ∃ r : Nat, i = .int .i64 r ∧ j ≤ r ∧ r ≤ n) (fun i => n - (intOf i).toNat)
      case atStart => exact ⟨j, rfl, Nat.le_refl _, by omega⟩
      case round =>
        obtain ⟨r, rfl, hjr, hrn⟩ := hrel
        have p4 : IntKind.i64.wrap ((r : Int) + 1) = (r : Int) + 1 := IntWalk.i64_in _ (by omega)
        go_upto_region 10 with (fail)
        go_cut [54] from 41 to 54 (fun u w' => ∃ c : Bool, u = .bool c ∧ Hid ((c = true → r < n) ∧ (c = false → ∀ x, D[r]? = some x → x.1 = 1)) ∧ wr = w')
        · by_cases hr : r < n
          · have t1 : (r : Int) < (n : Int) := by omega
            have e1 : IntKind.i64.wrap ((r : Int) - (C : Int)) = (r : Int) - (C : Int) := IntWalk.i64_in _ (by omega)
            have e2 : IntKind.i64.wrap ((r : Int) + (C : Int)) = (r : Int) + (C : Int) := IntWalk.i64_in _ (by omega)
            have NC := Lib.hid (near_any D (.slice (some ⟨g, o, none⟩) n gc) ((r : Int) - C) ((r : Int) + C) wr OR.out (by rw [HN.out]; omega) (by omega) (by omega) (by omega))
            go_wp2_with (go_at_call 39; (with_reducible refine NC.out.mono ?_); rintro _ w2 ⟨u, rfl, hu, h⟩; subst h; obtain ⟨c, rfl, hc⟩ := hu; have HC3 := Lib.hid hc)
            go_meet
            case rel => exact ⟨c, rfl, Lib.hid ⟨fun _ => by omega, fun h x hx => HC3.out h r x hx (by omega) (by omega)⟩, rfl⟩
          · have t1 : ¬ (r : Int) < (n : Int) := by omega
            go_wp2_with fail
            go_meet
            case rel => exact ⟨false, rfl, Lib.hid ⟨fun h => (by cases h), fun _ x hx => by have := (List.getElem?_eq_some_iff.1 hx).1; rw [HN.out] at this; omega⟩, rfl⟩
        obtain ⟨c, rfl, HC2, rfl⟩ := hcut
        cases c with
        | true =>
          have hr := HC2.out.1 rfl
          go_wp2_with fail
          go_round
          case rel => exact ⟨r + 1, by go_num, by omega, by omega⟩
          case measure => simp [intOf]; omega
        | false =>
          have HK := Lib.hid (HC2.out.2 rfl)
          clear HC2
          by_cases e : r = j
          · subst e
            obtain ⟨x, hx⟩ : ∃ x, D[r]? = some x := ⟨_, List.getElem?_eq_getElem (by rw [HN.out]; exact hlt)⟩
            have EI := Lib.hid (HI.out.1.skip hx (HK.out x hx))
            clear hx
            go_wp2_with fail
            go_roundw
            case rel => exact ⟨r + 1, vv, M, by go_num, by omega, Lib.hid ⟨EI.out, by have := HI.out.2; omega⟩, HR, OW, HZ⟩
            case measure => simp [intOf]; omega
          have te : ((r : Int) == (j : Int)) = false := beq_eq_false_iff_ne.2 (by omega)
          have hjr2 : j < r := by omega
          clear e
          have q5 : (j : Int) ≤ (gc : Int) := by omega
          have q6 : (r : Int) ≤ (gc : Int) := by omega
          have q7 : (j : Int) ≤ (r : Int) := by omega
          have q8 : ¬ gc = j := by omega
          have q9 : (0 : Int) ≤ (r : Int) := by omega
          have R1 := Lib.hid (OR.out.upto (by rw [List.length_map]; exact HN.out) j (by omega))
          have R2 := Lib.hid ((OR.out.upto (by rw [List.length_map]; exact HN.out) r hrn).from (by rw [List.length_take, List.length_map, HN.out]; omega) j (by omega) (some ⟨g, o + j * 3, none⟩) (.inr rfl))
          rw [← List.map_take] at R1
          rw [← List.map_take, ← List.map_drop] at R2
          obtain ⟨sg, hsg⟩ : ∃ l, (D.take r).drop j = l := ⟨_, rfl⟩
          have LS : Hid (sg.length ≤ 602) := Lib.hid (by rw [← hsg, List.length_drop, List.length_take, HN.out]; omega)
          have C1 := Lib.hid (count_any (D.take j) _ wr R1.out (by rw [List.length_take, HN.out]; omega))
          rw [hsg] at R2
          have C2 := Lib.hid (count_any sg _ wr R2.out (by have := LS.out; omega))
          obtain ⟨A1, hA1⟩ : ∃ k, nA (D.take j) = k := ⟨_, rfl⟩
          obtain ⟨B1, hB1⟩ : ∃ k, nB (D.take j) = k := ⟨_, rfl⟩
          obtain ⟨A2, hA2⟩ : ∃ k, nA sg = k := ⟨_, rfl⟩
          obtain ⟨B2, hB2⟩ : ∃ k, nB sg = k := ⟨_, rfl⟩
          have EH : Hid (INV D (M.map (·.1) ++ [⟨firstN A1 A2, (A2 : Nat), firstN B1 B2, (B2 : Nat), sg⟩]) r) := Lib.hid (by
            have := HI.out.1.hunk hjr2 (by rw [HN.out]; exact hrn) HK.out
            rw [hsg, hA1, hB1] at this
            unfold mkH at this
            rw [hA2, hB2] at this
            exact this)
          have LA : Hid (A1 ≤ 602 ∧ B1 ≤ 602) := Lib.hid (by
            have h1 : nA (D.take j) ≤ (D.take j).length := List.countP_le_length
            have h2 : nB (D.take j) ≤ (D.take j).length := List.countP_le_length
            rw [List.length_take] at h1 h2; omega)
          rw [hA1, hB1] at C1
          rw [hA2, hB2] at C2
          have F1 := Lib.hid (fun W => first_any A1 A2 W (by have := LA.out; omega))
          have F2 := Lib.hid (fun W => first_any B1 B2 W (by have := LA.out; omega))
          clear hA1 hB1 hA2 hB2 hsg
          go_upto_region 17 with (go_at_call 40; (first
            | ((with_reducible refine C1.out.mono ?_); rintro _ w2 ⟨rfl, h⟩; subst h)
            | ((with_reducible refine C2.out.mono ?_); rintro _ w2 ⟨rfl, h⟩; subst h)))
          go_upto_region 18 with (at_builtin; (refine append_rows rtD rfl (.tmp 77) (.tmp 81) rfl (.slice none 0 0) _ [] (sg.map rowD) wr.heap.size wr _ (OwnR.nil _ _ _ _) R2.out rowD_len (by intro x hx; obtain ⟨y, -, rfl⟩ := List.mem_map.1 hx; exact one_D) (Below.refl _ _) (Nat.le_refl _) (by have := LS.out; rw [List.length_map, List.length_nil]; omega) (by simp [Act.eval]) (by simp [Act.eval]) ?_; intro v3 w3 own3 bel3; obtain ⟨a3, k3, e3⟩ := own3.out.sl; obtain ⟨m3, hm3⟩ : ∃ m, ([] ++ sg.map rowD).length = m := ⟨_, rfl⟩; rw [hm3] at e3; clear hm3; subst e3))
          rw [List.nil_append] at own3
          have R3 := Lib.hid (HR.out.below bel3.out)
          have OW3 := Lib.hid (OW.out.below bel3.out)
          have Z3 := Lib.hid ((bel3.out.block _ (Array.getElem?_eq_some_iff.1 HZ.out).1).trans HZ.out)
          have R5 := Lib.hid (R3.out.below (Below.refl w3.heap.size w3).drew)
          have O5 := Lib.hid (OW3.out.below (Below.refl w3.heap.size w3).drew)
          have LB5 : Hid (w.heap.size + 1 + 1 + 1 + 1 ≤ w3.drew.heap.size) := Lib.hid (Array.getElem?_eq_some_iff.1 R5.out.blk).1
          have OB5 : Hid (OwnR w3.drew (w.heap.size + 1 + 1 + 1 + 1) 59 3 (.slice a3 m3 k3) (sg.map rowD)) := Lib.hid ((own3.out.below (Below.refl w3.heap.size w3).drew).mono (Array.getElem?_eq_some_iff.1 HR.out.blk).1)
          have Z5 : Hid (w3.drew.heap[w.heap.size + 1 + 1]? = some (.cells #[.string ⟨#[]⟩, .string ⟨#[]⟩, .slice none 0 0] 24 (0, 0))) := Lib.hid Z3.out
          have o2 : w3.cell? ⟨w.heap.size + 1 + 1 + 1, 2, none⟩ = some vv := blk_cellx R3.out.blk 2 _ rfl
          have o2d : w3.drew.cell? ⟨w.heap.size + 1 + 1 + 1, 2, none⟩ = some vv := o2
          have o2b : (w3.alloc (.cells #[.int .i64 (firstN A1 A2), .int .i64 (A2 : Nat), .int .i64 (firstN B1 B2), .int .i64 (B2 : Nat), .slice a3 m3 k3] 38)).cell? ⟨w.heap.size + 1 + 1 + 1, 2, none⟩ = some vv := kp ((Below.refl w3.heap.size w3).alloc (Nat.le_refl _) _) o2
          have o2a : (w3.drew.alloc (.cells #[.int .i64 (firstN A1 A2), .int .i64 (A2 : Nat), .int .i64 (firstN B1 B2), .int .i64 (B2 : Nat), .slice a3 m3 k3] 38)).cell? ⟨w.heap.size + 1 + 1 + 1, 2, none⟩ = some vv := kp ((Below.refl w3.drew.heap.size w3.drew).alloc (Nat.le_refl _) _) o2d
          have LM : Hid ((M.map rowH).length ≤ 1048000) := Lib.hid (by rw [List.length_map]; have := HI.out.2; omega)
          go_region_law (first
              | (go_simp; go_at_call 41; (first | refine (F1.out _).mono ?_ | refine (F2.out _).mono ?_); rintro _ w4 ⟨rfl, h⟩; subst h)
              | (refine step_own2 rtH rfl (.tmp 84) (.tmp 95) rfl vv _ (M.map rowH) [rowH (⟨firstN A1 A2, (A2 : Nat), firstN B1 B2, (B2 : Nat), sg⟩, .slice a3 m3 k3)] (w.heap.size + 1 + 1 + 1 + 1) w3.drew _ (World.ownsRow.alloc R5.out.own _) (row_blk (heap_alloc_new w3.drew (.cells #[.int .i64 (firstN A1 A2), .int .i64 (A2 : Nat), .int .i64 (firstN B1 B2), .int .i64 (B2 : Nat), .slice a3 m3 k3] 38))) (fun e => by cases e) (by intro x hx; simp at hx; subst hx; rfl) (by intro x hx; rw [List.mem_singleton] at hx; subst hx; exact one_H rfl) ((Below.refl _ _).alloc LB5.out _) (by show _ ≤ (w3.drew.alloc (.cells #[.int .i64 (firstN A1 A2), .int .i64 (A2 : Nat), .int .i64 (firstN B1 B2), .int .i64 (B2 : Nat), .slice a3 m3 k3] 38)).heap.size; rw [World.size_alloc]; have := LB5.out; omega) (by have := LM.out; show _ + 1 ≤ 1048577; omega) (by first | rfl | (simp [Act.eval]; done) | (simp [Act.eval, Act.put]; done)) (by first | rfl | (simp [Act.eval]; done) | (simp [Act.eval, Act.put]; done)) ?_; intro v9 w9 own9 bel9 gr9 pu9; obtain ⟨a9, k9, e9⟩ := own9.out.sl; obtain ⟨n9, hn9⟩ : ∃ n, (M.map rowH ++ [rowH (⟨firstN A1 A2, (A2 : Nat), firstN B1 B2, (B2 : Nat), sg⟩, .slice a3 m3 k3)]).length = n := ⟨_, rfl⟩; rw [hn9] at e9; subst e9; clear hn9; have PU := Lib.hid (RV.push (h := ⟨firstN A1 A2, (A2 : Nat), firstN B1 B2, (B2 : Nat), sg⟩) R5.out OB5.out gr9.out (by rw [List.map_append]; exact own9.out) (R5.out.bel.trans (bel9.out.mono (by omega)))); have KE := Lib.hid (R5.out.kept (v9 := .slice a9 n9 k9) gr9.out); have fz := PU.out.2.1; have cz := PU.out.2.2))
          all_goals (go_wp2_with fail; go_roundw)
          all_goals (first | exact ⟨r, _, _, rfl, hrn, Lib.hid ⟨by rw [List.map_append]; exact EH.out, by rw [List.length_append]; have := HI.out.2; show _ + 1 ≤ _; omega⟩, Lib.hid PU.out.1, Lib.hid (O5.out.ty (fun i cs z hi => KE.out i cs _ z hi (by decide) (fun e => by subst e; rw [R5.out.blk] at hi; cases hi))), Lib.hid ((KE.out _ _ _ _ Z5.out (by decide) (by omega)).trans Z5.out)⟩ | (simp [intOf]; omega))
    · obtain rfl : j = n := by omega
      have p1 : ¬ (j : Int) < (j : Int) := by omega
      have SG : Hid (SegL 0 0 D (M.map (·.1))) := Lib.hid (HI.out.1.done HN.out)
      have o0 : wr.cell? ⟨w.heap.size + 1 + 1 + 1, 0, none⟩ = some (.string on) := blk_cellx HR.out.blk 0 _ rfl
      have o1 : wr.cell? ⟨w.heap.size + 1 + 1 + 1, 1, none⟩ = some (.string nn) := blk_cellx HR.out.blk 1 _ rfl
      have o2 : wr.cell? ⟨w.heap.size + 1 + 1 + 1, 2, none⟩ = some vv := blk_cellx HR.out.blk 2 _ rfl
      obtain ⟨va, vc, evv⟩ := HR.out.own.sl
      obtain ⟨vn, hvn⟩ : ∃ n, (M.map rowH).length = n := ⟨_, rfl⟩
      rw [hvn] at evv
      subst evv
      clear hvn
      have c0 : wr.cell? ⟨w.heap.size + 1 + 1, 0, none⟩ = some (.string ⟨#[]⟩) := blk_cellx HZ.out 0 _ rfl
      have c1 : wr.cell? ⟨w.heap.size + 1 + 1, 1, none⟩ = some (.string ⟨#[]⟩) := blk_cellx HZ.out 1 _ rfl
      have c2 : wr.cell? ⟨w.heap.size + 1 + 1, 2, none⟩ = some (.slice none 0 0) := blk_cellx HZ.out 2 _ rfl
      have f0 : wr.frozen? ⟨w.heap.size + 1 + 1, 0, none⟩ = false := by have := HZ.out; simp [World.frozen?, this]
      have f1 : wr.frozen? ⟨w.heap.size + 1 + 1, 1, none⟩ = false := by have := HZ.out; simp [World.frozen?, this]
      have f2 : wr.frozen? ⟨w.heap.size + 1 + 1, 2, none⟩ = false := by have := HZ.out; simp [World.frozen?, this]
      go_wp2_with fail
      obtain ⟨r0, r1, r2⟩ := three_set (.string on) (.string nn) (.slice va vn vc) c0 c1 c2
      have HK : Hid (HksAt (((wr.setCell ⟨w.heap.size + 1 + 1, 0, none⟩ (.string on)).setCell ⟨w.heap.size + 1 + 1, 1, none⟩ (.string nn)).setCell ⟨w.heap.size + 1 + 1, 2, none⟩ (.slice va vn vc)) (.slice va vn vc) M) := Lib.hid ⟨(HR.out.own.ty (fun i cs z hi => sets_keep _ _ _ (fun e => by subst e; rw [HZ.out] at hi; cases hi))).rows rowH_len, fun p hp => ((HR.out.each p hp).ty (fun i cs z hi => sets_keep _ _ _ (fun e => by subst e; rw [HZ.out] at hi; cases hi))).rows rowD_len⟩
      refine bodyPost_ret (v := .agg #[.string on, .string nn, .slice va vn vc]) (by simp [results, Tryd.results15, go_sem, r0, r1, r2]) rfl ⟨_, rfl, M, SG, HK, Lib.hid (below_sets HR.out.bel (by omega) _ _ _)⟩
end Go.Proofs.YtnkpigibjicmaaaDoor
