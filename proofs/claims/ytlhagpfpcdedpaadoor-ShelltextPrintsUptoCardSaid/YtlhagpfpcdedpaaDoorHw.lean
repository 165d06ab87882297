/- walks: the reference's safe, Quote -/
import Derived.Test.YtlhagpfpcdedpaaDoorHn
import Derived.Test.YtlhagpfpcdedpaaDoorHh
import Derived.OwnWalk
import Derived.Laws.BytesArg
namespace Go.Proofs.YtlhagpfpcdedpaaDoor
open Go.RowKit
open Shp
theorem byteCells_snoc (out : List UInt8) (c : UInt8) : Lib.byteCells out ++ [Value.int .u8 (c.toNat : Int)] = Lib.byteCells (out ++ [c]) := by simp [Lib.byteCells]
theorem info5 : (Tryd.prog.info? 5).map (fun i => (i.zero, i.size, i.bytes)) = some (some (.int .u8 0), 1, 1) := by kernel_rfl
abbrev Own (w : World) (B : Nat) (v : Value) (out : List UInt8) : Prop := w.ownsRow B 5 1 v out.length (Lib.byteCells out)
theorem append_byte {ops : Array Oper} {rest : List Oper} {o : Oper} {a : Act} {Q : Exit → Act → World → Prop} (hgd : o.guard = none) (s x : Operand)
    (ho : o.op = .call { callee := .builtin .append, args := #[s, x], argTypes := #[66, 66] }) (v : Value) (out : List UInt8) (c : UInt8) (u : Int) (hu : u = (c.toNat : Int)) (B : Nat) (w wr : World)
    (own : Own wr B v out) (bel : Below B w wr) (hB : B ≤ wr.heap.size) (len : out.length + 1 ≤ 140737488355328) (hs : a.eval s = v) (hx : a.eval x = .slice (some ⟨wr.heap.size, 0, none⟩) 1 1)
    (h : ∀ v' w', Hid (Own w' B v' (out ++ [c])) → Hid (Below B w w') → wpList Tryd.prog ops Q rest (a.put o.dst v') w') : wpList Tryd.prog ops Q (o :: rest) a (wr.alloc (.cells #[.int .u8 u] 5)) := by
  subst hu
  obtain ⟨i0, hi, hz0, hz1, hz2⟩ := info_parts info5
  refine wpList_append_own _ hgd s x 66 ho B 5 i0 (.int .u8 0) 1 1 Tryd.underlying66 hi hz0 hz1 hz2 rfl (by decide) v out.length (Lib.byteCells out) hs (own.alloc _) ⟨wr.heap.size, 0, none⟩ 1 1 [.int .u8 (c.toNat : Int)] hx rfl ?_ ?_ ?_ ?_ ?_ ?_
  · intro j y hj
    match j, hj with
    | 0, hj => simp at hj; subst hj; simp [Addr.add]
  · intro y hy; simp at hy; subst hy; rfl
  · unfold maxLen; omega
  · omega
  · simp; omega
  · intro v' w' h1 h2 _
    refine h v' w' (Lib.hid ?_) (Lib.hid ?_)
    · rw [byteCells_snoc] at h1
      show w'.ownsRow B 5 1 v' (out ++ [c]).length (Lib.byteCells (out ++ [c]))
      rw [List.length_append]; exact h1
    · exact (bel.alloc hB _).grown h2 (by simp; omega) (fun k hk => (own.lt k hk).1)
theorem nums_back (out : List UInt8) : strOfNums (out.map fun c => (c.toNat : Int)) = ⟨out.toArray⟩ := by
  have h : (strOfNums (out.map fun c => (c.toNat : Int))).data.toList = out := by
    rw [strOfNums_data, List.map_map]
    conv => rhs; rw [← List.map_id out]
    apply List.map_congr_left
    intro c _
    apply UInt8.toNat_inj.1
    have := c.toNat_lt
    simp
  generalize strOfNums (out.map fun c => (c.toNat : Int)) = t at h
  obtain ⟨⟨l⟩⟩ := t
  simp only at h
  rw [h]
theorem own_string {w : World} {B : Nat} {v : Value} {out : List UInt8} (h : Own w B v out) : (convert 66 9 v).run Tryd.prog w = .ok (.string ⟨out.toArray⟩) w := by
  rcases h.2 with ⟨rfl, hx⟩ | ⟨g, cap, cur, rfl, hb, hg, hn, hc, hs, ht⟩
  · obtain rfl := List.eq_nil_of_length_eq_zero hx
    exact run_convert_bytes_nil (w := w) 66 5 Tryd.underlying66 Tryd.underlying5 0 0 9 Tryd.underlying9
  · rw [← nums_back]
    refine run_convert_bytes_arg w 66 5 Tryd.underlying66 Tryd.underlying5 g 0 out.length cap (out.map fun c => (c.toNat : Int)) (by simp) (fun i hi => ?_) 9 Tryd.underlying9
    have := h.cells (g := g) rfl i (.int .u8 ((out[i]).toNat : Int)) (by simp [Lib.byteCells, hi])
    by_cases h0 : i = 0
    · subst h0; simpa [Addr.add, hi] using this
    · simpa [Addr.add, hi, h0] using this
theorem append_bytes {ops : Array Oper} {rest : List Oper} {o : Oper} {a : Act} {Q : Exit → Act → World → Prop} (hgd : o.guard = none) (s x : Operand)
    (ho : o.op = .call { callee := .builtin .append, args := #[s, x], argTypes := #[66, 66] }) (v : Value) (out l : List UInt8) (us : Array Value) (hu : us.toList = Lib.byteCells l) (m : Nat) (hm : m = l.length) (h0 : 0 < m) (B : Nat) (w wr : World)
    (own : Own wr B v out) (bel : Below B w wr) (hB : B ≤ wr.heap.size) (len : out.length + l.length ≤ 140737488355328) (hs : a.eval s = v) (hx : a.eval x = .slice (some ⟨wr.heap.size, 0, none⟩) m m)
    (h : ∀ v' w', Hid (Own w' B v' (out ++ l)) → Hid (Below B w w') → wpList Tryd.prog ops Q rest (a.put o.dst v') w') : wpList Tryd.prog ops Q (o :: rest) a (wr.alloc (.cells us 5)) := by
  subst hm
  obtain ⟨i0, hi, hz0, hz1, hz2⟩ := info_parts info5
  refine wpList_append_own _ hgd s x 66 ho B 5 i0 (.int .u8 0) 1 1 Tryd.underlying66 hi hz0 hz1 hz2 rfl (by decide) v out.length (Lib.byteCells out) hs (own.alloc _) ⟨wr.heap.size, 0, none⟩ l.length l.length (Lib.byteCells l) hx (by simp [Lib.byteCells]) ?_ ?_ ?_ ?_ ?_ ?_
  · intro j y hj
    have h1 := heap_alloc_new wr (.cells us 5)
    have e : (⟨wr.heap.size, 0, none⟩ : Addr).add j = ⟨wr.heap.size, j, none⟩ := by
      by_cases h0 : j = 0
      · subst h0; simp [Addr.add]
      · simp [Addr.add, h0]
    rw [e, blk_cell h1, ← hj, ← hu, Array.getElem?_toList]
  · intro y hy
    simp only [Lib.byteCells, List.mem_map] at hy
    obtain ⟨c, _, rfl⟩ := hy; rfl
  · unfold maxLen; omega
  · omega
  · simp; omega
  · intro v' w' h1 h2 _
    refine h v' w' (Lib.hid ?_) (Lib.hid ?_)
    · have e : Lib.byteCells out ++ Lib.byteCells l = Lib.byteCells (out ++ l) := by simp [Lib.byteCells]
      rw [e] at h1
      show w'.ownsRow B 5 1 v' (out ++ l).length (Lib.byteCells (out ++ l))
      rw [List.length_append]; exact h1
    · exact (bel.alloc hB _).grown h2 (by simp; omega) (fun k hk => (own.lt k hk).1)
abbrev moL : List UInt8 := [95, 45, 46, 47, 44, 58, 61, 43, 64, 37]
set_option maxRecDepth 100000 in
set_option maxHeartbeats 2000000 in
theorem safe_any (c : UInt8) (v : Int) (hv : v = (c.toNat : Int)) (w : World) {r : Bool} (hr : Hid (safeB c = r)) :
    Calls Tryd.prog 33 #[.int .u8 v] w fun e w' => e = .returned (.bool r) ∧ w' = w := by
  subst hv
  obtain ⟨q, hq⟩ : ∃ q, ((97 ≤ c && c ≤ 122) || (65 ≤ c && c ≤ 90) || (48 ≤ c && c ≤ 57)) = q := ⟨_, rfl⟩
  have HQ : Hid (q = (decide (97 ≤ c.toNat ∧ c.toNat ≤ 122) || decide (65 ≤ c.toNat ∧ c.toNat ≤ 90) || decide (48 ≤ c.toNat ∧ c.toNat ≤ 57))) := Lib.hid (by
    rw [← hq, Bool.eq_iff_iff]
    simp only [Bool.or_eq_true, Bool.and_eq_true, decide_eq_true_eq, UInt8.le_iff_toNat_le]
    exact Iff.rfl)
  have HR : Hid (r = (q || decide (c ∈ moL))) := Lib.hid (by rw [← hr.out, ← hq]; rfl)
  clear hq hr
  obtain ⟨n, hn⟩ : ∃ n, c.toNat = n := ⟨_, rfl⟩
  have HN := Lib.hid hn
  rw [hn] at HQ ⊢
  clear hn
  go_enter Tryd.func33, Tryd.ntmps33
  go_upto_region 1 with (fail)
  go_cut [26] from 5 (fun u w' => u = .bool q ∧ w' = w)
  · go_wp2_with fail
    all_goals
      go_meet
      case rel =>
        refine ⟨?_, rfl⟩
        rw [HQ.out]
        clear HQ HR HN
        congr 1
        rw [Bool.eq_iff_iff]
        simp only [Bool.or_eq_true, decide_eq_true_eq]
        first | omega | (simp only [true_iff]; omega) | (simp only [Bool.false_eq_true, false_iff]; omega)
  obtain ⟨rfl, rfl⟩ := hcut
  clear HQ
  refine ‹∀ (a : Act) (w : World), Code.wp _ _ _ a w → _› _ _ ?_
  cases q with
  | true =>
    obtain rfl : r = true := HR.out
    go_wp2_with fail
    go_ret
    exact ⟨rfl, rfl⟩
  | false =>
    have HR : Hid (r = decide (c ∈ moL)) := Lib.hid (by rw [HR.out, Bool.false_or])
    go_upto_region 3 with (fail)
    go_cut [3] from 5 (fun u w' => (∃ mo : ByteArray, u = .string mo ∧ mo.size = 10 ∧ Hid (mo.data.toList = moL)) ∧ w' = wc)
    · go_wp2_with fail
      go_meet
      case rel => exact ⟨⟨_, rfl, by decide, Lib.hid rfl⟩, rfl⟩
    obtain ⟨⟨mo, rfl, ms, ML⟩, rfl⟩ := hcut
    refine ‹∀ (a : Act) (w : World), Code.wp _ _ _ a w → _› _ _ ?_
    go_wp2_with fail
    go_loopw [4] (fun i wr => ∃ k : Nat, k ≤ 10 ∧ i = .int .i64 k ∧ Hid (c ∉ moL.take k) ∧ wr = wc) (fun i _ => 10 - (intOf i).toNat)
    case atStart => exact ⟨0, Nat.zero_le _, rfl, Lib.hid (by simp), rfl⟩
    case round =>
      obtain ⟨k, hk, rfl, NK, rfl⟩ := hrel
      by_cases hlt : k < 10
      · have hks : k < mo.size := by omega
        obtain ⟨x, hx⟩ : ∃ x, mo[k] = x := ⟨_, rfl⟩
        have LX : Hid (moL[k]? = some x) := Lib.hid (by rw [← ML.out]; exact (at_lt hks).trans (by rw [hx]))
        by_cases e : x.toNat = n
        · obtain rfl : r = true := by
            rw [HR.out]
            have : x = c := UInt8.toNat_inj.1 (e.trans HN.out.symm)
            exact decide_eq_true (this ▸ List.mem_of_getElem? LX.out)
          go_wp2_with fail
          go_ret
          exact ⟨rfl, rfl⟩
        · have NX : Hid (c ∉ moL.take (k + 1)) := Lib.hid (by
            rw [List.take_add_one, LX.out, Option.toList_some, List.mem_append, List.mem_singleton]
            rintro (h | h)
            · exact NK.out h
            · exact e (by rw [← h]; exact HN.out))
          go_wp2_with fail
          go_roundw
          case rel => exact ⟨k + 1, by omega, by go_num, NX, trivial⟩
          case measure => simp [intOf]; omega
      · obtain rfl : r = false := by
          have : k = 10 := by omega
          subst this
          rw [HR.out]
          exact decide_eq_false NK.out
        go_wp2_with fail
        go_ret
        exact ⟨rfl, rfl⟩
theorem quL_snoc (l : List UInt8) (c : UInt8) : quL (l ++ [c]) = quL l ++ (if c = 39 then [39, 92, 39] else []) ++ [c] := by
  unfold quL
  rw [List.flatMap_append, List.flatMap_singleton]
  by_cases h : c = 39
  · rw [if_pos h, if_pos h, h, List.append_assoc]; rfl
  · rw [if_neg h, if_neg h, List.append_nil]
set_option maxRecDepth 100000 in
set_option maxHeartbeats 4000000 in
theorem rquote_any (s : ByteArray) (w : World) (hs : s.size ≤ 16777216) :
    Calls Tryd.prog 14 #[.string s] w fun e w' => e = .returned (.string ⟨(quoteL s.data.toList).toArray⟩) ∧ Hid (Below w.heap.size w w') := by
  obtain ⟨e0, he0⟩ : ∃ e0, s.toList.isEmpty = e0 := ⟨_, rfl⟩
  have E0 : Hid (e0 = true ↔ s.data.toList = []) := Lib.hid (by rw [← he0, Lib.toList_data, List.isEmpty_iff])
  go_enter Tryd.func14, Tryd.ntmps14
  have O0 : Hid (Own (w.alloc (.cells #[.int .u8 39] 5)) w.heap.size (.slice (some ⟨w.heap.size, 0, none⟩) 1 1) [39]) := Lib.hid ⟨rfl, .inr ⟨w.heap.size, 1, #[.int .u8 39], rfl, Nat.le_refl _, heap_alloc_new w _, Nat.le_refl _, by unfold maxLen; omega, rfl, rfl⟩⟩
  go_wp2_with fail
  go_loopw [3, 4, 5] (fun b v i wr => ∃ k : Nat, i = .int .i64 k ∧ b = .bool (!e0 && (s.data.toList.take k).all safeB) ∧ k ≤ s.size ∧ Hid (Own wr w.heap.size v (39 :: quL (s.data.toList.take k))) ∧ Hid (Below w.heap.size w wr)) (fun _ _ i _ => s.size - (intOf i).toNat)
  case atStart => exact ⟨0, rfl, by simp, Nat.zero_le _, O0, Lib.hid ((Below.refl _ _).alloc (Nat.le_refl _) _)⟩
  case round =>
    obtain ⟨k, rfl, rfl, hk, OW, Br⟩ := hrel
    clear he0 O0
    obtain ⟨out, ho⟩ : ∃ out, 39 :: quL (s.data.toList.take k) = out := ⟨_, rfl⟩
    rw [ho] at OW
    have HO : Hid (out.length ≤ 67108868) := Lib.hid (by
      rw [← ho]
      have := quL_len (s.data.toList.take k)
      rw [List.length_take] at this
      rw [List.length_cons]; omega)
    by_cases hlt : k < s.size
    · have hat : s.data.toList[k]? = some s[k] := at_lt hlt
      obtain ⟨x, hx⟩ : ∃ x, s[k] = x := ⟨_, rfl⟩
      rw [hx] at hat
      have TK : Hid (s.data.toList.take (k + 1) = s.data.toList.take k ++ [x]) := Lib.hid (by rw [List.take_add_one, hat, Option.toList_some])
      have HOut : Hid (39 :: quL (s.data.toList.take (k + 1)) = out ++ (if x = 39 then [39, 92, 39] else []) ++ [x]) := Lib.hid (by rw [TK.out, quL_snoc, ← ho]; simp)
      have hT : Hid ((!e0 && (s.data.toList.take (k + 1)).all safeB) = ((!e0 && (s.data.toList.take k).all safeB) && safeB x)) := Lib.hid (by
        rw [TK.out, List.all_append, List.all_cons, List.all_nil, Bool.and_true, Bool.and_assoc])
      obtain ⟨b, hb⟩ : ∃ b, (!e0 && (s.data.toList.take k).all safeB) = b := ⟨_, rfl⟩
      obtain ⟨r, hr⟩ : ∃ r, safeB x = r := ⟨_, rfl⟩
      have RS := Lib.hid hr
      rw [hb, hr] at hT
      rw [hb]
      clear hb hr E0 hat TK ho
      by_cases h39 : x = 39
      · have HOut : Hid (39 :: quL (s.data.toList.take (k + 1)) = out ++ [39, 92, 39] ++ [39]) := Lib.hid (by rw [HOut.out, if_pos h39, h39])
        subst h39
        cases b with
        | true =>
          go_wp2_with (first | (go_at_call 33; refine (safe_any 39 _ rfl _ RS).mono ?_; rintro e w' ⟨rfl, rfl⟩) | (at_builtin; refine append_bytes rfl _ _ rfl _ out [39, 92, 39] _ rfl 3 rfl (by omega) w.heap.size w _ OW.out Br.out Br.out.size (by have := HO.out; simp; omega) rfl rfl ?_; intro v2 w2 own2 bel2) | (at_builtin; refine append_byte rfl _ _ rfl _ (out ++ [39, 92, 39]) 39 _ rfl w.heap.size w _ own2.out bel2.out bel2.out.size (by have := HO.out; rw [List.length_append]; simp; omega) rfl rfl ?_; intro v3 w3 own3 bel3))
          go_roundw
          case rel => exact ⟨k + 1, by go_num, by rw [hT.out, Bool.true_and], by omega, Lib.hid (by rw [HOut.out]; exact own3.out), bel3⟩
          case measure => simp [intOf]; omega
        | false =>
          go_wp2_with (first | (go_at_call 33; refine (safe_any 39 _ rfl _ RS).mono ?_; rintro e w' ⟨rfl, rfl⟩) | (at_builtin; refine append_bytes rfl _ _ rfl _ out [39, 92, 39] _ rfl 3 rfl (by omega) w.heap.size w _ OW.out Br.out Br.out.size (by have := HO.out; simp; omega) rfl rfl ?_; intro v2 w2 own2 bel2) | (at_builtin; refine append_byte rfl _ _ rfl _ (out ++ [39, 92, 39]) 39 _ rfl w.heap.size w _ own2.out bel2.out bel2.out.size (by have := HO.out; rw [List.length_append]; simp; omega) rfl rfl ?_; intro v3 w3 own3 bel3))
          go_roundw
          case rel => exact ⟨k + 1, by go_num, by rw [hT.out, Bool.false_and], by omega, Lib.hid (by rw [HOut.out]; exact own3.out), bel3⟩
          case measure => simp [intOf]; omega
      · have HOut : Hid (39 :: quL (s.data.toList.take (k + 1)) = out ++ [x]) := Lib.hid (by rw [HOut.out, if_neg h39, List.append_nil])
        have hne : ((x.toNat : Int) == 39) = false := by
          rw [beq_eq_false_iff_ne]
          intro h
          exact h39 (UInt8.toNat_inj.1 (by have : x.toNat = 39 := by omega
                                           rw [this]; rfl))
        have hn2 : ¬ x.toNat = 39 := by
          intro h
          exact h39 (UInt8.toNat_inj.1 (by rw [h]; rfl))
        clear h39
        cases b with
        | true =>
          go_wp2_with (first | (go_at_call 33; refine (safe_any x _ rfl _ RS).mono ?_; rintro e w' ⟨rfl, rfl⟩) | (at_builtin; refine append_byte rfl _ _ rfl _ out x _ rfl w.heap.size w _ OW.out Br.out Br.out.size (by have := HO.out; omega) rfl rfl ?_; intro v2 w2 own2 bel2))
          go_roundw
          case rel => exact ⟨k + 1, by go_num, by rw [hT.out, Bool.true_and], by omega, Lib.hid (by rw [HOut.out]; exact own2.out), bel2⟩
          case measure => simp [intOf]; omega
        | false =>
          go_wp2_with (first | (go_at_call 33; refine (safe_any x _ rfl _ RS).mono ?_; rintro e w' ⟨rfl, rfl⟩) | (at_builtin; refine append_byte rfl _ _ rfl _ out x _ rfl w.heap.size w _ OW.out Br.out Br.out.size (by have := HO.out; omega) rfl rfl ?_; intro v2 w2 own2 bel2))
          go_roundw
          case rel => exact ⟨k + 1, by go_num, by rw [hT.out, Bool.false_and], by omega, Lib.hid (by rw [HOut.out]; exact own2.out), bel2⟩
          case measure => simp [intOf]; omega
    · have ek : k = s.size := by omega
      subst ek
      have et : Hid ((!e0 && (s.data.toList.take s.size).all safeB) = true ↔ s.data.toList ≠ [] ∧ s.data.toList.all safeB = true) := Lib.hid (by
        rw [show s.data.toList.take s.size = s.data.toList from List.take_of_length_le (Nat.le_refl _)]
        have h0 := E0.out
        cases e0 with
        | true => simp [h0.1 rfl]
        | false =>
          have hne : s.data.toList ≠ [] := fun h => by have := h0.2 h; cases this
          simp only [Bool.not_false, Bool.true_and]
          exact ⟨fun h => ⟨hne, h⟩, fun h => h.2⟩)
      have HQ : Hid (39 :: quL s.data.toList = out) := Lib.hid (by rw [← ho, show s.data.toList.take s.size = s.data.toList from List.take_of_length_le (Nat.le_refl _)])
      obtain ⟨b, hb⟩ : ∃ b, (!e0 && (s.data.toList.take s.size).all safeB) = b := ⟨_, rfl⟩
      rw [hb] at et ⊢
      clear hb E0 ho
      cases b with
      | true =>
        go_wp2_with fail
        go_ret
        exact ⟨by unfold quoteL; rw [if_pos (et.out.1 (by trivial))]; cases s; simp, Br⟩
      | false =>
        go_wp2_with (at_builtin; refine append_byte rfl _ _ rfl _ out 39 _ rfl w.heap.size w _ OW.out Br.out Br.out.size (by have := HO.out; omega) rfl rfl ?_; intro v2 w2 own2 bel2; have CV := own_string own2.out)
        go_ret
        refine ⟨?_, bel2⟩
        have e : quoteL s.data.toList = [39] ++ quL s.data.toList ++ [39] := by unfold quoteL; rw [if_neg (fun h => by have := et.out.2 h; cases this)]
        rw [e, ← HQ.out]
        rfl
end Go.Proofs.YtlhagpfpcdedpaaDoor
