/- walks: the reference's Unescape -/
import Derived.Test.YtbioflajonafdaaTf
import Derived.Test.YtbioflajonafdaaTc
import Derived.OwnWalk
import Derived.Laws.BytesArg
namespace Go.Proofs.Ytbioflajonafdaa
open Go.RowKit
open Tx
theorem info5 : (Try.prog.info? 5).map (fun i => (i.zero, i.size, i.bytes)) = some (some (.int .u8 0), 1, 1) := by kernel_rfl
abbrev Own (w : World) (B : Nat) (v : Value) (out : List UInt8) : Prop := w.ownsRow B 5 1 v out.length (Lib.byteCells out)
theorem append_byte {ops : Array Oper} {rest : List Oper} {o : Oper} {a : Act} {Q : Exit → Act → World → Prop} (hgd : o.guard = none) (s x : Operand)
    (ho : o.op = .call { callee := .builtin .append, args := #[s, x], argTypes := #[51, 51] }) (v : Value) (out : List UInt8) (c : UInt8) (u : Int) (hu : u = (c.toNat : Int)) (B : Nat) (w wr : World)
    (own : Own wr B v out) (bel : Below B w wr) (hB : B ≤ wr.heap.size) (len : out.length + 1 ≤ 140737488355328) (hs : a.eval s = v) (hx : a.eval x = .slice (some ⟨wr.heap.size, 0, none⟩) 1 1)
    (h : ∀ v' w', Hid (Own w' B v' (out ++ [c])) → Hid (Below B w w') → wpList Try.prog ops Q rest (a.put o.dst v') w') : wpList Try.prog ops Q (o :: rest) a (wr.alloc (.cells #[.int .u8 u] 5)) := by
  subst hu
  obtain ⟨i0, hi, hz0, hz1, hz2⟩ := info_parts info5
  refine wpList_append_own _ hgd s x 51 ho B 5 i0 (.int .u8 0) 1 1 Try.underlying51 hi hz0 hz1 hz2 rfl (by decide) v out.length (Lib.byteCells out) hs (own.alloc _) ⟨wr.heap.size, 0, none⟩ 1 1 [.int .u8 (c.toNat : Int)] hx rfl ?_ ?_ ?_ ?_ ?_ ?_
  · intro j y hj
    match j, hj with
    | 0, hj => simp at hj; subst hj; simp [Addr.add]
  · intro y hy; simp at hy; subst hy; rfl
  · unfold maxLen; omega
  · omega
  · simp; omega
  · intro v' w' h1 h2 _
    refine h v' w' (Lib.hid ?_) (Lib.hid ?_)
    · rw [byteCells_snoc] at h1
      show w'.ownsRow B 5 1 v' (out ++ [c]).length (Lib.byteCells (out ++ [c]))
      rw [List.length_append]; exact h1
    · exact (bel.alloc hB _).grown h2 (by simp; omega) (fun k hk => (own.lt k hk).1)
theorem nums_back (out : List UInt8) : strOfNums (out.map fun c => (c.toNat : Int)) = ⟨out.toArray⟩ := by
  have h : (strOfNums (out.map fun c => (c.toNat : Int))).data.toList = out := by
    rw [strOfNums_data, List.map_map]
    conv => rhs; rw [← List.map_id out]
    apply List.map_congr_left
    intro c _
    apply UInt8.toNat_inj.1
    have := c.toNat_lt
    simp
  generalize strOfNums (out.map fun c => (c.toNat : Int)) = t at h
  obtain ⟨⟨l⟩⟩ := t
  simp only at h
  rw [h]
theorem own_string {w : World} {B : Nat} {v : Value} {out : List UInt8} (h : Own w B v out) : (convert 51 9 v).run Try.prog w = .ok (.string ⟨out.toArray⟩) w := by
  rcases h.2 with ⟨rfl, hx⟩ | ⟨g, cap, cur, rfl, hb, hg, hn, hc, hs, ht⟩
  · obtain rfl := List.eq_nil_of_length_eq_zero hx
    exact run_convert_bytes_nil (w := w) 51 5 Try.underlying51 Try.underlying5 0 0 9 Try.underlying9
  · rw [← nums_back]
    refine run_convert_bytes_arg w 51 5 Try.underlying51 Try.underlying5 g 0 out.length cap (out.map fun c => (c.toNat : Int)) (by simp) (fun i hi => ?_) 9 Try.underlying9
    have := h.cells (g := g) rfl i (.int .u8 ((out[i]).toNat : Int)) (by simp [Lib.byteCells, hi])
    by_cases h0 : i = 0
    · subst h0; simpa [Addr.add, hi] using this
    · simpa [Addr.add, hi, h0] using this
theorem oct_plain (c : UInt8) (h : oct c = true) : letB c = 0 ∧ isSelf c = false := by
  simp only [oct, Bool.and_eq_true, decide_eq_true_eq] at h
  refine ⟨?_, ?_⟩
  · apply Decidable.byContradiction
    intro hn
    rcases let_cases c hn with ⟨rfl, _⟩ | ⟨rfl, _⟩ | ⟨rfl, _⟩ | ⟨rfl, _⟩ | ⟨rfl, _⟩ | ⟨rfl, _⟩ | ⟨rfl, _⟩
    all_goals exact absurd h.2 (by decide)
  · unfold isSelf
    have a1 : c ≠ 92 := by rintro rfl; exact absurd h.2 (by decide)
    have a2 : c ≠ 34 := by rintro rfl; exact absurd h.1 (by decide)
    have a3 : c ≠ 47 := by rintro rfl; exact absurd h.1 (by decide)
    rw [decide_eq_false a1, decide_eq_false a2, decide_eq_false a3]; rfl
theorem oct_zero (c : UInt8) (t : List UInt8) (h : (octGo 3 (c :: t) 0 0).2 = 0) : oct c = false := by
  apply Decidable.byContradiction
  intro hn
  have hn : oct c = true := by simpa using hn
  have e : octGo 3 (c :: t) 0 0 = octGo 2 t (8 * 0 + (c.toNat - 48)) (0 + 1) := by simp only [octGo]; rw [if_pos hn]
  have := (octGo_bd 2 t (8 * 0 + (c.toNat - 48)) (0 + 1)).1
  rw [e] at h; omega
theorem seq_oc (r : List UInt8) (n k : Nat) (h : octGo 3 r 0 0 = (n, k)) (hk : 0 < k) : seqV r = n % 256 ∧ seqN r = k ∧ seqO r = decide (n < 256) := by
  cases r with
  | nil => simp [octGo] at h; omega
  | cons c t =>
    have ho : oct c = true := by
      apply Decidable.byContradiction
      intro hn
      have e : octGo 3 (c :: t) 0 0 = (0, 0) := by simp only [octGo]; rw [if_neg hn]
      rw [e] at h; injection h with h1 h2; omega
    obtain ⟨a, b⟩ := oct_plain c ho
    simp [seqV, seqN, seqO, a, b, h, hk]
theorem seq_sg (c : UInt8) (t : List UInt8) (n : Nat) (h : octGo 3 (c :: t) 0 0 = (n, 0)) : seqO (c :: t) = sglO c ∧ (sglO c = true → seqV (c :: t) = sglV c ∧ seqN (c :: t) = 1) := by
  by_cases hl : letB c = 0
  · cases hs : isSelf c
    · simp [seqV, seqN, seqO, sglO, sglV, hl, hs, h]
    · simp [seqV, seqN, seqO, sglO, sglV, hl, hs]
  · have hs : isSelf c = false := by
      rcases let_cases c hl with ⟨rfl, _⟩ | ⟨rfl, _⟩ | ⟨rfl, _⟩ | ⟨rfl, _⟩ | ⟨rfl, _⟩ | ⟨rfl, _⟩ | ⟨rfl, _⟩ <;> rfl
    simp [seqV, seqN, seqO, sglO, sglV, hl, hs]
theorem octal_is (s : ByteArray) (i n k : Nat) (v : Int) (w : World) (hs : s.size ≤ 140737488351232) (hi : i ≤ s.size) (hv : v = (i : Int)) (h : Hid (octGo 3 (s.data.toList.drop i) 0 0 = (n, k))) :
    Calls Try.prog 72 #[.string s, .int .i64 v] w fun e w' => e = .returned (.tuple #[.int .i64 (n : Int), .int .i64 (k : Int)]) ∧ w = w' := by
  subst hv
  have := octal_any s i w hs hi
  rw [h.out] at this; exact this
theorem single_is (c : UInt8) (v u : Int) (o : Bool) (w : World) (hv : v = (c.toNat : Int)) (h : Hid (((sglV c : Nat) : Int) = u ∧ sglO c = o)) :
    Calls Try.prog 73 #[.int .u8 v] w fun e w' => e = .returned (.tuple #[.int .u8 u, .bool o]) ∧ w = w' := by
  subst hv
  rw [← h.out.1, ← h.out.2]; exact single_any c w
set_option maxHeartbeats 4000000 in
theorem runescape_any (s : ByteArray) (w : World) (hs : s.size ≤ 140737488351232) :
    Calls Try.prog 63 #[.string s] w fun e w' => e = .returned (.tuple #[.string (rS (unesc s.data.toList)), .int .i64 (rE (unesc s.data.toList)), .int .i64 (rK (unesc s.data.toList))]) ∧ Below w.heap.size w w' := by
  have HS := Lib.hid hs
  go_enter Try.func63, Try.ntmps63
  go_wp2_with fail
  go_loopw [5, 6] (fun v i wr => ∃ (j : Nat) (out : List UInt8), i = .int .i64 j ∧ Hid (UnI s j out) ∧ Hid (Own wr w.heap.size v out) ∧ Hid (Below w.heap.size w wr)) (fun _ i _ => s.size - (intOf i).toNat)
  case atStart => exact ⟨0, [], rfl, Lib.hid (UnI.start s), Lib.hid (World.ownsRow_nil _ _ _ _), Lib.hid (Below.refl _ _)⟩
  case round =>
    obtain ⟨j, out, rfl, I, OW, Br⟩ := hrel
    have js := I.out.js
    have HO : Hid (out.length + 1 ≤ 140737488355328) := Lib.hid (by have := I.out.ln; omega)
    by_cases hlt : j < s.size
    · by_cases hc : s[j] = 92
      · have t : ((s[j].toNat : Int) != 92) = false := by rw [hc]; rfl
        obtain ⟨n, k, hnk⟩ : ∃ n k, octGo 3 (s.data.toList.drop (j + 1)) 0 0 = (n, k) := ⟨_, _, rfl⟩
        have NK := Lib.hid hnk
        have bd := octGo_bd 3 (s.data.toList.drop (j + 1)) 0 0
        rw [hnk] at bd
        have b1 : k ≤ 3 := by omega
        have b2 : n < 512 := by
          have h3 : (0 + 1) * 8 ^ 3 = 512 := rfl
          have := bd.2.2.2
          simp only at this; omega
        have b3 : k ≤ s.size - (j + 1) := by
          have := bd.2.2.1
          simp only [List.length_drop, ← size_len] at this; omega
        clear bd
        by_cases k0 : 0 < k
        · obtain ⟨q1, q2, q3⟩ := seq_oc _ n k hnk k0
          by_cases hn : n < 256
          · have F := Lib.hid (I.out.seq hlt hc (by rw [q3, decide_eq_true hn]))
            have qe : n % 256 = n := Nat.mod_eq_of_lt hn
            rw [q1, q2, qe] at F
            have hcv : (n : Int) = ((UInt8.ofNat n).toNat : Int) := by rw [UInt8.toNat_ofNat']; omega
            have CV := Lib.hid hcv; clear hcv
            clear hnk q1 q2 q3 hc qe
            go_wp2_with (first
              | (go_at_call 72; refine (octal_is s (j + 1) n k _ _ HS.out (by omega) (by omega) NK).mono ?_; rintro e w' ⟨rfl, rfl⟩)
              | (at_builtin; refine append_byte rfl _ _ rfl _ out (UInt8.ofNat n) _ CV.out w.heap.size w _ OW.out Br.out Br.out.size HO.out rfl rfl ?_; intro v2 w2 own2 bel2)
              | go_in)
            go_roundw
            case rel => exact ⟨j + 1 + k, out ++ [UInt8.ofNat n], by go_num, F, own2, bel2⟩
            case measure => simp [intOf]; omega
          · have F := Lib.hid (I.out.bad hlt hc (by rw [q3, decide_eq_false hn]))
            clear hnk q1 q2 q3 hc
            go_wp2_with (go_at_call 72; refine (octal_is s (j + 1) n k _ _ HS.out (by omega) (by omega) NK).mono ?_; rintro e w' ⟨rfl, rfl⟩)
            go_ret3
            exact ⟨by rw [F.out]; rfl, Br.out⟩
        · have hk0 : k = 0 := by omega
          subst hk0
          by_cases h1 : j + 1 < s.size
          · have hdrop := drop_lt s (j + 1) h1
            obtain ⟨c, hcx⟩ : ∃ c, s[j + 1] = c := ⟨_, rfl⟩
            rw [hcx] at hdrop
            obtain ⟨q1, q2⟩ := seq_sg c _ n (by rw [← hdrop]; exact hnk)
            rw [← hdrop] at q1 q2
            obtain ⟨u, hu⟩ : ∃ u : Nat, sglV c = u := ⟨_, rfl⟩
            cases ho : sglO c
            · have F := Lib.hid (I.out.bad hlt hc (by rw [q1, ho]))
              have SG : Hid (((sglV c : Nat) : Int) = (u : Int) ∧ sglO c = false) := Lib.hid ⟨by rw [hu], ho⟩
              clear hnk q1 q2 hc hdrop hu ho k0
              go_wp2_with (first
                | (go_at_call 72; refine (octal_is s (j + 1) n 0 _ _ HS.out (by omega) (by omega) NK).mono ?_; rintro e w' ⟨rfl, rfl⟩)
                | (go_at_call 73; refine (single_is c _ u false _ rfl SG).mono ?_; rintro e w' ⟨rfl, rfl⟩))
              go_ret3
              exact ⟨by rw [F.out]; rfl, Br.out⟩
            · obtain ⟨q3, q4⟩ := q2 ho
              have F := Lib.hid (I.out.seq hlt hc (by rw [q1, ho]))
              rw [q3, q4, hu] at F
              have hu2 : u < 256 := by
                have := seqV_lt (s.data.toList.drop (j + 1))
                rw [q3, hu] at this; exact this
              have hcv : (u : Int) = ((UInt8.ofNat u).toNat : Int) := by rw [UInt8.toNat_ofNat']; omega
              have CV := Lib.hid hcv; clear hcv
              have SG : Hid (((sglV c : Nat) : Int) = (u : Int) ∧ sglO c = true) := Lib.hid ⟨by rw [hu], ho⟩
              clear hnk q1 q2 q3 q4 hc hdrop hu ho k0
              go_wp2_with (first
                | (go_at_call 72; refine (octal_is s (j + 1) n 0 _ _ HS.out (by omega) (by omega) NK).mono ?_; rintro e w' ⟨rfl, rfl⟩)
                | (go_at_call 73; refine (single_is c _ u true _ rfl SG).mono ?_; rintro e w' ⟨rfl, rfl⟩)
                | (at_builtin; refine append_byte rfl _ _ rfl _ out (UInt8.ofNat u) _ CV.out w.heap.size w _ OW.out Br.out Br.out.size HO.out rfl rfl ?_; intro v2 w2 own2 bel2)
                | go_in)
              go_roundw
              case rel => exact ⟨j + 1 + 1, out ++ [UInt8.ofNat u], by go_num, F, own2, bel2⟩
              case measure => simp [intOf]; omega
          · have F := Lib.hid (I.out.bad hlt hc (by
              rw [List.drop_eq_nil_of_le (by rw [← size_len]; omega)]; rfl))
            clear hnk hc k0
            go_wp2_with (go_at_call 72; refine (octal_is s (j + 1) n 0 _ _ HS.out (by omega) (by omega) NK).mono ?_; rintro e w' ⟨rfl, rfl⟩)
            go_ret3
            exact ⟨by rw [F.out]; rfl, Br.out⟩
      · have t : ((s[j].toNat : Int) != 92) = true := by
          rw [bne_iff_ne]; intro e; apply hc
          apply UInt8.toNat_inj.1
          have e2 : (92 : UInt8).toNat = 92 := rfl
          omega
        have F := Lib.hid (I.out.plain hlt hc)
        clear hc
        obtain ⟨c, hcx⟩ : ∃ c, s[j] = c := ⟨_, rfl⟩
        rw [hcx] at F t
        go_wp2_with (first
          | (at_builtin; refine append_byte rfl _ _ rfl _ out c _ rfl w.heap.size w _ OW.out Br.out Br.out.size HO.out rfl rfl ?_; intro v2 w2 own2 bel2)
          | go_in)
        go_roundw
        case rel => exact ⟨j + 1, out ++ [c], by go_num, F, own2, bel2⟩
        case measure => simp [intOf]; omega
    · have F := Lib.hid (I.out.done (by omega))
      have CV := own_string OW.out
      go_wp2_with fail
      go_ret3
      exact ⟨by rw [F.out]; rfl, Br.out⟩
end Go.Proofs.Ytbioflajonafdaa
