/- walks: the lines of a text, both -/
import Derived.Test.YtnkpigibjicmaaaDoorVb
import Derived.Test.YtnkpigibjicmaaaDoorLplain2
import Derived.Test.YtnkpigibjicmaaaDoorYplain
namespace Go.Proofs.YtnkpigibjicmaaaDoor
open Go.RowKit
open Tx
theorem str_ext {a b : ByteArray} (h : a.data.toList = b.data.toList) : a = b := by
  obtain ⟨⟨l⟩⟩ := a; obtain ⟨⟨r⟩⟩ := b; simp only at h; rw [h]
theorem strs_ne {a b : ByteArray} (h : a ≠ b) : (a.toList == b.toList) = false := by
  rw [Lib.toList_data, Lib.toList_data, beq_eq_false_iff_ne]; exact fun e => h (str_ext e)
theorem split_is (s : ByteArray) (n : Nat) (Ps : List ByteArray) (m : Int) (w : World) (hm : w.cell? ⟨0, 0, none⟩ = some (.int .i64 m)) (hs : s.size ≤ 1048576) (hn : Lib.countB s ⟨#[10]⟩ = n) (hP : Lib.splitB ⟨#[10]⟩ 0 (Lib.countB s ⟨#[10]⟩) s = Ps) :
    Calls Tryd.prog 69 #[.string s, .string ⟨#[10]⟩] w fun e w' => e = .returned (.slice (some ⟨w.heap.size, 0, none⟩) (n + 1) (n + 1)) ∧ w' = w.alloc (.cells (Ps.map Value.string).toArray 9) := by
  have h := Tryd.strings_Split s ⟨#[10]⟩ m w (by omega) hm (by show 1 ≤ 1; omega)
  rw [hP, hn] at h
  exact h
set_option maxHeartbeats 2000000 in
theorem lines_any (s : ByteArray) (m : Int) (w : World) (hm : w.cell? ⟨0, 0, none⟩ = some (.int .i64 m)) (hs : s.size ≤ 1048576) :
    Calls Tryd.prog 55 #[.string s] w fun e w' => ∃ v L, e = .returned (.tuple #[v, .bool (linE s.data.toList)]) ∧ L.map (·.data.toList) = lin s.data.toList ∧ Strs w' v L ∧ Below w.heap.size w w' := by
  by_cases h0 : s.data.toList = []
  · obtain rfl : s = ⟨#[]⟩ := str_ext h0
    go_enter Tryd.func55, Tryd.ntmps55
    go_wp2_with fail
    go_ret2
    exact ⟨_, rfl, [], rfl, Strs.empty w, Below.refl _ _⟩
  · have sp := splitB_spl s
    have ln := Lib.splitB_all ⟨#[10]⟩ (by show 1 ≤ 1; omega) 0 _ s rfl
    obtain ⟨Ps, hP⟩ : ∃ Ps, Lib.splitB ⟨#[10]⟩ 0 (Lib.countB s ⟨#[10]⟩) s = Ps := ⟨_, rfl⟩
    obtain ⟨n, hn⟩ : ∃ n, Lib.countB s ⟨#[10]⟩ = n := ⟨_, rfl⟩
    have SC := fun m w hm => split_is s n Ps m w hm hs hn hP
    rw [hP] at sp ln
    rw [hn] at ln
    have hb : n ≤ s.size := by rw [← hn]; exact Lib.countB_le ⟨#[10]⟩ (by show 1 ≤ 1; omega) _ s (Nat.le_refl _)
    have x1 : n < Ps.length := by omega
    obtain ⟨out, last, hl⟩ : ∃ out last, Ps = out ++ [last] := ⟨Ps.dropLast, Ps.getLast (by intro e; rw [e] at ln; simp at ln), (List.dropLast_concat_getLast _).symm⟩
    have ho : out.length = n := by rw [hl, List.length_append] at ln; simpa using ln
    have C0 : (w.alloc (.cells (Ps.map Value.string).toArray 9)).heap[w.heap.size]? = some (.cells (Ps.map Value.string).toArray 9 (0, 0)) := heap_alloc_new w _
    have K : (w.alloc (.cells (Ps.map Value.string).toArray 9)).cell? ⟨w.heap.size, n, none⟩ = some (.string last) := by
      simp only [World.cell?, C0]
      rw [hl, ← ho]; simp
    have e1 : spl s.data.toList = out.map (·.data.toList) ++ [last.data.toList] := by rw [← sp, hl]; simp
    obtain ⟨f1, f2⟩ := lin_of e1
    have tne : (s.toList == []) = false := by rw [Lib.toList_data, beq_eq_false_iff_ne]; exact h0
    have H := Lib.hid hm
    have B0 := (Below.refl w.heap.size w).alloc (Nat.le_refl _) (.cells (Ps.map Value.string).toArray 9)
    have ST : Hid (Strs (w.alloc (.cells (Ps.map Value.string).toArray 9)) (.slice (some ⟨w.heap.size, 0, none⟩) Ps.length Ps.length) Ps) := Lib.hid (Strs.block C0 (by unfold maxLen; omega))
    rw [ln] at ST
    have F := Lib.hid (And.intro e1 (And.intro f1 (And.intro f2 (And.intro sp (And.intro hl (And.intro ho ln))))))
    have SZ : n ≤ 1048576 := by omega
    have BB := Lib.hid B0
    clear h0 sp ln hn hP hb x1 e1 f1 f2 hm B0 C0 hl ho hs
    by_cases hz : last.data.toList = []
    · have tz : (last.toList == []) = true := by rw [Lib.toList_data, hz]; rfl
      have HZ := Lib.hid hz; clear hz
      go_enter Tryd.func55, Tryd.ntmps55
      go_wp2_with (go_at_call 69; refine (SC m _ H.out).mono ?_; rintro e w' ⟨rfl, rfl⟩)
      go_ret2
      obtain ⟨e1, f1, f2, sp, hl, ho, ln⟩ := F.out
      refine ⟨_, out, by rw [f2, decide_eq_true HZ.out]; rfl, by rw [f1, if_pos HZ.out], ?_, BB.out⟩
      have h := Strs.take (n := n) (by rw [ln]; exact ST.out) (by omega) n (Nat.le_refl _) (by unfold maxLen; omega)
      have e : Ps.take n = out := by rw [hl, ← ho]; simp
      rw [e] at h; exact h
    · have tz : (last.toList == []) = false := by rw [Lib.toList_data, beq_eq_false_iff_ne]; exact hz
      have HZ := Lib.hid hz; clear hz
      go_enter Tryd.func55, Tryd.ntmps55
      go_wp2_with (go_at_call 69; refine (SC m _ H.out).mono ?_; rintro e w' ⟨rfl, rfl⟩)
      go_ret2
      obtain ⟨e1, f1, f2, sp, hl, ho, ln⟩ := F.out
      exact ⟨_, Ps, by rw [f2, decide_eq_false HZ.out]; rfl, by rw [f1, if_neg HZ.out, sp, e1], ST.out, BB.out⟩
abbrev OwnS (w : World) (B : Nat) (v : Value) (L : List ByteArray) : Prop := w.ownsRow B 9 1 v L.length (L.map Value.string)
theorem infoS : (Tryd.prog.info? 9).map (fun i => (i.zero, i.size, i.bytes)) = some (some (.string ⟨#[]⟩), 1, 16) := by kernel_rfl
theorem OwnS.strs {w : World} {B : Nat} {v : Value} {L : List ByteArray} (h : OwnS w B v L) : Strs w v L := by
  rcases h.2 with ⟨rfl, hx⟩ | ⟨g, cap, cur, rfl, hb, hg, hn, hc, hs, ht⟩
  · obtain rfl := List.eq_nil_of_length_eq_zero hx
    exact Strs.empty w
  · refine ⟨_, cap, rfl, hn, hc, .inr ⟨g, 0, rfl, (Array.getElem?_eq_some_iff.1 hg).1, fun j x hj => ?_⟩⟩
    have := h.cells (g := g) rfl j (.string x) (by simp [hj])
    rw [Go.WideShapes.add_plain] at this; exact this
theorem append_strs {ops : Array Oper} {rest : List Oper} {o : Oper} {a : Act} {Q : Exit → Act → World → Prop} (hgd : o.guard = none) (s x : Operand)
    (ho : o.op = .call { callee := .builtin .append, args := #[s, x], argTypes := #[39, 39] }) (v : Value) (L : List ByteArray) (u : ByteArray) (B : Nat) (w wr : World)
    (own : OwnS wr B v L) (bel : Below B w wr) (hB : B ≤ wr.heap.size) (len : L.length ≤ 1048576) (hs : a.eval s = v) (hx : a.eval x = .slice (some ⟨wr.heap.size, 0, none⟩) 1 1)
    (h : ∀ v' w', Hid (OwnS w' B v' (L ++ [u])) → Hid (Below B w w') → wpList Tryd.prog ops Q rest (a.put o.dst v') w') : wpList Tryd.prog ops Q (o :: rest) a (wr.alloc (.cells #[.string u] 9)) := by
  obtain ⟨i0, hi, hz0, hz1, hz2⟩ := info_parts infoS
  refine wpList_append_own _ hgd s x 39 ho B 9 i0 (.string ⟨#[]⟩) 1 16 Tryd.underlying39 hi hz0 hz1 hz2 rfl (by decide) v L.length (L.map Value.string) hs (own.alloc _) ⟨wr.heap.size, 0, none⟩ 1 1 [.string u] hx rfl ?_ ?_ ?_ ?_ ?_ ?_
  · intro j y hj
    match j, hj with
    | 0, hj => simp at hj; subst hj; simp [Addr.add]
  · intro y hy; simp at hy; subst hy; rfl
  · unfold maxLen; omega
  · omega
  · simp; omega
  · intro v' w' h1 h2 _
    refine h v' w' (Lib.hid ?_) (Lib.hid ((bel.alloc hB _).grown h2 (by simp; omega) (fun k hk => (own.lt k hk).1)))
    have e : L.map Value.string ++ [.string u] = (L ++ [u]).map Value.string := by simp
    rw [e] at h1
    show w'.ownsRow B 9 1 _ (L ++ [u]).length ((L ++ [u]).map Value.string)
    rw [List.length_append]; exact h1
set_option maxHeartbeats 2000000 in
set_option maxHeartbeats 1000000 in
theorem rlines_any (s : ByteArray) (w : World) (hs : s.size ≤ 1048576) :
    Calls Tryd.prog 16 #[.string s] w fun e w' => ∃ v L, e = .returned (.tuple #[v, .bool (linE s.data.toList)]) ∧ L.map (·.data.toList) = lin s.data.toList ∧ OwnS w' w.heap.size v L ∧ Below w.heap.size w w' := by
  go_enter Tryd.func16, Tryd.ntmps16
  go_wp2_with fail
  go_loopw [4, 5, 6] (fun v g i wr => ∃ (j k : Nat) (L : List ByteArray), i = .int .i64 j ∧ g = .int .i64 k ∧ j ≤ s.size ∧ k ≤ j ∧ Hid (LSt s j k L) ∧ Hid (OwnS wr w.heap.size v L) ∧ Hid (Below w.heap.size w wr)) (fun _ _ i _ => s.size - (intOf i).toNat)
  case atStart => exact ⟨0, 0, [], rfl, rfl, by omega, by omega, Lib.hid (LSt.start s), Lib.hid ⟨rfl, .inl ⟨rfl, rfl⟩⟩, Lib.hid (Below.refl _ _)⟩
  case round =>
    obtain ⟨j, k, L, rfl, rfl, js, kj, ST, OW, Br⟩ := hrel
    have LL : Hid (L.length ≤ 1048576) := Lib.hid (by have := ST.out.len; omega)
    by_cases hlt : j < s.size
    · by_cases hx : s[j] = 10
      · have t1 := (is_nl _).1 hx
        have t2 : ((s[j].toNat : Int) == 10) = true := by rw [t1]; rfl
        have ST2 := Lib.hid (ST.out.nl hlt hx)
        obtain ⟨u, hu⟩ : ∃ u, s.extract k j = u := ⟨_, rfl⟩
        rw [hu] at ST2
        clear hx t1
        go_wp2_with (first
          | (at_builtin; refine append_strs rfl _ _ rfl _ L u w.heap.size w _ OW.out Br.out Br.out.size LL.out rfl rfl ?_; intro v2 w2 own2 bel2)
          | go_in)
        go_roundw
        case rel => exact ⟨j + 1, j + 1, _, by go_num, by go_num, by omega, by omega, ST2, own2, bel2⟩
        case measure => simp [intOf]; omega
      · have t2 : ((s[j].toNat : Int) == 10) = false := by rw [beq_eq_false_iff_ne]; exact fun e => hx ((is_nl _).2 e)
        have ST2 := Lib.hid (ST.out.no hlt hx)
        clear hx
        go_wp2_with fail
        go_roundw
        case rel => exact ⟨j + 1, k, _, by go_num, rfl, by omega, by omega, ST2, OW, Br⟩
        case measure => simp [intOf]; omega
    · obtain rfl : j = s.size := by omega
      by_cases hk : k < s.size
      · have E := Lib.hid (ST.out.fin_open hk)
        obtain ⟨u, hu⟩ : ∃ u, s.extract k s.size = u := ⟨_, rfl⟩
        rw [hu] at E
        go_wp2_with (first
          | (at_builtin; refine append_strs rfl _ _ rfl _ L u w.heap.size w _ OW.out Br.out Br.out.size LL.out rfl rfl ?_; intro v2 w2 own2 bel2)
          | go_in)
        go_ret2
        exact ⟨_, _, by rw [E.out.2]; rfl, E.out.1, own2.out, bel2.out⟩
      · have E := Lib.hid (ST.out.fin_end hk)
        go_wp2_with fail
        go_ret2
        exact ⟨_, _, by rw [E.out.2]; rfl, E.out.1, OW.out, Br.out⟩
end Go.Proofs.YtnkpigibjicmaaaDoor
