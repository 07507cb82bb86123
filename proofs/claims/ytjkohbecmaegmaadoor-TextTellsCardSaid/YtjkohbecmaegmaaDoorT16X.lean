import Derived.Test.YtjkohbecmaegmaaDoorProg
import Derived.WalkKit
import Derived.Handy
import Derived.Deep.Light
import Derived.WalkSmall
import Derived.StillTailTactics
import Derived.Lib.Hide
import Derived.Test.YtjkohbecmaegmaaDoorT0
import Derived.Test.YtjkohbecmaegmaaDoorIt
import Derived.Test.YtjkohbecmaegmaaDoorT15X
namespace Go.Proofs.YtjkohbecmaegmaaDoor
open Go Go.RowKit
set_option linter.unusedSimpArgs false
set_option linter.unusedVariables false

theorem wr_len (p : Bytes) : (plainP p).length ≤ p.length := by
  unfold plainP parse
  suffices ∀ n p, p.length ≤ n → ((parseN n p).flatMap wrP).length ≤ p.length from this _ _ (Nat.le_refl _)
  intro n
  induction n with
  | zero => intro p _; simp [parseN]
  | succ n ih =>
    intro p hp
    rw [parseN]
    split
    · simp
    · rename_i x r hx
      have hl := part_len hx
      have h1 := ih r (by omega)
      have h2 : (wrP x).length + r.length ≤ p.length := by
        unfold part at hx
        split at hx
        · cases hx
        · rename_i c t
          split at hx
          · split at hx <;> (injection hx with hx; injection hx with e1 e2; subst e1; subst e2; simp [wrP]; try omega)
          · split at hx
            · injection hx with hx; injection hx with e1 e2; subst e1; subst e2; simp [wrP]; omega
            · split at hx
              · injection hx with hx; injection hx with e1 e2; subst e1; subst e2; simp [wrP]; omega
              · split at hx
                · split at hx
                  · rename_i n s q hc
                    injection hx with hx; injection hx with e1 e2; subst e1; subst e2
                    have := classR_size hc
                    simp only [wrP, List.length_cons, List.length_append]
                    cases n <;> simp at this ⊢ <;> omega
                  · injection hx with hx; injection hx with e1 e2; subst e1; subst e2; simp [wrP]; omega
                · injection hx with hx; injection hx with e1 e2; subst e1; subst e2; simp [wrP]; omega
      rw [List.flatMap_cons, List.length_append]; omega
theorem nb91 : ((91 : UInt8).toNat : Int) = 91 := rfl
theorem index_at : ∀ (l : Bytes) (e : UInt8) (n : Nat), Lib.indexByte l e = n → l[n]? = some e
  | [], e, n, h => by simp [Lib.indexByte] at h
  | x :: l, e, n, h => by
    rw [Lib.indexByte] at h
    split at h
    · rename_i hx
      obtain rfl : n = 0 := by omega
      have : x = e := by simpa using hx
      rw [this]; rfl
    · split at h
      · omega
      · obtain ⟨m, rfl⟩ : ∃ m, n = m + 1 := ⟨n - 1, by rename_i h2; have := Lib.indexByte_ge l e; simp at h2; omega⟩
        rw [List.getElem?_cons_succ]
        exact index_at l e m (by omega)
theorem setOf_text {r a b : Bytes} (h : setOf r = some (a, b)) : r = a ++ 93 :: b := by
  obtain ⟨h1, h2, h3, h4⟩ := setOf_cut h
  unfold setOf at h
  split at h
  · cases h
  · split at h
    · cases h
    · obtain ⟨n, hn⟩ := Int.eq_ofNat_of_zero_le (show 0 ≤ Lib.indexByte (r.drop 1) 93 by omega)
      have hat := index_at _ _ n hn
      rw [List.getElem?_drop] at hat
      rw [hn] at h
      simp only [Int.toNat_natCast, Option.some.injEq, Prod.mk.injEq] at h
      obtain ⟨rfl, rfl⟩ := h
      obtain ⟨h5, h6⟩ := List.getElem?_eq_some_iff.1 hat
      have h7 : r.drop (n + 1) = 93 :: r.drop (n + 2) := by
        rw [List.drop_eq_getElem_cons (by omega)]
        congr 1
        rw [← h6]; congr 1; omega
      rw [← h7, List.take_append_drop]
theorem classR_text {t : Bytes} {n : Bool} {a b : Bytes} (h : classR t = some (n, a, b)) : t = (if n then [33] else []) ++ a ++ 93 :: b := by
  unfold classR at h
  split at h
  · rename_i x hx
    injection h with h
    injection h with h1 h2
    subst h1; subst h2
    unfold bangOf at hx
    split at hx
    · rename_i h33
      have h5 := setOf_text hx
      cases t with
      | nil => simp at h33
      | cons q t =>
        simp only [List.head?_cons, Option.some.injEq] at h33
        subst h33
        simp only [List.drop_succ_cons, List.drop_zero] at h5
        rw [h5]; rfl
    · cases hx
  · cases hs : setOf t with
    | none => rw [hs] at h; cases h
    | some x =>
      obtain ⟨x, y⟩ := x
      rw [hs] at h
      simp only [Option.map_some, Option.some.injEq, Prod.mk.injEq] at h
      obtain ⟨rfl, rfl, rfl⟩ := h
      have := setOf_text hs
      simpa using this
theorem cut_at {l X b : Bytes} {k : Nat} {c : UInt8} (h : l.drop k = X ++ c :: b) : (l.take (k + X.length)).drop k = X ∧ l[k + X.length]? = some c ∧ l.drop (k + X.length + 1) = b := by
  refine ⟨?_, ?_, ?_⟩
  · rw [List.drop_take, h, show k + X.length - k = X.length by omega, List.take_left]
  · rw [← List.getElem?_drop, h, List.getElem?_append_right (Nat.le_refl _), Nat.sub_self]; rfl
  · rw [Nat.add_assoc, ← List.drop_drop, h, List.drop_append, Nat.add_sub_cancel_left, List.drop_eq_nil_of_le (by omega)]; rfl
def plainL (ps : List Pt) : Bytes := ps.flatMap wrP
theorem plainL_byte (c : UInt8) (ps : List Pt) : plainL (.byte c :: ps) = c :: plainL ps := rfl
set_option maxRecDepth 20000 in
set_option maxHeartbeats 4000000 in
theorem Plain_is (p : ByteArray) (hp : p.size ≤ 1000000) (w : World) :
    Calls Tryd.prog 20 #[.string p] w fun e w' => e = .returned (.string ⟨(plainP p.data.toList).toArray⟩) ∧ Below w.heap.size w w' := by
  have hwl := wr_len p.data.toList
  rw [szl] at hwl
  obtain ⟨v, hv⟩ : ∃ v, plainP p.data.toList = v := ⟨_, rfl⟩
  rw [hv]
  rw [hv] at hwl
  have hv := Lib.hid hv
  have hI : BIs w.heap.size w.heap.size [] (w.alloc (.cells #[.pointer none, .slice none 0 0] 44)) := BIs.fresh (heap_alloc_new w _)
  have hW : Below w.heap.size w (w.alloc (.cells #[.pointer none, .slice none 0 0] 44)) := (Below.refl _ _).alloc (Nat.le_refl _) _
  go_enter Tryd.func20, Tryd.ntmps20
  go_wp2
  go_loopw [4] (fun i wr => ∃ (k : Nat) (o : Bytes), k ≤ p.size ∧ i = .int .i64 k ∧ BIs w.heap.size w.heap.size o wr ∧ Below w.heap.size w wr ∧ Hid (o ++ plainL (parse (p.data.toList.drop k)) = v)) (fun i _ => p.size - (intOf i).toNat)
  case atStart => exact ⟨0, [], by omega, rfl, hI, hW, Lib.hid hv.out⟩
  case round =>
    obtain ⟨k, o, hk, rfl, hI1, hW1, hinv⟩ := hrel
    clear hI hW
    have hI := hI1
    have hW := hW1
    clear hI1 hW1
    have hlen : o.length ≤ 1000000 := by
      have := congrArg List.length hinv.out
      rw [List.length_append] at this; omega
    by_cases hlt : k < p.size
    · obtain ⟨c0, hc0⟩ : ∃ c, p.data.toList[k]? = some c := ⟨_, List.getElem?_eq_getElem (by rw [szl]; omega)⟩
      have eb0 := byte_at hc0 hlt
      have hd0 : p.data.toList.drop k = c0 :: p.data.toList.drop (k + 1) := by
        obtain ⟨h1, h2⟩ := List.getElem?_eq_some_iff.1 hc0
        rw [List.drop_eq_getElem_cons h1, h2]
      have hin := hinv.out
      rw [hd0] at hin
      clear hinv
      by_cases h92 : c0 = 92
      · subst h92
        by_cases h1 : k + 1 < p.size
        · obtain ⟨d, hdd⟩ : ∃ a, p.data.toList[k + 1]? = some a := ⟨_, List.getElem?_eq_getElem (by rw [szl]; omega)⟩
          have ed := byte_at hdd h1
          have hv2 : Hid ((o ++ [d]) ++ plainL (parse (p.data.toList.drop (k + 2))) = v) := by
            obtain ⟨h3, h4⟩ := List.getElem?_eq_some_iff.1 hdd
            rw [List.drop_eq_getElem_cons h3, h4, parse_cons (show part (92 :: d :: p.data.toList.drop (k + 1 + 1)) = some (.byte d, p.data.toList.drop (k + 2)) from rfl), plainL_byte] at hin
            rw [List.append_assoc]
            exact Lib.hid hin
          have h1i : (k : Int) + 1 < p.size := by omega
          clear hin hd0 hc0 hdd
          go_wp2_with (first | ((with_reducible refine kn_list_set ?_); (try clear hF); clear hL; intro W hL; (try simp only [List.setIfInBounds_toArray, List.set_cons_zero, List.set_cons_succ, List.cons_append, List.nil_append] at hL); have hF := hL.facts; (try simp only [Facts, Dist, List.map_cons, List.map_nil, List.forall_mem_cons, false_implies, ne_eq, not_false_eq_true, List.not_mem_nil, not_false_eq_true, true_implies, forall_const, List.mem_cons, or_false, implies_true, and_true, true_and, Nat.le_refl, List.setIfInBounds_toArray, List.set_cons_zero, List.set_cons_succ] at hF)) | (go_at_call 35; (first | (with_reducible refine (WB _ _ _ d _ rfl _ hI (by (try simp only [List.length_append, List.length_cons, List.length_nil]); omega) hW.size).mono ?_)); rintro e W1 ⟨rfl, hI1, hb1⟩; (try clear hb0); replace hW := hW.trans hb1; clear hb1 hI; have hI := hI1; clear hI1))
          go_roundw
          case rel => exact ⟨k + 2, o ++ [d], by omega, by go_num, hI, hW, hv2⟩
          case measure => simp [intOf]; omega
        · have hv2 : Hid ((o ++ [92]) ++ plainL (parse (p.data.toList.drop (k + 1))) = v) := by
            have hnil : p.data.toList.drop (k + 1) = [] := List.drop_eq_nil_of_le (by rw [szl]; omega)
            rw [hnil, parse_cons (show part [92] = some (.byte 92, []) from rfl), plainL_byte] at hin
            rw [hnil, List.append_assoc]
            exact Lib.hid hin
          have h1i : ¬ (k : Int) + 1 < p.size := by omega
          clear hin hd0 hc0
          go_wp2_with (first | ((with_reducible refine kn_list_set ?_); (try clear hF); clear hL; intro W hL; (try simp only [List.setIfInBounds_toArray, List.set_cons_zero, List.set_cons_succ, List.cons_append, List.nil_append] at hL); have hF := hL.facts; (try simp only [Facts, Dist, List.map_cons, List.map_nil, List.forall_mem_cons, false_implies, ne_eq, not_false_eq_true, List.not_mem_nil, not_false_eq_true, true_implies, forall_const, List.mem_cons, or_false, implies_true, and_true, true_and, Nat.le_refl, List.setIfInBounds_toArray, List.set_cons_zero, List.set_cons_succ] at hF)) | (go_at_call 35; (first | (with_reducible refine (WB _ _ _ 92 92 nb92 _ hI (by (try simp only [List.length_append, List.length_cons, List.length_nil]); omega) hW.size).mono ?_)); rintro e W1 ⟨rfl, hI1, hb1⟩; (try clear hb0); replace hW := hW.trans hb1; clear hb1 hI; have hI := hI1; clear hI1))
          go_roundw
          case rel => exact ⟨k + 1, o ++ [92], by omega, by go_num, hI, hW, hv2⟩
          case measure => simp [intOf]; omega
      have f92 : ((c0.toNat : Int) == 92) = false := beq_false_of_ne fun h => h92 (UInt8.toNat_inj.1 (show c0.toNat = 92 by omega))
      by_cases h91 : c0 = 91
      · subst h91
        cases hcl : classR (p.data.toList.drop (k + 1)) with
        | none =>
          have CLS := class_no p k (by omega) (by omega) hcl
          have hv2 : Hid ((o ++ [91]) ++ plainL (parse (p.data.toList.drop (k + 1))) = v) := by
            rw [parse_open hcl, plainL_byte] at hin; rw [List.append_assoc]; exact Lib.hid hin
          clear hin hd0 hc0 hcl h92
          go_wp2_with (first | ((with_reducible refine kn_list_set ?_); (try clear hF); clear hL; intro W hL; (try simp only [List.setIfInBounds_toArray, List.set_cons_zero, List.set_cons_succ, List.cons_append, List.nil_append] at hL); have hF := hL.facts; (try simp only [Facts, Dist, List.map_cons, List.map_nil, List.forall_mem_cons, false_implies, ne_eq, not_false_eq_true, List.not_mem_nil, not_false_eq_true, true_implies, forall_const, List.mem_cons, or_false, implies_true, and_true, true_and, Nat.le_refl, List.setIfInBounds_toArray, List.set_cons_zero, List.set_cons_succ] at hF)) | (go_at_call 44; (with_reducible refine (CLS.out _).mono ?_); rintro e1 W1 ⟨rfl, hb1⟩; have hI1 := hI.ext hb1; (try clear hb0); replace hW := hW.trans (hb1.mono hW.size); clear hb1 hI; have hI := hI1; clear hI1) | (go_at_call 35; (first | (with_reducible refine (WB _ _ _ 91 91 nb91 _ hI (by (try simp only [List.length_append, List.length_cons, List.length_nil]); omega) hW.size).mono ?_)); rintro e W1 ⟨rfl, hI1, hb1⟩; (try clear hb0); replace hW := hW.trans hb1; clear hb1 hI; have hI := hI1; clear hI1))
          go_roundw
          case rel => exact ⟨k + 1, o ++ [91], by omega, by go_num, hI, hW, hv2⟩
          case measure => simp [intOf]; omega
        | some q =>
          obtain ⟨n, a, b⟩ := q
          have htx := classR_text hcl
          obtain ⟨X, hX⟩ : ∃ X : Bytes, X = 91 :: ((if n then [33] else []) ++ a) := ⟨_, rfl⟩
          have hdX : p.data.toList.drop k = X ++ 93 :: b := by rw [hd0, htx, hX]; simp
          obtain ⟨x1, x2, x3⟩ := cut_at hdX
          have hXl : X.length = 1 + (if n then 1 else 0) + a.length := by rw [hX]; cases n <;> simp <;> omega
          obtain ⟨e, he⟩ : ∃ e, k + X.length = e := ⟨_, rfl⟩
          rw [he] at x1 x2 x3
          have helt : e < p.size := by rw [← szl]; exact (List.getElem?_eq_some_iff.1 x2).1
          have e93 := byte_at x2 helt
          have CLS := class_any p k (by omega) (by omega) n a b hcl e (by rw [← he, hXl]; cases n <;> simp <;> omega)
          obtain ⟨u, hu⟩ : ∃ u, p.extract k e = u := ⟨_, rfl⟩
          have hul : u.data.toList = X := by rw [← hu, ext_list, x1]
          have hus : u.size ≤ 1000000 := by rw [← szl, hul]; omega
          have hke : k < e := by omega
          have hol : o.length + u.size ≤ 2000000 := by omega
          have hv2 : Hid ((o ++ u.data.toList ++ [93]) ++ plainL (parse (p.data.toList.drop (e + 1))) = v) := by
            rw [parse_cls hcl] at hin
            rw [x3, hul, hX]
            refine Lib.hid ?_
            rw [← hin]
            unfold plainL
            rw [List.flatMap_cons]
            simp [wrP]
          have hule : u.data.toList.length = u.size := szl u
          clear hin hd0 hc0 hcl h92 htx hX hdX x1 x2 x3 hXl he hul
          go_wp2_with (first | ((with_reducible refine kn_list_set ?_); (try clear hF); clear hL; intro W hL; (try simp only [List.setIfInBounds_toArray, List.set_cons_zero, List.set_cons_succ, List.cons_append, List.nil_append] at hL); have hF := hL.facts; (try simp only [Facts, Dist, List.map_cons, List.map_nil, List.forall_mem_cons, false_implies, ne_eq, not_false_eq_true, List.not_mem_nil, not_false_eq_true, true_implies, forall_const, List.mem_cons, or_false, implies_true, and_true, true_and, Nat.le_refl, List.setIfInBounds_toArray, List.set_cons_zero, List.set_cons_succ] at hF)) | (go_at_call 44; (with_reducible refine (CLS.out _).mono ?_); rintro e1 W1 ⟨rfl, hb1⟩; have hI1 := hI.ext hb1; (try clear hb0); replace hW := hW.trans (hb1.mono hW.size); clear hb1 hI; have hI := hI1; clear hI1) | (go_at_call 34; (first | (with_reducible refine (WS _ _ _ u _ hI (by (try simp only [ByteArray.size, List.size_toArray, Array.size, List.length_append, List.length_cons, List.length_nil]); omega) hW.size).mono ?_)); rintro e W1 ⟨rfl, hI1, hb1⟩; (try clear hb0); replace hW := hW.trans hb1; clear hb1 hI; have hI := hI1; clear hI1) | (go_at_call 35; (first | (with_reducible refine (WB _ _ _ 93 93 nb93 _ hI (by (try simp only [List.length_append, List.length_cons, List.length_nil]); omega) hW.size).mono ?_)); rintro e W1 ⟨rfl, hI1, hb1⟩; (try clear hb0); replace hW := hW.trans hb1; clear hb1 hI; have hI := hI1; clear hI1))
          go_roundw
          case rel => exact ⟨e + 1, o ++ u.data.toList ++ [93], by omega, by go_num, hI, hW, hv2⟩
          case measure => simp [intOf]; omega
      have f91 : ((c0.toNat : Int) == 91) = false := beq_false_of_ne fun h => h91 (UInt8.toNat_inj.1 (show c0.toNat = 91 by omega))
      have hv2 : Hid ((o ++ [c0]) ++ plainL (parse (p.data.toList.drop (k + 1))) = v) := by
        rw [List.append_assoc]
        by_cases h42 : c0 = 42
        · subst h42; rw [parse_star] at hin; exact Lib.hid hin
        by_cases h63 : c0 = 63
        · subst h63; rw [parse_any] at hin; exact Lib.hid hin
        rw [parse_byte _ h92 h42 h63 h91, plainL_byte] at hin; exact Lib.hid hin
      clear hin hd0 hc0 h92 h91
      go_wp2_with (first | ((with_reducible refine kn_list_set ?_); (try clear hF); clear hL; intro W hL; (try simp only [List.setIfInBounds_toArray, List.set_cons_zero, List.set_cons_succ, List.cons_append, List.nil_append] at hL); have hF := hL.facts; (try simp only [Facts, Dist, List.map_cons, List.map_nil, List.forall_mem_cons, false_implies, ne_eq, not_false_eq_true, List.not_mem_nil, not_false_eq_true, true_implies, forall_const, List.mem_cons, or_false, implies_true, and_true, true_and, Nat.le_refl, List.setIfInBounds_toArray, List.set_cons_zero, List.set_cons_succ] at hF)) | (go_at_call 35; (first | (with_reducible refine (WB _ _ _ c0 _ rfl _ hI (by (try simp only [List.length_append, List.length_cons, List.length_nil]); omega) hW.size).mono ?_)); rintro e W1 ⟨rfl, hI1, hb1⟩; (try clear hb0); replace hW := hW.trans hb1; clear hb1 hI; have hI := hI1; clear hI1))
      go_roundw
      case rel => exact ⟨k + 1, o ++ [c0], by omega, by go_num, hI, hW, hv2⟩
      case measure => simp [intOf]; omega
    · have ho : o = v := by rw [← hinv.out, List.drop_eq_nil_of_le (by rw [szl]; omega), parse_nil]; simp [plainL]
      subst ho
      obtain ⟨t, ht⟩ : ∃ t : ByteArray, t.data.toList = o := ⟨⟨o.toArray⟩, by simp⟩
      go_wp2_with (first | ((with_reducible refine kn_list_set ?_); (try clear hF); clear hL; intro W hL; (try simp only [List.setIfInBounds_toArray, List.set_cons_zero, List.set_cons_succ, List.cons_append, List.nil_append] at hL); have hF := hL.facts; (try simp only [Facts, Dist, List.map_cons, List.map_nil, List.forall_mem_cons, false_implies, ne_eq, not_false_eq_true, List.not_mem_nil, not_false_eq_true, true_implies, forall_const, List.mem_cons, or_false, implies_true, and_true, true_and, Nat.le_refl, List.setIfInBounds_toArray, List.set_cons_zero, List.set_cons_succ] at hF)) | (go_at_call 36; (with_reducible refine (BS _ _ _ _ hI hW.size t ht).mono ?_); rintro e W1 ⟨rfl, hI1, hb1⟩; (try clear hb0); replace hW := hW.trans hb1; clear hb1 hI; have hI := hI1; clear hI1))
      (try simp only [Exit.inBlock, Exit.then]); refine bodyPost_ret (by simp [results, Tryd.results20, go_sem, *]; try rfl) rfl ?_
      refine ⟨?_, hW⟩
      congr 2
      apply ba_ext
      rw [ht]

end Go.Proofs.YtjkohbecmaegmaaDoor

