import Derived.Test.YtjkohbecmaegmaaDoorProg
import Derived.WalkKit
import Derived.Handy
import Derived.Deep.Light
import Derived.WalkSmall
import Derived.StillTailTactics
import Derived.Lib.Hide
import Derived.Test.YtjkohbecmaegmaaDoorT0
import Derived.Test.YtjkohbecmaegmaaDoorIt
import Derived.Test.YtjkohbecmaegmaaDoorR8X
import Derived.Test.YtjkohbecmaegmaaDoorT16X
namespace Go.Proofs.YtjkohbecmaegmaaDoor
open Go Go.RowKit
set_option linter.unusedSimpArgs false
set_option linter.unusedVariables false

theorem flat5 : ∀ (l : List (Pt × Bytes)) (k : Nat) (x : Pt × Bytes) (c : Nat), l[k]? = some x → c < 5 → (l.flatMap pcells)[k * 5 + c]? = (pcells x)[c]?
  | [], k, x, c, h, _ => by simp at h
  | y :: l, 0, x, c, h, hc => by
    simp at h; subst h
    rw [List.flatMap_cons, Nat.zero_mul, Nat.zero_add, List.getElem?_append_left (show c < (pcells y).length from hc)]
  | y :: l, k + 1, x, c, h, hc => by
    rw [List.flatMap_cons, List.getElem?_append_right (by show (pcells y).length ≤ _; have : (pcells y).length = 5 := rfl; omega)]
    have e : (k + 1) * 5 + c - (pcells y).length = k * 5 + c := by have : (pcells y).length = 5 := rfl; omega
    rw [e]
    exact flat5 l k x c (by simpa using h) hc
theorem rowk_owns {w : World} {base : Nat} {v : Value} {l : List (Pt × Bytes)} {e : TypeId} (h : w.ownsRow base e 5 v l.length (l.flatMap pcells)) : RowK 5 w v (l.map pcells) := by
  obtain ⟨hl, ⟨rfl, h0⟩ | ⟨g, cap, cur, rfl, _, hg, h1, _, h3, h4⟩⟩ := h
  · have : l = [] := List.eq_nil_of_length_eq_zero h0
    subst this
    exact ⟨none, 0, rfl, fun j x hx => by simp at hx⟩
  · refine ⟨_, cap, by rw [List.length_map], fun j cs hj => ⟨g, 0, rfl, fun c x hc => ?_⟩⟩
    rw [List.getElem?_map] at hj
    obtain ⟨y, hy, rfl⟩ := Option.map_eq_some_iff.1 hj
    have hc5 : c < 5 := (List.getElem?_eq_some_iff.1 hc).1
    have h5 := flat5 l j y c hy hc5
    rw [hc, ← h4, List.getElem?_take] at h5
    split at h5
    · simp only [World.cell?, hg, Nat.zero_add]; simpa using h5
    · cases h5
theorem prow_at {w : World} {ao : Option Addr} {n cap : Nat} {l : List (Pt × Bytes)} (h : RowK 5 w (.slice ao n cap) (l.map pcells)) {k : Nat} {x : Pt × Bytes} (hx : l[k]? = some x) :
    ∃ g o, ao = some ⟨g, o, none⟩ ∧ g < w.heap.size ∧ w.cell? ⟨g, o + k * 5, none⟩ = some (.int .i64 (kindP x.1)) ∧ w.cell? ⟨g, o + k * 5 + 1, none⟩ = some (.int .u8 ((byteP x.1).toNat : Int)) ∧ w.cell? ⟨g, o + k * 5 + 2, none⟩ = some (.string ⟨(setP x.1).toArray⟩) ∧ w.cell? ⟨g, o + k * 5 + 3, none⟩ = some (.bool (notP x.1)) ∧ w.cell? ⟨g, o + k * 5 + 4, none⟩ = some (.string ⟨x.2.toArray⟩) := by
  obtain ⟨ao', cap', hv, hc⟩ := h
  injection hv with h1 h2 h3
  subst h1
  obtain ⟨g, o, hg, h4⟩ := hc k (pcells x) (by simp [hx])
  have h0 := h4 0 _ rfl
  exact ⟨g, o, hg, cell_lt h0, h0, h4 1 _ rfl, h4 2 _ rfl, h4 3 _ rfl, h4 4 _ rfl⟩
theorem Parts_row (p : ByteArray) (hp : p.size ≤ 1000000) (w : World) : Calls Tryd.prog 46 #[.string p] w fun e w' => ∃ ao cap, e = .returned (.slice ao (pts p.data.toList).length cap) ∧ RowK 5 w' (.slice ao (pts p.data.toList).length cap) ((pts p.data.toList).map pcells) ∧ Below w.heap.size w w' :=
  (refParts_any p hp w).mono fun e w' ⟨v, he, hB⟩ => by
    have h1 := rowk_owns hB.2
    obtain ⟨ao, cap, rfl, _⟩ := id h1
    rw [List.length_map] at *
    exact ⟨ao, cap, he, h1, hB.1.below0⟩
theorem magic_pts (p : Bytes) : magicP p = (pts p).any fun x => !isB x.1 := by
  unfold magicP
  rw [← pts_parse p.length p (Nat.le_refl _), List.any_map]; rfl
theorem kind_byte {x : Pt} (h : isB x = true) : kindP x = 0 := by cases x <;> simp_all [isB, kindP]
theorem kind_not {x : Pt} (h : isB x = false) : kindP x = 1 ∨ kindP x = 2 ∨ kindP x = 3 := by cases x <;> simp_all [isB, kindP]
set_option maxRecDepth 20000 in
set_option maxHeartbeats 4000000 in
theorem refMagic_is (p : ByteArray) (hp : p.size ≤ 1000000) (w : World) :
    Calls Tryd.prog 29 #[.string p] w fun e w' => e = .returned (.bool (magicP p.data.toList)) ∧ Below w.heap.size w w' := by
  rw [magic_pts]
  obtain ⟨L, hL0⟩ : ∃ L, pts p.data.toList = L := ⟨_, rfl⟩
  have hLl : L.length ≤ 1000000 := by
    have := pts_len p.data.toList.length p.data.toList (Nat.le_refl _)
    rw [hL0, szl] at this; omega
  have hPT : Hid (∀ W, Calls Tryd.prog 46 #[.string p] W fun e w' => ∃ ao cap, e = .returned (.slice ao L.length cap) ∧ RowK 5 w' (.slice ao L.length cap) (L.map pcells) ∧ Below W.heap.size W w') := Lib.hid fun W => by
    have := Parts_row p hp W
    rw [hL0] at this; exact this
  rw [hL0]
  clear hL0
  obtain ⟨v, hv0⟩ : ∃ v, (L.any fun x => !isB x.1) = v := ⟨_, rfl⟩
  rw [hv0]
  have hv := Lib.hid hv0
  clear hv0
  go_enter Tryd.func29, Tryd.ntmps29
  go_wp2_with (go_at_call 46; (with_reducible refine (hPT.out _).mono ?_); rintro e W ⟨ao, cap, rfl, hrow, hb⟩)
  go_loop [4] (fun i => ∃ k : Nat, k ≤ L.length ∧ i = .int .i64 k ∧ Hid (∀ j x, j < k → L[j]? = some x → isB x.1 = true)) (fun i => L.length - (intOf i).toNat)
  case atStart => exact ⟨0, by omega, rfl, Lib.hid fun j x hj => by omega⟩
  case round =>
    obtain ⟨k, hk, rfl, hno⟩ := hrel
    by_cases hlt : k < L.length
    · obtain ⟨x, hx⟩ : ∃ x, L[k]? = some x := ⟨_, List.getElem?_eq_getElem hlt⟩
      obtain ⟨g, o, rfl, hg, c0, _, _, _, _⟩ := prow_at hrow hx
      cases hib : isB x.1
      · have hvt : Hid (v = true) := Lib.hid (by
          rw [← hv.out, List.any_eq_true]
          exact ⟨x, List.mem_of_getElem? hx, by rw [hib]; rfl⟩)
        have hkd := kind_not hib
        clear hib hx
        rcases hkd with h | h | h
        all_goals
          rw [h] at c0
          go_wp2
          (try simp only [Exit.inBlock, Exit.then]); refine bodyPost_ret (by simp [results, Tryd.results29, go_sem, *]; try rfl) rfl ?_
          exact ⟨by rw [hvt.out], hb⟩
      · have hno2 : Hid (∀ j y, j < k + 1 → L[j]? = some y → isB y.1 = true) := Lib.hid fun j y hj hy => by
          by_cases hjk : j = k
          · subst hjk; rw [hx] at hy; injection hy with hy; subst hy; exact hib
          · exact hno.out j y (by omega) hy
        rw [kind_byte hib] at c0
        clear hib hx
        go_wp2
        go_round
        case rel => exact ⟨k + 1, by omega, by go_num, hno2⟩
        case measure => simp [intOf]; omega
    · have hvf : Hid (v = false) := Lib.hid (by
        rw [← hv.out, Bool.eq_false_iff]
        intro h
        rw [List.any_eq_true] at h
        obtain ⟨x, hx, hb⟩ := h
        obtain ⟨j, hj⟩ := List.mem_iff_getElem?.1 hx
        have hjl := (List.getElem?_eq_some_iff.1 hj).1
        rw [hno.out j x (by omega) hj] at hb
        cases hb)
      go_wp2
      (try simp only [Exit.inBlock, Exit.then]); refine bodyPost_ret (by simp [results, Tryd.results29, go_sem, *]; try rfl) rfl ?_
      exact ⟨by rw [hvf.out], hb⟩
theorem part_text {l r : Bytes} {x : Pt} (h : part l = some (x, r)) : l.take (l.length - r.length) = wrP x ∨ ∃ d, x = .byte d ∧ l.take (l.length - r.length) = [92, d] := by
  unfold part at h
  split at h
  · cases h
  · rename_i c t
    split at h
    · rename_i h92
      split at h
      · rename_i d r'
        injection h with h; injection h with e1 e2; subst e1; subst e2; subst h92
        right
        refine ⟨d, rfl, ?_⟩
        rw [show (92 :: d :: r').length - r'.length = 2 by simp only [List.length_cons]; omega]; rfl
      · injection h with h; injection h with e1 e2; subst e1; subst e2; subst h92
        left; rfl
    · have one : (c :: t).take ((c :: t).length - t.length) = [c] := by
        rw [show (c :: t).length - t.length = 1 by simp only [List.length_cons]; omega]; rfl
      split at h
      · rename_i h1; injection h with h; injection h with e1 e2; subst e1; subst e2; subst h1; left; exact one
      · split at h
        · rename_i h1; injection h with h; injection h with e1 e2; subst e1; subst e2; subst h1; left; exact one
        · split at h
          · rename_i h1
            subst h1
            split at h
            · rename_i n s q hc
              injection h with h; injection h with e1 e2; subst e1; subst e2
              left
              have htx := classR_text hc
              have hz := congrArg List.length htx
              conv => lhs; rw [htx]
              rw [show (91 :: ((if n = true then [33] else []) ++ s ++ 93 :: q)) = (91 :: ((if n = true then [33] else []) ++ s ++ [93])) ++ q by simp]
              rw [List.take_left' (by simp only [List.length_append, List.length_cons, List.length_nil]; omega)]
              rfl
            · injection h with h; injection h with e1 e2; subst e1; subst e2; left; exact one
          · injection h with h; injection h with e1 e2; subst e1; subst e2; left; exact one
theorem pts_text : ∀ (n : Nat) (l : Bytes), l.length ≤ n → ∀ q ∈ pts l, (q.2 = wrP q.1 ∨ ∃ d, q.1 = .byte d ∧ q.2 = [92, d]) ∧ q.2.length ≤ l.length
  | 0, l, h, q, hq => by
    obtain rfl := List.eq_nil_of_length_eq_zero (Nat.le_zero.1 h)
    simp [pts_nil] at hq
  | n + 1, l, h, q, hq => by
    cases hp : part l with
    | none =>
      have h2 := pts_parse l.length l (Nat.le_refl _)
      have : parse l = [] := by
        unfold parse
        cases hl : l.length with
        | zero => rfl
        | succ m => rw [parseN, hp]
      rw [this] at h2
      rw [List.map_eq_nil_iff.1 h2] at hq
      cases hq
    | some y =>
      obtain ⟨x, r⟩ := y
      have hl := part_len hp
      rw [pts_cons hp] at hq
      rcases List.mem_cons.1 hq with rfl | hq
      · exact ⟨part_text hp, by simp only [List.length_take]; omega⟩
      · have := pts_text n r (by omega) q hq
        exact ⟨this.1, by omega⟩
set_option maxRecDepth 20000 in
set_option maxHeartbeats 4000000 in
theorem refPlain_is (p : ByteArray) (hp : p.size ≤ 1000000) (w : World) :
    Calls Tryd.prog 30 #[.string p] w fun e w' => e = .returned (.string ⟨(plainP p.data.toList).toArray⟩) ∧ Below w.heap.size w w' := by
  have hwl := wr_len p.data.toList
  rw [szl] at hwl
  have htxt := pts_text p.data.toList.length p.data.toList (Nat.le_refl _)
  have hpp : plainP p.data.toList = (pts p.data.toList).flatMap fun x => wrP x.1 := by
    unfold plainP
    rw [← pts_parse p.data.toList.length p.data.toList (Nat.le_refl _), List.flatMap_map]
  obtain ⟨L, hL0⟩ : ∃ L, pts p.data.toList = L := ⟨_, rfl⟩
  rw [hL0] at htxt hpp
  have hLl : L.length ≤ 1000000 := by
    have := pts_len p.data.toList.length p.data.toList (Nat.le_refl _)
    rw [hL0, szl] at this; omega
  have hPT : Hid (∀ W, Calls Tryd.prog 46 #[.string p] W fun e w' => ∃ ao cap, e = .returned (.slice ao L.length cap) ∧ RowK 5 w' (.slice ao L.length cap) (L.map pcells) ∧ Below W.heap.size W w') := Lib.hid fun W => by
    have := Parts_row p hp W
    rw [hL0] at this; exact this
  clear hL0
  rw [hpp]
  rw [hpp] at hwl
  rw [szl] at htxt
  have HTX := Lib.hid htxt
  have htake : Hid (∀ k, ((L.take k).flatMap fun x => wrP x.1).length ≤ 1000000) := Lib.hid fun k => by
    have e : (L.flatMap fun x => wrP x.1) = ((L.take k).flatMap fun x => wrP x.1) ++ ((L.drop k).flatMap fun x => wrP x.1) := by rw [← List.flatMap_append, List.take_append_drop]
    rw [e, List.length_append] at hwl; omega
  clear hpp htxt hwl
  go_enter Tryd.func30, Tryd.ntmps30
  go_wp2_with (go_at_call 46; (with_reducible refine (hPT.out _).mono ?_); rintro e W ⟨ao, cap, rfl, hrow, hb⟩)
  go_loop [4, 5] (fun o i => ∃ (k : Nat) (z : ByteArray), k ≤ L.length ∧ i = .int .i64 k ∧ o = .string z ∧ Hid (z.data.toList = (L.take k).flatMap fun x => wrP x.1)) (fun _ i => L.length - (intOf i).toNat)
  case atStart => exact ⟨0, ⟨#[]⟩, by omega, rfl, rfl, Lib.hid rfl⟩
  case round =>
    obtain ⟨k, z, hk, rfl, rfl, hz⟩ := hrel
    by_cases hlt : k < L.length
    · obtain ⟨x, hx⟩ : ∃ x, L[k]? = some x := ⟨_, List.getElem?_eq_getElem hlt⟩
      obtain ⟨htx, htl⟩ := HTX.out x (List.mem_of_getElem? hx)
      have hft := flat_take2 (fun x : Pt × Bytes => wrP x.1) hx
      obtain ⟨g, o, rfl, hg, c0, _, _, _, c4⟩ := prow_at hrow hx
      obtain ⟨t, ht⟩ : ∃ t : ByteArray, t = ⟨x.2.toArray⟩ := ⟨_, rfl⟩
      have htd : t.data.toList = x.2 := by rw [ht]
      rw [← ht] at c4
      have htz : t.size ≤ 1000000 := by rw [← szl, htd]; omega
      have hzz : z.size ≤ 1000000 := by rw [← szl, hz.out]; exact htake.out k
      have hsum : z.size + t.size ≤ 2000000 := by omega
      by_cases hesc : isB x.1 = true ∧ t.size = 2
      · obtain ⟨h1, h2⟩ := hesc
        obtain ⟨u, hu⟩ : ∃ u, t.extract 1 2 = u := ⟨_, rfl⟩
        have hul : u.data.toList = wrP x.1 := by
          rcases htx with h3 | ⟨d, h3, h4⟩
          · exfalso
            have e := congrArg List.length h3
            rw [← htd, szl, h2] at e
            cases hxx : x.1 <;> rw [hxx] at e h1 <;> simp [wrP, isB] at e h1
          · rw [← hu, ext_list, htd, h4, h3]
            rfl
        have huz : u.size ≤ 1000000 := by rw [← hu, ByteArray.size_extract]; omega
        have hz2 : Hid ((z ++ u).data.toList = (L.take (k + 1)).flatMap fun x => wrP x.1) := Lib.hid (by rw [hft, ← hz.out, ← hul]; simp)
        have hsum2 : z.size + u.size ≤ 2000000 := by omega
        rw [kind_byte h1] at c0
        have h2i : ((t.size : Int) == 2) = true := by rw [h2]; rfl
        clear hft hx htx ht htd hul h1
        go_wp2
        go_round
        case rel => exact ⟨k + 1, z ++ u, by omega, by go_num, rfl, hz2⟩
        case measure => simp [intOf]; omega
      · have hul : t.data.toList = wrP x.1 := by
          rcases htx with h3 | ⟨d, h3, h4⟩
          · rw [htd, h3]
          · exfalso; apply hesc
            refine ⟨by rw [h3]; rfl, ?_⟩
            rw [← szl, htd, h4]; rfl
        have hz2 : Hid ((z ++ t).data.toList = (L.take (k + 1)).flatMap fun x => wrP x.1) := Lib.hid (by rw [hft, ← hz.out, ← hul]; simp)
        have hesc2 := Lib.hid hesc
        clear hft htx ht htd hul hesc
        cases hib : isB x.1
        · have hkd := kind_not hib
          clear hib hx
          rcases hkd with h | h | h
          all_goals
            rw [h] at c0
            go_wp2
            go_round
            case rel => exact ⟨k + 1, z ++ t, by omega, by go_num, rfl, hz2⟩
            case measure => simp [intOf]; omega
        · have h2n : ((t.size : Int) == 2) = false := beq_false_of_ne fun h => hesc2.out ⟨hib, by omega⟩
          rw [kind_byte hib] at c0
          clear hib hx
          go_wp2
          go_round
          case rel => exact ⟨k + 1, z ++ t, by omega, by go_num, rfl, hz2⟩
          case measure => simp [intOf]; omega
    · obtain rfl : k = L.length := by omega
      have hfin : Hid (z = ⟨(L.flatMap fun x => wrP x.1).toArray⟩) := Lib.hid (ba_ext (by rw [hz.out, List.take_length]))
      go_wp2
      (try simp only [Exit.inBlock, Exit.then]); refine bodyPost_ret (by simp [results, Tryd.results30, go_sem, *]; try rfl) rfl ?_
      exact ⟨by rw [hfin.out], hb⟩

end Go.Proofs.YtjkohbecmaegmaaDoor

