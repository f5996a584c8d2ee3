/- slices.Grow, slices.Concat at [][2]int; the functions that span.both is handed. -/
import Derived.Test.YtdjpkkppcdmdnaaGreatDoorSpCross
import Derived.Laws.AppendOwnNone
import Derived.Shelf.Spec.SlicesGrow
namespace Go.Proofs.YtdjpkkppcdmdnaaGreatDoor
open Go.RowKit

theorem grow_any (n : Nat) (hn : n ≤ 1000000) (w : World) :
    Calls Tryz.prog 45 #[.slice none 0 0, .int .i64 n] w fun e w' => ∃ u, e = .returned u ∧ w'.ownsRow w.heap.size 27 2 u 0 [] ∧ Below w.heap.size w w' := by
  obtain ⟨i0, hi, hz0, hz1, hz2⟩ := info_parts infoPair
  by_cases h : n = 0
  · subst h
    exact (Any8.slices_Grow_room Tryz.growS none 0 0 0 w (Nat.le_refl _) (by decide) (by decide) (Nat.le_refl _)).mono fun e w' ⟨h1, h2⟩ => ⟨_, h1, by subst h2; exact World.ownsRow_nil _ _ _ _, by subst h2; exact Below.refl _ _⟩
  · refine (Any8.slices_Grow_grow Tryz.growS i0 (.agg #[.int .i64 0, .int .i64 0]) hi hz0 (by omega) none 0 0 n [] w (Nat.le_refl _) (by omega) (by rw [hz2]; omega) (by omega) (by simp) (fun _ => rfl) (fun a ha => by cases ha)).mono fun e w' ⟨h1, h2⟩ => ⟨_, h1, ?_, ?_⟩
    · subst h2
      have hge := grownCap_ge w (0 + n) 0 27
      have hle := grownCap_le_maxLen w (0 + n) 0 27 (by unfold maxLen; omega)
      refine ⟨rfl, .inr ⟨w.heap.size, _, _, rfl, Nat.le_refl _, heap_alloc_new _ _, Nat.zero_le _, hle, ?_, rfl⟩⟩
      show (_ ++ _ ++ _ : Array Value).size = grownCap w (0 + n) 0 27 * 2
      rw [Array.size_append, Array.size_append, size_zeroCells, size_zeroCells]
      show 0 + (0 + n - 0) * 2 + (grownCap w (0 + n) 0 27 - (0 + n)) * 2 = _
      omega
    · rw [h2]
      exact (below_drewN (Below.refl _ _) 1).alloc (Nat.le_refl _) _

def catS (a b : List sp.Span) : Nat → List sp.Span
  | 0 => []
  | 1 => a
  | _ => a ++ b
theorem flatS_app (a b : List sp.Span) : flatS (a ++ b) = flatS a ++ flatS b := by simp [flatS]

/-- spans as a slice that may be copied from -/
theorem rdS_src {w : World} {v : Value} {l : List sp.Span} (h : RdS w v l) (hp : Plain v) : (v = .slice none 0 0 ∧ l = []) ∨ ∃ g off cap, v = .slice (some ⟨g, off, none⟩) l.length cap ∧ ∀ (j : Nat) u, (flatS l)[j]? = some u → w.cell? ((⟨g, off, none⟩ : Addr).add j) = some u := by
  obtain ⟨a, cap, rfl, hl, hc⟩ := h
  cases a with
  | none =>
    have hnil : l = [] := by
      by_cases h : l = []
      · exact h
      · obtain ⟨g, off, h1, _⟩ := hc h; cases h1
    subst hnil
    have := hp.nil _ _ rfl
    subst this
    exact .inl ⟨rfl, rfl⟩
  | some p =>
    obtain ⟨g, off, rfl⟩ := hp.at_ _ _ _ rfl
    refine .inr ⟨g, off, cap, rfl, fun j u hj => ?_⟩
    have a0 : (⟨g, off, none⟩ : Addr).add j = ⟨g, off + j, none⟩ := by unfold Addr.add; split <;> simp_all
    rw [a0]
    obtain ⟨h', rfl⟩ := flatS_get l j u hj
    obtain ⟨g', off', e, h2⟩ := hc (fun e => by rw [e] at h'; simp at h')
    obtain ⟨rfl, rfl⟩ : g = g' ∧ off = off' := by injection e with e; injection e with a b; exact ⟨a, b⟩
    obtain ⟨c0, c1⟩ := h2 (j / 2) h'
    split
    · have e : off + j = off + j / 2 * 2 := by omega
      rw [e]; exact c0
    · have e : off + j = off + j / 2 * 2 + 1 := by omega
      rw [e]; exact c1

set_option maxHeartbeats 4000000 in
set_option maxRecDepth 1000000 in
theorem concat_any (g : Nat) (va vb : Value) (a b : List sp.Span) (w : World) (h0 : w.cell? ⟨g, 0, none⟩ = some va) (h1 : w.cell? ⟨g, 1, none⟩ = some vb) (hra : RdS w va a) (hrb : RdS w vb b) (hpa : Plain va) (hpb : Plain vb) (hab : a.length + b.length ≤ 1000000) :
    Calls Tryz.prog 23 #[.slice (some ⟨g, 0, none⟩) 2 2] w fun e w' => ∃ u, e = .returned u ∧ RdS w' u (a ++ b) ∧ Plain u ∧ Below w.heap.size w w' := by
  have Hra := Lib.hid hra
  have Hrb := Lib.hid hrb
  have Hpa := Lib.hid hpa
  have Hpb := Lib.hid hpb
  obtain ⟨aa, acap, rfl, hal, _⟩ := hra
  obtain ⟨ba, bcap, rfl, hbl, _⟩ := hrb
  have hg := hpa
  clear hg hpa hpb
  obtain ⟨i0, hi, hz0, hz1, hz2⟩ := info_parts infoPair
  obtain ⟨N, hN⟩ : ∃ N, N = a.length + b.length := ⟨_, rfl⟩
  have hgr := fun w => grow_any N (by omega) w
  have HN := Lib.hid hN
  clear hN
  have Hgr := Lib.hid hgr
  clear hgr
  go_enter Tryz.func23, Tryz.ntmps23
  go_wp2
  go_loop [3, 11] (fun s i => ∃ k : Nat, k ≤ 2 ∧ i = .int .i64 k ∧ s = .int .i64 (catS a b k).length) (fun _ i => 2 - (intOf i).toNat)
  case atStart => exact ⟨0, Nat.zero_le _, rfl, rfl⟩
  case round =>
    obtain ⟨k, hk, rfl, hs⟩ := hrel
    have hk3 : k = 0 ∨ k = 1 ∨ k = 2 := by omega
    rcases hk3 with rfl | rfl | rfl
    · obtain rfl : u3 = .int .i64 0 := hs
      go_wp2
      go_round
      case rel => exact ⟨1, by omega, by go_num, rfl⟩
      case measure => simp [intOf]
    · obtain rfl : u3 = .int .i64 (a.length : Int) := hs
      go_wp2
      go_round
      case rel => exact ⟨2, by omega, by go_num, by show Value.int .i64 _ = .int .i64 ((a ++ b).length : Int); simp⟩
      case measure => simp [intOf]
    · obtain rfl : u3 = .int .i64 (N : Int) := by rw [hs, HN.out]; show Value.int .i64 ((a ++ b).length : Int) = _; rw [List.length_append]
      clear hs
      go_wp2_with fail
      refine (Hgr.out _).mono ?_
      rintro e w1 ⟨u, rfl, hu, hb1⟩
      have Hu := Lib.hid hu
      have HB1 := Lib.hid hb1
      clear hu hb1
      go_wp2
      go_loopw [6, 27] (fun u i wr => ∃ k : Nat, k ≤ 2 ∧ i = .int .i64 k ∧ wr.ownsRow w.heap.size 27 2 u (catS a b k).length (flatS (catS a b k)) ∧ Below w.heap.size w wr) (fun _ i _ => 2 - (intOf i).toNat)
      case atStart => exact ⟨0, Nat.zero_le _, rfl, Hu.out, HB1.out⟩
      case round =>
        obtain ⟨k, hk, rfl, hown, hbw⟩ := hrel
        have hk3 : k = 0 ∨ k = 1 ∨ k = 2 := by omega
        rcases hk3 with rfl | rfl | rfl
        · have kc := kept hbw h0
          have HBw := Lib.hid hbw
          rcases rdS_src (Hra.out.below hbw) Hpa.out with ⟨e1, e2⟩ | ⟨g1, off1, cap1, e1, hsrc⟩
          · injection e1 with e1 e3 e4
            have Hl := Lib.hid e2
            subst e1 e4
            rw [e3] at kc
            clear e3 e2 hbw
            go_wp2_with (at_builtin; refine wpList_append_own_none rfl (.tmp 31) (.tmp 32) 22 rfl w.heap.size 27 i0 2 Tryz.underlying22 hi _ _ _ rfl hown rfl ?_)
            go_wp2
            go_roundw
            case rel => exact ⟨1, by omega, by go_num, by simpa [catS, Hl.out] using hown, HBw.out⟩
            case measure => simp [intOf]
          · injection e1 with e1 e3 e4
            subst e1 e4
            have Hl := Lib.hid (show flatS (catS a b 0) ++ flatS a = flatS (catS a b 1) by rw [← flatS_app]; rfl)
            have Hn := Lib.hid (show (catS a b 0).length + a.length = (catS a b 1).length by simp [catS])
            have hsz : (catS a b 0).length + a.length ≤ 1000000 := by simp [catS]; omega
            have hbs := hbw.size
            clear e3 hbw
            go_wp2_with (at_builtin; refine wpList_append_own _ rfl (.tmp 31) (.tmp 32) 22 rfl w.heap.size 27 i0 (.agg #[.int .i64 0, .int .i64 0]) 2 16 Tryz.underlying22 hi hz0 hz1 hz2 rfl (by decide) _ _ _ rfl hown ⟨g1, off1, none⟩ a.length acap (flatS a) rfl (flatS_len a) hsrc (flatS_one a) (by unfold maxLen; omega) (by omega) hbs ?_)
            intro v' w3 hown3 hgrow3 _
            have hb3 : Below w.heap.size w w3 := HBw.out.grown hgrow3 hbs (fun j hj => (hown.lt j hj).1)
            have HB3 := Lib.hid hb3
            have Hown3 := Lib.hid hown3
            clear hgrow3 hown3 hb3 hown hsrc
            go_wp2
            go_roundw
            case rel => exact ⟨1, by omega, by go_num, by rw [← Hl.out, ← Hn.out]; exact Hown3.out, HB3.out⟩
            case measure => simp [intOf]
        · have kc := kept hbw h1
          have HBw := Lib.hid hbw
          rcases rdS_src (Hrb.out.below hbw) Hpb.out with ⟨e1, e2⟩ | ⟨g1, off1, cap1, e1, hsrc⟩
          · injection e1 with e1 e3 e4
            have Hl := Lib.hid e2
            subst e1 e4
            rw [e3] at kc
            clear e3 e2 hbw
            go_wp2_with (at_builtin; refine wpList_append_own_none rfl (.tmp 31) (.tmp 32) 22 rfl w.heap.size 27 i0 2 Tryz.underlying22 hi _ _ _ rfl hown rfl ?_)
            go_wp2
            go_roundw
            case rel => exact ⟨2, by omega, by go_num, by simpa [catS, Hl.out] using hown, HBw.out⟩
            case measure => simp [intOf]
          · injection e1 with e1 e3 e4
            subst e1 e4
            have Hl := Lib.hid (show flatS (catS a b 1) ++ flatS b = flatS (catS a b 2) by rw [← flatS_app]; rfl)
            have Hn := Lib.hid (show (catS a b 1).length + b.length = (catS a b 2).length by simp [catS])
            have hsz : (catS a b 1).length + b.length ≤ 1000000 := by simp [catS]; omega
            have hbs := hbw.size
            clear e3 hbw
            go_wp2_with (at_builtin; refine wpList_append_own _ rfl (.tmp 31) (.tmp 32) 22 rfl w.heap.size 27 i0 (.agg #[.int .i64 0, .int .i64 0]) 2 16 Tryz.underlying22 hi hz0 hz1 hz2 rfl (by decide) _ _ _ rfl hown ⟨g1, off1, none⟩ b.length bcap (flatS b) rfl (flatS_len b) hsrc (flatS_one b) (by unfold maxLen; omega) (by omega) hbs ?_)
            intro v' w3 hown3 hgrow3 _
            have hb3 : Below w.heap.size w w3 := HBw.out.grown hgrow3 hbs (fun j hj => (hown.lt j hj).1)
            have HB3 := Lib.hid hb3
            have Hown3 := Lib.hid hown3
            clear hgrow3 hown3 hb3 hown hsrc
            go_wp2
            go_roundw
            case rel => exact ⟨2, by omega, by go_num, by rw [← Hl.out, ← Hn.out]; exact Hown3.out, HB3.out⟩
            case measure => simp [intOf]
        · have Hr := Lib.hid (rdS_owns hown (by simp [catS]; omega))
          have Hp := Lib.hid (plain_owns hown)
          have HBw := Lib.hid hbw
          clear hown hbw
          go_wp2
          go_ret
          exact ⟨_, rfl, Hr.out, Hp.out, HBw.out⟩

end Go.Proofs.YtdjpkkppcdmdnaaGreatDoor
