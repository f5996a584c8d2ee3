/- portref1.Cut: a text at each byte c. -/
import Derived.Test.YtdjpkkppcdmdnaaGreatDoorBase
namespace Go.Proofs.YtdjpkkppcdmdnaaGreatDoor
open Go.RowKit

theorem infoStr : (Tryz.prog.info? 9).map (fun i => (i.zero, i.size, i.bytes)) = some (some (.string ⟨#[]⟩), 1, 16) := by kernel_rfl

/-- what holds of the pieces that are done, of the place behind them, and of the place that is looked at -/
def CutRel (c : UInt8) (s : ByteArray) (done : List (List UInt8)) (frm k : Nat) : Prop :=
  frm ≤ k ∧ k ≤ s.size ∧ done.length ≤ frm ∧ c ∉ (s.data.toList.drop frm).take (k - frm) ∧ done ++ tx.cutF c (s.data.toList.drop frm) = tx.cutF c s.data.toList

theorem CutRel.start (c : UInt8) (s : ByteArray) : CutRel c s [] 0 0 := ⟨Nat.le_refl _, Nat.zero_le _, Nat.le_refl _, by simp, by simp⟩

theorem sl_len (s : ByteArray) : s.data.toList.length = s.size := by rw [Array.length_toList]; rfl

theorem take_next {l : List UInt8} {frm k : Nat} (h : frm ≤ k) (hk : k < l.length) : (l.drop frm).take (k + 1 - frm) = (l.drop frm).take (k - frm) ++ [l[k]] := by
  have e : k + 1 - frm = (k - frm) + 1 := by omega
  rw [e, List.take_succ_eq_append_getElem (by rw [List.length_drop]; omega)]
  congr 1
  rw [List.getElem_drop]
  congr 2
  omega

theorem drop_split {l : List UInt8} {frm k : Nat} (h : frm ≤ k) (hk : k < l.length) : l.drop frm = (l.drop frm).take (k - frm) ++ l[k] :: l.drop (k + 1) := by
  conv => lhs; rw [← List.take_append_drop (k - frm) (l.drop frm)]
  congr 1
  rw [List.drop_drop, show frm + (k - frm) = k by omega, List.drop_eq_getElem_cons hk]

theorem extract_list (s : ByteArray) (a b : Nat) : (s.extract a b).data.toList = (s.data.toList.drop a).take (b - a) := by
  rw [ByteArray.data_extract]; simp [List.take_drop, Array.toList_extract, List.extract]

theorem CutRel.hit {c : UInt8} {s : ByteArray} {done : List (List UInt8)} {frm k : Nat} (h : CutRel c s done frm k) (hk : k < s.size) (hc : s[k] = c) : CutRel c s (done ++ [(s.extract frm k).data.toList]) (k + 1) (k + 1) := by
  obtain ⟨h1, h2, h3, h4, h5⟩ := h
  have hl := sl_len s
  have hkc : s.data.toList[k]'(by omega) = c := by rw [← hc]; rfl
  refine ⟨Nat.le_refl _, by omega, by simp; omega, by simp, ?_⟩
  rw [← h5]
  conv => rhs; rw [drop_split (l := s.data.toList) h1 (by omega), hkc, tx.cutF_app c _ _ h4]
  rw [extract_list]; simp

theorem CutRel.miss {c : UInt8} {s : ByteArray} {done : List (List UInt8)} {frm k : Nat} (h : CutRel c s done frm k) (hk : k < s.size) (hc : s[k] ≠ c) : CutRel c s done frm (k + 1) := by
  obtain ⟨h1, h2, h3, h4, h5⟩ := h
  have hl := sl_len s
  have hkc : s.data.toList[k]'(by omega) ≠ c := hc
  refine ⟨by omega, by omega, h3, ?_, h5⟩
  rw [take_next h1 (by omega)]
  simp only [List.mem_append, List.mem_singleton, not_or]
  exact ⟨h4, fun e => hkc e.symm⟩

theorem CutRel.final {c : UInt8} {s : ByteArray} {done : List (List UInt8)} {frm : Nat} (h : CutRel c s done frm s.size) : done ++ [(s.extract frm s.size).data.toList] = tx.cutF c s.data.toList := by
  obtain ⟨h1, h2, h3, h4, h5⟩ := h
  have hl := sl_len s
  have e : (s.data.toList.drop frm).take (s.size - frm) = s.data.toList.drop frm := List.take_of_length_le (by rw [List.length_drop]; omega)
  rw [e] at h4
  rw [← h5, tx.cutF_free c _ h4, extract_list, e]

theorem u8_eq {a b : UInt8} (h : (a.toNat : Int) = b.toNat) : a = b := UInt8.toNat_inj.1 (by omega)

set_option maxHeartbeats 1600000 in
set_option maxRecDepth 1000000 in
theorem cut_any (s : ByteArray) (c : UInt8) (w : World) (hs : s.size < 4294967281) :
    Calls Tryz.prog 39 #[.string s, .int .u8 c.toNat] w fun e w' => ∃ v, e = .returned v ∧ RowOf w' w.heap.size v (tx.cutF c s.data.toList) ∧ Below w.heap.size w w' := by
  obtain ⟨i0, hi, hz0, hz1, hz2⟩ := info_parts infoStr
  have hcb := c.toNat_lt
  go_enter Tryz.func39, Tryz.ntmps39
  go_wp2
  go_loopw [5, 6, 7] (fun v f i wr => ∃ (k frm : Nat) (done : List (List UInt8)), i = .int .i64 k ∧ f = .int .i64 frm ∧ wr.ownsRow w.heap.size 9 1 v done.length (done.map strV) ∧ Below w.heap.size w wr ∧ CutRel c s done frm k)
    (fun _ _ i _ => s.size - (intOf i).toNat)
  case atStart => exact ⟨0, 0, [], rfl, rfl, World.ownsRow_nil _ _ _ _, Below.refl _ _, CutRel.start c s⟩
  case round =>
    obtain ⟨k, frm, done, rfl, rfl, hown, hb, hrel⟩ := hrel
    have R := Lib.hid hrel
    have hfk := hrel.1
    have hks := hrel.2.1
    have hdl := hrel.2.2.1
    clear hrel
    go_wp2_with (first
      | (at_builtin; refine wpList_append_own _ rfl (.tmp 19) (.tmp 24) 45 rfl w.heap.size 9 i0 (.string ⟨#[]⟩) 1 16 Tryz.underlying45 hi hz0 hz1 hz2 rfl (by decide) _ _ _ rfl (hown.alloc _) ⟨_, 0, none⟩ 1 1 [.string (s.extract frm k)] rfl rfl ?c1 ?c2 ?c3 ?c4 ?c5 ?_)
      | (at_builtin; refine wpList_append_own _ rfl (.tmp 28) (.tmp 32) 45 rfl w.heap.size 9 i0 (.string ⟨#[]⟩) 1 16 Tryz.underlying45 hi hz0 hz1 hz2 rfl (by decide) _ _ _ rfl (hown.alloc _) ⟨_, 0, none⟩ 1 1 [.string (s.extract frm s.size)] rfl rfl ?d1 ?d2 ?d3 ?d4 ?d5 ?_))
    case c1 => intro j u hj; match j, hj with | 0, hj => simp at hj; subst hj; simp [Addr.add]
    case c2 => intro u hu; simp at hu; subst hu; rfl
    case c3 => unfold maxLen; omega
    case c4 => omega
    case c5 => have := hb.size; simp; omega
    case d1 => intro j u hj; match j, hj with | 0, hj => simp at hj; subst hj; simp [Addr.add]
    case d2 => intro u hu; simp at hu; subst hu; rfl
    case d3 => unfold maxLen; omega
    case d4 => omega
    case d5 => have := hb.size; simp; omega
    · intro v' w1 hown' hgrow _
      have hlt : k < s.size := by assumption
      have heq : ((s[k].toNat : Int) == (c.toNat : Int)) = true := by assumption
      have hc : s[k] = c := u8_eq (beq_iff_eq.1 heq)
      have hb' : Below w.heap.size w w1 := (hb.alloc hb.size _).grown hgrow (by have := hb.size; simp; omega) (fun j hj => (hown.lt j hj).1)
      clear heq hgrow
      go_wp2
      go_roundw
      case rel => exact ⟨k + 1, k + 1, done ++ [(s.extract frm k).data.toList], by go_num, by go_num, by rw [List.map_append, List.length_append]; exact hown', hb', R.out.hit hlt hc⟩
      case measure => simp [intOf]; omega
    · have hlt : k < s.size := by assumption
      have heq : ((s[k].toNat : Int) == (c.toNat : Int)) = false := by assumption
      have hc : s[k] ≠ c := fun e => by rw [e] at heq; simp at heq
      go_roundw
      case rel => exact ⟨k + 1, frm, done, by go_num, rfl, hown, hb, R.out.miss hlt hc⟩
      case measure => simp [intOf]; omega
    · intro v' w1 hown' hgrow _
      have hge : ¬ k < s.size := by assumption
      obtain rfl : k = s.size := by omega
      have hb' : Below w.heap.size w w1 := (hb.alloc hb.size _).grown hgrow (by have := hb.size; simp; omega) (fun j hj => (hown.lt j hj).1)
      have hfin := R.out.final
      have hr : RowOf w1 w.heap.size v' (tx.cutF c s.data.toList) := by
        rw [← hfin]
        refine rowOf_owns (t := 9) ?_ (by simp)
        rw [List.map_append, List.length_append]
        exact hown'
      clear hgrow hown' hfin
      have Hr := Lib.hid hr
      have Hb := Lib.hid hb'
      clear hr hb'
      go_wp2
      go_ret
      exact ⟨v', rfl, Hr.out, Hb.out⟩

end Go.Proofs.YtdjpkkppcdmdnaaGreatDoor
