-- PRINTED BY print.sh 35421559b90ae4d0a3588c463048766b98c2df88dd9212a6774a882060cdf62d: not written by this session
import Derived.Test.YtfkiagnehomefaaPSneRoundx0
import Derived.Test.YtfkiagnehomefaaPSneRoundx1
namespace Go.Proofs.Ytfkiagnehomefaa.PSneRound
open Go.RowKit Go.Proofs.YtfkiagnehomefaaW.PrintWords Go.Proofs.YtfkiagnehomefaaW.PrintLast Go.Proofs.YtfkiagnehomefaaW.PrintMore
attribute [local go_sem] max2_int min2_int max_two min_two max_three min_three max_four min_four   -- for this text's walks alone
set_option linter.unusedVariables false
set_option linter.unusedSimpArgs false

/-! ### downhaullaw21_SneRound: function 12 -/
mutual
def downhaullaw21_SneRound.l0 : Nat → Int → List Int → Int → Int → Int → Option (Bool)
  | 0, _, _, _, _, _ => none
  | k + 1, x6, x18, x19, x20, x124000 => if x20 < x19 then (if 0 ≤ x20 then (if x20 < (x18.length : Int) then (if (rd x18 x20) = (-2147483648) then (downhaullaw21_SneRound.j1 k x6 (rd x18 x20) x18 x19 x20 true x124000) else (if (rd x18 x20) < 0 then (downhaullaw21_SneRound.j1 k x6 (rd x18 x20) x18 x19 x20 (decide ((IntKind.u64.wrap (wrap64 (-(wrap64 (rd x18 x20))))) > x6)) x124000) else (downhaullaw21_SneRound.j1 k x6 (rd x18 x20) x18 x19 x20 false x124000))) else (none)) else (none)) else ((downhaullaw21_alive.f k).bind fun t124 => (some t124))
def downhaullaw21_SneRound.j1 : Nat → Int → Int → List Int → Int → Int → Bool → Int → Option (Bool)
  | 0, _, _, _, _, _, _, _ => none
  | k + 1, x6, x8, x18, x19, x20, x37, x124000 => if x37 = true then (downhaullaw21_SneRound.l0 k x6 x18 x19 (wrap64 (x20 + 1)) x124000) else ((sne_Tracker_Long.f k x124000 ((IntKind.u64.wrap (x6 + (IntKind.u64.wrap (wrap64 (x8))))) % 4294967296)).bind fun t126 => (if t126 = (IntKind.u64.wrap (x6 + (IntKind.u64.wrap (wrap64 (x8))))) then ((sne_Tracker_Of.f k x124000 ((IntKind.u64.wrap (x6 + (IntKind.u64.wrap (wrap64 (x8))))) % 4294967296)).bind fun t127 => (downhaullaw21_SneRound.j2 k x6 (IntKind.u64.wrap (x6 + (IntKind.u64.wrap (wrap64 (x8))))) x18 x19 x20 (t127 != (((IntKind.u64.wrap (x6 + (IntKind.u64.wrap (wrap64 (x8))))) / 4294967296) % 4294967296)) x124000)) else (downhaullaw21_SneRound.j2 k x6 (IntKind.u64.wrap (x6 + (IntKind.u64.wrap (wrap64 (x8))))) x18 x19 x20 true x124000)))
def downhaullaw21_SneRound.j2 : Nat → Int → Int → List Int → Int → Int → Bool → Int → Option (Bool)
  | 0, _, _, _, _, _, _, _ => none
  | k + 1, x6, x9, x18, x19, x20, x58, x124000 => if x58 = true then (some false) else ((sne_Tracker_Seen.f k x124000 ((x9) % 4294967296)).bind fun t128 => ((sne_Tracker_Now.f t128).bind fun t129 => (if t129 = (mx x6 x9) then (downhaullaw21_SneRound.l0 k (mx x6 x9) x18 x19 (wrap64 (x20 + 1)) t128) else (some false))))
end
def downhaullaw21_SneRound.f (k : Nat) (a0 : Int) (l1 : List Int) : Option (Bool) := if (l1.length : Int) > 1000 then ((downhaullaw21_alive.f k).bind fun t121 => (some t121)) else ((sne_New.f a0).bind fun t122 => (downhaullaw21_SneRound.l0 k (IntKind.u64.wrap (a0)) l1 (l1.length : Int) 0 t122))
theorem downhaullaw21_SneRound.mono_l : ∀ k, (∀ y0 y1 y2 y3 y4, LeO (downhaullaw21_SneRound.l0 k y0 y1 y2 y3 y4) (downhaullaw21_SneRound.l0 (k + 1) y0 y1 y2 y3 y4)) ∧ (∀ y0 y1 y2 y3 y4 y5 y6, LeO (downhaullaw21_SneRound.j1 k y0 y1 y2 y3 y4 y5 y6) (downhaullaw21_SneRound.j1 (k + 1) y0 y1 y2 y3 y4 y5 y6)) ∧ (∀ y0 y1 y2 y3 y4 y5 y6, LeO (downhaullaw21_SneRound.j2 k y0 y1 y2 y3 y4 y5 y6) (downhaullaw21_SneRound.j2 (k + 1) y0 y1 y2 y3 y4 y5 y6))
  | 0 => ⟨fun _ _ _ _ _ r h => by simp [downhaullaw21_SneRound.l0] at h, fun _ _ _ _ _ _ _ r h => by simp [downhaullaw21_SneRound.j1] at h, fun _ _ _ _ _ _ _ r h => by simp [downhaullaw21_SneRound.j2] at h⟩
  | k + 1 => by
    obtain ⟨ih0, ih1, ih2⟩ := downhaullaw21_SneRound.mono_l k
    refine ⟨?_, ?_, ?_⟩
    · intro y0 y1 y2 y3 y4
      unfold downhaullaw21_SneRound.l0
      repeat' first
      | (with_reducible exact ih0 _ _ _ _ _)
      | (with_reducible exact ih1 _ _ _ _ _ _ _)
      | (with_reducible exact ih2 _ _ _ _ _ _ _)
      | (with_reducible exact downhaullaw21_alive.mono _)
      | (with_reducible exact sne_Tracker_Long.mono _ _ _)
      | (with_reducible exact sne_Tracker_Of.mono _ _ _)
      | (with_reducible exact sne_Tracker_Seen.mono _ _ _)
      | (with_reducible exact LeO.refl _)
      | (with_reducible exact LeO.none _)
      | (with_reducible refine LeO.ite ?_ ?_)
      | (with_reducible refine LeO.bind ?_ (fun _ => ?_))
      | exact ih0 _ _ _ _ _
      | exact ih1 _ _ _ _ _ _ _
      | exact ih2 _ _ _ _ _ _ _
      | exact downhaullaw21_alive.mono _
      | exact sne_Tracker_Long.mono _ _ _
      | exact sne_Tracker_Of.mono _ _ _
      | exact sne_Tracker_Seen.mono _ _ _
      | exact LeO.none _
      | refine LeO.ite ?_ ?_
      | refine LeO.bind ?_ (fun _ => ?_)
    · intro y0 y1 y2 y3 y4 y5 y6
      unfold downhaullaw21_SneRound.j1
      repeat' first
      | (with_reducible exact ih0 _ _ _ _ _)
      | (with_reducible exact ih1 _ _ _ _ _ _ _)
      | (with_reducible exact ih2 _ _ _ _ _ _ _)
      | (with_reducible exact downhaullaw21_alive.mono _)
      | (with_reducible exact sne_Tracker_Long.mono _ _ _)
      | (with_reducible exact sne_Tracker_Of.mono _ _ _)
      | (with_reducible exact sne_Tracker_Seen.mono _ _ _)
      | (with_reducible exact LeO.refl _)
      | (with_reducible exact LeO.none _)
      | (with_reducible refine LeO.ite ?_ ?_)
      | (with_reducible refine LeO.bind ?_ (fun _ => ?_))
      | exact ih0 _ _ _ _ _
      | exact ih1 _ _ _ _ _ _ _
      | exact ih2 _ _ _ _ _ _ _
      | exact downhaullaw21_alive.mono _
      | exact sne_Tracker_Long.mono _ _ _
      | exact sne_Tracker_Of.mono _ _ _
      | exact sne_Tracker_Seen.mono _ _ _
      | exact LeO.none _
      | refine LeO.ite ?_ ?_
      | refine LeO.bind ?_ (fun _ => ?_)
    · intro y0 y1 y2 y3 y4 y5 y6
      unfold downhaullaw21_SneRound.j2
      repeat' first
      | (with_reducible exact ih0 _ _ _ _ _)
      | (with_reducible exact ih1 _ _ _ _ _ _ _)
      | (with_reducible exact ih2 _ _ _ _ _ _ _)
      | (with_reducible exact downhaullaw21_alive.mono _)
      | (with_reducible exact sne_Tracker_Long.mono _ _ _)
      | (with_reducible exact sne_Tracker_Of.mono _ _ _)
      | (with_reducible exact sne_Tracker_Seen.mono _ _ _)
      | (with_reducible exact LeO.refl _)
      | (with_reducible exact LeO.none _)
      | (with_reducible refine LeO.ite ?_ ?_)
      | (with_reducible refine LeO.bind ?_ (fun _ => ?_))
      | exact ih0 _ _ _ _ _
      | exact ih1 _ _ _ _ _ _ _
      | exact ih2 _ _ _ _ _ _ _
      | exact downhaullaw21_alive.mono _
      | exact sne_Tracker_Long.mono _ _ _
      | exact sne_Tracker_Of.mono _ _ _
      | exact sne_Tracker_Seen.mono _ _ _
      | exact LeO.none _
      | refine LeO.ite ?_ ?_
      | refine LeO.bind ?_ (fun _ => ?_)
theorem downhaullaw21_SneRound.mono : ∀ a0 a1 k, LeO (downhaullaw21_SneRound.f k a0 a1) (downhaullaw21_SneRound.f (k + 1) a0 a1) := by
  intro a0 a1 k
  obtain ⟨ih0, ih1, ih2⟩ := downhaullaw21_SneRound.mono_l k
  unfold downhaullaw21_SneRound.f
  repeat' first
      | (with_reducible exact ih0 _ _ _ _ _)
      | (with_reducible exact ih1 _ _ _ _ _ _ _)
      | (with_reducible exact ih2 _ _ _ _ _ _ _)
      | (with_reducible exact downhaullaw21_alive.mono _)
      | (with_reducible exact sne_Tracker_Long.mono _ _ _)
      | (with_reducible exact sne_Tracker_Of.mono _ _ _)
      | (with_reducible exact sne_Tracker_Seen.mono _ _ _)
      | (with_reducible exact LeO.refl _)
      | (with_reducible exact LeO.none _)
      | (with_reducible refine LeO.ite ?_ ?_)
      | (with_reducible refine LeO.bind ?_ (fun _ => ?_))
      | exact ih0 _ _ _ _ _
      | exact ih1 _ _ _ _ _ _ _
      | exact ih2 _ _ _ _ _ _ _
      | exact downhaullaw21_alive.mono _
      | exact sne_Tracker_Long.mono _ _ _
      | exact sne_Tracker_Of.mono _ _ _
      | exact sne_Tracker_Seen.mono _ _ _
      | exact LeO.none _
      | refine LeO.ite ?_ ?_
      | refine LeO.bind ?_ (fun _ => ?_)
set_option maxHeartbeats 8000000 in
set_option maxRecDepth 100000 in
theorem downhaullaw21_SneRound.calls (k : Nat) (a0 : Int) (A1 : Option Addr) (c1 : Nat) (l1 : List Int) (r : Bool) (w : World) (hr1 : Kd.C (Kd.int .i32) w A1 l1.length l1) (hc1 : l1.length ≤ c1) (h : downhaullaw21_SneRound.f k a0 l1 = some r) :
    Calls Try.prog 12 #[.int .u32 a0, .slice A1 l1.length c1] w fun e w' => e = .returned (.bool r) ∧ Below w.heap.size w w' := by
  have hu53 := Try.underlying53
  have HR1 := Aside0.mk hr1
  have HC1 := Aside0.mk hc1
  clear hr1 hc1
  have HB := Aside0.mk (Below.refl w.heap.size w)
  have H : (if (l1.length : Int) > 1000 then ((downhaullaw21_alive.f k).bind fun t121 => (some t121)) else ((sne_New.f a0).bind fun t122 => (downhaullaw21_SneRound.l0 k (IntKind.u64.wrap (a0)) l1 (l1.length : Int) 0 t122))) = some r := h
  clear h
  by_cases c3 : (l1.length : Int) > 1000
  · rw [if_pos c3] at H
    have c3b0 : decide (1000 < (l1.length : Int)) = true := decide_eq_true c3
    have c3b1 : decide (1000 < l1.length) = true := decide_eq_true (by omega)
    clear c3
    replace H := Option.bind_eq_some_iff.mp H
    obtain ⟨t121, A40, H⟩ := H
    replace H : (some t121) = some r := H
    have A4 := Aside0.mk A40
    clear A40
    obtain rfl := Option.some.inj H
    go_enter Try.func12, Try.ntmps12
    go_wp2_with (first | ((with_reducible refine gate_callee (f := 38) rfl ?_); refine goesL_ (some 13) rfl rfl Try.func38 (by kernel_rfl) rfl #[] rfl (by (try simp only [List.map_toArray, List.map_cons, List.map_nil]); first | done | rfl | (simp only [List.length_drop, List.length_take]; rfl)) ?_; (with_reducible refine (downhaullaw21_alive.calls k  t121 _ A4.out).mono ?_); rintro e w5 ⟨rfl, hb⟩; refine ⟨_, rfl, ?_⟩; have n0_ := Aside0.mk (below_step (by repeat (first | (with_reducible first | exact HB.out | apply below_alloc | apply pw_below_drewN | apply below_drew1) | exact HB.out)) hb); clear HB; have HB := n0_; clear n0_; (try clear hb); (try clear hb2); (try clear hk); (try clear hi)))
    go_ret
    exact ⟨by first | rfl | (simp [errW_none, errW_some] <;> rfl) | (simp [*, errW_none, errW_some] <;> rfl), by repeat (first | (with_reducible first | exact HB.out | apply below_alloc | apply pw_below_drewN | apply below_drew1) | exact HB.out)⟩
  · rw [if_neg c3] at H
    have c3b0 : decide (1000 < (l1.length : Int)) = false := decide_eq_false c3
    have c3b1 : decide (1000 < l1.length) = false := decide_eq_false (by omega)
    clear c3
    replace H := Option.bind_eq_some_iff.mp H
    obtain ⟨t122, A60, H⟩ := H
    replace H : (downhaullaw21_SneRound.l0 k (IntKind.u64.wrap (a0)) l1 (l1.length : Int) 0 t122) = some r := H
    have A6 := Aside0.mk A60
    clear A60
    have H' := Aside0.mk H
    clear H
    go_enter Try.func12, Try.ntmps12
    go_wp2_with (first | ((with_reducible refine gate_callee (f := 39) rfl ?_); refine goesL_ (some 15) rfl rfl Try.func39 (by kernel_rfl) rfl #[.int .u32 a0] rfl (by (try simp only [List.map_toArray, List.map_cons, List.map_nil]); first | done | rfl | (simp only [List.length_drop, List.length_take]; rfl)) ?_; (with_reducible refine (sne_New.calls a0 t122 _ A6.out).mono ?_); rintro e w7 ⟨rfl, hb⟩; refine ⟨_, rfl, ?_⟩; have n0_ := Aside0.mk (below_step (by repeat (first | (with_reducible first | exact HB.out | apply below_alloc | apply pw_below_drewN | apply below_drew1) | exact HB.out)) hb); clear HB; have HB := n0_; clear n0_; (try clear hb); (try clear hb2); (try clear hk); (try clear hi)) | ((with_reducible refine gate_dst (N := 5) rfl ?_); refine box_event ?hg (N := 5) ?hd (cs := #[.int .u64 0]) (t := 53) ?hr ?_; (case hd => rfl); (case hg => rfl); (case hr => first | (go_simp; done) | (go_simp; rfl)); intro gb123 hg w8 hbox hb; have n0_ := Aside0.mk (below_step (by repeat (first | (with_reducible first | exact HB.out | apply below_alloc | apply pw_below_drewN | apply below_drew1) | exact HB.out)) hb); have n1_ := Aside0.mk (hbox); have n2_ := Aside0.mk ((by rw [hg]; exact (below_size (by repeat (first | (with_reducible first | exact HB.out | apply below_alloc | apply pw_below_drewN | apply below_drew1) | exact HB.out))) : w.heap.size ≤ gb123)); have n3_ := Aside0.mk ((by rw [hg]; exact (below_size (by repeat (first | (with_reducible first | exact HB.out | apply below_alloc | apply pw_below_drewN | apply below_drew1) | exact HB.out))) : w.heap.size ≤ gb123)); clear HB; have HB := n0_; have BK123 := n1_; have GW123 := n2_; have GE123 := n3_; clear n0_ n1_ n2_ n3_; clear hb hbox hg; have hcz9_0 : w8.cell? ⟨gb123, 0, none⟩ = some (.int .u64 0) := (blk_cell BK123.out 0).trans rfl; have hfz9_0 := blk_frozen BK123.out 0))
    go_loopg [6, 20] k (fun kq v6 v20 w' => ∃ (x6_1 : Int) (x20_1 : Int) (x124000_1 : Int), v6 = .int .u64 x6_1 ∧ v20 = .int .i64 x20_1 ∧ Aside0 (downhaullaw21_SneRound.l0 kq x6_1 l1 (l1.length : Int) x20_1 x124000_1 = some r) ∧ Aside0 (kq ≤ k) ∧ Aside0 (w'.heap[gb123]? = some (.cells #[.int .u64 x124000_1] 53 (0, 0))) ∧ Aside0 (Below w.heap.size w w'))
    case atStart => exact ⟨(IntKind.u64.wrap (a0)), (0), (t122), (by first | rfl | (simp; done) | (simp [*]; done)), (by first | rfl | (simp; done) | (simp [*]; done)), H', ⟨Nat.le_refl _⟩, ⟨by (with_reducible repeat (first | refine blk_drewN ?_ _ | refine blk_drew ?_ | refine blk_alloc ?_ _)); refine blk_put (cs := #[.int .u64 0]) ?_ 0 _ rfl; (with_reducible repeat (first | refine blk_drewN ?_ _ | refine blk_drew ?_ | refine blk_alloc ?_ _)); exact BK123.out⟩, ⟨by repeat (first | (with_reducible first | exact HB.out | apply below_alloc | apply pw_below_drewN | apply below_drew1 | refine below_set ?_ GE123.out) | exact HB.out)⟩⟩
    case round =>
      clear H'
      try clear c1
      try clear p2
      try clear c3
      try clear c3b0
      try clear c3b1
      try clear hcz9_0
      try clear hfz9_0
      obtain ⟨x6_1, x20_1, x124000_1, rfl, rfl, HA, HK1, BK123, HB⟩ := hrel
      cases gk with
      | zero => exact absurd HA.out (by simp [downhaullaw21_SneRound.l0])
      | succ k1 =>
        have H := HA.out
        clear HA
        simp only [downhaullaw21_SneRound.l0] at H
        by_cases c10 : x20_1 < (l1.length : Int)
        · rw [if_pos c10] at H
          have c10b0 : decide (x20_1 < (l1.length : Int)) = true := decide_eq_true c10
          clear c10
          by_cases c11 : 0 ≤ x20_1
          · rw [if_pos c11] at H
            have c11b0 : decide (0 ≤ x20_1) = true := decide_eq_true c11
            clear c11
            by_cases c12 : x20_1 < (l1.length : Int)
            · rw [if_pos c12] at H
              have c12b0 : decide (x20_1 < (l1.length : Int)) = true := decide_eq_true c12
              clear c12
              have HC13 := Aside0.mk H
              clear H
              have p125 : 0 ≤ (x20_1 : Int) := of_decide_eq_true (by first | (with_reducible assumption) | assumption)
              have q125 : x20_1 < (l1.length : Int) := of_decide_eq_true (by first | (with_reducible assumption) | assumption)
              obtain ⟨ad125, e125, hx125_0⟩ := Kd.at_int HR1.out x20_1 p125 q125
              cases e125
              replace hx125_0 := (HB.out.cell (World.block_lt_of_cell? w _ hx125_0)).trans hx125_0
              replace p125 := eq_true p125
              replace q125 := eq_true q125
              go_upto_region 8 with (fail)
              go_cut [37] (fun v37 wc => ∃ (kq : Nat) (x37_12 : Bool), v37 = .bool x37_12 ∧ Aside0 (downhaullaw21_SneRound.j1 kq x6_1 (rd l1 x20_1) l1 (l1.length : Int) x20_1 x37_12 x124000_1 = some r) ∧ Aside0 (kq ≤ k1) ∧ Aside0 (wc.heap[gb123]? = some (.cells #[.int .u64 x124000_1] 53 (0, 0))) ∧ Aside0 (Below w.heap.size w wc))
              case first =>
                have H := HC13.out
                clear HC13
                by_cases c14 : (rd l1 x20_1) = (-2147483648)
                · rw [if_pos c14] at H
                  have c14b0 : ((rd l1 x20_1) == (-2147483648)) = true := beq_iff_eq.mpr c14
                  have c14b1 : ((rd l1 x20_1) != (-2147483648)) = false := bne_eq_false_iff_eq.mpr c14
                  clear c14
                  (first | rw [c14b0] | (simp only [i64_w, i32_w]; rw [c14b0]) | skip)
                  have H' := Aside0.mk H
                  clear H
                  go_wp2
                  go_meet
                  case rel => exact ⟨_, (true), (by first | rfl | (simp; done) | (simp [*]; done)), H', ⟨by have := HK1.out; first | omega | exact Nat.le_refl _⟩, ⟨by (with_reducible repeat (first | refine blk_drewN ?_ _ | refine blk_drew ?_ | refine blk_alloc ?_ _)); exact BK123.out⟩, ⟨by repeat (first | (with_reducible first | exact HB.out | apply below_alloc | apply pw_below_drewN | apply below_drew1 | refine below_set ?_ GE123.out) | exact HB.out)⟩⟩
                · rw [if_neg c14] at H
                  have c14b0 : ((rd l1 x20_1) == (-2147483648)) = false := beq_eq_false_iff_ne.mpr c14
                  have c14b1 : ((rd l1 x20_1) != (-2147483648)) = true := bne_iff_ne.mpr c14
                  (first | rw [c14b0] | (simp only [i64_w, i32_w]; rw [c14b0]) | skip)
                  by_cases c15 : (rd l1 x20_1) < 0
                  · rw [if_pos c15] at H
                    have c15b0 : decide ((rd l1 x20_1) < 0) = true := decide_eq_true c15
                    clear c15
                    have H' := Aside0.mk H
                    clear H
                    go_wp2
                    go_meet
                    case rel => exact ⟨_, (decide ((IntKind.u64.wrap (wrap64 (-(wrap64 (rd l1 x20_1))))) > x6_1)), (by first | rfl | (simp; done) | (simp [*]; done)), H', ⟨by have := HK1.out; first | omega | exact Nat.le_refl _⟩, ⟨by (with_reducible repeat (first | refine blk_drewN ?_ _ | refine blk_drew ?_ | refine blk_alloc ?_ _)); exact BK123.out⟩, ⟨by repeat (first | (with_reducible first | exact HB.out | apply below_alloc | apply pw_below_drewN | apply below_drew1 | refine below_set ?_ GE123.out) | exact HB.out)⟩⟩
                  · rw [if_neg c15] at H
                    have c15b0 : decide ((rd l1 x20_1) < 0) = false := decide_eq_false c15
                    clear c15
                    have H' := Aside0.mk H
                    clear H
                    go_wp2
                    go_meet
                    case rel => exact ⟨_, (false), (by first | rfl | (simp; done) | (simp [*]; done)), H', ⟨by have := HK1.out; first | omega | exact Nat.le_refl _⟩, ⟨by (with_reducible repeat (first | refine blk_drewN ?_ _ | refine blk_drew ?_ | refine blk_alloc ?_ _)); exact BK123.out⟩, ⟨by repeat (first | (with_reducible first | exact HB.out | apply below_alloc | apply pw_below_drewN | apply below_drew1 | refine below_set ?_ GE123.out) | exact HB.out)⟩⟩
              case rest =>
                clear HC13
                try clear c1
                try clear p1
                try clear q1
                try clear hx1
                try clear p2
                try clear c3
                try clear c3b0
                try clear c3b1
                try clear p6
                try clear c10
                try clear c10b0
                try clear c11
                try clear c11b0
                try clear c12
                try clear c12b0
                try clear p12
                try clear q12
                try clear hx12
                try clear c14
                try clear c14b0
                try clear c14b1
                try clear c15
                try clear c15b0
                try clear hcz9_0
                try clear hfz9_0
                try clear hx125_0
                try clear p125
                try clear p2
                try clear q125
                obtain ⟨kq, x37_12, rfl, HA, HJ12, BK123, HB⟩ := hcut
                cases kq with
                | zero => exact absurd HA.out (by simp [downhaullaw21_SneRound.j1])
                | succ kj12 =>
                  have H := HA.out
                  clear HA
                  simp only [downhaullaw21_SneRound.j1] at H
                  by_cases c16 : x37_12 = true
                  · subst c16
                    have H1 : (downhaullaw21_SneRound.l0 kj12 x6_1 l1 (l1.length : Int) (wrap64 (x20_1 + 1)) x124000_1) = some r := by rw [if_pos rfl] at H; exact H
                    clear H
                    have H := H1
                    clear H1
                    have H' := Aside0.mk H
                    clear H
                    go_wp2
                    go_roundg kj12
                    case measure => have := HK1.out; have := HJ12.out; omega
                    case rel => exact ⟨(x6_1), (wrap64 (x20_1 + 1)), (x124000_1), (by first | rfl | (simp; done) | (simp [*]; done)), (by first | rfl | (simp; done) | (simp [*]; done)), H', ⟨by have := HK1.out; have := HJ12.out; omega⟩, ⟨by (with_reducible repeat (first | refine blk_drewN ?_ _ | refine blk_drew ?_ | refine blk_alloc ?_ _)); exact BK123.out⟩, ⟨by repeat (first | (with_reducible first | exact HB.out | apply below_alloc | apply pw_below_drewN | apply below_drew1 | refine below_set ?_ GE123.out) | exact HB.out)⟩⟩
                  · replace c16 := Bool.eq_false_iff.mpr c16
                    subst c16
                    have H1 : ((sne_Tracker_Long.f kj12 x124000_1 ((IntKind.u64.wrap (x6_1 + (IntKind.u64.wrap (wrap64 ((rd l1 x20_1)))))) % 4294967296)).bind fun t126 => (if t126 = (IntKind.u64.wrap (x6_1 + (IntKind.u64.wrap (wrap64 ((rd l1 x20_1)))))) then ((sne_Tracker_Of.f kj12 x124000_1 ((IntKind.u64.wrap (x6_1 + (IntKind.u64.wrap (wrap64 ((rd l1 x20_1)))))) % 4294967296)).bind fun t127 => (downhaullaw21_SneRound.j2 kj12 x6_1 (IntKind.u64.wrap (x6_1 + (IntKind.u64.wrap (wrap64 ((rd l1 x20_1)))))) l1 (l1.length : Int) x20_1 (t127 != (((IntKind.u64.wrap (x6_1 + (IntKind.u64.wrap (wrap64 ((rd l1 x20_1)))))) / 4294967296) % 4294967296)) x124000_1)) else (downhaullaw21_SneRound.j2 kj12 x6_1 (IntKind.u64.wrap (x6_1 + (IntKind.u64.wrap (wrap64 ((rd l1 x20_1)))))) l1 (l1.length : Int) x20_1 true x124000_1))) = some r := by rw [if_neg (show ¬ (false = true) by decide)] at H; exact H
                    clear H
                    have H := H1
                    clear H1
                    have HC17 := Aside0.mk H
                    clear H
                    go_upto_region 10 with (fail)
                    go_cut [58] (fun v58 wc => ∃ (kq : Nat) (x58_16 : Bool), v58 = .bool x58_16 ∧ Aside0 (downhaullaw21_SneRound.j2 kq x6_1 (IntKind.u64.wrap (x6_1 + (IntKind.u64.wrap (wrap64 ((rd l1 x20_1)))))) l1 (l1.length : Int) x20_1 x58_16 x124000_1 = some r) ∧ Aside0 (kq ≤ kj12) ∧ Aside0 (wc.heap[gb123]? = some (.cells #[.int .u64 x124000_1] 53 (0, 0))) ∧ Aside0 (Below w.heap.size w wc))
                    case first =>
                      have H := HC17.out
                      clear HC17
                      replace H := Option.bind_eq_some_iff.mp H
                      obtain ⟨t126, A180, H⟩ := H
                      replace H : (if t126 = (IntKind.u64.wrap (x6_1 + (IntKind.u64.wrap (wrap64 ((rd l1 x20_1)))))) then ((sne_Tracker_Of.f kj12 x124000_1 ((IntKind.u64.wrap (x6_1 + (IntKind.u64.wrap (wrap64 ((rd l1 x20_1)))))) % 4294967296)).bind fun t127 => (downhaullaw21_SneRound.j2 kj12 x6_1 (IntKind.u64.wrap (x6_1 + (IntKind.u64.wrap (wrap64 ((rd l1 x20_1)))))) l1 (l1.length : Int) x20_1 (t127 != (((IntKind.u64.wrap (x6_1 + (IntKind.u64.wrap (wrap64 ((rd l1 x20_1)))))) / 4294967296) % 4294967296)) x124000_1)) else (downhaullaw21_SneRound.j2 kj12 x6_1 (IntKind.u64.wrap (x6_1 + (IntKind.u64.wrap (wrap64 ((rd l1 x20_1)))))) l1 (l1.length : Int) x20_1 true x124000_1)) = some r := H
                      have A18 := Aside0.mk A180
                      clear A180
                      by_cases c19 : t126 = (IntKind.u64.wrap (x6_1 + (IntKind.u64.wrap (wrap64 ((rd l1 x20_1))))))
                      · rw [if_pos c19] at H
                        have c19b0 : (t126 == (IntKind.u64.wrap (x6_1 + (IntKind.u64.wrap (wrap64 ((rd l1 x20_1))))))) = true := beq_iff_eq.mpr c19
                        have c19b1 : (t126 != (IntKind.u64.wrap (x6_1 + (IntKind.u64.wrap (wrap64 ((rd l1 x20_1))))))) = false := bne_eq_false_iff_eq.mpr c19
                        clear c19
                        (first | rw [c19b0] | (simp only [i64_w, i32_w]; rw [c19b0]) | skip)
                        replace H := Option.bind_eq_some_iff.mp H
                        obtain ⟨t127, A200, H⟩ := H
                        replace H : (downhaullaw21_SneRound.j2 kj12 x6_1 (IntKind.u64.wrap (x6_1 + (IntKind.u64.wrap (wrap64 ((rd l1 x20_1)))))) l1 (l1.length : Int) x20_1 (t127 != (((IntKind.u64.wrap (x6_1 + (IntKind.u64.wrap (wrap64 ((rd l1 x20_1)))))) / 4294967296) % 4294967296)) x124000_1) = some r := H
                        have A20 := Aside0.mk A200
                        clear A200
                        have H' := Aside0.mk H
                        clear H
                        have hcz21_0 : wc.cell? ⟨gb123, 0, none⟩ = some (.int .u64 x124000_1) := (blk_cell BK123.out 0).trans rfl
                        have hfz21_0 := blk_frozen BK123.out 0
                        go_wp2_with (first | ((with_reducible refine gate_callee (f := 43) rfl ?_); refine goesL_ (some 46) rfl rfl Try.func43 (by kernel_rfl) rfl #[.agg #[.int .u64 x124000_1], .int .u32 ((IntKind.u64.wrap (x6_1 + (IntKind.u64.wrap (wrap64 ((rd l1 x20_1)))))) % 4294967296)] rfl (by (try simp only [List.map_toArray, List.map_cons, List.map_nil]); first | done | rfl | (simp only [List.length_drop, List.length_take]; rfl)) ?_; (with_reducible refine (sne_Tracker_Long.calls kj12 x124000_1 ((IntKind.u64.wrap (x6_1 + (IntKind.u64.wrap (wrap64 ((rd l1 x20_1)))))) % 4294967296) t126 _ A18.out).mono ?_); rintro e w22 ⟨rfl, hb⟩; refine ⟨_, rfl, ?_⟩; have n0_ := Aside0.mk (blk_below (g := gb123) (o := .cells #[.int .u64 x124000_1] 53 (0, 0)) (by (with_reducible repeat (first | refine blk_drewN ?_ _ | refine blk_drew ?_ | refine blk_alloc ?_ _)); exact BK123.out) hb); have n1_ := Aside0.mk (below_step (by repeat (first | (with_reducible first | exact HB.out | apply below_alloc | apply pw_below_drewN | apply below_drew1 | refine below_set ?_ GE123.out) | exact HB.out)) hb); clear BK123; clear HB; have BK123 := n0_; have HB := n1_; clear n0_ n1_; (try clear hb); (try clear hb2); (try clear hk); (try clear hi); have hcz23_0 : w22.cell? ⟨gb123, 0, none⟩ = some (.int .u64 x124000_1) := (blk_cell BK123.out 0).trans rfl; have hfz23_0 := blk_frozen BK123.out 0) | (go_at_call 44; (with_reducible refine (sne_Tracker_Of.calls kj12 x124000_1 ((IntKind.u64.wrap (x6_1 + (IntKind.u64.wrap (wrap64 ((rd l1 x20_1)))))) % 4294967296) t127 _ A20.out).mono ?_); rintro e w24 ⟨rfl, hb⟩; have n0_ := Aside0.mk (blk_below (g := gb123) (o := .cells #[.int .u64 x124000_1] 53 (0, 0)) (by (with_reducible repeat (first | refine blk_drewN ?_ _ | refine blk_drew ?_ | refine blk_alloc ?_ _)); exact BK123.out) hb); have n1_ := Aside0.mk (below_step (by repeat (first | (with_reducible first | exact HB.out | apply below_alloc | apply pw_below_drewN | apply below_drew1 | refine below_set ?_ GE123.out) | exact HB.out)) hb); clear BK123; clear HB; have BK123 := n0_; have HB := n1_; clear n0_ n1_; (try clear hb); (try clear hb2); (try clear hk); (try clear hi)))
                        go_meet
                        case rel => exact ⟨_, ((t127 != (((IntKind.u64.wrap (x6_1 + (IntKind.u64.wrap (wrap64 ((rd l1 x20_1)))))) / 4294967296) % 4294967296))), (by first | rfl | (simp; done) | (simp [*]; done)), H', ⟨by have := HK1.out; have := HJ12.out; first | omega | exact Nat.le_refl _⟩, ⟨by (with_reducible repeat (first | refine blk_drewN ?_ _ | refine blk_drew ?_ | refine blk_alloc ?_ _)); exact BK123.out⟩, ⟨by repeat (first | (with_reducible first | exact HB.out | apply below_alloc | apply pw_below_drewN | apply below_drew1 | refine below_set ?_ GE123.out) | exact HB.out)⟩⟩
                      · rw [if_neg c19] at H
                        have c19b0 : (t126 == (IntKind.u64.wrap (x6_1 + (IntKind.u64.wrap (wrap64 ((rd l1 x20_1))))))) = false := beq_eq_false_iff_ne.mpr c19
                        have c19b1 : (t126 != (IntKind.u64.wrap (x6_1 + (IntKind.u64.wrap (wrap64 ((rd l1 x20_1))))))) = true := bne_iff_ne.mpr c19
                        (first | rw [c19b0] | (simp only [i64_w, i32_w]; rw [c19b0]) | skip)
                        have H' := Aside0.mk H
                        clear H
                        have hcz25_0 : wc.cell? ⟨gb123, 0, none⟩ = some (.int .u64 x124000_1) := (blk_cell BK123.out 0).trans rfl
                        have hfz25_0 := blk_frozen BK123.out 0
                        go_wp2_with (first | ((with_reducible refine gate_callee (f := 43) rfl ?_); refine goesL_ (some 46) rfl rfl Try.func43 (by kernel_rfl) rfl #[.agg #[.int .u64 x124000_1], .int .u32 ((IntKind.u64.wrap (x6_1 + (IntKind.u64.wrap (wrap64 ((rd l1 x20_1)))))) % 4294967296)] rfl (by (try simp only [List.map_toArray, List.map_cons, List.map_nil]); first | done | rfl | (simp only [List.length_drop, List.length_take]; rfl)) ?_; (with_reducible refine (sne_Tracker_Long.calls kj12 x124000_1 ((IntKind.u64.wrap (x6_1 + (IntKind.u64.wrap (wrap64 ((rd l1 x20_1)))))) % 4294967296) t126 _ A18.out).mono ?_); rintro e w26 ⟨rfl, hb⟩; refine ⟨_, rfl, ?_⟩; have n0_ := Aside0.mk (blk_below (g := gb123) (o := .cells #[.int .u64 x124000_1] 53 (0, 0)) (by (with_reducible repeat (first | refine blk_drewN ?_ _ | refine blk_drew ?_ | refine blk_alloc ?_ _)); exact BK123.out) hb); have n1_ := Aside0.mk (below_step (by repeat (first | (with_reducible first | exact HB.out | apply below_alloc | apply pw_below_drewN | apply below_drew1 | refine below_set ?_ GE123.out) | exact HB.out)) hb); clear BK123; clear HB; have BK123 := n0_; have HB := n1_; clear n0_ n1_; (try clear hb); (try clear hb2); (try clear hk); (try clear hi)))
                        go_meet
                        case rel => exact ⟨_, (true), (by first | rfl | (simp; done) | (simp [*]; done)), H', ⟨by have := HK1.out; have := HJ12.out; first | omega | exact Nat.le_refl _⟩, ⟨by (with_reducible repeat (first | refine blk_drewN ?_ _ | refine blk_drew ?_ | refine blk_alloc ?_ _)); exact BK123.out⟩, ⟨by repeat (first | (with_reducible first | exact HB.out | apply below_alloc | apply pw_below_drewN | apply below_drew1 | refine below_set ?_ GE123.out) | exact HB.out)⟩⟩
                    case rest =>
                      clear HC17
                      try clear c1
                      try clear p1
                      try clear q1
                      try clear hx1
                      try clear p2
                      try clear c3
                      try clear c3b0
                      try clear c3b1
                      try clear c4
                      try clear p6
                      try clear c10
                      try clear c10b0
                      try clear c11
                      try clear c11b0
                      try clear c12
                      try clear c12b0
                      try clear p12
                      try clear q12
                      try clear hx12
                      try clear c14
                      try clear c14b0
                      try clear c14b1
                      try clear c15
                      try clear c15b0
                      try clear c16
                      try clear c19
                      try clear c19b0
                      try clear c19b1
                      try clear hcz21_0
                      try clear hcz23_0
                      try clear hcz25_0
                      try clear hcz9_0
                      try clear hfz21_0
                      try clear hfz23_0
                      try clear hfz25_0
                      try clear hfz9_0
                      try clear hx125_0
                      try clear p1
                      try clear p12
                      try clear p125
                      try clear p2
                      try clear p6
                      try clear q1
                      try clear q12
                      try clear q125
                      obtain ⟨kq, x58_16, rfl, HA, HJ16, BK123, HB⟩ := hcut
                      cases kq with
                      | zero => exact absurd HA.out (by simp [downhaullaw21_SneRound.j2])
                      | succ kj16 =>
                        have H := HA.out
                        clear HA
                        simp only [downhaullaw21_SneRound.j2] at H
                        by_cases c27 : x58_16 = true
                        · subst c27
                          have H1 : (some false) = some r := by rw [if_pos rfl] at H; exact H
                          clear H
                          have H := H1
                          clear H1
                          obtain rfl := Option.some.inj H
                          go_wp2
                          go_ret
                          exact ⟨by first | rfl | (simp [errW_none, errW_some] <;> rfl) | (simp [*, errW_none, errW_some] <;> rfl), by repeat (first | (with_reducible first | exact HB.out | apply below_alloc | apply pw_below_drewN | apply below_drew1 | refine below_set ?_ GE123.out) | exact HB.out)⟩
                        · replace c27 := Bool.eq_false_iff.mpr c27
                          subst c27
                          have H1 : ((sne_Tracker_Seen.f kj16 x124000_1 (((IntKind.u64.wrap (x6_1 + (IntKind.u64.wrap (wrap64 ((rd l1 x20_1))))))) % 4294967296)).bind fun t128 => ((sne_Tracker_Now.f t128).bind fun t129 => (if t129 = (mx x6_1 (IntKind.u64.wrap (x6_1 + (IntKind.u64.wrap (wrap64 ((rd l1 x20_1))))))) then (downhaullaw21_SneRound.l0 kj16 (mx x6_1 (IntKind.u64.wrap (x6_1 + (IntKind.u64.wrap (wrap64 ((rd l1 x20_1))))))) l1 (l1.length : Int) (wrap64 (x20_1 + 1)) t128) else (some false)))) = some r := by rw [if_neg (show ¬ (false = true) by decide)] at H; exact H
                          clear H
                          have H := H1
                          clear H1
                          replace H := Option.bind_eq_some_iff.mp H
                          obtain ⟨t128, A280, H⟩ := H
                          replace H : ((sne_Tracker_Now.f t128).bind fun t129 => (if t129 = (mx x6_1 (IntKind.u64.wrap (x6_1 + (IntKind.u64.wrap (wrap64 ((rd l1 x20_1))))))) then (downhaullaw21_SneRound.l0 kj16 (mx x6_1 (IntKind.u64.wrap (x6_1 + (IntKind.u64.wrap (wrap64 ((rd l1 x20_1))))))) l1 (l1.length : Int) (wrap64 (x20_1 + 1)) t128) else (some false))) = some r := H
                          have A28 := Aside0.mk A280
                          clear A280
                          obtain ⟨ji29, hji29⟩ : ∃ j_ : Int, (mx x6_1 (IntKind.u64.wrap (x6_1 + (IntKind.u64.wrap (wrap64 ((rd l1 x20_1))))))) = j_ := ⟨_, rfl⟩
                          replace H : ((sne_Tracker_Now.f t128).bind fun t129 => (if t129 = (ji29) then (downhaullaw21_SneRound.l0 kj16 ji29 l1 (l1.length : Int) (wrap64 (x20_1 + 1)) t128) else (some false))) = some r := by first | (rw [hji29] at H; exact H) | (simp only [hji29] at H ⊢; exact H)
                          (try rw [hji29] at A28)
                          have hji29_ : (if x6_1 < (IntKind.u64.wrap (x6_1 + (IntKind.u64.wrap (wrap64 ((rd l1 x20_1)))))) then (IntKind.u64.wrap (x6_1 + (IntKind.u64.wrap (wrap64 ((rd l1 x20_1)))))) else x6_1) = ji29 := hji29
                          replace H := Option.bind_eq_some_iff.mp H
                          obtain ⟨t129, A300, H⟩ := H
                          replace H : (if t129 = (ji29) then (downhaullaw21_SneRound.l0 kj16 ji29 l1 (l1.length : Int) (wrap64 (x20_1 + 1)) t128) else (some false)) = some r := H
                          have A30 := Aside0.mk A300
                          clear A300
                          by_cases c31 : t129 = (ji29)
                          · rw [if_pos c31] at H
                            have c31b0 : (t129 == (ji29)) = true := beq_iff_eq.mpr c31
                            have c31b1 : (t129 != (ji29)) = false := bne_eq_false_iff_eq.mpr c31
                            clear c31
                            have H' := Aside0.mk H
                            clear H
                            have hcz32_0 : wc.cell? ⟨gb123, 0, none⟩ = some (.int .u64 x124000_1) := (blk_cell BK123.out 0).trans rfl
                            have hfz32_0 := blk_frozen BK123.out 0
                            go_wp2_with (first | ((with_reducible refine gate_callee (f := 40) rfl ?_); refine goesL_ (some 62) rfl rfl Try.func40 (by kernel_rfl) rfl #[.agg #[.int .u64 x124000_1], .int .u32 (((IntKind.u64.wrap (x6_1 + (IntKind.u64.wrap (wrap64 ((rd l1 x20_1))))))) % 4294967296)] rfl (by (try simp only [List.map_toArray, List.map_cons, List.map_nil]); first | done | rfl | (simp only [List.length_drop, List.length_take]; rfl)) ?_; (with_reducible refine (sne_Tracker_Seen.calls kj16 x124000_1 (((IntKind.u64.wrap (x6_1 + (IntKind.u64.wrap (wrap64 ((rd l1 x20_1))))))) % 4294967296) t128 _ A28.out).mono ?_); rintro e w33 ⟨rfl, hb⟩; refine ⟨_, rfl, ?_⟩; have n0_ := Aside0.mk (blk_below (g := gb123) (o := .cells #[.int .u64 x124000_1] 53 (0, 0)) (by (with_reducible repeat (first | refine blk_drewN ?_ _ | refine blk_drew ?_ | refine blk_alloc ?_ _)); exact BK123.out) hb); have n1_ := Aside0.mk (below_step (by repeat (first | (with_reducible first | exact HB.out | apply below_alloc | apply pw_below_drewN | apply below_drew1 | refine below_set ?_ GE123.out) | exact HB.out)) hb); clear BK123; clear HB; have BK123 := n0_; have HB := n1_; clear n0_ n1_; (try clear hb); (try clear hb2); (try clear hk); (try clear hi); have hcz34_0 : w33.cell? ⟨gb123, 0, none⟩ = some (.int .u64 x124000_1) := (blk_cell BK123.out 0).trans rfl; have hfz34_0 := blk_frozen BK123.out 0) | ((with_reducible refine gate_callee (f := 42) rfl ?_); refine goesL_ (some 67) rfl rfl Try.func42 (by kernel_rfl) rfl #[.agg #[.int .u64 t128]] rfl (by (try simp only [List.map_toArray, List.map_cons, List.map_nil]); first | done | rfl | (simp only [List.length_drop, List.length_take]; rfl)) ?_; (with_reducible refine (sne_Tracker_Now.calls t128 t129 _ A30.out).mono ?_); rintro e w35 ⟨rfl, hb⟩; refine ⟨_, rfl, ?_⟩; have n0_ := Aside0.mk (blk_below (g := gb123) (o := .cells #[.int .u64 t128] 53 (0, 0)) (by (with_reducible repeat (first | refine blk_drewN ?_ _ | refine blk_drew ?_ | refine blk_alloc ?_ _)); refine blk_put (cs := #[.int .u64 x124000_1]) ?_ 0 _ rfl; (with_reducible repeat (first | refine blk_drewN ?_ _ | refine blk_drew ?_ | refine blk_alloc ?_ _)); exact BK123.out) hb); have n1_ := Aside0.mk (below_step (by repeat (first | (with_reducible first | exact HB.out | apply below_alloc | apply pw_below_drewN | apply below_drew1 | refine below_set ?_ GE123.out) | exact HB.out)) hb); clear BK123; clear HB; have BK123 := n0_; have HB := n1_; clear n0_ n1_; (try clear hb); (try clear hb2); (try clear hk); (try clear hi)))
                            go_roundg kj16
                            case measure => have := HK1.out; have := HJ12.out; have := HJ16.out; omega
                            case rel => exact ⟨(ji29), (wrap64 (x20_1 + 1)), (t128), (by first | rfl | (simp; done) | (simp only [← hji29] <;> (first | rfl | simp)) | (simp [*]; done)), (by first | rfl | (simp; done) | (simp [*]; done)), H', ⟨by have := HK1.out; have := HJ12.out; have := HJ16.out; omega⟩, ⟨by (with_reducible repeat (first | refine blk_drewN ?_ _ | refine blk_drew ?_ | refine blk_alloc ?_ _)); exact BK123.out⟩, ⟨by repeat (first | (with_reducible first | exact HB.out | apply below_alloc | apply pw_below_drewN | apply below_drew1 | refine below_set ?_ GE123.out) | exact HB.out)⟩⟩
                          · rw [if_neg c31] at H
                            have c31b0 : (t129 == (ji29)) = false := beq_eq_false_iff_ne.mpr c31
                            have c31b1 : (t129 != (ji29)) = true := bne_iff_ne.mpr c31
                            obtain rfl := Option.some.inj H
                            have hcz36_0 : wc.cell? ⟨gb123, 0, none⟩ = some (.int .u64 x124000_1) := (blk_cell BK123.out 0).trans rfl
                            have hfz36_0 := blk_frozen BK123.out 0
                            go_wp2_with (first | ((with_reducible refine gate_callee (f := 40) rfl ?_); refine goesL_ (some 62) rfl rfl Try.func40 (by kernel_rfl) rfl #[.agg #[.int .u64 x124000_1], .int .u32 (((IntKind.u64.wrap (x6_1 + (IntKind.u64.wrap (wrap64 ((rd l1 x20_1))))))) % 4294967296)] rfl (by (try simp only [List.map_toArray, List.map_cons, List.map_nil]); first | done | rfl | (simp only [List.length_drop, List.length_take]; rfl)) ?_; (with_reducible refine (sne_Tracker_Seen.calls kj16 x124000_1 (((IntKind.u64.wrap (x6_1 + (IntKind.u64.wrap (wrap64 ((rd l1 x20_1))))))) % 4294967296) t128 _ A28.out).mono ?_); rintro e w37 ⟨rfl, hb⟩; refine ⟨_, rfl, ?_⟩; have n0_ := Aside0.mk (blk_below (g := gb123) (o := .cells #[.int .u64 x124000_1] 53 (0, 0)) (by (with_reducible repeat (first | refine blk_drewN ?_ _ | refine blk_drew ?_ | refine blk_alloc ?_ _)); exact BK123.out) hb); have n1_ := Aside0.mk (below_step (by repeat (first | (with_reducible first | exact HB.out | apply below_alloc | apply pw_below_drewN | apply below_drew1 | refine below_set ?_ GE123.out) | exact HB.out)) hb); clear BK123; clear HB; have BK123 := n0_; have HB := n1_; clear n0_ n1_; (try clear hb); (try clear hb2); (try clear hk); (try clear hi); have hcz38_0 : w37.cell? ⟨gb123, 0, none⟩ = some (.int .u64 x124000_1) := (blk_cell BK123.out 0).trans rfl; have hfz38_0 := blk_frozen BK123.out 0) | ((with_reducible refine gate_callee (f := 42) rfl ?_); refine goesL_ (some 67) rfl rfl Try.func42 (by kernel_rfl) rfl #[.agg #[.int .u64 t128]] rfl (by (try simp only [List.map_toArray, List.map_cons, List.map_nil]); first | done | rfl | (simp only [List.length_drop, List.length_take]; rfl)) ?_; (with_reducible refine (sne_Tracker_Now.calls t128 t129 _ A30.out).mono ?_); rintro e w39 ⟨rfl, hb⟩; refine ⟨_, rfl, ?_⟩; have n0_ := Aside0.mk (blk_below (g := gb123) (o := .cells #[.int .u64 t128] 53 (0, 0)) (by (with_reducible repeat (first | refine blk_drewN ?_ _ | refine blk_drew ?_ | refine blk_alloc ?_ _)); refine blk_put (cs := #[.int .u64 x124000_1]) ?_ 0 _ rfl; (with_reducible repeat (first | refine blk_drewN ?_ _ | refine blk_drew ?_ | refine blk_alloc ?_ _)); exact BK123.out) hb); have n1_ := Aside0.mk (below_step (by repeat (first | (with_reducible first | exact HB.out | apply below_alloc | apply pw_below_drewN | apply below_drew1 | refine below_set ?_ GE123.out) | exact HB.out)) hb); clear BK123; clear HB; have BK123 := n0_; have HB := n1_; clear n0_ n1_; (try clear hb); (try clear hb2); (try clear hk); (try clear hi)))
                            go_ret
                            exact ⟨by first | rfl | (simp [errW_none, errW_some] <;> rfl) | (simp only [← hji29]; first | rfl | (simp [errW_none, errW_some] <;> rfl)) | (simp [*, errW_none, errW_some] <;> rfl), by repeat (first | (with_reducible first | exact HB.out | apply below_alloc | apply pw_below_drewN | apply below_drew1 | refine below_set ?_ GE123.out) | exact HB.out)⟩
            · rw [if_neg c12] at H
              exact absurd H (by simp)
          · rw [if_neg c11] at H
            exact absurd H (by simp)
        · rw [if_neg c10] at H
          have c10b0 : decide (x20_1 < (l1.length : Int)) = false := decide_eq_false c10
          clear c10
          replace H := Option.bind_eq_some_iff.mp H
          obtain ⟨t124, A400, H⟩ := H
          replace H : (some t124) = some r := H
          have A40 := Aside0.mk A400
          clear A400
          obtain rfl := Option.some.inj H
          go_wp2_with (first | ((with_reducible refine gate_callee (f := 38) rfl ?_); refine goesL_ (some 71) rfl rfl Try.func38 (by kernel_rfl) rfl #[] rfl (by (try simp only [List.map_toArray, List.map_cons, List.map_nil]); first | done | rfl | (simp only [List.length_drop, List.length_take]; rfl)) ?_; (with_reducible refine (downhaullaw21_alive.calls k1  t124 _ A40.out).mono ?_); rintro e w41 ⟨rfl, hb⟩; refine ⟨_, rfl, ?_⟩; have n0_ := Aside0.mk (blk_below (g := gb123) (o := .cells #[.int .u64 x124000_1] 53 (0, 0)) (by (with_reducible repeat (first | refine blk_drewN ?_ _ | refine blk_drew ?_ | refine blk_alloc ?_ _)); exact BK123.out) hb); have n1_ := Aside0.mk (below_step (by repeat (first | (with_reducible first | exact HB.out | apply below_alloc | apply pw_below_drewN | apply below_drew1 | refine below_set ?_ GE123.out) | exact HB.out)) hb); clear BK123; clear HB; have BK123 := n0_; have HB := n1_; clear n0_ n1_; (try clear hb); (try clear hb2); (try clear hk); (try clear hi)))
          go_ret
          exact ⟨by first | rfl | (simp [errW_none, errW_some] <;> rfl) | (simp [*, errW_none, errW_some] <;> rfl), by repeat (first | (with_reducible first | exact HB.out | apply below_alloc | apply pw_below_drewN | apply below_drew1 | refine below_set ?_ GE123.out) | exact HB.out)⟩

/-- THE ONE PURE STATEMENT of downhaullaw21_SneRound: yours. -/
def downhaullaw21_SneRound.Pure : Prop := ∀ (a0 : Int) (l1 : List Int), (Lit.int .u32 a0).wf = true → l1.length ≤ maxLen → l1.length * 4 ≤ 140737488351232 → (∀ x ∈ l1, (Lit.int .i32 x).wf = true) → ∃ k, downhaullaw21_SneRound.f k a0 l1 = some true
theorem downhaullaw21_SneRound.walk (P : downhaullaw21_SneRound.Pure) (a0 : Int) (a1 : Option Addr) (len1 cap1 : Nat) (z1 : List Int) (w : World) (w0 : (Lit.int .u32 a0).wf = true) (w1 : (a1 = none ∧ len1 = 0 ∧ cap1 = 0 ∧ z1 = []) ∨ ∃ x, a1 = some x ∧ len1 ≤ cap1 ∧ cap1 ≤ maxLen ∧ z1.length = cap1 ∧ (∀ i, i < z1.length → w.cell? (x.add i) = some (.int .i32 (z1.getD i 0))) ∧ ∀ n ∈ z1, (Lit.int .i32 n).wf = true) (y1 : len1 * 4 ≤ 140737488351232) :
    Calls Try.prog 12 #[.int .u32 a0, .slice a1 len1 cap1] w fun e w' => e = .returned (.bool true) ∧ Below w.heap.size w w' := by
  obtain ⟨l1, rfl, hr1, hm1, hw1, hc1⟩ := ReadsInt.ofRowC w1
  obtain ⟨k, h⟩ := P a0 l1 w0 hm1 y1 hw1
  refine (downhaullaw21_SneRound.calls k a0 _ _ l1 true w (Kd.C_of_reads (d := (0 : Int)) (h1 := fun _ => rfl) hr1) hc1 h).mono ?_
  rintro e w' ⟨rfl, hd⟩
  exact ⟨rfl, hd⟩

end Go.Proofs.Ytfkiagnehomefaa.PSneRound
