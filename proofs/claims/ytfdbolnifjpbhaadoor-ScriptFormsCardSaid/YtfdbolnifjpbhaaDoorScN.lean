/- script: Show: the walk. -/
import Derived.Test.YtfdbolnifjpbhaaDoorScL
namespace Go.Proofs.YtfdbolnifjpbhaaDoor
set_option linter.unusedVariables false
set_option linter.unusedSimpArgs false
open Go.RowKit

set_option maxRecDepth 100000 in
set_option maxHeartbeats 16000000 in
theorem show_any (va : Value) (ms : List ActM) (w : World) (hr : RdA w va ms) (hz : ∀ m ∈ ms, SzA m.a) (htab : Lib.TabBelow Tryd.prog w.heap.size w "internal/strconv.uint64pow10" .u64 Lib.pow10Tab) :
    Calls Tryd.prog 8 #[va] w fun e w' => e = .returned (.tuple #[.string (showT (ms.map (·.a))), .int .i64 (showE (ms.map (·.a)))]) ∧ Below w.heap.size w w' := by
  obtain ⟨A, c, rfl⟩ := hr.1.form
  have HR := Lib.hid hr
  have HZ := Lib.hid hz
  have HT := Lib.hid htab
  obtain ⟨acts, hacts⟩ : ∃ acts, ms.map (·.a) = acts := ⟨_, rfl⟩
  have hlen : acts.length = ms.length := by rw [← hacts, List.length_map]
  have HGET := Lib.hid (show ∀ k, k < ms.length → acts.getD k zeroA = (ms.getD k zeroM).a from fun k hk => by
    rw [← hacts, List.getD_eq_getElem?_getD, List.getElem?_map, List.getD_eq_getElem?_getD, List.getElem?_eq_getElem hk]
    rfl)
  rw [hacts]
  obtain ⟨n, hn⟩ : ∃ n, ms.length = n := ⟨_, rfl⟩
  rw [hn] at hlen HR HGET ⊢
  have HN := Lib.hid hn
  have HLEN := Lib.hid hlen
  have hmx : n ≤ 9223372036854775807 := by
    rcases hr.1 with ⟨rfl, _⟩ | ⟨b, o, c, _, h1, h2, _⟩
    · simp at hn; omega
    · rw [hn] at h1; unfold maxLen at h2; omega
  clear hr hz hacts hn htab
  by_cases h256 : n ≤ 256
  · have d0 : decide ((256 : Int) < (n : Int)) = false := decide_eq_false (by omega)
    have d0' : (256 < n) = False := eq_false (by omega)
    have H256 := Lib.hid h256
    have W0 := Lib.hid (show Wr w.heap.size w (.slice none 0 0) (actsB (acts.take 0)) w from ⟨World.ownsRow_nil _ _ _ _, Below.refl _ _, Lib.OthersKept.refl _ _ _⟩)
    go_enter Tryd.func8, Tryd.ntmps8
    go_wp2_with fail
    go_loopw [4, 12] (fun v4 i wr => ∃ k : Nat, k ≤ n ∧ i = .int .i64 k ∧ Wr w.heap.size w v4 (actsB (acts.take k)) wr ∧ (∀ j, j < k → mayR (acts.getD j zeroA) = true)) (fun _ i _ => (n - intOf i).toNat)
    case atStart => exact ⟨0, by omega, rfl, W0.out, fun j hj => absurd hj (by omega)⟩
    case round =>
      obtain ⟨k, hk, rfl, hw, hall⟩ := hrel
      obtain ⟨S0, s0, rfl⟩ := (Own.of hw.own).slice
      have HW := Lib.hid hw
      have HALL := Lib.hid hall
      clear hw hall d0 d0' W0
      by_cases hlt : k < n
      · have hlt2 : (k : Int) < (n : Int) := by omega
        have HRW := Lib.hid (HR.out.below HW.out.bl)
        obtain ⟨b, o, c', hv, _, _, hcc⟩ := HRW.out.1.pos (by rw [HN.out]; omega)
        rw [HN.out] at hv hcc
        obtain ⟨rfl, rfl⟩ := Value.slice.inj hv |> fun h => And.intro h.1 h.2.2
        obtain ⟨g0, g1, g2, g3, g4, g5, g6, g7, g8⟩ := hcc k hlt
        have hmem : ms.getD k zeroM ∈ ms := getD_memM (by rw [HN.out]; exact hlt)
        have hokm := HRW.out.2 _ hmem
        have hokw := HR.out.2 _ hmem
        have hszm := HZ.out _ hmem
        have hget := HGET.out k hlt
        obtain ⟨m, hm⟩ : ∃ m, ms.getD k zeroM = m := ⟨_, rfl⟩
        rw [hm] at g0 g1 g2 g3 g4 g5 g6 g7 g8 hokm hokw hszm hget
        have HLT := Lib.hid hlt
        have HGK := Lib.hid hget
        have MAY := Lib.hid (fun (W : World) (ho : OkM W m) => may_any m W ho hszm)
        have OK1 := Lib.hid (hokm.below (Bl.alloc (Below.refl wr.heap.size wr) (Obj.cells #[.int .i64 m.a.k, .string m.a.key, .string m.a.val, .int .i64 m.a.pl, .int .i64 m.a.wd, .int .i64 m.a.ls, .string m.a.mask, m.bv, m.rv] 38)))
        have SI1 := Lib.hid (show ShI w wr.heap.size m (.slice S0 (actsB (acts.take k)).length s0) (actsB (acts.take k)) (wr.alloc (Obj.cells #[.int .i64 m.a.k, .string m.a.key, .string m.a.val, .int .i64 m.a.pl, .int .i64 m.a.wd, .int .i64 m.a.ls, .string m.a.mask, m.bv, m.rv] 38)) from ⟨HW.out.alloc HW.out.bl.size _, (Box9.new wr m).lower HW.out.bl.size, hokw⟩)
        obtain ⟨mb, hmb⟩ : ∃ b, mayR m.a = b := ⟨_, rfl⟩
        rw [may_eq, hmb] at MAY
        have HMB := Lib.hid hmb
        clear hv hcc hm hmem hokm hokw hszm hget hmb
        obtain ⟨⟨ak, key, val, pl, wd, ls, mask, busy, reads⟩, bv, rv⟩ := m
        simp only at g0 g1 g2 g3 g4 g5 g6
        have hbv := OK1.out.1.form
        have hrv := OK1.out.2.form
        simp only at hbv hrv
        obtain ⟨bA, bc, rfl⟩ := hbv
        obtain ⟨rA, rc, rfl⟩ := hrv
        unfold ActM.v at MAY
        simp only at MAY OK1
        obtain ⟨l0, hl0⟩ : ∃ l, actsB (acts.take k) = l := ⟨_, rfl⟩
        rw [hl0] at HW SI1 ⊢
        have HL0 := Lib.hid hl0
        clear hl0
        cases mb with
        | false =>
          have HE := Lib.hid (show_no (xs := acts) (fun h => by
            have h1 := h.2 (acts.getD k zeroA) (by rw [List.getD_eq_getElem?_getD, List.getElem?_eq_getElem (by rw [HLEN.out]; exact HLT.out), Option.getD_some]; exact List.getElem_mem _)
            rw [HGK.out, HMB.out] at h1
            cases h1))
          go_wp2_with (go_at_call 14; refine (MAY.out _ OK1.out).mono ?_; rintro e w2 ⟨rfl, hb⟩; have HB2 := Lib.hid (SI1.out.wr.below SI1.out.hB hb).bl; clear hb)
          go_ret2
          exact ⟨by rw [HE.out.1, HE.out.2]; rfl, HB2.out⟩
        | true =>
          have MF := Lib.hid (mayR_facts HMB.out)
          go_upto_region 9 with (go_at_call 14; refine (MAY.out _ OK1.out).mono ?_; rintro e w2 ⟨rfl, hb⟩; have SI2 := Lib.hid (show ShI w wr.heap.size _ _ l0 w2 from ⟨SI1.out.wr.below SI1.out.hB hb, Own.below SI1.out.box hb, SI1.out.ok⟩); clear hb)
          obtain ⟨k0, k7, hkey, hval, hmask, ⟨hpl0, hpl1⟩, ⟨hwd0, hwd1⟩, ⟨hls0, hls1⟩, ⟨hbu, hbl⟩, ⟨hre, hrl⟩⟩ := MF.out
          simp only at k0 k7 hkey hval hmask hpl0 hpl1 hwd0 hwd1 hls0 hls1 hbu hbl hre hrl
          obtain ⟨kn, rfl⟩ := Int.eq_ofNat_of_zero_le k0
          obtain ⟨pl, rfl⟩ := Int.eq_ofNat_of_zero_le hpl0
          obtain ⟨wd, rfl⟩ := Int.eq_ofNat_of_zero_le hwd0
          obtain ⟨ls, rfl⟩ := Int.eq_ofNat_of_zero_le hls0
          obtain ⟨bn, hbn⟩ : ∃ n, busy.length = n := ⟨_, rfl⟩
          obtain ⟨rn, hrn⟩ : ∃ n, reads.length = n := ⟨_, rfl⟩
          obtain ⟨gb, hgb⟩ : ∃ g, wr.heap.size = g := ⟨_, rfl⟩
          have SI2 := Lib.hid (show ShI w gb ⟨⟨(kn : Int), key, val, (pl : Int), (wd : Int), (ls : Int), mask, busy, reads⟩, .slice bA bn bc, .slice rA rn rc⟩ (.slice S0 l0.length s0) l0 w2 from by have h := SI2.out; rw [hgb] at h; simp only [hbn, hrn] at h; exact h)
          have LZ := Lib.hid (show l0.length ≤ 300000 from by
            have h1 := actsB_len (xs := acts.take k) (fun a ha => by
              obtain ⟨j, hj, rfl⟩ := List.getElem_of_mem ha
              have hj2 : j < k ∧ j < acts.length := by rw [List.length_take] at hj; omega
              have := HALL.out j hj2.1
              rw [List.getD_eq_getElem?_getD, List.getElem?_eq_getElem hj2.2, Option.getD_some] at this
              rw [List.getElem_take]
              exact mayR_facts this)
            have h2 : (acts.take k).length ≤ 256 := by rw [List.length_take]; have := H256.out; omega
            rw [HL0.out] at h1
            omega)
          have HJ := Lib.hid (show l0 ++ [kindsB.getD kn 0] ++ digB [(pl : Int), (wd : Int), (ls : Int), (bn : Int)] ++ digB busy ++ digB [(rn : Int)] ++ digB reads ++ wordB [key, val, mask] = actsB (acts.take (k + 1)) from by
            rw [actsB_snoc (by rw [HLEN.out]; exact HLT.out), HGK.out, HL0.out, actB, hbn, hrn]
            simp)
          have OB := Lib.hid (show ∀ x ∈ busy, OkI x from fun x hx => okI_of (hbu x hx) (by decide) (by decide))
          have OR := Lib.hid (show ∀ x ∈ reads, OkI x from fun x hx => okI_of (hre x hx) (by decide) (by decide))
          have O4 := Lib.hid (show ∀ x ∈ [(pl : Int), (wd : Int), (ls : Int), (bn : Int)], OkI x from fun x hx => by
            simp only [List.mem_cons, List.not_mem_nil, or_false] at hx
            rcases hx with rfl | rfl | rfl | rfl <;> exact ⟨by omega, by omega⟩)
          have O1 := Lib.hid (show ∀ x ∈ [(rn : Int)], OkI x from fun x hx => by simp at hx; subst hx; exact ⟨by omega, by omega⟩)
          have HBN := Lib.hid (show busy.length = bn ∧ reads.length = rn ∧ bn ≤ 16 ∧ rn ≤ 16 from ⟨hbn, hrn, by omega, by omega⟩)
          have HKW := Lib.hid (show key.size ≤ 12 ∧ val.size ≤ 40 ∧ mask.size ≤ 16 from ⟨by omega, by omega, by omega⟩)
          have hki := fun (W : World) => kind_index kn (by omega) W
          obtain ⟨kb, hkb⟩ : ∃ kb, kindsB.getD kn 0 = kb := ⟨_, rfl⟩
          rw [hkb] at hki HJ
          obtain ⟨kc, hkc⟩ : ∃ kc, (kb.toNat : Int) = kc := ⟨_, rfl⟩
          have HKC := Lib.hid hkc
          rw [hkc] at hki
          rw [hgb]
          obtain ⟨l1, hl1⟩ : ∃ l, l0 ++ [kb] ++ digB [(pl : Int), (wd : Int), (ls : Int), (bn : Int)] = l := ⟨_, rfl⟩
          rw [hl1] at HJ
          have HL1 := Lib.hid hl1
          have LZ1 := Lib.hid (show l1.length ≤ 301000 from by
            have h1 := digB_len O4.out
            have h2 := LZ.out
            rw [← hl1, List.length_append, List.length_append]
            simp only [List.length_cons, List.length_nil] at h1 ⊢
            omega)
          clear k0 k7 hkey hval hmask hpl0 hpl1 hwd0 hwd1 hls0 hls1 hbu hbl hre hrl hbn hrn hgb hkb hkc hl1 MAY OK1 SI1 g0 g1 g2 g3 g4 g5 g6 g7 g8
          go_cut [4] (fun s4 wx => ∃ (S : Option Addr) (d : Nat), s4 = .slice S l1.length d ∧ ShI w gb ⟨⟨(kn : Int), key, val, (pl : Int), (wd : Int), (ls : Int), mask, busy, reads⟩, .slice bA bn bc, .slice rA rn rc⟩ s4 l1 wx)
          case first =>
            obtain ⟨e0, e1, e2, e3, e4, e5, e6, e7, e8⟩ := SI2.out.cel
            have SH := Lib.hid (show w2.drew.cell? ⟨gb, 0, none⟩ = some (.int .i64 (kn : Int)) ∧ w2.drew.cell? ⟨gb, 1, none⟩ = some (.string key) ∧ w2.drew.cell? ⟨gb, 2, none⟩ = some (.string val) ∧ w2.drew.cell? ⟨gb, 3, none⟩ = some (.int .i64 (pl : Int)) ∧ w2.drew.cell? ⟨gb, 4, none⟩ = some (.int .i64 (wd : Int)) ∧ w2.drew.cell? ⟨gb, 5, none⟩ = some (.int .i64 (ls : Int)) ∧ w2.drew.cell? ⟨gb, 6, none⟩ = some (.string mask) ∧ w2.drew.cell? ⟨gb, 7, none⟩ = some (.slice bA bn bc) ∧ w2.drew.cell? ⟨gb, 8, none⟩ = some (.slice rA rn rc) from ⟨e0, e1, e2, e3, e4, e5, e6, e7, e8⟩)
            have KA := Lib.hid (fun (W : World) (o : Obj) (h : W.cell? ⟨gb, 0, none⟩ = some (.int .i64 (kn : Int)) ∧ W.cell? ⟨gb, 1, none⟩ = some (.string key) ∧ W.cell? ⟨gb, 2, none⟩ = some (.string val) ∧ W.cell? ⟨gb, 3, none⟩ = some (.int .i64 (pl : Int)) ∧ W.cell? ⟨gb, 4, none⟩ = some (.int .i64 (wd : Int)) ∧ W.cell? ⟨gb, 5, none⟩ = some (.int .i64 (ls : Int)) ∧ W.cell? ⟨gb, 6, none⟩ = some (.string mask) ∧ W.cell? ⟨gb, 7, none⟩ = some (.slice bA bn bc) ∧ W.cell? ⟨gb, 8, none⟩ = some (.slice rA rn rc)) => show (W.alloc o).cell? ⟨gb, 0, none⟩ = some (.int .i64 (kn : Int)) ∧ (W.alloc o).cell? ⟨gb, 1, none⟩ = some (.string key) ∧ (W.alloc o).cell? ⟨gb, 2, none⟩ = some (.string val) ∧ (W.alloc o).cell? ⟨gb, 3, none⟩ = some (.int .i64 (pl : Int)) ∧ (W.alloc o).cell? ⟨gb, 4, none⟩ = some (.int .i64 (wd : Int)) ∧ (W.alloc o).cell? ⟨gb, 5, none⟩ = some (.int .i64 (ls : Int)) ∧ (W.alloc o).cell? ⟨gb, 6, none⟩ = some (.string mask) ∧ (W.alloc o).cell? ⟨gb, 7, none⟩ = some (.slice bA bn bc) ∧ (W.alloc o).cell? ⟨gb, 8, none⟩ = some (.slice rA rn rc) from Cel9.alloc h o)
            have KD := Lib.hid (fun (W : World) (o : Obj) (h : W.drew.cell? ⟨gb, 0, none⟩ = some (.int .i64 (kn : Int)) ∧ W.drew.cell? ⟨gb, 1, none⟩ = some (.string key) ∧ W.drew.cell? ⟨gb, 2, none⟩ = some (.string val) ∧ W.drew.cell? ⟨gb, 3, none⟩ = some (.int .i64 (pl : Int)) ∧ W.drew.cell? ⟨gb, 4, none⟩ = some (.int .i64 (wd : Int)) ∧ W.drew.cell? ⟨gb, 5, none⟩ = some (.int .i64 (ls : Int)) ∧ W.drew.cell? ⟨gb, 6, none⟩ = some (.string mask) ∧ W.drew.cell? ⟨gb, 7, none⟩ = some (.slice bA bn bc) ∧ W.drew.cell? ⟨gb, 8, none⟩ = some (.slice rA rn rc)) => show (W.alloc o).drew.cell? ⟨gb, 0, none⟩ = some (.int .i64 (kn : Int)) ∧ (W.alloc o).drew.cell? ⟨gb, 1, none⟩ = some (.string key) ∧ (W.alloc o).drew.cell? ⟨gb, 2, none⟩ = some (.string val) ∧ (W.alloc o).drew.cell? ⟨gb, 3, none⟩ = some (.int .i64 (pl : Int)) ∧ (W.alloc o).drew.cell? ⟨gb, 4, none⟩ = some (.int .i64 (wd : Int)) ∧ (W.alloc o).drew.cell? ⟨gb, 5, none⟩ = some (.int .i64 (ls : Int)) ∧ (W.alloc o).drew.cell? ⟨gb, 6, none⟩ = some (.string mask) ∧ (W.alloc o).drew.cell? ⟨gb, 7, none⟩ = some (.slice bA bn bc) ∧ (W.alloc o).drew.cell? ⟨gb, 8, none⟩ = some (.slice rA rn rc) from Cel9.alloc (W := W) h o)
            have KS := Lib.hid (fun (v : Value) (bs : List UInt8) (W : World) (h : ShI w gb ⟨⟨(kn : Int), key, val, (pl : Int), (wd : Int), (ls : Int), mask, busy, reads⟩, .slice bA bn bc, .slice rA rn rc⟩ v bs W) => show W.cell? ⟨gb, 0, none⟩ = some (.int .i64 (kn : Int)) ∧ W.cell? ⟨gb, 1, none⟩ = some (.string key) ∧ W.cell? ⟨gb, 2, none⟩ = some (.string val) ∧ W.cell? ⟨gb, 3, none⟩ = some (.int .i64 (pl : Int)) ∧ W.cell? ⟨gb, 4, none⟩ = some (.int .i64 (wd : Int)) ∧ W.cell? ⟨gb, 5, none⟩ = some (.int .i64 (ls : Int)) ∧ W.cell? ⟨gb, 6, none⟩ = some (.string mask) ∧ W.cell? ⟨gb, 7, none⟩ = some (.slice bA bn bc) ∧ W.cell? ⟨gb, 8, none⟩ = some (.slice rA rn rc) from h.cel)
            clear e0 e1 e2 e3 e4 e5 e6 e7 e8
            have APA := Lib.hid (((SI2.out.alloc (Obj.cells #[.int .i64 (pl : Int), .int .i64 (wd : Int), .int .i64 (ls : Int), .int .i64 (bn : Int)] 3)).alloc (Obj.cells #[.int .u8 kc] 5)).drew)
            have APB := Lib.hid (((SI2.out.alloc (Obj.cells #[.int .u8 kc] 5)).alloc (Obj.cells #[.int .i64 (pl : Int), .int .i64 (wd : Int), .int .i64 (ls : Int), .int .i64 (bn : Int)] 3)).drew)
            have APC := Lib.hid ((SI2.out.alloc (Obj.cells #[.int .u8 kc] 5)).drew)
            have CA := Lib.hid (show ((w2.alloc (Obj.cells #[.int .i64 (pl : Int), .int .i64 (wd : Int), .int .i64 (ls : Int), .int .i64 (bn : Int)] 3)).alloc (Obj.cells #[.int .u8 kc] 5)).drew.cell? ⟨w2.heap.size + 1, 0, none⟩ = some (.int .u8 kc) from by
              have h := one_at (w2.alloc (Obj.cells #[.int .i64 (pl : Int), .int .i64 (wd : Int), .int .i64 (ls : Int), .int .i64 (bn : Int)] 3)) (.int .u8 kc) 5
              have e : (w2.alloc (Obj.cells #[.int .i64 (pl : Int), .int .i64 (wd : Int), .int .i64 (ls : Int), .int .i64 (bn : Int)] 3)).heap.size = w2.heap.size + 1 := by simp
              rw [e] at h
              exact h)
            have CB := Lib.hid (show ((w2.alloc (Obj.cells #[.int .u8 kc] 5)).alloc (Obj.cells #[.int .i64 (pl : Int), .int .i64 (wd : Int), .int .i64 (ls : Int), .int .i64 (bn : Int)] 3)).drew.cell? ⟨w2.heap.size, 0, none⟩ = some (.int .u8 kc) from by
              have h := one_at w2 (.int .u8 kc) 5
              exact ((Bl.alloc (Below.refl (w2.alloc (Obj.cells #[.int .u8 kc] 5)).heap.size (w2.alloc (Obj.cells #[.int .u8 kc] 5))) (Obj.cells #[.int .i64 (pl : Int), .int .i64 (wd : Int), .int .i64 (ls : Int), .int .i64 (bn : Int)] 3)).cell (World.block_lt_of_cell? _ _ h)).trans h)
            have CC := Lib.hid (show (w2.alloc (Obj.cells #[.int .u8 kc] 5)).drew.cell? ⟨w2.heap.size, 0, none⟩ = some (.int .u8 kc) from one_at w2 (.int .u8 kc) 5)
            have IA := Lib.hid (show Own ((w2.alloc (Obj.cells #[.int .i64 (pl : Int), .int .i64 (wd : Int), .int .i64 (ls : Int), .int .i64 (bn : Int)] 3)).alloc (Obj.cells #[.int .u8 kc] 5)).drew w.heap.size 3 1 (.slice (some ⟨w2.heap.size, 0, none⟩) 4 4) 4 (nums [(pl : Int), (wd : Int), (ls : Int), (bn : Int)]) from ((own_ints w2 [(pl : Int), (wd : Int), (ls : Int), (bn : Int)] 4 rfl (by decide)).lower SI2.out.hB).alloc _)
            have IB := Lib.hid (show Own ((w2.alloc (Obj.cells #[.int .u8 kc] 5)).alloc (Obj.cells #[.int .i64 (pl : Int), .int .i64 (wd : Int), .int .i64 (ls : Int), .int .i64 (bn : Int)] 3)).drew w.heap.size 3 1 (.slice (some ⟨w2.heap.size + 1, 0, none⟩) 4 4) 4 (nums [(pl : Int), (wd : Int), (ls : Int), (bn : Int)]) from by
              have h := (own_ints (w2.alloc (Obj.cells #[.int .u8 kc] 5)) [(pl : Int), (wd : Int), (ls : Int), (bn : Int)] 4 rfl (by decide)).lower (SI2.out.alloc (Obj.cells #[.int .u8 kc] 5)).hB
              have e : (w2.alloc (Obj.cells #[.int .u8 kc] 5)).heap.size = w2.heap.size + 1 := by simp
              rw [e] at h
              exact h)
            have HBY := Lib.hid (show (l0.length + 1) * 1 ≤ 140737488355328 from by have := LZ.out; omega)
            have HLI := Lib.hid (show (l0 ++ [kb]).length + 22 * [(pl : Int), (wd : Int), (ls : Int), (bn : Int)].length + 21 ≤ 140737488355328 from by have := LZ.out; rw [List.length_append]; simp only [List.length_cons, List.length_nil]; omega)
            have HKB := Lib.hid (fun (W' : World) (v' : Value) (ho : W'.ownsRow w.heap.size 5 1 v' (l0.length + 1) (Lib.byteCells l0 ++ [.int .u8 kc])) => show W'.ownsRow w.heap.size 5 1 v' (l0.length + 1) (Lib.byteCells l0 ++ [.int .u8 (kb.toNat : Int)]) from by rw [HKC.out]; exact ho)
            clear hmx
            go_region_held_law (fun W => W.cell? ⟨gb, 0, none⟩ = some (.int .i64 (kn : Int)) ∧ W.cell? ⟨gb, 1, none⟩ = some (.string key) ∧ W.cell? ⟨gb, 2, none⟩ = some (.string val) ∧ W.cell? ⟨gb, 3, none⟩ = some (.int .i64 (pl : Int)) ∧ W.cell? ⟨gb, 4, none⟩ = some (.int .i64 (wd : Int)) ∧ W.cell? ⟨gb, 5, none⟩ = some (.int .i64 (ls : Int)) ∧ W.cell? ⟨gb, 6, none⟩ = some (.string mask) ∧ W.cell? ⟨gb, 7, none⟩ = some (.slice bA bn bc) ∧ W.cell? ⟨gb, 8, none⟩ = some (.slice rA rn rc)) (first | with_reducible exact SH.out | with_reducible exact hs2 | with_reducible assumption | with_reducible exact KD.out _ _ (by assumption) | with_reducible exact KA.out _ _ (by assumption)) ((first | (go_at_call 19; (refine (digits_any w.heap.size _ (l0 ++ [kb]) _ [(pl : Int), (wd : Int), (ls : Int), (bn : Int)] 4 _ SI5.out.hB SI5.out.wr.own (still_ints IN5.out) O4.out HLI.out (HT.out.on SI5.out.wr.bl)).mono ?_); rintro e w6 ⟨v6, rfl, hw6⟩; have SI6 := SI5.out.wrote hw6; rw [HL1.out] at SI6; obtain ⟨S6, d6, rfl⟩ := (Own.of SI6.wr.own).slice; have SI7 := Lib.hid SI6; have hs2 := KS.out _ _ _ SI7.out; clear hw6 SI6) | (go_at_call 19; (refine (digits_any w.heap.size _ (l0 ++ [kb]) _ [(pl : Int), (wd : Int), (ls : Int), (bn : Int)] 4 _ (SI5.out.alloc (Obj.cells #[.int .i64 (pl : Int), .int .i64 (wd : Int), .int .i64 (ls : Int), .int .i64 (bn : Int)] 3)).hB (SI5.out.alloc (Obj.cells #[.int .i64 (pl : Int), .int .i64 (wd : Int), .int .i64 (ls : Int), .int .i64 (bn : Int)] 3)).wr.own (still_ints ((own_ints _ [(pl : Int), (wd : Int), (ls : Int), (bn : Int)] 4 rfl (by decide)).lower SI5.out.hB)) O4.out HLI.out (HT.out.on (SI5.out.alloc (Obj.cells #[.int .i64 (pl : Int), .int .i64 (wd : Int), .int .i64 (ls : Int), .int .i64 (bn : Int)] 3)).wr.bl)).mono ?_); rintro e w6 ⟨v6, rfl, hw6⟩; have SI6 := (SI5.out.alloc (Obj.cells #[.int .i64 (pl : Int), .int .i64 (wd : Int), .int .i64 (ls : Int), .int .i64 (bn : Int)] 3)).wrote hw6; rw [HL1.out] at SI6; obtain ⟨S6, d6, rfl⟩ := (Own.of SI6.wr.own).slice; have SI7 := Lib.hid SI6; have hs2 := KS.out _ _ _ SI7.out; clear hw6 SI6) | (go_loud (refine step_app1 w.heap.size rfl (.tmp 19) (.tmp 23) 42 5 (.int .u8 0) 1 rfl Tryd.underlying42 infoByte rfl (by decide) (.slice S0 l0.length s0) l0.length (Lib.byteCells l0) (by simp [Act.eval, Act.put]) (.int .u8 kc) (w2.heap.size + 1) (by simp [Act.eval, Act.put]) rfl CA.out APA.out.wr.own APA.out.hB HBY.out ?_); intro v5 w5 ho5 hg5 _; obtain ⟨S5, d5, rfl⟩ := (Own.of ho5).slice; have SI5 := Lib.hid (APA.out.app kb (HKB.out _ _ ho5) hg5); have IN5 := Lib.hid (APA.out.keepI hg5 IA.out (by decide)); have hs2 := KS.out _ _ _ SI5.out; clear ho5 hg5) | (go_loud (refine step_app1 w.heap.size rfl (.tmp 19) (.tmp 23) 42 5 (.int .u8 0) 1 rfl Tryd.underlying42 infoByte rfl (by decide) (.slice S0 l0.length s0) l0.length (Lib.byteCells l0) (by simp [Act.eval, Act.put]) (.int .u8 kc) w2.heap.size (by simp [Act.eval, Act.put]) rfl CB.out APB.out.wr.own APB.out.hB HBY.out ?_); intro v5 w5 ho5 hg5 _; obtain ⟨S5, d5, rfl⟩ := (Own.of ho5).slice; have SI5 := Lib.hid (APB.out.app kb (HKB.out _ _ ho5) hg5); have IN5 := Lib.hid (APB.out.keepI hg5 IB.out (by decide)); have hs2 := KS.out _ _ _ SI5.out; clear ho5 hg5) | (go_loud (refine step_app1 w.heap.size rfl (.tmp 19) (.tmp 23) 42 5 (.int .u8 0) 1 rfl Tryd.underlying42 infoByte rfl (by decide) (.slice S0 l0.length s0) l0.length (Lib.byteCells l0) (by simp [Act.eval, Act.put]) (.int .u8 kc) w2.heap.size (by simp [Act.eval, Act.put]) rfl CC.out APC.out.wr.own APC.out.hB HBY.out ?_); intro v5 w5 ho5 hg5 _; obtain ⟨S5, d5, rfl⟩ := (Own.of ho5).slice; have SI5 := Lib.hid (APC.out.app kb (HKB.out _ _ ho5) hg5); have hs2 := KS.out _ _ _ SI5.out; clear ho5 hg5)))
            all_goals
              go_wp2_with fail
              go_meet
              exact ⟨_, _, rfl, SI7.out⟩
          case rest =>
          obtain ⟨S1, s1, rfl, si3⟩ := hcut
          have SI3 := Lib.hid si3
          obtain ⟨l2, hl2⟩ : ∃ l, l1 ++ digB busy ++ digB [(rn : Int)] = l := ⟨_, rfl⟩
          have HLN := Lib.hid hl2
          have HJ2 := HJ.out
          rw [hl2] at HJ2
          have HJ := Lib.hid HJ2
          have LZ2 := Lib.hid (show l2.length ≤ 302000 from by
            have h1 := digB_len OB.out
            have h2 := digB_len O1.out
            have h3 := LZ1.out
            have h4 := HBN.out
            rw [← hl2, List.length_append, List.length_append]
            simp only [List.length_cons, List.length_nil] at h2
            omega)
          clear si3 hl2 HJ2 SI2
          go_upto_region 10 with fail
          go_cut [4] (fun s4 wx => ∃ (S : Option Addr) (d : Nat), s4 = .slice S l2.length d ∧ ShI w gb ⟨⟨(kn : Int), key, val, (pl : Int), (wd : Int), (ls : Int), mask, busy, reads⟩, .slice bA bn bc, .slice rA rn rc⟩ s4 l2 wx)
          case first =>
            obtain ⟨e0, e1, e2, e3, e4, e5, e6, e7, e8⟩ := SI3.out.cel
            have SH := Lib.hid (show wc.drew.cell? ⟨gb, 0, none⟩ = some (.int .i64 (kn : Int)) ∧ wc.drew.cell? ⟨gb, 1, none⟩ = some (.string key) ∧ wc.drew.cell? ⟨gb, 2, none⟩ = some (.string val) ∧ wc.drew.cell? ⟨gb, 3, none⟩ = some (.int .i64 (pl : Int)) ∧ wc.drew.cell? ⟨gb, 4, none⟩ = some (.int .i64 (wd : Int)) ∧ wc.drew.cell? ⟨gb, 5, none⟩ = some (.int .i64 (ls : Int)) ∧ wc.drew.cell? ⟨gb, 6, none⟩ = some (.string mask) ∧ wc.drew.cell? ⟨gb, 7, none⟩ = some (.slice bA bn bc) ∧ wc.drew.cell? ⟨gb, 8, none⟩ = some (.slice rA rn rc) from ⟨e0, e1, e2, e3, e4, e5, e6, e7, e8⟩)
            have KA := Lib.hid (fun (W : World) (o : Obj) (h : W.cell? ⟨gb, 0, none⟩ = some (.int .i64 (kn : Int)) ∧ W.cell? ⟨gb, 1, none⟩ = some (.string key) ∧ W.cell? ⟨gb, 2, none⟩ = some (.string val) ∧ W.cell? ⟨gb, 3, none⟩ = some (.int .i64 (pl : Int)) ∧ W.cell? ⟨gb, 4, none⟩ = some (.int .i64 (wd : Int)) ∧ W.cell? ⟨gb, 5, none⟩ = some (.int .i64 (ls : Int)) ∧ W.cell? ⟨gb, 6, none⟩ = some (.string mask) ∧ W.cell? ⟨gb, 7, none⟩ = some (.slice bA bn bc) ∧ W.cell? ⟨gb, 8, none⟩ = some (.slice rA rn rc)) => show (W.alloc o).cell? ⟨gb, 0, none⟩ = some (.int .i64 (kn : Int)) ∧ (W.alloc o).cell? ⟨gb, 1, none⟩ = some (.string key) ∧ (W.alloc o).cell? ⟨gb, 2, none⟩ = some (.string val) ∧ (W.alloc o).cell? ⟨gb, 3, none⟩ = some (.int .i64 (pl : Int)) ∧ (W.alloc o).cell? ⟨gb, 4, none⟩ = some (.int .i64 (wd : Int)) ∧ (W.alloc o).cell? ⟨gb, 5, none⟩ = some (.int .i64 (ls : Int)) ∧ (W.alloc o).cell? ⟨gb, 6, none⟩ = some (.string mask) ∧ (W.alloc o).cell? ⟨gb, 7, none⟩ = some (.slice bA bn bc) ∧ (W.alloc o).cell? ⟨gb, 8, none⟩ = some (.slice rA rn rc) from Cel9.alloc h o)
            have KD := Lib.hid (fun (W : World) (o : Obj) (h : W.drew.cell? ⟨gb, 0, none⟩ = some (.int .i64 (kn : Int)) ∧ W.drew.cell? ⟨gb, 1, none⟩ = some (.string key) ∧ W.drew.cell? ⟨gb, 2, none⟩ = some (.string val) ∧ W.drew.cell? ⟨gb, 3, none⟩ = some (.int .i64 (pl : Int)) ∧ W.drew.cell? ⟨gb, 4, none⟩ = some (.int .i64 (wd : Int)) ∧ W.drew.cell? ⟨gb, 5, none⟩ = some (.int .i64 (ls : Int)) ∧ W.drew.cell? ⟨gb, 6, none⟩ = some (.string mask) ∧ W.drew.cell? ⟨gb, 7, none⟩ = some (.slice bA bn bc) ∧ W.drew.cell? ⟨gb, 8, none⟩ = some (.slice rA rn rc)) => show (W.alloc o).drew.cell? ⟨gb, 0, none⟩ = some (.int .i64 (kn : Int)) ∧ (W.alloc o).drew.cell? ⟨gb, 1, none⟩ = some (.string key) ∧ (W.alloc o).drew.cell? ⟨gb, 2, none⟩ = some (.string val) ∧ (W.alloc o).drew.cell? ⟨gb, 3, none⟩ = some (.int .i64 (pl : Int)) ∧ (W.alloc o).drew.cell? ⟨gb, 4, none⟩ = some (.int .i64 (wd : Int)) ∧ (W.alloc o).drew.cell? ⟨gb, 5, none⟩ = some (.int .i64 (ls : Int)) ∧ (W.alloc o).drew.cell? ⟨gb, 6, none⟩ = some (.string mask) ∧ (W.alloc o).drew.cell? ⟨gb, 7, none⟩ = some (.slice bA bn bc) ∧ (W.alloc o).drew.cell? ⟨gb, 8, none⟩ = some (.slice rA rn rc) from Cel9.alloc (W := W) h o)
            have KS := Lib.hid (fun (v : Value) (bs : List UInt8) (W : World) (h : ShI w gb ⟨⟨(kn : Int), key, val, (pl : Int), (wd : Int), (ls : Int), mask, busy, reads⟩, .slice bA bn bc, .slice rA rn rc⟩ v bs W) => show W.cell? ⟨gb, 0, none⟩ = some (.int .i64 (kn : Int)) ∧ W.cell? ⟨gb, 1, none⟩ = some (.string key) ∧ W.cell? ⟨gb, 2, none⟩ = some (.string val) ∧ W.cell? ⟨gb, 3, none⟩ = some (.int .i64 (pl : Int)) ∧ W.cell? ⟨gb, 4, none⟩ = some (.int .i64 (wd : Int)) ∧ W.cell? ⟨gb, 5, none⟩ = some (.int .i64 (ls : Int)) ∧ W.cell? ⟨gb, 6, none⟩ = some (.string mask) ∧ W.cell? ⟨gb, 7, none⟩ = some (.slice bA bn bc) ∧ W.cell? ⟨gb, 8, none⟩ = some (.slice rA rn rc) from h.cel)
            clear e0 e1 e2 e3 e4 e5 e6 e7 e8
            have DG1 := Lib.hid (fun (v : Value) (W : World) (h : ShI w gb ⟨⟨(kn : Int), key, val, (pl : Int), (wd : Int), (ls : Int), mask, busy, reads⟩, .slice bA bn bc, .slice rA rn rc⟩ v l1 W) => show Calls Tryd.prog 19 #[v, .slice bA bn bc] W fun e w' => ∃ v', e = .returned v' ∧ Wr w.heap.size W v' (l1 ++ digB busy) w' from by
              have hq := h.busy
              simp only at hq
              rw [← HBN.out.1] at hq
              have hh := digits_any w.heap.size v l1 _ busy _ W h.hB h.wr.own hq OB.out (by have h1 := LZ1.out; have h2 := HBN.out; omega) (HT.out.on h.wr.bl)
              rw [HBN.out.1] at hh
              exact hh)
            have HLI := Lib.hid (show (l1 ++ digB busy).length + 22 * [(rn : Int)].length + 21 ≤ 140737488355328 from by
              have h1 := digB_len OB.out
              have h3 := LZ1.out
              have h4 := HBN.out
              rw [List.length_append]
              simp only [List.length_cons, List.length_nil]
              omega)
            clear hmx
            obtain ⟨lm, hlm⟩ : ∃ l, l1 ++ digB busy = l := ⟨_, rfl⟩
            have HLM := Lib.hid hlm
            have HLI2 := HLI.out
            have HLN2 := HLN.out
            rw [hlm] at HLI2 HLN2
            have HLI := Lib.hid HLI2
            have HLN := Lib.hid HLN2
            clear HLI2 HLN2 hlm
            have DG2 := Lib.hid (fun (g : Nat) (v : Value) (W : World) (h : ShI w gb ⟨⟨(kn : Int), key, val, (pl : Int), (wd : Int), (ls : Int), mask, busy, reads⟩, .slice bA bn bc, .slice rA rn rc⟩ v lm W) (hI : Own W w.heap.size 3 1 (.slice (some ⟨g, 0, none⟩) 1 1) 1 [.int .i64 (rn : Int)]) => show Calls Tryd.prog 19 #[v, .slice (some ⟨g, 0, none⟩) 1 1] W fun e w' => ∃ v', e = .returned v' ∧ Wr w.heap.size W v' (lm ++ digB [(rn : Int)]) w' from
              digits_any w.heap.size v lm _ [(rn : Int)] 1 W h.hB h.wr.own (still_ints hI) O1.out HLI.out (HT.out.on h.wr.bl))
            have OS := Lib.hid (fun (W : World) (hB : w.heap.size ≤ W.heap.size) => show Own (W.alloc (Obj.cells #[.int .i64 (rn : Int)] 3)) w.heap.size 3 1 (.slice (some ⟨W.heap.size, 0, none⟩) 1 1) 1 [.int .i64 (rn : Int)] from (own_ints W [(rn : Int)] 1 rfl (by decide)).lower hB)
            go_region_held_law (fun W => W.cell? ⟨gb, 0, none⟩ = some (.int .i64 (kn : Int)) ∧ W.cell? ⟨gb, 1, none⟩ = some (.string key) ∧ W.cell? ⟨gb, 2, none⟩ = some (.string val) ∧ W.cell? ⟨gb, 3, none⟩ = some (.int .i64 (pl : Int)) ∧ W.cell? ⟨gb, 4, none⟩ = some (.int .i64 (wd : Int)) ∧ W.cell? ⟨gb, 5, none⟩ = some (.int .i64 (ls : Int)) ∧ W.cell? ⟨gb, 6, none⟩ = some (.string mask) ∧ W.cell? ⟨gb, 7, none⟩ = some (.slice bA bn bc) ∧ W.cell? ⟨gb, 8, none⟩ = some (.slice rA rn rc)) (first | with_reducible exact SH.out | with_reducible exact hs2 | with_reducible assumption | with_reducible exact KD.out _ _ (by assumption) | with_reducible exact KA.out _ _ (by assumption)) ((first | (go_at_call 19; (with_reducible refine (DG2.out _ _ _ SI5.out IN5.out).mono ?_); rintro e w6 ⟨v6, rfl, hw6⟩; have SI6 := SI5.out.wrote hw6; rw [HLN.out] at SI6; obtain ⟨S6, d6, rfl⟩ := (Own.of SI6.wr.own).slice; have SI7 := Lib.hid SI6; have hs2 := KS.out _ _ _ SI7.out; clear hw6 SI6) | (go_at_call 19; (with_reducible refine (DG2.out _ _ _ (SI5.out.alloc (Obj.cells #[.int .i64 (rn : Int)] 3)) (OS.out _ SI5.out.hB)).mono ?_); rintro e w6 ⟨v6, rfl, hw6⟩; have SI6 := (SI5.out.alloc (Obj.cells #[.int .i64 (rn : Int)] 3)).wrote hw6; rw [HLN.out] at SI6; obtain ⟨S6, d6, rfl⟩ := (Own.of SI6.wr.own).slice; have SI7 := Lib.hid SI6; have hs2 := KS.out _ _ _ SI7.out; clear hw6 SI6) | (go_at_call 19; (refine (DG1.out _ _ (SI3.out.alloc (Obj.cells #[.int .i64 (rn : Int)] 3)).drew).mono ?_); rintro e w5 ⟨v5, rfl, hw5⟩; have SI5 := ((SI3.out.alloc (Obj.cells #[.int .i64 (rn : Int)] 3)).drew.wrote hw5); rw [HLM.out] at SI5; have SI5 := Lib.hid SI5; obtain ⟨S5, d5, rfl⟩ := (Own.of SI5.out.wr.own).slice; have IN5 := Lib.hid ((OS.out wc SI3.out.hB).others (by decide) hw5.ot); have hs2 := KS.out _ _ _ SI5.out; clear hw5) | (go_at_call 19; (refine (DG1.out _ _ SI3.out.drew).mono ?_); rintro e w5 ⟨v5, rfl, hw5⟩; have SI5 := (SI3.out.drew.wrote hw5); rw [HLM.out] at SI5; have SI5 := Lib.hid SI5; obtain ⟨S5, d5, rfl⟩ := (Own.of SI5.out.wr.own).slice; have hs2 := KS.out _ _ _ SI5.out; clear hw5)))
            all_goals
              go_wp2_with fail
              go_meet
              exact ⟨_, _, rfl, SI7.out⟩
          case rest =>
          obtain ⟨S2, s2, rfl, si4⟩ := hcut
          have SI4 := Lib.hid si4
          have HLN := Lib.hid (show l2 ++ digB reads ++ wordB [key, val, mask] = actsB (acts.take (k + 1)) from HJ.out)
          clear si4 SI3
          have HK3 := Lib.hid (show ∀ s ∈ [key, val, mask], s.size ≤ 1000 from fun s hs => by
            have := HKW.out
            simp only [List.mem_cons, List.not_mem_nil, or_false] at hs
            rcases hs with rfl | rfl | rfl <;> omega)
          go_upto_region 11 with fail
          apply region_ex6 (fun w6 g S5 d5 S6 d6 => ShI w gb ⟨⟨(kn : Int), key, val, (pl : Int), (wd : Int), (ls : Int), mask, busy, reads⟩, .slice bA bn bc, .slice rA rn rc⟩ (.slice S6 (actsB (acts.take (k + 1))).length d6) (actsB (acts.take (k + 1))) w6)
          case h2 =>
            obtain ⟨e0, e1, e2, e3, e4, e5, e6, e7, e8⟩ := SI4.out.cel
            have SH := Lib.hid (show wc.drew.cell? ⟨gb, 0, none⟩ = some (.int .i64 (kn : Int)) ∧ wc.drew.cell? ⟨gb, 1, none⟩ = some (.string key) ∧ wc.drew.cell? ⟨gb, 2, none⟩ = some (.string val) ∧ wc.drew.cell? ⟨gb, 3, none⟩ = some (.int .i64 (pl : Int)) ∧ wc.drew.cell? ⟨gb, 4, none⟩ = some (.int .i64 (wd : Int)) ∧ wc.drew.cell? ⟨gb, 5, none⟩ = some (.int .i64 (ls : Int)) ∧ wc.drew.cell? ⟨gb, 6, none⟩ = some (.string mask) ∧ wc.drew.cell? ⟨gb, 7, none⟩ = some (.slice bA bn bc) ∧ wc.drew.cell? ⟨gb, 8, none⟩ = some (.slice rA rn rc) from ⟨e0, e1, e2, e3, e4, e5, e6, e7, e8⟩)
            have KA := Lib.hid (fun (W : World) (o : Obj) (h : W.cell? ⟨gb, 0, none⟩ = some (.int .i64 (kn : Int)) ∧ W.cell? ⟨gb, 1, none⟩ = some (.string key) ∧ W.cell? ⟨gb, 2, none⟩ = some (.string val) ∧ W.cell? ⟨gb, 3, none⟩ = some (.int .i64 (pl : Int)) ∧ W.cell? ⟨gb, 4, none⟩ = some (.int .i64 (wd : Int)) ∧ W.cell? ⟨gb, 5, none⟩ = some (.int .i64 (ls : Int)) ∧ W.cell? ⟨gb, 6, none⟩ = some (.string mask) ∧ W.cell? ⟨gb, 7, none⟩ = some (.slice bA bn bc) ∧ W.cell? ⟨gb, 8, none⟩ = some (.slice rA rn rc)) => show (W.alloc o).cell? ⟨gb, 0, none⟩ = some (.int .i64 (kn : Int)) ∧ (W.alloc o).cell? ⟨gb, 1, none⟩ = some (.string key) ∧ (W.alloc o).cell? ⟨gb, 2, none⟩ = some (.string val) ∧ (W.alloc o).cell? ⟨gb, 3, none⟩ = some (.int .i64 (pl : Int)) ∧ (W.alloc o).cell? ⟨gb, 4, none⟩ = some (.int .i64 (wd : Int)) ∧ (W.alloc o).cell? ⟨gb, 5, none⟩ = some (.int .i64 (ls : Int)) ∧ (W.alloc o).cell? ⟨gb, 6, none⟩ = some (.string mask) ∧ (W.alloc o).cell? ⟨gb, 7, none⟩ = some (.slice bA bn bc) ∧ (W.alloc o).cell? ⟨gb, 8, none⟩ = some (.slice rA rn rc) from Cel9.alloc h o)
            have KD := Lib.hid (fun (W : World) (o : Obj) (h : W.drew.cell? ⟨gb, 0, none⟩ = some (.int .i64 (kn : Int)) ∧ W.drew.cell? ⟨gb, 1, none⟩ = some (.string key) ∧ W.drew.cell? ⟨gb, 2, none⟩ = some (.string val) ∧ W.drew.cell? ⟨gb, 3, none⟩ = some (.int .i64 (pl : Int)) ∧ W.drew.cell? ⟨gb, 4, none⟩ = some (.int .i64 (wd : Int)) ∧ W.drew.cell? ⟨gb, 5, none⟩ = some (.int .i64 (ls : Int)) ∧ W.drew.cell? ⟨gb, 6, none⟩ = some (.string mask) ∧ W.drew.cell? ⟨gb, 7, none⟩ = some (.slice bA bn bc) ∧ W.drew.cell? ⟨gb, 8, none⟩ = some (.slice rA rn rc)) => show (W.alloc o).drew.cell? ⟨gb, 0, none⟩ = some (.int .i64 (kn : Int)) ∧ (W.alloc o).drew.cell? ⟨gb, 1, none⟩ = some (.string key) ∧ (W.alloc o).drew.cell? ⟨gb, 2, none⟩ = some (.string val) ∧ (W.alloc o).drew.cell? ⟨gb, 3, none⟩ = some (.int .i64 (pl : Int)) ∧ (W.alloc o).drew.cell? ⟨gb, 4, none⟩ = some (.int .i64 (wd : Int)) ∧ (W.alloc o).drew.cell? ⟨gb, 5, none⟩ = some (.int .i64 (ls : Int)) ∧ (W.alloc o).drew.cell? ⟨gb, 6, none⟩ = some (.string mask) ∧ (W.alloc o).drew.cell? ⟨gb, 7, none⟩ = some (.slice bA bn bc) ∧ (W.alloc o).drew.cell? ⟨gb, 8, none⟩ = some (.slice rA rn rc) from Cel9.alloc (W := W) h o)
            have KS := Lib.hid (fun (v : Value) (bs : List UInt8) (W : World) (h : ShI w gb ⟨⟨(kn : Int), key, val, (pl : Int), (wd : Int), (ls : Int), mask, busy, reads⟩, .slice bA bn bc, .slice rA rn rc⟩ v bs W) => show W.cell? ⟨gb, 0, none⟩ = some (.int .i64 (kn : Int)) ∧ W.cell? ⟨gb, 1, none⟩ = some (.string key) ∧ W.cell? ⟨gb, 2, none⟩ = some (.string val) ∧ W.cell? ⟨gb, 3, none⟩ = some (.int .i64 (pl : Int)) ∧ W.cell? ⟨gb, 4, none⟩ = some (.int .i64 (wd : Int)) ∧ W.cell? ⟨gb, 5, none⟩ = some (.int .i64 (ls : Int)) ∧ W.cell? ⟨gb, 6, none⟩ = some (.string mask) ∧ W.cell? ⟨gb, 7, none⟩ = some (.slice bA bn bc) ∧ W.cell? ⟨gb, 8, none⟩ = some (.slice rA rn rc) from h.cel)
            clear e0 e1 e2 e3 e4 e5 e6 e7 e8
            have DG1 := Lib.hid (fun (v : Value) (W : World) (h : ShI w gb ⟨⟨(kn : Int), key, val, (pl : Int), (wd : Int), (ls : Int), mask, busy, reads⟩, .slice bA bn bc, .slice rA rn rc⟩ v l2 W) => show Calls Tryd.prog 19 #[v, .slice rA rn rc] W fun e w' => ∃ v', e = .returned v' ∧ Wr w.heap.size W v' (l2 ++ digB reads) w' from by
              have hq := h.reads
              simp only at hq
              rw [← HBN.out.2.1] at hq
              have hh := digits_any w.heap.size v l2 _ reads _ W h.hB h.wr.own hq OR.out (by have h1 := LZ2.out; have h2 := HBN.out; omega) (HT.out.on h.wr.bl)
              rw [HBN.out.2.1] at hh
              exact hh)
            have HLI := Lib.hid (show (l2 ++ digB reads).length ≤ 140737488000000 from by
              have h1 := digB_len OR.out
              have h3 := LZ2.out
              have h4 := HBN.out
              rw [List.length_append]
              omega)
            obtain ⟨lm, hlm⟩ : ∃ l, l2 ++ digB reads = l := ⟨_, rfl⟩
            have HLM := Lib.hid hlm
            have HLI2 := HLI.out
            have HLN2 := HLN.out
            rw [hlm] at HLI2 HLN2
            have HLI := Lib.hid HLI2
            have HLN := Lib.hid HLN2
            clear HLI2 HLN2 hlm
            have DG2 := Lib.hid (fun (g : Nat) (v : Value) (W : World) (h : ShI w gb ⟨⟨(kn : Int), key, val, (pl : Int), (wd : Int), (ls : Int), mask, busy, reads⟩, .slice bA bn bc, .slice rA rn rc⟩ v lm W) (hI : Own W w.heap.size 9 1 (.slice (some ⟨g, 0, none⟩) 3 3) 3 [.string key, .string val, .string mask]) => show Calls Tryd.prog 20 #[v, .slice (some ⟨g, 0, none⟩) 3 3] W fun e w' => ∃ v', e = .returned v' ∧ Wr w.heap.size W v' (lm ++ wordB [key, val, mask]) w' from
              words_any w.heap.size v lm g [key, val, mask] W h.hB h.wr.own (still_strs hI) (by show 3 ≤ 3; decide) HK3.out HLI.out (HT.out.on h.wr.bl))
            have OS := Lib.hid (fun (W : World) (hB : w.heap.size ≤ W.heap.size) => show Own (W.alloc (Obj.cells #[.string key, .string val, .string mask] 9)) w.heap.size 9 1 (.slice (some ⟨W.heap.size, 0, none⟩) 3 3) 3 [.string key, .string val, .string mask] from (own_strs W [key, val, mask] 3 rfl (by decide)).lower hB)
            go_region_held_law (fun W => W.cell? ⟨gb, 0, none⟩ = some (.int .i64 (kn : Int)) ∧ W.cell? ⟨gb, 1, none⟩ = some (.string key) ∧ W.cell? ⟨gb, 2, none⟩ = some (.string val) ∧ W.cell? ⟨gb, 3, none⟩ = some (.int .i64 (pl : Int)) ∧ W.cell? ⟨gb, 4, none⟩ = some (.int .i64 (wd : Int)) ∧ W.cell? ⟨gb, 5, none⟩ = some (.int .i64 (ls : Int)) ∧ W.cell? ⟨gb, 6, none⟩ = some (.string mask) ∧ W.cell? ⟨gb, 7, none⟩ = some (.slice bA bn bc) ∧ W.cell? ⟨gb, 8, none⟩ = some (.slice rA rn rc)) (first | with_reducible exact SH.out | with_reducible exact hs2 | with_reducible assumption | with_reducible exact KD.out _ _ (by assumption) | with_reducible exact KA.out _ _ (by assumption)) ((first | (go_at_call 20; (with_reducible refine (DG2.out _ _ _ SI5.out IN5.out).mono ?_); rintro e w6 ⟨v6, rfl, hw6⟩; have SI6 := SI5.out.wrote hw6; rw [HLN.out] at SI6; obtain ⟨S6, d6, rfl⟩ := (Own.of SI6.wr.own).slice; have SI7 := Lib.hid SI6; have hs2 := KS.out _ _ _ SI7.out; clear hw6 SI6) | (go_at_call 20; (with_reducible refine (DG2.out _ _ _ (SI5.out.alloc (Obj.cells #[.string key, .string val, .string mask] 9)) (OS.out _ SI5.out.hB)).mono ?_); rintro e w6 ⟨v6, rfl, hw6⟩; have SI6 := (SI5.out.alloc (Obj.cells #[.string key, .string val, .string mask] 9)).wrote hw6; rw [HLN.out] at SI6; obtain ⟨S6, d6, rfl⟩ := (Own.of SI6.wr.own).slice; have SI7 := Lib.hid SI6; have hs2 := KS.out _ _ _ SI7.out; clear hw6 SI6) | (go_at_call 19; (refine (DG1.out _ _ (SI4.out.alloc (Obj.cells #[.string key, .string val, .string mask] 9)).drew).mono ?_); rintro e w5 ⟨v5, rfl, hw5⟩; have SI5 := ((SI4.out.alloc (Obj.cells #[.string key, .string val, .string mask] 9)).drew.wrote hw5); rw [HLM.out] at SI5; have SI5 := Lib.hid SI5; obtain ⟨S5, d5, rfl⟩ := (Own.of SI5.out.wr.own).slice; have IN5 := Lib.hid ((OS.out wc SI4.out.hB).others (by decide) hw5.ot); have hs2 := KS.out _ _ _ SI5.out; clear hw5) | (go_at_call 19; (refine (DG1.out _ _ SI4.out.drew).mono ?_); rintro e w5 ⟨v5, rfl, hw5⟩; have SI5 := (SI4.out.drew.wrote hw5); rw [HLM.out] at SI5; have SI5 := Lib.hid SI5; obtain ⟨S5, d5, rfl⟩ := (Own.of SI5.out.wr.own).slice; have hs2 := KS.out _ _ _ SI5.out; clear hw5)))
            · have hlm := HLM.out
              subst hlm
              first
                | (generalize w5.heap.size = g9; exact Exists.intro w6 ⟨g9, S5, d5, S6, d6, SI7.out, rfl, rfl⟩)
                | (generalize wc.heap.size = g9; exact Exists.intro w6 ⟨g9, S5, d5, S6, d6, SI7.out, rfl, rfl⟩)
            all_goals
              have hlm := HLM.out
              subst hlm
              first | exact Exists.intro w6 ⟨wc.heap.size, S5, d5, S6, d6, SI7.out, rfl, rfl⟩ | exact Exists.intro w6 ⟨w5.heap.size, S5, d5, S6, d6, SI7.out, rfl, rfl⟩
          case h1 =>
          rintro w6 g6 S5 d5 S3 s3 si5
          have SI5 := Lib.hid si5
          clear si5
          go_wp2_with fail
          go_roundw
          case rel => exact ⟨k + 1, by omega, by first | go_num | rfl, SI5.out.wr, fun j hj => by
            rcases Nat.lt_or_ge j k with h | h
            · exact HALL.out j h
            · obtain rfl : j = k := by omega
              rw [HGK.out]
              exact HMB.out⟩
          case measure => have h1 := HLT.out; simp [intOf]; omega
      · have hd : decide ((k : Int) < (n : Int)) = false := decide_eq_false (by omega)
        obtain rfl : k = n := by omega
        have HE := Lib.hid (show_yes (xs := acts) ⟨by rw [HLEN.out]; exact H256.out, fun a ha => by
          obtain ⟨j, hj, rfl⟩ := List.getElem_of_mem ha
          have := HALL.out j (by rw [← HLEN.out]; exact hj)
          rwa [List.getD_eq_getElem?_getD, List.getElem?_eq_getElem hj, Option.getD_some] at this⟩)
        have HT2 := Lib.hid (show str (actsB (acts.take k)) = str (actsB acts) by rw [List.take_of_length_le (by rw [HLEN.out]; exact Nat.le_refl _)])
        have kc := (Own.of HW.out.own).string (P := Tryd.prog) Tryd.underlying42 Tryd.underlying5 Tryd.underlying9
        go_wp2
        go_ret2
        exact ⟨by rw [HE.out.1, HE.out.2, ← HT2.out]; rfl, HW.out.bl⟩
  · have d0 : decide ((256 : Int) < (n : Int)) = true := decide_eq_true (by omega)
    have d0' : (256 < n) = True := eq_true (by omega)
    have HE := Lib.hid (show_no (xs := acts) (fun h => by have := h.1; rw [HLEN.out] at this; omega))
    go_enter Tryd.func8, Tryd.ntmps8
    go_wp2
    go_ret2
    exact ⟨by rw [HE.out.1, HE.out.2]; rfl, Below.refl _ _⟩
end Go.Proofs.YtfdbolnifjpbhaaDoor
