/- The document's ShowActs: the walk. -/
import Derived.Test.YtfdbolnifjpbhaaDoorScJ
import Derived.Test.YtfdbolnifjpbhaaDoorLBits
namespace Go.Proofs.YtfdbolnifjpbhaaDoor
set_option linter.unusedVariables false
set_option linter.unusedSimpArgs false
open Go.RowKit

theorem kind_slice (kn : Nat) (h : kn ≤ 7) (W : World) : (Instr.slice 9 (Value.string { data := #[102, 109, 112, 103, 100, 108, 98, 120] }) (some (Value.int IntKind.i64 (kn : Int))) (some (Value.int IntKind.i64 ((kn : Int) + 1))) none).run Tryd.prog W = .ok (.string (str [kindsB.getD kn 0])) W := by
  have hk : kn = 0 ∨ kn = 1 ∨ kn = 2 ∨ kn = 3 ∨ kn = 4 ∨ kn = 5 ∨ kn = 6 ∨ kn = 7 := by omega
  rcases hk with rfl | rfl | rfl | rfl | rfl | rfl | rfl | rfl <;> first | rfl | kernel_rfl
theorem act_join (l0 : List UInt8) (kn pl wd ls : Nat) (key val mask : ByteArray) (busy reads : List Int) :
    l0 ++ [kindsB.getD kn 0] ++ Lib.decDigits pl ++ [44] ++ Lib.decDigits wd ++ [44] ++ Lib.decDigits ls ++ [44] ++ (digB [(busy.length : Int)] ++ digB busy) ++ (digB [(reads.length : Int)] ++ digB reads) ++ wordB [key] ++ wordB [val] ++ wordB [mask] = l0 ++ actB ⟨(kn : Int), key, val, (pl : Int), (wd : Int), (ls : Int), mask, busy, reads⟩ := by
  simp [actB, digB, wordB, itoa_nat]
theorem rsum (p q : ByteArray) (a b : Nat) (h1 : p.size ≤ a) (h2 : q.size ≤ b) : (p ++ q).size ≤ a + b := by rw [ByteArray.size_append]; omega
set_option maxRecDepth 100000 in
set_option maxHeartbeats 16000000 in
theorem rshow_any (va : Value) (ms : List ActM) (w : World) (hr : RdA w va ms) (hz : ∀ m ∈ ms, SzA m.a) :
    Calls Tryd.prog 9 #[va] w fun e w' => e = .returned (.tuple #[.string (showT (ms.map (·.a))), .int .i64 (showE (ms.map (·.a)))]) ∧ Below w.heap.size w w' := by
  obtain ⟨A, c, rfl⟩ := hr.1.form
  have HR := Lib.hid hr
  have HZ := Lib.hid hz
  obtain ⟨acts, hacts⟩ : ∃ acts, ms.map (·.a) = acts := ⟨_, rfl⟩
  have hlen : acts.length = ms.length := by rw [← hacts, List.length_map]
  have HGET := Lib.hid (show ∀ k, k < ms.length → acts.getD k zeroA = (ms.getD k zeroM).a from fun k hk => by
    rw [← hacts, List.getD_eq_getElem?_getD, List.getElem?_map, List.getD_eq_getElem?_getD, List.getElem?_eq_getElem hk]
    rfl)
  rw [hacts]
  obtain ⟨n, hn⟩ : ∃ n, ms.length = n := ⟨_, rfl⟩
  rw [hn] at hlen HR HGET ⊢
  have HN := Lib.hid hn
  have HLEN := Lib.hid hlen
  have hmx : n ≤ 9223372036854775807 := by
    rcases hr.1 with ⟨rfl, _⟩ | ⟨b, o, c, _, h1, h2, _⟩
    · simp at hn; omega
    · rw [hn] at h1; unfold maxLen at h2; omega
  clear hr hz hacts hn
  by_cases h256 : n ≤ 256
  · have d0 : decide ((256 : Int) < (n : Int)) = false := decide_eq_false (by omega)
    have d0' : (256 < n) = False := eq_false (by omega)
    have H256 := Lib.hid h256
    go_enter Tryd.func9, Tryd.ntmps9
    go_wp2_with fail
    go_loopw [4, 5] (fun v4 i wr => ∃ k : Nat, k ≤ n ∧ i = .int .i64 k ∧ v4 = .string (str (actsB (acts.take k))) ∧ (∀ j, j < k → mayR (acts.getD j zeroA) = true) ∧ Below w.heap.size w wr) (fun _ i _ => (n - intOf i).toNat)
    case atStart => exact ⟨0, by omega, rfl, by rfl, fun j hj => absurd hj (by omega), Below.refl _ _⟩
    case round =>
      obtain ⟨k, hk, rfl, rfl, hall, hb⟩ := hrel
      have HB := Lib.hid hb
      have HALL := Lib.hid hall
      clear hb hall d0 d0'
      by_cases hlt : k < n
      · have hlt2 : (k : Int) < (n : Int) := by omega
        have HRW := Lib.hid (HR.out.below HB.out)
        obtain ⟨b, o, c', hv, _, _, hcc⟩ := HRW.out.1.pos (by rw [HN.out]; omega)
        rw [HN.out] at hv hcc
        obtain ⟨rfl, rfl⟩ := Value.slice.inj hv |> fun h => And.intro h.1 h.2.2
        obtain ⟨g0, g1, g2, g3, g4, g5, g6, g7, g8⟩ := hcc k hlt
        have hmem : ms.getD k zeroM ∈ ms := getD_memM (by rw [HN.out]; exact hlt)
        have hokm := HRW.out.2 _ hmem
        have hszm := HZ.out _ hmem
        have hget := HGET.out k hlt
        obtain ⟨m, hm⟩ : ∃ m, ms.getD k zeroM = m := ⟨_, rfl⟩
        rw [hm] at g0 g1 g2 g3 g4 g5 g6 g7 g8 hokm hszm hget
        have HLT := Lib.hid hlt
        have HGK := Lib.hid hget
        have MAY := Lib.hid (fun (W : World) (ho : OkM W m) => actmay_any m W ho hszm)
        have OK1 := Lib.hid (hokm.below (Bl.alloc (Below.refl wr.heap.size wr) (Obj.cells #[.int .i64 m.a.k, .string m.a.key, .string m.a.val, .int .i64 m.a.pl, .int .i64 m.a.wd, .int .i64 m.a.ls, .string m.a.mask, m.bv, m.rv] 38)))
        have A1 := Lib.hid (At9.new wr m 38)
        have HB1 := Lib.hid (Bl.alloc HB.out (Obj.cells #[.int .i64 m.a.k, .string m.a.key, .string m.a.val, .int .i64 m.a.pl, .int .i64 m.a.wd, .int .i64 m.a.ls, .string m.a.mask, m.bv, m.rv] 38))
        obtain ⟨mb, hmb⟩ : ∃ b, mayR m.a = b := ⟨_, rfl⟩
        rw [hmb] at MAY
        have HMB := Lib.hid hmb
        clear hv hcc hm hmem hokm hszm hget hmb
        obtain ⟨⟨ak, key, val, pl, wd, ls, mask, busy, reads⟩, bv, rv⟩ := m
        simp only at g0 g1 g2 g3 g4 g5 g6
        have hbv := OK1.out.1.form
        have hrv := OK1.out.2.form
        simp only at hbv hrv
        obtain ⟨bA, bc, rfl⟩ := hbv
        obtain ⟨rA, rc, rfl⟩ := hrv
        unfold ActM.v at MAY
        simp only at MAY OK1 A1 HB1
        cases mb with
        | false =>
          have HE := Lib.hid (show_no (xs := acts) (fun h => by
            have h1 := h.2 (acts.getD k zeroA) (by rw [List.getD_eq_getElem?_getD, List.getElem?_eq_getElem (by rw [HLEN.out]; exact HLT.out), Option.getD_some]; exact List.getElem_mem _)
            rw [HGK.out, HMB.out] at h1
            cases h1))
          go_wp2_with (go_at_call 15; refine (MAY.out _ OK1.out).mono ?_; rintro e w2 ⟨rfl, hb⟩; have HB2 := Lib.hid (Bl.then HB1.out hb); clear hb)
          go_ret2
          exact ⟨by rw [HE.out.1, HE.out.2]; rfl, HB2.out⟩
        | true =>
          have MF := Lib.hid (mayR_facts HMB.out)
          go_wp2_with (go_at_call 15; refine (MAY.out _ OK1.out).mono ?_; rintro e w2 ⟨rfl, hb⟩; have HB2 := Lib.hid (Bl.then HB1.out hb); have A2 := Lib.hid (A1.out.below hb); have OK2 := Lib.hid (OK1.out.below hb); clear hb)
          obtain ⟨k0, k7, hkey, hval, hmask, ⟨hpl0, hpl1⟩, ⟨hwd0, hwd1⟩, ⟨hls0, hls1⟩, ⟨hbu, hbl⟩, ⟨hre, hrl⟩⟩ := MF.out
          simp only at k0 k7 hkey hval hmask hpl0 hpl1 hwd0 hwd1 hls0 hls1 hbu hbl hre hrl
          obtain ⟨kn, rfl⟩ := Int.eq_ofNat_of_zero_le k0
          obtain ⟨pl, rfl⟩ := Int.eq_ofNat_of_zero_le hpl0
          obtain ⟨wd, rfl⟩ := Int.eq_ofNat_of_zero_le hwd0
          obtain ⟨ls, rfl⟩ := Int.eq_ofNat_of_zero_le hls0
          have DP := Lib.hid (fun (W : World) => decimal_any pl (by omega) W)
          have DW := Lib.hid (fun (W : World) => decimal_any wd (by omega) W)
          have DS := Lib.hid (fun (W : World) => decimal_any ls (by omega) W)
          have RB := Lib.hid (fun (W : World) (h : Rd W (.slice bA busy.length bc) busy) => rrow_any _ busy (fun x hx => by have := hbu x hx; omega) hbl W h)
          have RR := Lib.hid (fun (W : World) (h : Rd W (.slice rA reads.length rc) reads) => rrow_any _ reads (fun x hx => by have := hre x hx; omega) hrl W h)
          have SK := Lib.hid (fun (W : World) => rstr_any key (by omega) W)
          have SV := Lib.hid (fun (W : World) => rstr_any val (by omega) W)
          have SM := Lib.hid (fun (W : World) => rstr_any mask (by omega) W)
          obtain ⟨bn, hbn⟩ : ∃ n, busy.length = n := ⟨_, rfl⟩
          obtain ⟨rn, hrn⟩ : ∃ n, reads.length = n := ⟨_, rfl⟩
          obtain ⟨gb, hgb⟩ : ∃ g, wr.heap.size = g := ⟨_, rfl⟩
          have A3 := A2.out
          have O3 := OK2.out
          (try simp only at O3)
          rw [hgb] at A3
          rw [hbn] at RB
          rw [hrn] at RR
          obtain ⟨e0, e1, e2, e3, e4, e5, e6, e7, e8⟩ := A3
          simp only at e0 e1 e2 e3 e4 e5 e6 e7 e8
          rw [hbn] at e7
          rw [hrn] at e8
          have SH := Lib.hid (show (w2.cell? ⟨gb, 0, none⟩ = some (.int .i64 (kn : Int)) ∧ w2.cell? ⟨gb, 1, none⟩ = some (.string key) ∧ w2.cell? ⟨gb, 2, none⟩ = some (.string val) ∧ w2.cell? ⟨gb, 3, none⟩ = some (.int .i64 (pl : Int)) ∧ w2.cell? ⟨gb, 4, none⟩ = some (.int .i64 (wd : Int)) ∧ w2.cell? ⟨gb, 5, none⟩ = some (.int .i64 (ls : Int)) ∧ w2.cell? ⟨gb, 6, none⟩ = some (.string mask) ∧ w2.cell? ⟨gb, 7, none⟩ = some (.slice bA bn bc) ∧ w2.cell? ⟨gb, 8, none⟩ = some (.slice rA rn rc)) from ⟨e0, e1, e2, e3, e4, e5, e6, e7, e8⟩)
          have KB := Lib.hid (fun (W : World) (hb : Below w2.heap.size w2 W) => show (fun W => (W.cell? ⟨gb, 0, none⟩ = some (.int .i64 (kn : Int)) ∧ W.cell? ⟨gb, 1, none⟩ = some (.string key) ∧ W.cell? ⟨gb, 2, none⟩ = some (.string val) ∧ W.cell? ⟨gb, 3, none⟩ = some (.int .i64 (pl : Int)) ∧ W.cell? ⟨gb, 4, none⟩ = some (.int .i64 (wd : Int)) ∧ W.cell? ⟨gb, 5, none⟩ = some (.int .i64 (ls : Int)) ∧ W.cell? ⟨gb, 6, none⟩ = some (.string mask) ∧ W.cell? ⟨gb, 7, none⟩ = some (.slice bA bn bc) ∧ W.cell? ⟨gb, 8, none⟩ = some (.slice rA rn rc)) ∧ Below w2.heap.size w2 W) W from by
            have kb := fun (q : Nat) (v : Value) (h : w2.cell? ⟨gb, q, none⟩ = some v) => (hb.cell (World.block_lt_of_cell? _ _ h)).trans h
            obtain ⟨h0, h1, h2, h3, h4, h5, h6, h7, h8⟩ := SH.out
            exact ⟨⟨kb _ _ h0, kb _ _ h1, kb _ _ h2, kb _ _ h3, kb _ _ h4, kb _ _ h5, kb _ _ h6, kb _ _ h7, kb _ _ h8⟩, hb⟩)
          have RBW := Lib.hid (fun (W : World) (hb : Below w2.heap.size w2 W) => show Rd W (.slice bA bn bc) busy from by have h := O3.1.below hb; rwa [hbn] at h)
          have RRW := Lib.hid (fun (W : World) (hb : Below w2.heap.size w2 W) => show Rd W (.slice rA rn rc) reads from by have h := O3.2.below hb; rwa [hrn] at h)
          clear e0 e1 e2 e3 e4 e5 e6 e7 e8 O3
          have hy1 : (str (digB [(bn : Int)] ++ digB busy)).size ≤ 400 := by
            rw [str_size, List.length_append]
            have h1 := digB_len (xs := [(bn : Int)]) (fun x hx => by simp at hx; subst hx; exact ⟨by omega, by omega⟩)
            have h2 := digB_len (xs := busy) (fun x hx => okI_of (hbu x hx) (by decide) (by decide))
            simp only [List.length_cons, List.length_nil] at h1
            omega
          have hy2 : (str (digB [(rn : Int)] ++ digB reads)).size ≤ 400 := by
            rw [str_size, List.length_append]
            have h1 := digB_len (xs := [(rn : Int)]) (fun x hx => by simp at hx; subst hx; exact ⟨by omega, by omega⟩)
            have h2 := digB_len (xs := reads) (fun x hx => okI_of (hre x hx) (by decide) (by decide))
            simp only [List.length_cons, List.length_nil] at h1
            omega
          have hu1 : (str (wordB [key])).size ≤ 100 := by
            rw [str_size]; have := wordB_len [key] (fun s hs => by simp at hs; subst hs; omega)
            simp only [List.length_cons, List.length_nil, List.map_cons, List.map_nil, List.sum_cons, List.sum_nil] at this
            omega
          have hu2 : (str (wordB [val])).size ≤ 100 := by
            rw [str_size]; have := wordB_len [val] (fun s hs => by simp at hs; subst hs; omega)
            simp only [List.length_cons, List.length_nil, List.map_cons, List.map_nil, List.sum_cons, List.sum_nil] at this
            omega
          have hu3 : (str (wordB [mask])).size ≤ 100 := by
            rw [str_size]; have := wordB_len [mask] (fun s hs => by simp at hs; subst hs; omega)
            simp only [List.length_cons, List.length_nil, List.map_cons, List.map_nil, List.sum_cons, List.sum_nil] at this
            omega
          have hx1 : (str (Lib.decDigits pl)).size ≤ 21 := by rw [str_size]; exact dec_len _ (by omega)
          have hx2 : (str (Lib.decDigits wd)).size ≤ 21 := by rw [str_size]; exact dec_len _ (by omega)
          have hx3 : (str (Lib.decDigits ls)).size ≤ 21 := by rw [str_size]; exact dec_len _ (by omega)
          have hpz : (str (actsB (acts.take k))).size ≤ 300000 := by
            rw [str_size]
            have h1 := actsB_len (xs := acts.take k) (fun a ha => by
              obtain ⟨j, hj, rfl⟩ := List.getElem_of_mem ha
              have hj2 : j < k ∧ j < acts.length := by rw [List.length_take] at hj; omega
              have := HALL.out j hj2.1
              rw [List.getD_eq_getElem?_getD, List.getElem?_eq_getElem hj2.2, Option.getD_some] at this
              rw [List.getElem_take]
              exact mayR_facts this)
            have h2 : (acts.take k).length ≤ 256 := by rw [List.length_take]; have := H256.out; omega
            omega
          obtain ⟨p, hp⟩ : ∃ p, str (actsB (acts.take k)) = p := ⟨_, rfl⟩
          rw [hp] at hpz ⊢
          have HP := Lib.hid hp
          obtain ⟨x1, ex1⟩ : ∃ x, str (Lib.decDigits pl) = x := ⟨_, rfl⟩
          rw [ex1] at hx1 DP
          have Ex1 := Lib.hid ex1
          obtain ⟨x2, ex2⟩ : ∃ x, str (Lib.decDigits wd) = x := ⟨_, rfl⟩
          rw [ex2] at hx2 DW
          have Ex2 := Lib.hid ex2
          obtain ⟨x3, ex3⟩ : ∃ x, str (Lib.decDigits ls) = x := ⟨_, rfl⟩
          rw [ex3] at hx3 DS
          have Ex3 := Lib.hid ex3
          obtain ⟨y1, ey1⟩ : ∃ x, str (digB [(bn : Int)] ++ digB busy) = x := ⟨_, rfl⟩
          rw [ey1] at hy1 RB
          have Ey1 := Lib.hid ey1
          obtain ⟨y2, ey2⟩ : ∃ x, str (digB [(rn : Int)] ++ digB reads) = x := ⟨_, rfl⟩
          rw [ey2] at hy2 RR
          have Ey2 := Lib.hid ey2
          obtain ⟨u1, eu1⟩ : ∃ x, str (wordB [key]) = x := ⟨_, rfl⟩
          rw [eu1] at hu1 SK
          have Eu1 := Lib.hid eu1
          obtain ⟨u2, eu2⟩ : ∃ x, str (wordB [val]) = x := ⟨_, rfl⟩
          rw [eu2] at hu2 SV
          have Eu2 := Lib.hid eu2
          obtain ⟨u3, eu3⟩ : ∃ x, str (wordB [mask]) = x := ⟨_, rfl⟩
          rw [eu3] at hu3 SM
          have Eu3 := Lib.hid eu3
          have hwk : IntKind.i64.wrap ((kn : Int) + 1) = (kn : Int) + 1 := wrap_i64_small (by omega) (by omega)
          have hsl := fun (W : World) => kind_slice kn (by omega) W
          obtain ⟨kc, hkc⟩ : ∃ kc, str [kindsB.getD kn 0] = kc := ⟨_, rfl⟩
          have hkz : kc.size = 1 := by rw [← hkc, str_size]; rfl
          have HKC := Lib.hid hkc
          rw [hkc] at hsl
          have HS := Lib.hid (show p ++ kc ++ x1 ++ (⟨#[44]⟩ : ByteArray) ++ x2 ++ (⟨#[44]⟩ : ByteArray) ++ x3 ++ (⟨#[44]⟩ : ByteArray) ++ y1 ++ y2 ++ u1 ++ u2 ++ u3 = str (actsB (acts.take (k + 1))) from by
            rw [actsB_snoc (by rw [HLEN.out]; exact HLT.out), HGK.out, ← HP.out, ← HKC.out, ← Ex1.out, ← Ex2.out, ← Ex3.out, ← Ey1.out, ← Ey2.out, ← Eu1.out, ← Eu2.out, ← Eu3.out, show (⟨#[44]⟩ : ByteArray) = str [44] from rfl, ← hbn, ← hrn]
            simp only [str_app]
            exact congrArg str (act_join _ _ _ _ _ _ _ _ _ _))
          have z0 : ¬ 9223372036854775807 < p.size + kc.size := by omega
          have z1 : ¬ 9223372036854775807 < p.size + kc.size + x1.size := by omega
          have z2 : ¬ 9223372036854775807 < p.size + kc.size + x1.size + 1 := by omega
          have z3 : ¬ 9223372036854775807 < p.size + kc.size + x1.size + 1 + x2.size := by omega
          have z4 : ¬ 9223372036854775807 < p.size + kc.size + x1.size + 1 + x2.size + 1 := by omega
          have z5 : ¬ 9223372036854775807 < p.size + kc.size + x1.size + 1 + x2.size + 1 + x3.size := by omega
          have z6 : ¬ 9223372036854775807 < p.size + kc.size + x1.size + 1 + x2.size + 1 + x3.size + 1 := by omega
          have z7 : ¬ 9223372036854775807 < p.size + kc.size + x1.size + 1 + x2.size + 1 + x3.size + 1 + y1.size := by omega
          have z8 : ¬ 9223372036854775807 < p.size + kc.size + x1.size + 1 + x2.size + 1 + x3.size + 1 + y1.size + y2.size := by omega
          have z9 : ¬ 9223372036854775807 < p.size + kc.size + x1.size + 1 + x2.size + 1 + x3.size + 1 + y1.size + y2.size + u1.size := by omega
          have z10 : ¬ 9223372036854775807 < p.size + kc.size + x1.size + 1 + x2.size + 1 + x3.size + 1 + y1.size + y2.size + u1.size + u2.size := by omega
          have z11 : ¬ 9223372036854775807 < p.size + kc.size + x1.size + 1 + x2.size + 1 + x3.size + 1 + y1.size + y2.size + u1.size + u2.size + u3.size := by omega
          clear hp hkc hkz hx1 hx2 hx3 hy1 hy2 hu1 hu2 hu3 hpz hkey hval hmask ex1 ex2 ex3 ey1 ey2 eu1 eu2 eu3
          have KB2 := Lib.hid (fun (W W' : World) (h : (W.cell? ⟨gb, 0, none⟩ = some (.int .i64 (kn : Int)) ∧ W.cell? ⟨gb, 1, none⟩ = some (.string key) ∧ W.cell? ⟨gb, 2, none⟩ = some (.string val) ∧ W.cell? ⟨gb, 3, none⟩ = some (.int .i64 (pl : Int)) ∧ W.cell? ⟨gb, 4, none⟩ = some (.int .i64 (wd : Int)) ∧ W.cell? ⟨gb, 5, none⟩ = some (.int .i64 (ls : Int)) ∧ W.cell? ⟨gb, 6, none⟩ = some (.string mask) ∧ W.cell? ⟨gb, 7, none⟩ = some (.slice bA bn bc) ∧ W.cell? ⟨gb, 8, none⟩ = some (.slice rA rn rc)) ∧ Below w2.heap.size w2 W) (hb : Below W.heap.size W W') => show (W'.cell? ⟨gb, 0, none⟩ = some (.int .i64 (kn : Int)) ∧ W'.cell? ⟨gb, 1, none⟩ = some (.string key) ∧ W'.cell? ⟨gb, 2, none⟩ = some (.string val) ∧ W'.cell? ⟨gb, 3, none⟩ = some (.int .i64 (pl : Int)) ∧ W'.cell? ⟨gb, 4, none⟩ = some (.int .i64 (wd : Int)) ∧ W'.cell? ⟨gb, 5, none⟩ = some (.int .i64 (ls : Int)) ∧ W'.cell? ⟨gb, 6, none⟩ = some (.string mask) ∧ W'.cell? ⟨gb, 7, none⟩ = some (.slice bA bn bc) ∧ W'.cell? ⟨gb, 8, none⟩ = some (.slice rA rn rc)) ∧ Below w2.heap.size w2 W' from KB.out W' (Bl.then h.2 hb))
          have RBS := Lib.hid (fun (W : World) (h : (W.cell? ⟨gb, 0, none⟩ = some (.int .i64 (kn : Int)) ∧ W.cell? ⟨gb, 1, none⟩ = some (.string key) ∧ W.cell? ⟨gb, 2, none⟩ = some (.string val) ∧ W.cell? ⟨gb, 3, none⟩ = some (.int .i64 (pl : Int)) ∧ W.cell? ⟨gb, 4, none⟩ = some (.int .i64 (wd : Int)) ∧ W.cell? ⟨gb, 5, none⟩ = some (.int .i64 (ls : Int)) ∧ W.cell? ⟨gb, 6, none⟩ = some (.string mask) ∧ W.cell? ⟨gb, 7, none⟩ = some (.slice bA bn bc) ∧ W.cell? ⟨gb, 8, none⟩ = some (.slice rA rn rc)) ∧ Below w2.heap.size w2 W) => RBW.out W h.2)
          have RRS := Lib.hid (fun (W : World) (h : (W.cell? ⟨gb, 0, none⟩ = some (.int .i64 (kn : Int)) ∧ W.cell? ⟨gb, 1, none⟩ = some (.string key) ∧ W.cell? ⟨gb, 2, none⟩ = some (.string val) ∧ W.cell? ⟨gb, 3, none⟩ = some (.int .i64 (pl : Int)) ∧ W.cell? ⟨gb, 4, none⟩ = some (.int .i64 (wd : Int)) ∧ W.cell? ⟨gb, 5, none⟩ = some (.int .i64 (ls : Int)) ∧ W.cell? ⟨gb, 6, none⟩ = some (.string mask) ∧ W.cell? ⟨gb, 7, none⟩ = some (.slice bA bn bc) ∧ W.cell? ⟨gb, 8, none⟩ = some (.slice rA rn rc)) ∧ Below w2.heap.size w2 W) => RRW.out W h.2)
          go_region_held3 (fun W => (W.cell? ⟨gb, 0, none⟩ = some (.int .i64 (kn : Int)) ∧ W.cell? ⟨gb, 1, none⟩ = some (.string key) ∧ W.cell? ⟨gb, 2, none⟩ = some (.string val) ∧ W.cell? ⟨gb, 3, none⟩ = some (.int .i64 (pl : Int)) ∧ W.cell? ⟨gb, 4, none⟩ = some (.int .i64 (wd : Int)) ∧ W.cell? ⟨gb, 5, none⟩ = some (.int .i64 (ls : Int)) ∧ W.cell? ⟨gb, 6, none⟩ = some (.string mask) ∧ W.cell? ⟨gb, 7, none⟩ = some (.slice bA bn bc) ∧ W.cell? ⟨gb, 8, none⟩ = some (.slice rA rn rc)) ∧ Below w2.heap.size w2 W) (first | with_reducible exact KB.out _ (Bl.self _ 1) | with_reducible exact hs2) ((first | (go_at_call 21; (with_reducible refine (DP.out _).mono ?_); rintro e w3 ⟨rfl, hb⟩; have hs2 := KB2.out _ _ (by assumption) hb) | (go_at_call 21; (with_reducible refine (DW.out _).mono ?_); rintro e w3 ⟨rfl, hb⟩; have hs2 := KB2.out _ _ (by assumption) hb) | (go_at_call 21; (with_reducible refine (DS.out _).mono ?_); rintro e w3 ⟨rfl, hb⟩; have hs2 := KB2.out _ _ (by assumption) hb) | (go_at_call 22; (with_reducible refine (RB.out _ (RBS.out _ (by assumption))).mono ?_); rintro e w3 ⟨rfl, hb⟩; have hs2 := KB2.out _ _ (by assumption) hb) | (go_at_call 22; (with_reducible refine (RR.out _ (RRS.out _ (by assumption))).mono ?_); rintro e w3 ⟨rfl, hb⟩; have hs2 := KB2.out _ _ (by assumption) hb) | (go_at_call 23; (with_reducible refine (SK.out _).mono ?_); rintro e w3 ⟨rfl, hb⟩; have hs2 := KB2.out _ _ (by assumption) hb) | (go_at_call 23; (with_reducible refine (SV.out _).mono ?_); rintro e w3 ⟨rfl, hb⟩; have hs2 := KB2.out _ _ (by assumption) hb) | (go_at_call 23; (with_reducible refine (SM.out _).mono ?_); rintro e w3 ⟨rfl, hb⟩; have hs2 := KB2.out _ _ (by assumption) hb)))
          have HSB := Lib.hid (Bl.then HB2.out hs2.2)
          clear hs2 SH KB KB2 RBS RRS RBW RRW DP DW DS RB RR SK SV SM
          go_wp2_with fail
          go_roundw
          case rel =>
            refine ⟨k + 1, by omega, by first | go_num | rfl, by rw [HS.out], fun j hj => ?_, HSB.out⟩
            rcases Nat.lt_or_ge j k with h | h
            · exact HALL.out j h
            · obtain rfl : j = k := by omega
              rw [HGK.out]
              exact HMB.out
          case measure =>
            have h1 := HLT.out
            clear z0 z1 z2 z3 z4 z5 z6 z7 z8 z9 z10 z11
            simp [intOf]
            omega
      · have hd : decide ((k : Int) < (n : Int)) = false := decide_eq_false (by omega)
        obtain rfl : k = n := by omega
        have HE := Lib.hid (show_yes (xs := acts) ⟨by rw [HLEN.out]; exact H256.out, fun a ha => by
          obtain ⟨j, hj, rfl⟩ := List.getElem_of_mem ha
          have := HALL.out j (by rw [← HLEN.out]; exact hj)
          rwa [List.getD_eq_getElem?_getD, List.getElem?_eq_getElem hj, Option.getD_some] at this⟩)
        have HT := Lib.hid (show str (actsB (acts.take k)) = str (actsB acts) by rw [List.take_of_length_le (by rw [HLEN.out]; exact Nat.le_refl _)])
        go_wp2
        go_ret2
        exact ⟨by rw [HE.out.1, HE.out.2, ← HT.out]; rfl, HB.out⟩
  · have d0 : decide ((256 : Int) < (n : Int)) = true := decide_eq_true (by omega)
    have d0' : (256 < n) = True := eq_true (by omega)
    have HE := Lib.hid (show_no (xs := acts) (fun h => by have := h.1; rw [HLEN.out] at this; omega))
    go_enter Tryd.func9, Tryd.ntmps9
    go_wp2
    go_ret2
    exact ⟨by rw [HE.out.1, HE.out.2]; rfl, Below.refl _ _⟩
end Go.Proofs.YtfdbolnifjpbhaaDoor
