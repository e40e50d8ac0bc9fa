/- The law's examples are as the chapter says. -/
import Derived.Test.YtpjmolnkmlpfeaaGreatDoorJV
namespace Go.Proofs.YtpjmolnkmlpfeaaGreatDoor
set_option linter.unusedVariables false
set_option linter.unusedSimpArgs false
set_option maxRecDepth 100000
open Go.RowKit

set_option maxHeartbeats 16000000 in
theorem awake_any (w : World) : Calls Tryz.prog 9 #[] w fun e w' => e = .returned (.bool true) ∧ Below w.heap.size w w' := by
 have HT : Hid (Below w.heap.size w w) := Below.refl _ _
 have HP1 := Lib.hid (fun w => publish_any' w 1 1)
 have HP2 := Lib.hid (fun w => publish_any' w 2 2)
 have HP3 := Lib.hid (fun w => read_any' w 1 0)
 have HP4 := Lib.hid (fun w => read_any' w 2 0)
 go_enter Tryz.func9, Tryz.ntmps9
 go_wp2_with fail
 refine (HP1.out w).mono ?_
 rintro e w1 ⟨rfl, hb1⟩
 have HT := Tt HT hb1
 clear hb1
 go_wp2_with fail
 refine (HP2.out w1).mono ?_
 rintro e w2 ⟨rfl, hb2⟩
 have HT := Tt HT hb2
 clear hb2
 go_wp2_with (refine wpList_alloc_blk rfl rfl zero_call ?_; intro g1 w3 e1 hB1 hb1; refine wpList_alloc_blk rfl rfl zero_call ?_; intro g2 w4 e2 hB2 hb2; refine Hid.out ?_)
 refine Lib.hid ?_
 refine wpList_store_blk (cs := (calL pC nilV).toArray) rfl rfl rfl rfl (hB1.below hb2 hB1.lt) rfl (info_call rfl) (calL_one rfl) ?_
 intro w5 hB5 hm5
 refine wpList_store_blk (cs := (calL qC nilV).toArray) rfl rfl rfl rfl (hB2.mod hm5 fun e => by have := hB1.lt; omega) rfl (info_call rfl) (calL_one rfl) ?_
 intro w6 hB6 hm6
 have HQ1 := Lib.hid (hB5.mod hm6 fun e => by have := hB1.lt; omega)
 have HQ2 := Lib.hid hB6
 have HT6 : Hid (Below w.heap.size w w6) := by
  have h2 := HT.out.trans (hb1.mono HT.out.size)
  have h3 := h2.trans (hb2.mono h2.size)
  have h4 := h3.trans (hm5.to_below h3.size fun b hb e => by have := HT.out.size; omega)
  exact h4.trans (hm6.to_below h4.size fun b hb e => by have := h2.size; omega)
 have HT := HT6
 clear HT6 e1 hB1 hb1 e2 hB2 hb2 hB5 hm5 hB6 hm6
 go_wp2_with fail
 refine (HP3.out w6).mono ?_
 rintro e w7 ⟨rfl, hb7⟩
 have HT := Tt HT hb7
 have HQ1 := Bb HQ1 hb7
 have HQ2 := Bb HQ2 hb7
 clear hb7
 go_wp2_with (refine wpList_alloc_blk rfl rfl zero_call ?_; intro g3 w8 e3 hB3 hb3; refine Hid.out ?_)
 refine Lib.hid ?_
 refine wpList_store_blk (cs := (calL rC nilV).toArray) rfl rfl rfl rfl hB3 rfl (info_call rfl) (calL_one rfl) ?_
 intro w9 hB9 hm9
 have HQ1 := Lib.hid ((HQ1.out.below hb3 HQ1.out.lt).mod hm9 fun e => by have := HQ1.out.lt; omega)
 have HQ2 := Lib.hid ((HQ2.out.below hb3 HQ2.out.lt).mod hm9 fun e => by have := HQ2.out.lt; omega)
 have HQ3 := Lib.hid hB9
 have HT9 : Hid (Below w.heap.size w w9) := by
  have h2 := HT.out.trans (hb3.mono HT.out.size)
  exact h2.trans (hm9.to_below h2.size fun b hb e => by have := HT.out.size; omega)
 have HT := HT9
 clear HT9 e3 hB3 hb3 hB9 hm9
 go_wp2_with fail
 refine PF.b (by kernel_rfl) (fun _ _ _ _ _ h => h) ?_
 refine PF.u 0 ((fun u => Blk u g1 25 (calL pC nilV).toArray)) (by kernel_rfl) rfl (HQ1.out) (fun u hu => exec_load_blk rfl rfl hu Tryz.underlying25 rfl (info_call rfl)) ?_
 try simp only [pz]
 refine PF.u 1 ((fun u => Blk u g1 25 (calL pC nilV).toArray)) (by kernel_rfl) rfl (HQ1.out) (fun u hu => exec_load_blk rfl rfl hu Tryz.underlying25 rfl (info_call rfl)) ?_
 try simp only [pz]
 refine PF.u 4 ((fun u => Blk u g2 25 (calL qC nilV).toArray)) (by kernel_rfl) rfl (HQ2.out) (fun u hu => exec_load_blk rfl rfl hu Tryz.underlying25 rfl (info_call rfl)) ?_
 try simp only [pz]
 refine PF.u 5 ((fun u => Blk u g2 25 (calL qC nilV).toArray)) (by kernel_rfl) rfl (HQ2.out) (fun u hu => exec_load_blk rfl rfl hu Tryz.underlying25 rfl (info_call rfl)) ?_
 try simp only [pz]
 refine PF.u 8 ((fun u => Blk u g3 25 (calL rC nilV).toArray)) (by kernel_rfl) rfl (HQ3.out) (fun u hu => exec_load_blk rfl rfl hu Tryz.underlying25 rfl (info_call rfl)) ?_
 try simp only [pz]
 refine PF.u 9 ((fun u => Blk u g3 25 (calL rC nilV).toArray)) (by kernel_rfl) rfl (HQ3.out) (fun u hu => exec_load_blk rfl rfl hu Tryz.underlying25 rfl (info_call rfl)) ?_
 try simp only [pz]
 refine PF.e 2 (by kernel_rfl) rfl fun K hK => ?_
 go_simp
 refine (says_any _ pC nilV 0 0 0).mono ?_
 rintro e v3_2 ⟨rfl, hb⟩
 have hb := ((Below.refl w9.heap.size w9).drew).trans hb
 have HQ1 := Bb HQ1 hb
 have HQ2 := Bb HQ2 hb
 have HQ3 := Bb HQ3 hb
 have HT := Tt HT hb
 clear hb
 refine hK (by repeat (first | exact PF.n | refine PF.l ?_ | refine PF.o (by decide +kernel) ?_ | refine PF.y (by first | exact HQ1.out | exact HQ2.out | exact HQ3.out) ?_)) ?_
 clear hK K
 try simp only [pz]
 refine PF.e 3 (by kernel_rfl) rfl fun K hK => ?_
 go_simp
 refine (both_any _ pC (saysR pC 0 0 0) nilV nilV).mono ?_
 rintro e v3_3 ⟨⟨n3_3, rfl, ho⟩, hb⟩
 have HQ1 := Bb HQ1 hb
 have HQ2 := Bb HQ2 hb
 have HQ3 := Bb HQ3 hb
 have HT := Tt HT hb
 have HN3_3 : Hid (OwH 0 v3_3 (.slice (some ⟨n3_3, 0, none⟩) 2 2) (bothV pC (saysR pC 0 0 0))) := own_lowJ ho (Nat.zero_le _)
 clear ho hb
 refine hK (by repeat (first | exact PF.n | refine PF.l ?_ | refine PF.o (by decide +kernel) ?_ | refine PF.y (by first | exact HQ1.out | exact HQ2.out | exact HQ3.out) ?_)) ?_
 clear hK K
 try simp only [pz]
 refine PF.e 6 (by kernel_rfl) rfl fun K hK => ?_
 go_simp
 refine (says_any _ qC nilV 0 1 0).mono ?_
 rintro e v3_6 ⟨rfl, hb⟩
 have HQ1 := Bb HQ1 hb
 have HQ2 := Bb HQ2 hb
 have HQ3 := Bb HQ3 hb
 have HN3_3 := Lib.hid (OwH.below HN3_3.out hb)
 have HT := Tt HT hb
 clear hb
 refine hK (by repeat (first | exact PF.n | refine PF.l ?_ | refine PF.o (by decide +kernel) ?_ | refine PF.y (by first | exact HQ1.out | exact HQ2.out | exact HQ3.out) ?_)) ?_
 clear hK K
 try simp only [pz]
 refine PF.e 7 (by kernel_rfl) rfl fun K hK => ?_
 go_simp
 refine (both_any _ qC (saysR qC 0 1 0) nilV nilV).mono ?_
 rintro e v3_7 ⟨⟨n3_7, rfl, ho⟩, hb⟩
 have HQ1 := Bb HQ1 hb
 have HQ2 := Bb HQ2 hb
 have HQ3 := Bb HQ3 hb
 have HN3_3 := Lib.hid (OwH.below HN3_3.out hb)
 have HT := Tt HT hb
 have HN3_7 : Hid (OwH 0 v3_7 (.slice (some ⟨n3_7, 0, none⟩) 2 2) (bothV qC (saysR qC 0 1 0))) := own_lowJ ho (Nat.zero_le _)
 clear ho hb
 refine hK (by repeat (first | exact PF.n | refine PF.l ?_ | refine PF.o (by decide +kernel) ?_ | refine PF.y (by first | exact HQ1.out | exact HQ2.out | exact HQ3.out) ?_)) ?_
 clear hK K
 try simp only [pz]
 refine PF.e 10 (by kernel_rfl) rfl fun K hK => ?_
 go_simp
 refine (says_any _ rC nilV 0 0 1).mono ?_
 rintro e v3_10 ⟨rfl, hb⟩
 have HQ1 := Bb HQ1 hb
 have HQ2 := Bb HQ2 hb
 have HQ3 := Bb HQ3 hb
 have HN3_3 := Lib.hid (OwH.below HN3_3.out hb)
 have HN3_7 := Lib.hid (OwH.below HN3_7.out hb)
 have HT := Tt HT hb
 clear hb
 refine hK (by repeat (first | exact PF.n | refine PF.l ?_ | refine PF.o (by decide +kernel) ?_ | refine PF.y (by first | exact HQ1.out | exact HQ2.out | exact HQ3.out) ?_)) ?_
 clear hK K
 try simp only [pz]
 refine PF.e 11 (by kernel_rfl) rfl fun K hK => ?_
 go_simp
 refine (both_any _ rC (saysR rC 0 0 1) nilV nilV).mono ?_
 rintro e v3_11 ⟨⟨n3_11, rfl, ho⟩, hb⟩
 have HQ1 := Bb HQ1 hb
 have HQ2 := Bb HQ2 hb
 have HQ3 := Bb HQ3 hb
 have HN3_3 := Lib.hid (OwH.below HN3_3.out hb)
 have HN3_7 := Lib.hid (OwH.below HN3_7.out hb)
 have HT := Tt HT hb
 have HN3_11 : Hid (OwH 0 v3_11 (.slice (some ⟨n3_11, 0, none⟩) 2 2) (bothV rC (saysR rC 0 0 1))) := own_lowJ ho (Nat.zero_le _)
 clear ho hb
 refine hK (by repeat (first | exact PF.n | refine PF.l ?_ | refine PF.o (by decide +kernel) ?_ | refine PF.y (by first | exact HQ1.out | exact HQ2.out | exact HQ3.out) ?_)) ?_
 clear hK K
 try simp only [pz]
 refine PF.e 12 (by kernel_rfl) rfl fun K hK => ?_
 go_simp
 have hs : SlHs (fun _ => True) (v3_11.alloc (.cells #[.slice (some ⟨n3_3, 0, none⟩) 2 2, .slice (some ⟨n3_7, 0, none⟩) 2 2, .slice (some ⟨n3_11, 0, none⟩) 2 2] 28)) (.slice (some ⟨v3_11.heap.size, 0, none⟩) 3 3) [bothV pC (saysR pC 0 0 0), bothV qC (saysR qC 0 1 0), bothV rC (saysR rC 0 0 1)] := slhs_new (B := 0) (vs := [.slice (some ⟨n3_3, 0, none⟩) 2 2, .slice (some ⟨n3_7, 0, none⟩) 2 2, .slice (some ⟨n3_11, 0, none⟩) 2 2]) (Ns := [bothV pC (saysR pC 0 0 0), bothV qC (saysR qC 0 1 0), bothV rC (saysR rC 0 0 1)]) rfl fun i hi => (match i, hi with | 0, _ => ⟨_, rfl, HN3_3.out⟩ | 1, _ => ⟨_, rfl, HN3_7.out⟩ | 2, _ => ⟨_, rfl, HN3_11.out⟩)
 have hb := below_new v3_11 (.cells #[.slice (some ⟨n3_3, 0, none⟩) 2 2, .slice (some ⟨n3_7, 0, none⟩) 2 2, .slice (some ⟨n3_11, 0, none⟩) 2 2] 28)
 have HQ1 := Bb HQ1 hb
 have HQ2 := Bb HQ2 hb
 have HQ3 := Bb HQ3 hb
 have HT := Tt HT hb
 have HS := Lib.hid hs
 clear hb hs
 refine hK (by repeat (first | exact PF.n | refine PF.l ?_ | refine PF.o (by decide +kernel) ?_ | refine PF.y (by first | exact HQ1.out | exact HQ2.out | exact HQ3.out) ?_)) ?_
 clear hK K
 try simp only [pz]
 refine PF.e 13 (by kernel_rfl) rfl fun K hK => ?_
 go_simp
 refine (join_any HS.out (by intro N hN x hx; simp only [List.mem_cons, List.not_mem_nil, or_false] at hN; rcases hN with rfl | rfl | rfl <;> (rcases List.mem_cons.1 hx with rfl | hx; exact ⟨rfl, rfl⟩; rw [List.mem_singleton.1 hx]; exact ⟨rfl, rfl⟩)) (by decide) (by intro N hN; simp only [List.mem_cons, List.not_mem_nil, or_false] at hN; rcases hN with rfl | rfl | rfl <;> decide)).mono ?_
 rintro e v3_13 ⟨⟨vj, rfl, ho⟩, hb⟩
 have HQ1 := Bb HQ1 hb
 have HQ2 := Bb HQ2 hb
 have HQ3 := Bb HQ3 hb
 have HT := Tt HT hb
 obtain ⟨Aj, cj, rfl, _, _⟩ := own_slice ho
 have HO := Lib.hid ho
 clear ho hb
 refine hK (by repeat (first | exact PF.n | refine PF.l ?_ | refine PF.o (by decide +kernel) ?_ | refine PF.y (by first | exact HQ1.out | exact HQ2.out | exact HQ3.out) ?_)) ?_
 clear hK K
 try simp only [pz]
 refine PF.e 14 (by kernel_rfl) rfl fun K hK => ?_
 go_simp
 refine (exam_may HO.out (h := hisA) rfl (by intro x hx; obtain ⟨N, hN, hx⟩ := List.mem_flatten.1 hx; simp only [List.mem_cons, List.not_mem_nil, or_false] at hN; rcases hN with rfl | rfl | rfl <;> exact bothV_nil rfl rfl x hx) (by decide) (by decide)).mono ?_
 rintro e v3_14 ⟨hb, b1, er1, rfl, hp⟩
 have HQ1 := Bb HQ1 hb
 have HQ2 := Bb HQ2 hb
 have HQ3 := Bb HQ3 hb
 have HT := Tt HT hb
 obtain ⟨rfl, rfl⟩ := mayA hp
 clear hb hp
 refine hK (by repeat (first | exact PF.n | refine PF.l ?_ | refine PF.o (by decide +kernel) ?_ | refine PF.y (by first | exact HQ1.out | exact HQ2.out | exact HQ3.out) ?_)) ?_
 clear hK K
 try simp only [pz]
 refine PF.t 15 (by kernel_rfl) rfl (by go_simp; try rfl) ?_
 try simp only [pz]
 refine PF.t 16 (by kernel_rfl) rfl (by go_simp; try rfl) ?_
 try simp only [pz]
 refine PF.t 17 (by kernel_rfl) rfl (by go_simp; try rfl) ?_
 try simp only [pz]
 refine PF.t 18 (by kernel_rfl) rfl (by go_simp; try rfl) ?_
 try simp only [pz]
 refine PF.t 19 (by kernel_rfl) rfl (by go_simp; try rfl) ?_
 try simp only [pz]
 refine PF.d (by kernel_rfl) ?_
 go_wp2_with fail
 refine PF.b (by kernel_rfl) (fun _ _ _ _ _ h => h) ?_
 refine PF.u 0 ((fun u => Blk u g1 25 (calL pC nilV).toArray)) (by kernel_rfl) rfl (HQ1.out) (fun u hu => exec_load_blk rfl rfl hu Tryz.underlying25 rfl (info_call rfl)) ?_
 try simp only [pz]
 refine PF.u 1 ((fun u => Blk u g1 25 (calL pC nilV).toArray)) (by kernel_rfl) rfl (HQ1.out) (fun u hu => exec_load_blk rfl rfl hu Tryz.underlying25 rfl (info_call rfl)) ?_
 try simp only [pz]
 refine PF.u 4 ((fun u => Blk u g3 25 (calL rC nilV).toArray)) (by kernel_rfl) rfl (HQ3.out) (fun u hu => exec_load_blk rfl rfl hu Tryz.underlying25 rfl (info_call rfl)) ?_
 try simp only [pz]
 refine PF.u 5 ((fun u => Blk u g3 25 (calL rC nilV).toArray)) (by kernel_rfl) rfl (HQ3.out) (fun u hu => exec_load_blk rfl rfl hu Tryz.underlying25 rfl (info_call rfl)) ?_
 try simp only [pz]
 refine PF.e 2 (by kernel_rfl) rfl fun K hK => ?_
 go_simp
 refine (says_any _ pC nilV 0 0 0).mono ?_
 rintro e v4_2 ⟨rfl, hb⟩
 have hb := ((Below.refl v3_14.heap.size v3_14).drew).trans hb
 have HQ1 := Bb HQ1 hb
 have HQ2 := Bb HQ2 hb
 have HQ3 := Bb HQ3 hb
 have HT := Tt HT hb
 clear hb
 refine hK (by repeat (first | exact PF.n | refine PF.l ?_ | refine PF.o (by decide +kernel) ?_ | refine PF.y (by first | exact HQ1.out | exact HQ2.out | exact HQ3.out) ?_)) ?_
 clear hK K
 try simp only [pz]
 refine PF.e 3 (by kernel_rfl) rfl fun K hK => ?_
 go_simp
 refine (both_any _ pC (saysR pC 0 0 0) nilV nilV).mono ?_
 rintro e v4_3 ⟨⟨n4_3, rfl, ho⟩, hb⟩
 have HQ1 := Bb HQ1 hb
 have HQ2 := Bb HQ2 hb
 have HQ3 := Bb HQ3 hb
 have HT := Tt HT hb
 have HN4_3 : Hid (OwH 0 v4_3 (.slice (some ⟨n4_3, 0, none⟩) 2 2) (bothV pC (saysR pC 0 0 0))) := own_lowJ ho (Nat.zero_le _)
 clear ho hb
 refine hK (by repeat (first | exact PF.n | refine PF.l ?_ | refine PF.o (by decide +kernel) ?_ | refine PF.y (by first | exact HQ1.out | exact HQ2.out | exact HQ3.out) ?_)) ?_
 clear hK K
 try simp only [pz]
 refine PF.e 6 (by kernel_rfl) rfl fun K hK => ?_
 go_simp
 refine (says_any _ rC nilV 7 0 0).mono ?_
 rintro e v4_6 ⟨rfl, hb⟩
 have HQ1 := Bb HQ1 hb
 have HQ2 := Bb HQ2 hb
 have HQ3 := Bb HQ3 hb
 have HN4_3 := Lib.hid (OwH.below HN4_3.out hb)
 have HT := Tt HT hb
 clear hb
 refine hK (by repeat (first | exact PF.n | refine PF.l ?_ | refine PF.o (by decide +kernel) ?_ | refine PF.y (by first | exact HQ1.out | exact HQ2.out | exact HQ3.out) ?_)) ?_
 clear hK K
 try simp only [pz]
 refine PF.e 7 (by kernel_rfl) rfl fun K hK => ?_
 go_simp
 refine (both_any _ rC (saysR rC 7 0 0) nilV nilV).mono ?_
 rintro e v4_7 ⟨⟨n4_7, rfl, ho⟩, hb⟩
 have HQ1 := Bb HQ1 hb
 have HQ2 := Bb HQ2 hb
 have HQ3 := Bb HQ3 hb
 have HN4_3 := Lib.hid (OwH.below HN4_3.out hb)
 have HT := Tt HT hb
 have HN4_7 : Hid (OwH 0 v4_7 (.slice (some ⟨n4_7, 0, none⟩) 2 2) (bothV rC (saysR rC 7 0 0))) := own_lowJ ho (Nat.zero_le _)
 clear ho hb
 refine hK (by repeat (first | exact PF.n | refine PF.l ?_ | refine PF.o (by decide +kernel) ?_ | refine PF.y (by first | exact HQ1.out | exact HQ2.out | exact HQ3.out) ?_)) ?_
 clear hK K
 try simp only [pz]
 refine PF.e 8 (by kernel_rfl) rfl fun K hK => ?_
 go_simp
 have hs : SlHs (fun _ => True) (v4_7.alloc (.cells #[.slice (some ⟨n4_3, 0, none⟩) 2 2, .slice (some ⟨n4_7, 0, none⟩) 2 2] 28)) (.slice (some ⟨v4_7.heap.size, 0, none⟩) 2 2) [bothV pC (saysR pC 0 0 0), bothV rC (saysR rC 7 0 0)] := slhs_new (B := 0) (vs := [.slice (some ⟨n4_3, 0, none⟩) 2 2, .slice (some ⟨n4_7, 0, none⟩) 2 2]) (Ns := [bothV pC (saysR pC 0 0 0), bothV rC (saysR rC 7 0 0)]) rfl fun i hi => (match i, hi with | 0, _ => ⟨_, rfl, HN4_3.out⟩ | 1, _ => ⟨_, rfl, HN4_7.out⟩)
 have hb := below_new v4_7 (.cells #[.slice (some ⟨n4_3, 0, none⟩) 2 2, .slice (some ⟨n4_7, 0, none⟩) 2 2] 28)
 have HQ1 := Bb HQ1 hb
 have HQ2 := Bb HQ2 hb
 have HQ3 := Bb HQ3 hb
 have HT := Tt HT hb
 have HS := Lib.hid hs
 clear hb hs
 refine hK (by repeat (first | exact PF.n | refine PF.l ?_ | refine PF.o (by decide +kernel) ?_ | refine PF.y (by first | exact HQ1.out | exact HQ2.out | exact HQ3.out) ?_)) ?_
 clear hK K
 try simp only [pz]
 refine PF.e 9 (by kernel_rfl) rfl fun K hK => ?_
 go_simp
 refine (join_any HS.out (by intro N hN x hx; simp only [List.mem_cons, List.not_mem_nil, or_false] at hN; rcases hN with rfl | rfl <;> (rcases List.mem_cons.1 hx with rfl | hx; exact ⟨rfl, rfl⟩; rw [List.mem_singleton.1 hx]; exact ⟨rfl, rfl⟩)) (by decide) (by intro N hN; simp only [List.mem_cons, List.not_mem_nil, or_false] at hN; rcases hN with rfl | rfl <;> decide)).mono ?_
 rintro e v4_9 ⟨⟨vj, rfl, ho⟩, hb⟩
 have HQ1 := Bb HQ1 hb
 have HQ2 := Bb HQ2 hb
 have HQ3 := Bb HQ3 hb
 have HT := Tt HT hb
 obtain ⟨Aj, cj, rfl, _, _⟩ := own_slice ho
 have HO := Lib.hid ho
 clear ho hb
 refine hK (by repeat (first | exact PF.n | refine PF.l ?_ | refine PF.o (by decide +kernel) ?_ | refine PF.y (by first | exact HQ1.out | exact HQ2.out | exact HQ3.out) ?_)) ?_
 clear hK K
 try simp only [pz]
 refine PF.e 10 (by kernel_rfl) rfl fun K hK => ?_
 go_simp
 refine (exam_may HO.out (h := hisB) rfl (by intro x hx; obtain ⟨N, hN, hx⟩ := List.mem_flatten.1 hx; simp only [List.mem_cons, List.not_mem_nil, or_false] at hN; rcases hN with rfl | rfl <;> exact bothV_nil rfl rfl x hx) (by decide) (by decide)).mono ?_
 rintro e v4_10 ⟨hb, b2, er2, rfl, hp⟩
 have HQ1 := Bb HQ1 hb
 have HQ2 := Bb HQ2 hb
 have HQ3 := Bb HQ3 hb
 have HT := Tt HT hb
 obtain rfl := mayB hp
 clear hb hp
 refine hK (by repeat (first | exact PF.n | refine PF.l ?_ | refine PF.o (by decide +kernel) ?_ | refine PF.y (by first | exact HQ1.out | exact HQ2.out | exact HQ3.out) ?_)) ?_
 clear hK K
 try simp only [pz]
 refine PF.t 11 (by kernel_rfl) rfl (by go_simp; try rfl) ?_
 try simp only [pz]
 refine PF.t 12 (by kernel_rfl) rfl (by go_simp; try rfl) ?_
 try simp only [pz]
 refine PF.t 13 (by kernel_rfl) rfl (by go_simp; try rfl) ?_
 try simp only [pz]
 refine PF.t 14 (by kernel_rfl) rfl (by go_simp; try rfl) ?_
 try simp only [pz]
 refine PF.t 15 (by kernel_rfl) rfl (by go_simp; try rfl) ?_
 try simp only [pz]
 refine PF.d (by kernel_rfl) ?_
 go_wp2_with fail
 refine PF.b (by kernel_rfl) (fun _ _ _ _ _ h => h) ?_
 refine PF.u 0 ((fun u => Blk u g3 25 (calL rC nilV).toArray)) (by kernel_rfl) rfl (HQ3.out) (fun u hu => exec_load_blk rfl rfl hu Tryz.underlying25 rfl (info_call rfl)) ?_
 try simp only [pz]
 refine PF.u 1 ((fun u => Blk u g3 25 (calL rC nilV).toArray)) (by kernel_rfl) rfl (HQ3.out) (fun u hu => exec_load_blk rfl rfl hu Tryz.underlying25 rfl (info_call rfl)) ?_
 try simp only [pz]
 refine PF.e 2 (by kernel_rfl) rfl fun K hK => ?_
 go_simp
 refine (says_any _ rC nilV 7 0 0).mono ?_
 rintro e v5_2 ⟨rfl, hb⟩
 have hb := ((Below.refl v4_10.heap.size v4_10).drew).trans hb
 have HQ1 := Bb HQ1 hb
 have HQ2 := Bb HQ2 hb
 have HQ3 := Bb HQ3 hb
 have HT := Tt HT hb
 clear hb
 refine hK (by repeat (first | exact PF.n | refine PF.l ?_ | refine PF.o (by decide +kernel) ?_ | refine PF.y (by first | exact HQ1.out | exact HQ2.out | exact HQ3.out) ?_)) ?_
 clear hK K
 try simp only [pz]
 refine PF.e 3 (by kernel_rfl) rfl fun K hK => ?_
 go_simp
 refine (both_any _ rC (saysR rC 7 0 0) nilV nilV).mono ?_
 rintro e v5_3 ⟨⟨n5_3, rfl, ho⟩, hb⟩
 have HQ1 := Bb HQ1 hb
 have HQ2 := Bb HQ2 hb
 have HQ3 := Bb HQ3 hb
 have HT := Tt HT hb
 have HN5_3 : Hid (OwH 0 v5_3 (.slice (some ⟨n5_3, 0, none⟩) 2 2) (bothV rC (saysR rC 7 0 0))) := own_lowJ ho (Nat.zero_le _)
 clear ho hb
 refine hK (by repeat (first | exact PF.n | refine PF.l ?_ | refine PF.o (by decide +kernel) ?_ | refine PF.y (by first | exact HQ1.out | exact HQ2.out | exact HQ3.out) ?_)) ?_
 clear hK K
 try simp only [pz]
 refine PF.t 4 (by kernel_rfl) rfl (by go_simp; try rfl) ?_
 try simp only [pz]
 refine PF.d (by kernel_rfl) ?_
 go_wp2_with fail
 refine PF.b (by kernel_rfl) (fun _ _ _ _ _ h => h) ?_
 refine PF.u 0 ((fun u => Blk u g1 25 (calL pC nilV).toArray)) (by kernel_rfl) rfl (HQ1.out) (fun u hu => exec_load_blk rfl rfl hu Tryz.underlying25 rfl (info_call rfl)) ?_
 try simp only [pz]
 refine PF.u 1 ((fun u => Blk u g1 25 (calL pC nilV).toArray)) (by kernel_rfl) rfl (HQ1.out) (fun u hu => exec_load_blk rfl rfl hu Tryz.underlying25 rfl (info_call rfl)) ?_
 try simp only [pz]
 refine PF.e 2 (by kernel_rfl) rfl fun K hK => ?_
 go_simp
 refine (says_any _ pC nilV 0 0 0).mono ?_
 rintro e v6_2 ⟨rfl, hb⟩
 have hb := ((Below.refl v5_3.heap.size v5_3).drew).trans hb
 have HQ1 := Bb HQ1 hb
 have HQ2 := Bb HQ2 hb
 have HQ3 := Bb HQ3 hb
 have HN5_3 := Lib.hid (OwH.below HN5_3.out hb)
 have HT := Tt HT hb
 clear hb
 refine hK (by repeat (first | exact PF.n | refine PF.l ?_ | refine PF.o (by decide +kernel) ?_ | refine PF.y (by first | exact HQ1.out | exact HQ2.out | exact HQ3.out) ?_)) ?_
 clear hK K
 try simp only [pz]
 refine PF.e 3 (by kernel_rfl) rfl fun K hK => ?_
 go_simp
 refine (both_any _ pC (saysR pC 0 0 0) nilV nilV).mono ?_
 rintro e v6_3 ⟨⟨n6_3, rfl, ho⟩, hb⟩
 have HQ1 := Bb HQ1 hb
 have HQ2 := Bb HQ2 hb
 have HQ3 := Bb HQ3 hb
 have HN5_3 := Lib.hid (OwH.below HN5_3.out hb)
 have HT := Tt HT hb
 have HN6_3 : Hid (OwH 0 v6_3 (.slice (some ⟨n6_3, 0, none⟩) 2 2) (bothV pC (saysR pC 0 0 0))) := own_lowJ ho (Nat.zero_le _)
 clear ho hb
 refine hK (by repeat (first | exact PF.n | refine PF.l ?_ | refine PF.o (by decide +kernel) ?_ | refine PF.y (by first | exact HQ1.out | exact HQ2.out | exact HQ3.out) ?_)) ?_
 clear hK K
 try simp only [pz]
 refine PF.t 4 (by kernel_rfl) rfl (by go_simp; try rfl) ?_
 try simp only [pz]
 refine PF.d (by kernel_rfl) ?_
 go_wp2_with fail
 refine PF.b (by kernel_rfl) (fun _ _ _ _ _ h => h) ?_
 refine PF.t 0 (by kernel_rfl) rfl (by go_simp; try rfl) ?_
 try simp only [pz]
 refine PF.t 1 (by kernel_rfl) rfl (by go_simp; try rfl) ?_
 try simp only [pz]
 refine PF.u 2 ((fun u => u.rangeAt n5_3 (0 * 19) (ntL (begV rC nilV)))) (by kernel_rfl) rfl ((owh_range HN5_3.out rfl (k := 0) (by decide))) (fun u hu => exec_load_rg rfl rfl hu Tryz.underlying38 rfl (info_note19 rfl)) ?_
 try simp only [pz]
 refine PF.t 3 (by kernel_rfl) rfl (by go_simp; try rfl) ?_
 try simp only [pz]
 refine PF.t 4 (by kernel_rfl) rfl (by go_simp; try rfl) ?_
 try simp only [pz]
 refine PF.u 5 ((fun u => u.rangeAt n6_3 (0 * 19) (ntL (begV pC nilV)))) (by kernel_rfl) rfl ((owh_range HN6_3.out rfl (k := 0) (by decide))) (fun u hu => exec_load_rg rfl rfl hu Tryz.underlying38 rfl (info_note19 rfl)) ?_
 try simp only [pz]
 refine PF.t 6 (by kernel_rfl) rfl (by go_simp; try rfl) ?_
 try simp only [pz]
 refine PF.t 7 (by kernel_rfl) rfl (by go_simp; try rfl) ?_
 try simp only [pz]
 refine PF.u 8 ((fun u => u.rangeAt n6_3 (1 * 19) (ntL (endV pC (saysR pC 0 0 0) nilV nilV)))) (by kernel_rfl) rfl ((owh_range HN6_3.out rfl (k := 1) (by decide))) (fun u hu => exec_load_rg rfl rfl hu Tryz.underlying38 rfl (info_note19 rfl)) ?_
 try simp only [pz]
 refine PF.t 9 (by kernel_rfl) rfl (by go_simp; try rfl) ?_
 try simp only [pz]
 refine PF.t 10 (by kernel_rfl) rfl (by go_simp; try rfl) ?_
 try simp only [pz]
 refine PF.u 11 ((fun u => u.rangeAt n5_3 (1 * 19) (ntL (endV rC (saysR rC 7 0 0) nilV nilV)))) (by kernel_rfl) rfl ((owh_range HN5_3.out rfl (k := 1) (by decide))) (fun u hu => exec_load_rg rfl rfl hu Tryz.underlying38 rfl (info_note19 rfl)) ?_
 try simp only [pz]
 refine PF.e 12 (by kernel_rfl) rfl fun K hK => ?_
 refine wp_bs4 rfl rfl rfl rfl rfl (slice_four (begV rC nilV) (begV pC nilV) (endV pC (saysR pC 0 0 0) nilV nilV) (endV rC (saysR rC 7 0 0) nilV nilV) _) ?_
 have ho : OwH 0 _ _ [begV rC nilV, begV pC nilV, endV pC (saysR pC 0 0 0) nilV nilV, endV rC (saysR rC 7 0 0) nilV nilV] := owh_new (B := 0) (W := v6_3.drew) [begV rC nilV, begV pC nilV, endV pC (saysR pC 0 0 0) nilV nilV, endV rC (saysR rC 7 0 0) nilV nilV] (Nat.zero_le _) (by decide)
 have hb := (Below.refl v6_3.heap.size v6_3).drew.trans (below_new v6_3.drew (.cells ([begV rC nilV, begV pC nilV, endV pC (saysR pC 0 0 0) nilV nilV, endV rC (saysR rC 7 0 0) nilV nilV].flatMap ntL).toArray 38))
 have HQ1 := Bb HQ1 hb
 have HQ2 := Bb HQ2 hb
 have HQ3 := Bb HQ3 hb
 have HN5_3 := Lib.hid (OwH.below HN5_3.out hb)
 have HN6_3 := Lib.hid (OwH.below HN6_3.out hb)
 have HT := Tt HT hb
 have HO := Lib.hid ho
 generalize hW7 : v6_3.drew.alloc (.cells ([begV rC nilV, begV pC nilV, endV pC (saysR pC 0 0 0) nilV nilV, endV rC (saysR rC 7 0 0) nilV nilV].flatMap ntL).toArray 38) = v7_12 at HO HQ1 HQ2 HQ3 HN5_3 HN6_3 HT ⊢
 clear ho hb hW7
 refine hK (by repeat (first | exact PF.n | refine PF.l ?_ | refine PF.o (by decide +kernel) ?_ | refine PF.y (by first | rfl | assumption | go_simp) ?_)) ?_
 clear hK K
 try simp only [pz]
 refine PF.e 13 (by kernel_rfl) rfl fun K hK => ?_
 go_simp
 refine (exam_may HO.out (h := hisC) rfl (by intro x hx; simp only [List.mem_cons, List.not_mem_nil, or_false] at hx; rcases hx with rfl | rfl | rfl | rfl <;> exact ⟨SlB.nil _ _, SlB.nil _ _⟩) (by decide) (by decide)).mono ?_
 rintro e v7_13 ⟨hb, b3, er3, rfl, hp⟩
 have HQ1 := Bb HQ1 hb
 have HQ2 := Bb HQ2 hb
 have HQ3 := Bb HQ3 hb
 have HN5_3 := Lib.hid (OwH.below HN5_3.out hb)
 have HN6_3 := Lib.hid (OwH.below HN6_3.out hb)
 have HT := Tt HT hb
 obtain rfl := mayCC hp
 clear hb hp
 refine hK (by repeat (first | exact PF.n | refine PF.l ?_ | refine PF.o (by decide +kernel) ?_ | refine PF.y (by first | rfl | assumption | go_simp) ?_)) ?_
 clear hK K
 try simp only [pz]
 refine PF.t 14 (by kernel_rfl) rfl (by go_simp; try rfl) ?_
 try simp only [pz]
 refine PF.t 15 (by kernel_rfl) rfl (by go_simp; try rfl) ?_
 try simp only [pz]
 refine PF.t 16 (by kernel_rfl) rfl (by go_simp; try rfl) ?_
 try simp only [pz]
 refine PF.t 17 (by kernel_rfl) rfl (by go_simp; try rfl) ?_
 try simp only [pz]
 refine PF.t 18 (by kernel_rfl) rfl (by go_simp; try rfl) ?_
 try simp only [pz]
 refine PF.d (by kernel_rfl) ?_
 go_wp2_with fail
 refine (HP4.out v7_13).mono ?_
 rintro e v8 ⟨rfl, hb⟩
 have HQ1 := Bb HQ1 hb
 have HQ2 := Bb HQ2 hb
 have HQ3 := Bb HQ3 hb
 have HN6_3 := Lib.hid (OwH.below HN6_3.out hb)
 have HT := Tt HT hb
 clear hb
 go_wp2_with (refine wpList_alloc_blk rfl rfl zero_call ?_; intro g12 w13 e3 hB3 hb3; refine Hid.out ?_)
 refine Lib.hid ?_
 refine wpList_store_blk (cs := (calL sC nilV).toArray) rfl rfl rfl rfl hB3 rfl (info_call rfl) (calL_one rfl) ?_
 intro w14 hB9 hm9
 have HQ1 := Lib.hid ((HQ1.out.below hb3 HQ1.out.lt).mod hm9 fun e => by have := HQ1.out.lt; omega)
 have HQ3 := Lib.hid ((HQ3.out.below hb3 HQ3.out.lt).mod hm9 fun e => by have := HQ3.out.lt; omega)
 have HN6_3 : Hid (OwH 0 w14 (.slice (some ⟨n6_3, 0, none⟩) 2 2) (bothV pC (saysR pC 0 0 0))) := own_mod (OwH.below HN6_3.out hb3) hm9 fun b hb e => by have := (HN6_3.out.lt b hb).2; omega
 have HQ4 := Lib.hid hB9
 have HT14 : Hid (Below w.heap.size w w14) := by
  have h2 := HT.out.trans (hb3.mono HT.out.size)
  exact h2.trans (hm9.to_below h2.size fun b hb e => by have := HT.out.size; omega)
 have HT := HT14
 clear HT14 e3 hB3 hb3 hB9 hm9
 go_wp2_with fail
 refine PF.b (by kernel_rfl) (fun _ _ _ _ _ h => h) ?_
 refine PF.u 0 ((fun u => Blk u g1 25 (calL pC nilV).toArray)) (by kernel_rfl) rfl (HQ1.out) (fun u hu => exec_load_blk rfl rfl hu Tryz.underlying25 rfl (info_call rfl)) ?_
 try simp only [pz]
 refine PF.u 1 ((fun u => Blk u g1 25 (calL pC nilV).toArray)) (by kernel_rfl) rfl (HQ1.out) (fun u hu => exec_load_blk rfl rfl hu Tryz.underlying25 rfl (info_call rfl)) ?_
 try simp only [pz]
 refine PF.u 4 ((fun u => Blk u g3 25 (calL rC nilV).toArray)) (by kernel_rfl) rfl (HQ3.out) (fun u hu => exec_load_blk rfl rfl hu Tryz.underlying25 rfl (info_call rfl)) ?_
 try simp only [pz]
 refine PF.u 5 ((fun u => Blk u g3 25 (calL rC nilV).toArray)) (by kernel_rfl) rfl (HQ3.out) (fun u hu => exec_load_blk rfl rfl hu Tryz.underlying25 rfl (info_call rfl)) ?_
 try simp only [pz]
 refine PF.u 8 ((fun u => Blk u g12 25 (calL sC nilV).toArray)) (by kernel_rfl) rfl (HQ4.out) (fun u hu => exec_load_blk rfl rfl hu Tryz.underlying25 rfl (info_call rfl)) ?_
 try simp only [pz]
 refine PF.u 9 ((fun u => Blk u g12 25 (calL sC nilV).toArray)) (by kernel_rfl) rfl (HQ4.out) (fun u hu => exec_load_blk rfl rfl hu Tryz.underlying25 rfl (info_call rfl)) ?_
 try simp only [pz]
 refine PF.e 2 (by kernel_rfl) rfl fun K hK => ?_
 go_simp
 refine (says_any _ pC nilV 3 0 0).mono ?_
 rintro e v9_2 ⟨rfl, hb⟩
 have hb := ((Below.refl w14.heap.size w14).drew).trans hb
 have HQ1 := Bb HQ1 hb
 have HQ3 := Bb HQ3 hb
 have HQ4 := Bb HQ4 hb
 have HN6_3 := Lib.hid (OwH.below HN6_3.out hb)
 have HT := Tt HT hb
 clear hb
 refine hK (by repeat (first | exact PF.n | refine PF.l ?_ | refine PF.o (by decide +kernel) ?_ | refine PF.y (by first | exact HQ1.out | exact HQ3.out | exact HQ4.out) ?_)) ?_
 clear hK K
 try simp only [pz]
 refine PF.e 3 (by kernel_rfl) rfl fun K hK => ?_
 go_simp
 refine (both_any _ pC (saysR pC 3 0 0) nilV nilV).mono ?_
 rintro e v9_3 ⟨⟨n9_3, rfl, ho⟩, hb⟩
 have HQ1 := Bb HQ1 hb
 have HQ3 := Bb HQ3 hb
 have HQ4 := Bb HQ4 hb
 have HN6_3 := Lib.hid (OwH.below HN6_3.out hb)
 have HT := Tt HT hb
 have HN9_3 : Hid (OwH 0 v9_3 (.slice (some ⟨n9_3, 0, none⟩) 2 2) (bothV pC (saysR pC 3 0 0))) := own_lowJ ho (Nat.zero_le _)
 clear ho hb
 refine hK (by repeat (first | exact PF.n | refine PF.l ?_ | refine PF.o (by decide +kernel) ?_ | refine PF.y (by first | exact HQ1.out | exact HQ3.out | exact HQ4.out) ?_)) ?_
 clear hK K
 try simp only [pz]
 refine PF.e 6 (by kernel_rfl) rfl fun K hK => ?_
 go_simp
 refine (says_any _ rC nilV 0 0 1).mono ?_
 rintro e v9_6 ⟨rfl, hb⟩
 have HQ1 := Bb HQ1 hb
 have HQ3 := Bb HQ3 hb
 have HQ4 := Bb HQ4 hb
 have HN6_3 := Lib.hid (OwH.below HN6_3.out hb)
 have HN9_3 := Lib.hid (OwH.below HN9_3.out hb)
 have HT := Tt HT hb
 clear hb
 refine hK (by repeat (first | exact PF.n | refine PF.l ?_ | refine PF.o (by decide +kernel) ?_ | refine PF.y (by first | exact HQ1.out | exact HQ3.out | exact HQ4.out) ?_)) ?_
 clear hK K
 try simp only [pz]
 refine PF.e 7 (by kernel_rfl) rfl fun K hK => ?_
 go_simp
 refine (both_any _ rC (saysR rC 0 0 1) nilV nilV).mono ?_
 rintro e v9_7 ⟨⟨n9_7, rfl, ho⟩, hb⟩
 have HQ1 := Bb HQ1 hb
 have HQ3 := Bb HQ3 hb
 have HQ4 := Bb HQ4 hb
 have HN6_3 := Lib.hid (OwH.below HN6_3.out hb)
 have HN9_3 := Lib.hid (OwH.below HN9_3.out hb)
 have HT := Tt HT hb
 have HN9_7 : Hid (OwH 0 v9_7 (.slice (some ⟨n9_7, 0, none⟩) 2 2) (bothV rC (saysR rC 0 0 1))) := own_lowJ ho (Nat.zero_le _)
 clear ho hb
 refine hK (by repeat (first | exact PF.n | refine PF.l ?_ | refine PF.o (by decide +kernel) ?_ | refine PF.y (by first | exact HQ1.out | exact HQ3.out | exact HQ4.out) ?_)) ?_
 clear hK K
 try simp only [pz]
 refine PF.e 10 (by kernel_rfl) rfl fun K hK => ?_
 go_simp
 refine (says_any _ sC nilV 7 0 0).mono ?_
 rintro e v9_10 ⟨rfl, hb⟩
 have HQ1 := Bb HQ1 hb
 have HQ3 := Bb HQ3 hb
 have HQ4 := Bb HQ4 hb
 have HN6_3 := Lib.hid (OwH.below HN6_3.out hb)
 have HN9_3 := Lib.hid (OwH.below HN9_3.out hb)
 have HN9_7 := Lib.hid (OwH.below HN9_7.out hb)
 have HT := Tt HT hb
 clear hb
 refine hK (by repeat (first | exact PF.n | refine PF.l ?_ | refine PF.o (by decide +kernel) ?_ | refine PF.y (by first | exact HQ1.out | exact HQ3.out | exact HQ4.out) ?_)) ?_
 clear hK K
 try simp only [pz]
 refine PF.e 11 (by kernel_rfl) rfl fun K hK => ?_
 go_simp
 refine (both_any _ sC (saysR sC 7 0 0) nilV nilV).mono ?_
 rintro e v9_11 ⟨⟨n9_11, rfl, ho⟩, hb⟩
 have HQ1 := Bb HQ1 hb
 have HQ3 := Bb HQ3 hb
 have HQ4 := Bb HQ4 hb
 have HN6_3 := Lib.hid (OwH.below HN6_3.out hb)
 have HN9_3 := Lib.hid (OwH.below HN9_3.out hb)
 have HN9_7 := Lib.hid (OwH.below HN9_7.out hb)
 have HT := Tt HT hb
 have HN9_11 : Hid (OwH 0 v9_11 (.slice (some ⟨n9_11, 0, none⟩) 2 2) (bothV sC (saysR sC 7 0 0))) := own_lowJ ho (Nat.zero_le _)
 clear ho hb
 refine hK (by repeat (first | exact PF.n | refine PF.l ?_ | refine PF.o (by decide +kernel) ?_ | refine PF.y (by first | exact HQ1.out | exact HQ3.out | exact HQ4.out) ?_)) ?_
 clear hK K
 try simp only [pz]
 refine PF.e 12 (by kernel_rfl) rfl fun K hK => ?_
 go_simp
 have hs : SlHs (fun _ => True) (v9_11.alloc (.cells #[.slice (some ⟨n9_3, 0, none⟩) 2 2, .slice (some ⟨n9_7, 0, none⟩) 2 2, .slice (some ⟨n9_11, 0, none⟩) 2 2] 28)) (.slice (some ⟨v9_11.heap.size, 0, none⟩) 3 3) [bothV pC (saysR pC 3 0 0), bothV rC (saysR rC 0 0 1), bothV sC (saysR sC 7 0 0)] := slhs_new (B := 0) (vs := [.slice (some ⟨n9_3, 0, none⟩) 2 2, .slice (some ⟨n9_7, 0, none⟩) 2 2, .slice (some ⟨n9_11, 0, none⟩) 2 2]) (Ns := [bothV pC (saysR pC 3 0 0), bothV rC (saysR rC 0 0 1), bothV sC (saysR sC 7 0 0)]) rfl fun i hi => (match i, hi with | 0, _ => ⟨_, rfl, HN9_3.out⟩ | 1, _ => ⟨_, rfl, HN9_7.out⟩ | 2, _ => ⟨_, rfl, HN9_11.out⟩)
 have hb := below_new v9_11 (.cells #[.slice (some ⟨n9_3, 0, none⟩) 2 2, .slice (some ⟨n9_7, 0, none⟩) 2 2, .slice (some ⟨n9_11, 0, none⟩) 2 2] 28)
 have HQ1 := Bb HQ1 hb
 have HQ3 := Bb HQ3 hb
 have HQ4 := Bb HQ4 hb
 have HN6_3 := Lib.hid (OwH.below HN6_3.out hb)
 have HT := Tt HT hb
 have HS := Lib.hid hs
 clear hb hs
 refine hK (by repeat (first | exact PF.n | refine PF.l ?_ | refine PF.o (by decide +kernel) ?_ | refine PF.y (by first | exact HQ1.out | exact HQ3.out | exact HQ4.out) ?_)) ?_
 clear hK K
 try simp only [pz]
 refine PF.e 13 (by kernel_rfl) rfl fun K hK => ?_
 go_simp
 refine (join_any HS.out (by intro N hN x hx; simp only [List.mem_cons, List.not_mem_nil, or_false] at hN; rcases hN with rfl | rfl | rfl <;> (rcases List.mem_cons.1 hx with rfl | hx; exact ⟨rfl, rfl⟩; rw [List.mem_singleton.1 hx]; exact ⟨rfl, rfl⟩)) (by decide) (by intro N hN; simp only [List.mem_cons, List.not_mem_nil, or_false] at hN; rcases hN with rfl | rfl | rfl <;> decide)).mono ?_
 rintro e v9_13 ⟨⟨vj, rfl, ho⟩, hb⟩
 have HQ1 := Bb HQ1 hb
 have HQ3 := Bb HQ3 hb
 have HQ4 := Bb HQ4 hb
 have HN6_3 := Lib.hid (OwH.below HN6_3.out hb)
 have HT := Tt HT hb
 obtain ⟨Aj, cj, rfl, _, _⟩ := own_slice ho
 have HO := Lib.hid ho
 clear ho hb
 refine hK (by repeat (first | exact PF.n | refine PF.l ?_ | refine PF.o (by decide +kernel) ?_ | refine PF.y (by first | exact HQ1.out | exact HQ3.out | exact HQ4.out) ?_)) ?_
 clear hK K
 try simp only [pz]
 refine PF.e 14 (by kernel_rfl) rfl fun K hK => ?_
 go_simp
 refine (exam_may HO.out (h := hisD) rfl (by intro x hx; obtain ⟨N, hN, hx⟩ := List.mem_flatten.1 hx; simp only [List.mem_cons, List.not_mem_nil, or_false] at hN; rcases hN with rfl | rfl | rfl <;> exact bothV_nil rfl rfl x hx) (by decide) (by decide)).mono ?_
 rintro e v9_14 ⟨hb, b4, er4, rfl, hp⟩
 have HQ1 := Bb HQ1 hb
 have HQ3 := Bb HQ3 hb
 have HQ4 := Bb HQ4 hb
 have HN6_3 := Lib.hid (OwH.below HN6_3.out hb)
 have HT := Tt HT hb
 obtain rfl := mayD hp
 clear hb hp
 refine hK (by repeat (first | exact PF.n | refine PF.l ?_ | refine PF.o (by decide +kernel) ?_ | refine PF.y (by first | exact HQ1.out | exact HQ3.out | exact HQ4.out) ?_)) ?_
 clear hK K
 try simp only [pz]
 refine PF.t 15 (by kernel_rfl) rfl (by go_simp; try rfl) ?_
 try simp only [pz]
 refine PF.t 16 (by kernel_rfl) rfl (by go_simp; try rfl) ?_
 try simp only [pz]
 refine PF.t 17 (by kernel_rfl) rfl (by go_simp; try rfl) ?_
 try simp only [pz]
 refine PF.t 18 (by kernel_rfl) rfl (by go_simp; try rfl) ?_
 try simp only [pz]
 refine PF.t 19 (by kernel_rfl) rfl (by go_simp; try rfl) ?_
 try simp only [pz]
 refine PF.d (by kernel_rfl) ?_
 have hre : SlH (fun _ => True) v9_14 (.slice (some ⟨n6_3, 19, none⟩) 1 1) hisE :=
  ⟨_, 1, [endV pC (saysR pC 0 0 0) nilV nilV], rfl, rfl, reads_range (by have h := owh_range HN6_3.out rfl (k := 1) (by decide); exact h) (HN6_3.out.lt _ rfl).2 rfl, fun x hx => by rw [List.mem_singleton.1 hx]; exact ⟨SlB.nil _ _, SlB.nil _ _⟩, Nat.le_refl _, by decide, fun _ _ _ => trivial⟩
 have hmE := jmay_any hre (fun x hx => ntok_of (List.all_eq_true.1 (show hisE.all ntokB = true by decide) x hx)) (by decide)
 have HME := Lib.hid hmE
 clear hre hmE
 go_wp2_with fail
 refine HME.out.mono ?_
 rintro e v10 ⟨hb, b5, er5, rfl, hp⟩
 obtain rfl := mayE hp
 have HT := Tt HT hb
 clear hb hp
 go_wp2_with fail
 go_ret
 exact ⟨rfl, HT.out⟩
end Go.Proofs.YtpjmolnkmlpfeaaGreatDoor
