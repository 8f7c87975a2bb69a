/- The reader of a draft of layer 10: statements that block makes (1, 2, 4). -/
import Derived.Test.YtccgpmncpemmdaaDoorDnD
namespace Go.Proofs.YtccgpmncpemmdaaDoor
open Go Go.RowKit
set_option linter.unusedSimpArgs false
set_option linter.unusedVariables false
set_option linter.unnecessarySimpa false
set_option maxRecDepth 1000000 in
set_option maxHeartbeats 8000000 in
theorem nleaf_1 (sb g deep b p1 nx h : Nat) (L : List Nat) (blk : Qn → List St × Qn) (va : Option Addr) (ln vcap : Nat) (wo wc : World)
    (hb255 : b ≤ 255) (hn59 : nx < 60) (hp1 : p1 ≤ L.length) (hdp5 : (deep : Int) ≤ 5) (HKK : Hid (1 = skN h b))
    (HB : Hid (Bx wo sb g L #[.int .i64 ((1 : Nat) : Int), .int .i64 nx, .string ⟨#[]⟩, .int .i64 0, .string ⟨#[]⟩, .slice none 0 0, .slice none 0 0, .slice none 0 0] p1 (nx + 1) wc))
    (u8 u9 u10 u11 u12 u13 u14 u15 u16 u17 u18 u19 u20 u21 u22 u23 u24 u25 u26 u27 u28 u29 u30 u31 u32 u33 u34 u35 u36 u37 u38 u39 u40 u41 u42 u43 u44 u45 u46 u47 u48 u49 u50 u51 u52 u53 u54 u55 u56 u57 u58 u59 u60 u61 u62 u63 u64 u65 u66 u67 u68 u69 u70 u71 u72 u73 u74 u75 u76 u77 u78 u79 u80 u81 u82 u83 u84 u85 u86 u87 u88 u89 u90 u91 u92 u93 u94 u95 u96 u97 u98 u99 u100 u101 u102 u103 u104 u105 u106 u107 u108 u109 u110 u111 u112 u113 u114 u115 u116 u117 u118 u119 u120 u121 u122 u123 u124 u125 u126 u127 u128 u129 u130 u131 u132 u133 u134 u135 u136 u137 u138 u139 u140 u141 u142 u143 u144 u145 u146 u147 u148 u149 u150 u151 u152 u153 u154 u155 u156 u157 u158 u159 u160 u161 u162 u163 u164 u165 u166 u167 u168 u169 u170 u171 u172 u173 u174 u175 u176 u177 u178 u179 u180 u181 u182 u183 : Value) :
    Code.wp Tryd.prog ((Tryd.f31.body.bind (codeAt 9)).getD .skip) (Exit.then (SwI sb g deep b va ln vcap (fun wx => Hid (StR wo sb g L (stN L h blk b nx (p1, nx + 1)).1 (stN L h blk b nx (p1, nx + 1)).2 wx))) (fun _ _ _ => False)) ⟨#[.pointer (some ⟨sb, 0, none⟩), .int .i64 (deep : Nat), undef, undef, .slice none 0 0, .slice va ln vcap, .int .u8 (b : Nat), .pointer (some ⟨g, 0, none⟩), u8, u9, u10, u11, u12, u13, u14, u15, u16, u17, u18, u19, u20, u21, u22, u23, u24, u25, u26, u27, u28, u29, u30, u31, u32, u33, u34, u35, u36, u37, u38, u39, u40, u41, u42, u43, u44, u45, u46, u47, u48, u49, u50, u51, u52, u53, u54, u55, u56, u57, u58, u59, u60, u61, u62, u63, u64, u65, u66, u67, u68, u69, u70, u71, u72, u73, u74, u75, u76, u77, u78, u79, u80, u81, u82, u83, u84, u85, u86, u87, u88, u89, u90, u91, u92, u93, u94, u95, u96, u97, u98, u99, u100, u101, u102, u103, u104, u105, u106, u107, u108, u109, u110, u111, u112, u113, u114, u115, u116, u117, u118, u119, u120, u121, u122, u123, u124, u125, u126, u127, u128, u129, u130, u131, u132, u133, u134, u135, u136, u137, u138, u139, u140, u141, u142, u143, u144, u145, u146, u147, u148, u149, u150, u151, u152, u153, u154, u155, u156, u157, u158, u159, u160, u161, u162, u163, u164, u165, u166, u167, u168, u169, u170, u171, u172, u173, u174, u175, u176, u177, u178, u179, u180, u181, u182, u183, undef], []⟩ wc := by
  have HBW := hide fun p => HB.out.src.byte_le p
  have HN := hide fun (p nx : Nat) (W : World) (hW : Rdr W sb L p nx) => byte_any sb nx p L W hW
  have HE3 := hide fun (p nx : Nat) (W : World) (hW : Rdr W sb L p nx) => nexpr3_any sb nx L W p hW
  have HE2 := hide fun (p nx : Nat) (W : World) (hW : Rdr W sb L p nx) => nexpr2_any sb nx L W p hW
  obtain ⟨s', q', hsq⟩ : ∃ s' q', stN L h blk b nx (p1, nx + 1) = (s', q') := ⟨_, _, rfl⟩
  rw [hsq]
  have HSQ := hide hsq
  clear hsq
  conv => arg 2; whnf
  have x0 := cell_at (j := 0) HB.out.x rfl
  have hgl := HB.out.glt
  go_wp2_with fail
  refine (HN.out p1 (nx + 1) _ ?_).mono ?_
  · exact (HB.out).src
  rintro r wa ⟨rfl, HSa, hKa⟩
  have HBa := (HB.out).st HSa hKa
  clear HSa hKa
  go_wp2_with fail
  refine (word_any _ (HBW.out _) _).mono ?_
  rintro r wb ⟨rfl, hbb⟩
  have HBb := HBa.be hbb
  have HE : Hid (wdN (rbN L p1).1 = (wrN L p1).1) := hide rfl
  have HE2 : Hid ((rbN L p1).2 = (wrN L p1).2) := hide rfl
  rw [HE.out]
  rw [HE2.out] at HBb
  clear hbb HBa HE HE2
  replace HB := hide HBb
  clear HBb x0 hgl
  have x2 := cell_at (j := 2) HB.out.x rfl
  have f2 := free_at (j := 2) HB.out.x
  have x3 := cell_at (j := 3) HB.out.x rfl
  have f3 := free_at (j := 3) HB.out.x
  have hgl := HB.out.glt
  have HB2 := (HB.out.set 2 (.string ⟨List.toArray (wrN L p1).1⟩)).set 3 (.int .i64 (1 + (b : Int) / 10 % 3))
  by_cases h100 : 100 ≤ b
  · have hd100 : decide ((100 : Int) ≤ (b : Int)) = true := decide_eq_true (by omega)
    have hi100 : (100 : Int) ≤ (b : Int) := by omega
    have e : stN L h blk b nx (p1, nx + 1) = (.mk 1 nx (wrN L p1).1 (1 + (b : Int) / 10 % 3) [] [(exN L 3 (wrN L p1).2).1] [] [], ((exN L 3 (wrN L p1).2).2, nx + 1)) := by rw [stN]; simp [← HKK.out, h100]
    obtain ⟨rfl, rfl⟩ := Prod.mk.inj (HSQ.out.symm.trans e)
    clear e
    go_wp2_with fail
    refine (HE3.out (wrN L p1).2 (nx + 1) _ ?_).mono ?_
    · exact (HB2).src
    rintro r wd ⟨⟨v, rfl, hv⟩, HSd, hKd⟩
    have HBd := (HB2).st HSd hKd
    obtain ⟨ea, ecap, rfl, hew, her⟩ := hv
    have HEW := hide hew
    have HER := hide (her.has (has_nws (Nat.succ_le_of_lt (HB2).glt)))
    clear hew her HSd hKd
    clear x2 f2 x3 f3 hgl
    replace HB := hide HBd
    have x5 := cell_at (j := 5) HB.out.x rfl
    have f5 := free_at (j := 5) HB.out.x
    have hgl := HB.out.glt
    go_wp2_with fail
    unfold SwI
    (repeat apply Exists.intro)
    refine ⟨?_, rfl⟩
    refine ⟨rfl, hide ?_⟩
    obtain ⟨h1, h2⟩ := HB.out.row1 HEW.out HER.out rfl
    exact StR.of _ none none 1 0 0 h1 (by simp) (stWfN (by omega) (by omega) (by omega) (wr_100 L p1) z_100 oo_le zz_le zz_le) h2 trivial trivial
  · have hd100 : decide ((100 : Int) ≤ (b : Int)) = false := decide_eq_false (by omega)
    have hi100 : (b : Int) < 100 := by omega
    have e : stN L h blk b nx (p1, nx + 1) = (.mk 1 nx (wrN L p1).1 (1 + (b : Int) / 10 % 3) [] [] [] [], ((wrN L p1).2, nx + 1)) := by rw [stN]; simp [← HKK.out, h100]
    obtain ⟨rfl, rfl⟩ := Prod.mk.inj (HSQ.out.symm.trans e)
    clear e
    go_wp2_with fail
    unfold SwI
    (repeat apply Exists.intro)
    refine ⟨?_, rfl⟩
    refine ⟨rfl, hide ?_⟩
    exact StR.of none none none 0 0 0 HB2 (by simp) (stWfN (by omega) (by omega) (by omega) (wr_100 L p1) z_100 zz_le zz_le zz_le) trivial trivial trivial
set_option maxRecDepth 1000000 in
set_option maxHeartbeats 8000000 in
theorem nleaf_2 (sb g deep b p1 nx h : Nat) (L : List Nat) (blk : Qn → List St × Qn) (va : Option Addr) (ln vcap : Nat) (wo wc : World)
    (hb255 : b ≤ 255) (hn59 : nx < 60) (hp1 : p1 ≤ L.length) (hdp5 : (deep : Int) ≤ 5) (HKK : Hid (2 = skN h b))
    (HB : Hid (Bx wo sb g L #[.int .i64 ((2 : Nat) : Int), .int .i64 nx, .string ⟨#[]⟩, .int .i64 0, .string ⟨#[]⟩, .slice none 0 0, .slice none 0 0, .slice none 0 0] p1 (nx + 1) wc))
    (u8 u9 u10 u11 u12 u13 u14 u15 u16 u17 u18 u19 u20 u21 u22 u23 u24 u25 u26 u27 u28 u29 u30 u31 u32 u33 u34 u35 u36 u37 u38 u39 u40 u41 u42 u43 u44 u45 u46 u47 u48 u49 u50 u51 u52 u53 u54 u55 u56 u57 u58 u59 u60 u61 u62 u63 u64 u65 u66 u67 u68 u69 u70 u71 u72 u73 u74 u75 u76 u77 u78 u79 u80 u81 u82 u83 u84 u85 u86 u87 u88 u89 u90 u91 u92 u93 u94 u95 u96 u97 u98 u99 u100 u101 u102 u103 u104 u105 u106 u107 u108 u109 u110 u111 u112 u113 u114 u115 u116 u117 u118 u119 u120 u121 u122 u123 u124 u125 u126 u127 u128 u129 u130 u131 u132 u133 u134 u135 u136 u137 u138 u139 u140 u141 u142 u143 u144 u145 u146 u147 u148 u149 u150 u151 u152 u153 u154 u155 u156 u157 u158 u159 u160 u161 u162 u163 u164 u165 u166 u167 u168 u169 u170 u171 u172 u173 u174 u175 u176 u177 u178 u179 u180 u181 u182 u183 : Value) :
    Code.wp Tryd.prog ((Tryd.f31.body.bind (codeAt 9)).getD .skip) (Exit.then (SwI sb g deep b va ln vcap (fun wx => Hid (StR wo sb g L (stN L h blk b nx (p1, nx + 1)).1 (stN L h blk b nx (p1, nx + 1)).2 wx))) (fun _ _ _ => False)) ⟨#[.pointer (some ⟨sb, 0, none⟩), .int .i64 (deep : Nat), undef, undef, .slice none 0 0, .slice va ln vcap, .int .u8 (b : Nat), .pointer (some ⟨g, 0, none⟩), u8, u9, u10, u11, u12, u13, u14, u15, u16, u17, u18, u19, u20, u21, u22, u23, u24, u25, u26, u27, u28, u29, u30, u31, u32, u33, u34, u35, u36, u37, u38, u39, u40, u41, u42, u43, u44, u45, u46, u47, u48, u49, u50, u51, u52, u53, u54, u55, u56, u57, u58, u59, u60, u61, u62, u63, u64, u65, u66, u67, u68, u69, u70, u71, u72, u73, u74, u75, u76, u77, u78, u79, u80, u81, u82, u83, u84, u85, u86, u87, u88, u89, u90, u91, u92, u93, u94, u95, u96, u97, u98, u99, u100, u101, u102, u103, u104, u105, u106, u107, u108, u109, u110, u111, u112, u113, u114, u115, u116, u117, u118, u119, u120, u121, u122, u123, u124, u125, u126, u127, u128, u129, u130, u131, u132, u133, u134, u135, u136, u137, u138, u139, u140, u141, u142, u143, u144, u145, u146, u147, u148, u149, u150, u151, u152, u153, u154, u155, u156, u157, u158, u159, u160, u161, u162, u163, u164, u165, u166, u167, u168, u169, u170, u171, u172, u173, u174, u175, u176, u177, u178, u179, u180, u181, u182, u183, undef], []⟩ wc := by
  have HBW := hide fun p => HB.out.src.byte_le p
  have HN := hide fun (p nx : Nat) (W : World) (hW : Rdr W sb L p nx) => byte_any sb nx p L W hW
  have HE3 := hide fun (p nx : Nat) (W : World) (hW : Rdr W sb L p nx) => nexpr3_any sb nx L W p hW
  have HE2 := hide fun (p nx : Nat) (W : World) (hW : Rdr W sb L p nx) => nexpr2_any sb nx L W p hW
  obtain ⟨s', q', hsq⟩ : ∃ s' q', stN L h blk b nx (p1, nx + 1) = (s', q') := ⟨_, _, rfl⟩
  rw [hsq]
  have HSQ := hide hsq
  clear hsq
  conv => arg 2; whnf
  have e : stN L h blk b nx (p1, nx + 1) = (.mk 2 nx (wrN L p1).1 0 [] [(exN L 3 (wrN L p1).2).1] [] [], ((exN L 3 (wrN L p1).2).2, nx + 1)) := by rw [stN]; simp [← HKK.out]
  obtain ⟨rfl, rfl⟩ := Prod.mk.inj (HSQ.out.symm.trans e)
  clear e
  have x0 := cell_at (j := 0) HB.out.x rfl
  have hgl := HB.out.glt
  go_wp2_with fail
  refine (HN.out p1 (nx + 1) _ ?_).mono ?_
  · exact (HB.out).src
  rintro r wa ⟨rfl, HSa, hKa⟩
  have HBa := (HB.out).st HSa hKa
  clear HSa hKa
  go_wp2_with fail
  refine (word_any _ (HBW.out _) _).mono ?_
  rintro r wb ⟨rfl, hbb⟩
  have HBb := HBa.be hbb
  have HE : Hid (wdN (rbN L p1).1 = (wrN L p1).1) := hide rfl
  have HE2 : Hid ((rbN L p1).2 = (wrN L p1).2) := hide rfl
  rw [HE.out]
  rw [HE2.out] at HBb
  clear hbb HBa HE HE2
  clear x0 hgl
  go_wp2_with fail
  refine (HE3.out (wrN L p1).2 (nx + 1) _ ?_).mono ?_
  · exact (HBb).src
  rintro r wd ⟨⟨v, rfl, hv⟩, HSd, hKd⟩
  have HBd := (HBb).st HSd hKd
  obtain ⟨ea, ecap, rfl, hew, her⟩ := hv
  have HEW := hide hew
  have HER := hide (her.has (has_nws (Nat.succ_le_of_lt (HBb).glt)))
  clear hew her HSd hKd
  replace HB := hide HBd
  have x2 := cell_at (j := 2) HB.out.x rfl
  have f2 := free_at (j := 2) HB.out.x
  have x5 := cell_at (j := 5) HB.out.x rfl
  have f5 := free_at (j := 5) HB.out.x
  have hgl := HB.out.glt
  go_wp2_with fail
  unfold SwI
  (repeat apply Exists.intro)
  refine ⟨?_, rfl⟩
  refine ⟨rfl, hide ?_⟩
  have HB2 := HB.out.set 2 (.string ⟨List.toArray (wrN L p1).1⟩)
  obtain ⟨h1, h2⟩ := HB2.row1 (n := wd.heap.size) HEW.out (HER.out.has (HB.out.rset 2 _)) (by simp)
  exact StR.of _ none none 1 0 0 h1 (by simp) (stWfN (by omega) (by omega) (by omega) (wr_100 L p1) z_100 oo_le zz_le zz_le) h2 trivial trivial
set_option maxRecDepth 1000000 in
set_option maxHeartbeats 8000000 in
theorem nleaf_4 (sb g deep b p1 nx h : Nat) (L : List Nat) (blk : Qn → List St × Qn) (va : Option Addr) (ln vcap : Nat) (wo wc : World)
    (hb255 : b ≤ 255) (hn59 : nx < 60) (hp1 : p1 ≤ L.length) (hdp5 : (deep : Int) ≤ 5) (HKK : Hid (4 = skN h b))
    (HB : Hid (Bx wo sb g L #[.int .i64 ((4 : Nat) : Int), .int .i64 nx, .string ⟨#[]⟩, .int .i64 0, .string ⟨#[]⟩, .slice none 0 0, .slice none 0 0, .slice none 0 0] p1 (nx + 1) wc))
    (u8 u9 u10 u11 u12 u13 u14 u15 u16 u17 u18 u19 u20 u21 u22 u23 u24 u25 u26 u27 u28 u29 u30 u31 u32 u33 u34 u35 u36 u37 u38 u39 u40 u41 u42 u43 u44 u45 u46 u47 u48 u49 u50 u51 u52 u53 u54 u55 u56 u57 u58 u59 u60 u61 u62 u63 u64 u65 u66 u67 u68 u69 u70 u71 u72 u73 u74 u75 u76 u77 u78 u79 u80 u81 u82 u83 u84 u85 u86 u87 u88 u89 u90 u91 u92 u93 u94 u95 u96 u97 u98 u99 u100 u101 u102 u103 u104 u105 u106 u107 u108 u109 u110 u111 u112 u113 u114 u115 u116 u117 u118 u119 u120 u121 u122 u123 u124 u125 u126 u127 u128 u129 u130 u131 u132 u133 u134 u135 u136 u137 u138 u139 u140 u141 u142 u143 u144 u145 u146 u147 u148 u149 u150 u151 u152 u153 u154 u155 u156 u157 u158 u159 u160 u161 u162 u163 u164 u165 u166 u167 u168 u169 u170 u171 u172 u173 u174 u175 u176 u177 u178 u179 u180 u181 u182 u183 : Value) :
    Code.wp Tryd.prog ((Tryd.f31.body.bind (codeAt 9)).getD .skip) (Exit.then (SwI sb g deep b va ln vcap (fun wx => Hid (StR wo sb g L (stN L h blk b nx (p1, nx + 1)).1 (stN L h blk b nx (p1, nx + 1)).2 wx))) (fun _ _ _ => False)) ⟨#[.pointer (some ⟨sb, 0, none⟩), .int .i64 (deep : Nat), undef, undef, .slice none 0 0, .slice va ln vcap, .int .u8 (b : Nat), .pointer (some ⟨g, 0, none⟩), u8, u9, u10, u11, u12, u13, u14, u15, u16, u17, u18, u19, u20, u21, u22, u23, u24, u25, u26, u27, u28, u29, u30, u31, u32, u33, u34, u35, u36, u37, u38, u39, u40, u41, u42, u43, u44, u45, u46, u47, u48, u49, u50, u51, u52, u53, u54, u55, u56, u57, u58, u59, u60, u61, u62, u63, u64, u65, u66, u67, u68, u69, u70, u71, u72, u73, u74, u75, u76, u77, u78, u79, u80, u81, u82, u83, u84, u85, u86, u87, u88, u89, u90, u91, u92, u93, u94, u95, u96, u97, u98, u99, u100, u101, u102, u103, u104, u105, u106, u107, u108, u109, u110, u111, u112, u113, u114, u115, u116, u117, u118, u119, u120, u121, u122, u123, u124, u125, u126, u127, u128, u129, u130, u131, u132, u133, u134, u135, u136, u137, u138, u139, u140, u141, u142, u143, u144, u145, u146, u147, u148, u149, u150, u151, u152, u153, u154, u155, u156, u157, u158, u159, u160, u161, u162, u163, u164, u165, u166, u167, u168, u169, u170, u171, u172, u173, u174, u175, u176, u177, u178, u179, u180, u181, u182, u183, undef], []⟩ wc := by
  have HBW := hide fun p => HB.out.src.byte_le p
  have HN := hide fun (p nx : Nat) (W : World) (hW : Rdr W sb L p nx) => byte_any sb nx p L W hW
  have HE3 := hide fun (p nx : Nat) (W : World) (hW : Rdr W sb L p nx) => nexpr3_any sb nx L W p hW
  have HE2 := hide fun (p nx : Nat) (W : World) (hW : Rdr W sb L p nx) => nexpr2_any sb nx L W p hW
  obtain ⟨s', q', hsq⟩ : ∃ s' q', stN L h blk b nx (p1, nx + 1) = (s', q') := ⟨_, _, rfl⟩
  rw [hsq]
  have HSQ := hide hsq
  clear hsq
  conv => arg 2; whnf
  have e : stN L h blk b nx (p1, nx + 1) = (.mk 4 nx (wrN L p1).1 0 [] [(exN L 3 (wrN L p1).2).1] [] [], ((exN L 3 (wrN L p1).2).2, nx + 1)) := by rw [stN]; simp [← HKK.out]
  obtain ⟨rfl, rfl⟩ := Prod.mk.inj (HSQ.out.symm.trans e)
  clear e
  have x0 := cell_at (j := 0) HB.out.x rfl
  have hgl := HB.out.glt
  go_wp2_with fail
  refine (HN.out p1 (nx + 1) _ ?_).mono ?_
  · exact (HB.out).src
  rintro r wa ⟨rfl, HSa, hKa⟩
  have HBa := (HB.out).st HSa hKa
  clear HSa hKa
  go_wp2_with fail
  refine (word_any _ (HBW.out _) _).mono ?_
  rintro r wb ⟨rfl, hbb⟩
  have HBb := HBa.be hbb
  have HE : Hid (wdN (rbN L p1).1 = (wrN L p1).1) := hide rfl
  have HE2 : Hid ((rbN L p1).2 = (wrN L p1).2) := hide rfl
  rw [HE.out]
  rw [HE2.out] at HBb
  clear hbb HBa HE HE2
  clear x0 hgl
  go_wp2_with fail
  refine (HE3.out (wrN L p1).2 (nx + 1) _ ?_).mono ?_
  · exact (HBb).src
  rintro r wd ⟨⟨v, rfl, hv⟩, HSd, hKd⟩
  have HBd := (HBb).st HSd hKd
  obtain ⟨ea, ecap, rfl, hew, her⟩ := hv
  have HEW := hide hew
  have HER := hide (her.has (has_nws (Nat.succ_le_of_lt (HBb).glt)))
  clear hew her HSd hKd
  replace HB := hide HBd
  have x2 := cell_at (j := 2) HB.out.x rfl
  have f2 := free_at (j := 2) HB.out.x
  have x5 := cell_at (j := 5) HB.out.x rfl
  have f5 := free_at (j := 5) HB.out.x
  have hgl := HB.out.glt
  go_wp2_with fail
  unfold SwI
  (repeat apply Exists.intro)
  refine ⟨?_, rfl⟩
  refine ⟨rfl, hide ?_⟩
  have HB2 := HB.out.set 2 (.string ⟨List.toArray (wrN L p1).1⟩)
  obtain ⟨h1, h2⟩ := HB2.row1 (n := wd.heap.size) HEW.out (HER.out.has (HB.out.rset 2 _)) (by simp)
  exact StR.of _ none none 1 0 0 h1 (by simp) (stWfN (by omega) (by omega) (by omega) (wr_100 L p1) z_100 oo_le zz_le zz_le) h2 trivial trivial
end Go.Proofs.YtccgpmncpemmdaaDoor
