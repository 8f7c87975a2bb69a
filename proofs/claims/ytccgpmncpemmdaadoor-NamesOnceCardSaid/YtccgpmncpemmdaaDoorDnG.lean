/- The reader of a draft of layer 10: block answers the model's statements, in new memory, and changes only the reader's own cells. -/
import Derived.Test.YtccgpmncpemmdaaDoorDnF1
import Derived.Test.YtccgpmncpemmdaaDoorDnF2
import Derived.Test.YtccgpmncpemmdaaDoorDnF3
import Derived.Test.YtccgpmncpemmdaaDoorDnF4
namespace Go.Proofs.YtccgpmncpemmdaaDoor
open Go Go.RowKit
set_option linter.unusedSimpArgs false
set_option linter.unusedVariables false
set_option linter.unnecessarySimpa false
set_option maxRecDepth 1000000 in
theorem nleaf_any (sb g deep b p1 nx h K : Nat) (L : List Nat) (blk : Qn → List St × Qn) (va : Option Addr) (ln vcap : Nat) (wo wc : World)
    (hb255 : b ≤ 255) (hn59 : nx < 60) (hp1 : p1 ≤ L.length) (hdp5 : (deep : Int) ≤ 5) (hk1 : 1 ≤ K) (hk10 : K ≤ 10) (hk8 : h = 0 → K ≤ 8) (HG : Hid (∀ q : Qn, q.1 ≤ L.length → q.2 ≤ 60 → GoodN L h q (blk q))) (IHB : 1 ≤ h → Hid (∀ (q : Qn) (W : World), Rdr W sb L q.1 q.2 → q.2 ≤ 60 → Calls Tryd.prog 31 #[.pointer (some ⟨sb, 0, none⟩), .int .i64 ((deep : Int) + 1)] W (BlQ W sb L (blk q)))) (HKK : Hid (K = skN h b))
    (HB : Hid (Bx wo sb g L #[.int .i64 ((K : Nat) : Int), .int .i64 nx, .string ⟨#[]⟩, .int .i64 0, .string ⟨#[]⟩, .slice none 0 0, .slice none 0 0, .slice none 0 0] p1 (nx + 1) wc))
    (u8 u9 u10 u11 u12 u13 u14 u15 u16 u17 u18 u19 u20 u21 u22 u23 u24 u25 u26 u27 u28 u29 u30 u31 u32 u33 u34 u35 u36 u37 u38 u39 u40 u41 u42 u43 u44 u45 u46 u47 u48 u49 u50 u51 u52 u53 u54 u55 u56 u57 u58 u59 u60 u61 u62 u63 u64 u65 u66 u67 u68 u69 u70 u71 u72 u73 u74 u75 u76 u77 u78 u79 u80 u81 u82 u83 u84 u85 u86 u87 u88 u89 u90 u91 u92 u93 u94 u95 u96 u97 u98 u99 u100 u101 u102 u103 u104 u105 u106 u107 u108 u109 u110 u111 u112 u113 u114 u115 u116 u117 u118 u119 u120 u121 u122 u123 u124 u125 u126 u127 u128 u129 u130 u131 u132 u133 u134 u135 u136 u137 u138 u139 u140 u141 u142 u143 u144 u145 u146 u147 u148 u149 u150 u151 u152 u153 u154 u155 u156 u157 u158 u159 u160 u161 u162 u163 u164 u165 u166 u167 u168 u169 u170 u171 u172 u173 u174 u175 u176 u177 u178 u179 u180 u181 u182 u183 : Value) :
    Code.wp Tryd.prog ((Tryd.f31.body.bind (codeAt 9)).getD .skip) (Exit.then (SwI sb g deep b va ln vcap (fun wx => Hid (StR wo sb g L (stN L h blk b nx (p1, nx + 1)).1 (stN L h blk b nx (p1, nx + 1)).2 wx))) (fun _ _ _ => False)) ⟨#[.pointer (some ⟨sb, 0, none⟩), .int .i64 (deep : Nat), undef, undef, .slice none 0 0, .slice va ln vcap, .int .u8 (b : Nat), .pointer (some ⟨g, 0, none⟩), u8, u9, u10, u11, u12, u13, u14, u15, u16, u17, u18, u19, u20, u21, u22, u23, u24, u25, u26, u27, u28, u29, u30, u31, u32, u33, u34, u35, u36, u37, u38, u39, u40, u41, u42, u43, u44, u45, u46, u47, u48, u49, u50, u51, u52, u53, u54, u55, u56, u57, u58, u59, u60, u61, u62, u63, u64, u65, u66, u67, u68, u69, u70, u71, u72, u73, u74, u75, u76, u77, u78, u79, u80, u81, u82, u83, u84, u85, u86, u87, u88, u89, u90, u91, u92, u93, u94, u95, u96, u97, u98, u99, u100, u101, u102, u103, u104, u105, u106, u107, u108, u109, u110, u111, u112, u113, u114, u115, u116, u117, u118, u119, u120, u121, u122, u123, u124, u125, u126, u127, u128, u129, u130, u131, u132, u133, u134, u135, u136, u137, u138, u139, u140, u141, u142, u143, u144, u145, u146, u147, u148, u149, u150, u151, u152, u153, u154, u155, u156, u157, u158, u159, u160, u161, u162, u163, u164, u165, u166, u167, u168, u169, u170, u171, u172, u173, u174, u175, u176, u177, u178, u179, u180, u181, u182, u183, undef], []⟩ wc := by
  have hcases : K = 1 ∨ K = 2 ∨ K = 3 ∨ K = 4 ∨ K = 5 ∨ K = 6 ∨ K = 7 ∨ K = 8 ∨ K = 9 ∨ K = 10 := by omega
  rcases hcases with rfl | rfl | rfl | rfl | rfl | rfl | rfl | rfl | rfl | rfl
  · exact nleaf_1 sb g deep b p1 nx h L blk va ln vcap wo wc hb255 hn59 hp1 hdp5 HKK HB u8 u9 u10 u11 u12 u13 u14 u15 u16 u17 u18 u19 u20 u21 u22 u23 u24 u25 u26 u27 u28 u29 u30 u31 u32 u33 u34 u35 u36 u37 u38 u39 u40 u41 u42 u43 u44 u45 u46 u47 u48 u49 u50 u51 u52 u53 u54 u55 u56 u57 u58 u59 u60 u61 u62 u63 u64 u65 u66 u67 u68 u69 u70 u71 u72 u73 u74 u75 u76 u77 u78 u79 u80 u81 u82 u83 u84 u85 u86 u87 u88 u89 u90 u91 u92 u93 u94 u95 u96 u97 u98 u99 u100 u101 u102 u103 u104 u105 u106 u107 u108 u109 u110 u111 u112 u113 u114 u115 u116 u117 u118 u119 u120 u121 u122 u123 u124 u125 u126 u127 u128 u129 u130 u131 u132 u133 u134 u135 u136 u137 u138 u139 u140 u141 u142 u143 u144 u145 u146 u147 u148 u149 u150 u151 u152 u153 u154 u155 u156 u157 u158 u159 u160 u161 u162 u163 u164 u165 u166 u167 u168 u169 u170 u171 u172 u173 u174 u175 u176 u177 u178 u179 u180 u181 u182 u183
  · exact nleaf_2 sb g deep b p1 nx h L blk va ln vcap wo wc hb255 hn59 hp1 hdp5 HKK HB u8 u9 u10 u11 u12 u13 u14 u15 u16 u17 u18 u19 u20 u21 u22 u23 u24 u25 u26 u27 u28 u29 u30 u31 u32 u33 u34 u35 u36 u37 u38 u39 u40 u41 u42 u43 u44 u45 u46 u47 u48 u49 u50 u51 u52 u53 u54 u55 u56 u57 u58 u59 u60 u61 u62 u63 u64 u65 u66 u67 u68 u69 u70 u71 u72 u73 u74 u75 u76 u77 u78 u79 u80 u81 u82 u83 u84 u85 u86 u87 u88 u89 u90 u91 u92 u93 u94 u95 u96 u97 u98 u99 u100 u101 u102 u103 u104 u105 u106 u107 u108 u109 u110 u111 u112 u113 u114 u115 u116 u117 u118 u119 u120 u121 u122 u123 u124 u125 u126 u127 u128 u129 u130 u131 u132 u133 u134 u135 u136 u137 u138 u139 u140 u141 u142 u143 u144 u145 u146 u147 u148 u149 u150 u151 u152 u153 u154 u155 u156 u157 u158 u159 u160 u161 u162 u163 u164 u165 u166 u167 u168 u169 u170 u171 u172 u173 u174 u175 u176 u177 u178 u179 u180 u181 u182 u183
  · exact nleaf_3 sb g deep b p1 nx h L blk va ln vcap wo wc hb255 hn59 hp1 hdp5 HKK HB u8 u9 u10 u11 u12 u13 u14 u15 u16 u17 u18 u19 u20 u21 u22 u23 u24 u25 u26 u27 u28 u29 u30 u31 u32 u33 u34 u35 u36 u37 u38 u39 u40 u41 u42 u43 u44 u45 u46 u47 u48 u49 u50 u51 u52 u53 u54 u55 u56 u57 u58 u59 u60 u61 u62 u63 u64 u65 u66 u67 u68 u69 u70 u71 u72 u73 u74 u75 u76 u77 u78 u79 u80 u81 u82 u83 u84 u85 u86 u87 u88 u89 u90 u91 u92 u93 u94 u95 u96 u97 u98 u99 u100 u101 u102 u103 u104 u105 u106 u107 u108 u109 u110 u111 u112 u113 u114 u115 u116 u117 u118 u119 u120 u121 u122 u123 u124 u125 u126 u127 u128 u129 u130 u131 u132 u133 u134 u135 u136 u137 u138 u139 u140 u141 u142 u143 u144 u145 u146 u147 u148 u149 u150 u151 u152 u153 u154 u155 u156 u157 u158 u159 u160 u161 u162 u163 u164 u165 u166 u167 u168 u169 u170 u171 u172 u173 u174 u175 u176 u177 u178 u179 u180 u181 u182 u183
  · exact nleaf_4 sb g deep b p1 nx h L blk va ln vcap wo wc hb255 hn59 hp1 hdp5 HKK HB u8 u9 u10 u11 u12 u13 u14 u15 u16 u17 u18 u19 u20 u21 u22 u23 u24 u25 u26 u27 u28 u29 u30 u31 u32 u33 u34 u35 u36 u37 u38 u39 u40 u41 u42 u43 u44 u45 u46 u47 u48 u49 u50 u51 u52 u53 u54 u55 u56 u57 u58 u59 u60 u61 u62 u63 u64 u65 u66 u67 u68 u69 u70 u71 u72 u73 u74 u75 u76 u77 u78 u79 u80 u81 u82 u83 u84 u85 u86 u87 u88 u89 u90 u91 u92 u93 u94 u95 u96 u97 u98 u99 u100 u101 u102 u103 u104 u105 u106 u107 u108 u109 u110 u111 u112 u113 u114 u115 u116 u117 u118 u119 u120 u121 u122 u123 u124 u125 u126 u127 u128 u129 u130 u131 u132 u133 u134 u135 u136 u137 u138 u139 u140 u141 u142 u143 u144 u145 u146 u147 u148 u149 u150 u151 u152 u153 u154 u155 u156 u157 u158 u159 u160 u161 u162 u163 u164 u165 u166 u167 u168 u169 u170 u171 u172 u173 u174 u175 u176 u177 u178 u179 u180 u181 u182 u183
  · exact nleaf_5 sb g deep b p1 nx h L blk va ln vcap wo wc hb255 hn59 hp1 hdp5 HKK HB u8 u9 u10 u11 u12 u13 u14 u15 u16 u17 u18 u19 u20 u21 u22 u23 u24 u25 u26 u27 u28 u29 u30 u31 u32 u33 u34 u35 u36 u37 u38 u39 u40 u41 u42 u43 u44 u45 u46 u47 u48 u49 u50 u51 u52 u53 u54 u55 u56 u57 u58 u59 u60 u61 u62 u63 u64 u65 u66 u67 u68 u69 u70 u71 u72 u73 u74 u75 u76 u77 u78 u79 u80 u81 u82 u83 u84 u85 u86 u87 u88 u89 u90 u91 u92 u93 u94 u95 u96 u97 u98 u99 u100 u101 u102 u103 u104 u105 u106 u107 u108 u109 u110 u111 u112 u113 u114 u115 u116 u117 u118 u119 u120 u121 u122 u123 u124 u125 u126 u127 u128 u129 u130 u131 u132 u133 u134 u135 u136 u137 u138 u139 u140 u141 u142 u143 u144 u145 u146 u147 u148 u149 u150 u151 u152 u153 u154 u155 u156 u157 u158 u159 u160 u161 u162 u163 u164 u165 u166 u167 u168 u169 u170 u171 u172 u173 u174 u175 u176 u177 u178 u179 u180 u181 u182 u183
  · exact nleaf_6 sb g deep b p1 nx h L blk va ln vcap wo wc hb255 hn59 hp1 hdp5 HKK HB u8 u9 u10 u11 u12 u13 u14 u15 u16 u17 u18 u19 u20 u21 u22 u23 u24 u25 u26 u27 u28 u29 u30 u31 u32 u33 u34 u35 u36 u37 u38 u39 u40 u41 u42 u43 u44 u45 u46 u47 u48 u49 u50 u51 u52 u53 u54 u55 u56 u57 u58 u59 u60 u61 u62 u63 u64 u65 u66 u67 u68 u69 u70 u71 u72 u73 u74 u75 u76 u77 u78 u79 u80 u81 u82 u83 u84 u85 u86 u87 u88 u89 u90 u91 u92 u93 u94 u95 u96 u97 u98 u99 u100 u101 u102 u103 u104 u105 u106 u107 u108 u109 u110 u111 u112 u113 u114 u115 u116 u117 u118 u119 u120 u121 u122 u123 u124 u125 u126 u127 u128 u129 u130 u131 u132 u133 u134 u135 u136 u137 u138 u139 u140 u141 u142 u143 u144 u145 u146 u147 u148 u149 u150 u151 u152 u153 u154 u155 u156 u157 u158 u159 u160 u161 u162 u163 u164 u165 u166 u167 u168 u169 u170 u171 u172 u173 u174 u175 u176 u177 u178 u179 u180 u181 u182 u183
  · exact nleaf_7 sb g deep b p1 nx h L blk va ln vcap wo wc hb255 hn59 hp1 hdp5 HKK HB u8 u9 u10 u11 u12 u13 u14 u15 u16 u17 u18 u19 u20 u21 u22 u23 u24 u25 u26 u27 u28 u29 u30 u31 u32 u33 u34 u35 u36 u37 u38 u39 u40 u41 u42 u43 u44 u45 u46 u47 u48 u49 u50 u51 u52 u53 u54 u55 u56 u57 u58 u59 u60 u61 u62 u63 u64 u65 u66 u67 u68 u69 u70 u71 u72 u73 u74 u75 u76 u77 u78 u79 u80 u81 u82 u83 u84 u85 u86 u87 u88 u89 u90 u91 u92 u93 u94 u95 u96 u97 u98 u99 u100 u101 u102 u103 u104 u105 u106 u107 u108 u109 u110 u111 u112 u113 u114 u115 u116 u117 u118 u119 u120 u121 u122 u123 u124 u125 u126 u127 u128 u129 u130 u131 u132 u133 u134 u135 u136 u137 u138 u139 u140 u141 u142 u143 u144 u145 u146 u147 u148 u149 u150 u151 u152 u153 u154 u155 u156 u157 u158 u159 u160 u161 u162 u163 u164 u165 u166 u167 u168 u169 u170 u171 u172 u173 u174 u175 u176 u177 u178 u179 u180 u181 u182 u183
  · exact nleaf_8 sb g deep b p1 nx h L blk va ln vcap wo wc hb255 hn59 hp1 hdp5 HKK HB u8 u9 u10 u11 u12 u13 u14 u15 u16 u17 u18 u19 u20 u21 u22 u23 u24 u25 u26 u27 u28 u29 u30 u31 u32 u33 u34 u35 u36 u37 u38 u39 u40 u41 u42 u43 u44 u45 u46 u47 u48 u49 u50 u51 u52 u53 u54 u55 u56 u57 u58 u59 u60 u61 u62 u63 u64 u65 u66 u67 u68 u69 u70 u71 u72 u73 u74 u75 u76 u77 u78 u79 u80 u81 u82 u83 u84 u85 u86 u87 u88 u89 u90 u91 u92 u93 u94 u95 u96 u97 u98 u99 u100 u101 u102 u103 u104 u105 u106 u107 u108 u109 u110 u111 u112 u113 u114 u115 u116 u117 u118 u119 u120 u121 u122 u123 u124 u125 u126 u127 u128 u129 u130 u131 u132 u133 u134 u135 u136 u137 u138 u139 u140 u141 u142 u143 u144 u145 u146 u147 u148 u149 u150 u151 u152 u153 u154 u155 u156 u157 u158 u159 u160 u161 u162 u163 u164 u165 u166 u167 u168 u169 u170 u171 u172 u173 u174 u175 u176 u177 u178 u179 u180 u181 u182 u183
  · exact nleaf_9 sb g deep b p1 nx h L blk va ln vcap wo wc hb255 hn59 hp1 hdp5 HG (IHB (by omega)) HKK HB u8 u9 u10 u11 u12 u13 u14 u15 u16 u17 u18 u19 u20 u21 u22 u23 u24 u25 u26 u27 u28 u29 u30 u31 u32 u33 u34 u35 u36 u37 u38 u39 u40 u41 u42 u43 u44 u45 u46 u47 u48 u49 u50 u51 u52 u53 u54 u55 u56 u57 u58 u59 u60 u61 u62 u63 u64 u65 u66 u67 u68 u69 u70 u71 u72 u73 u74 u75 u76 u77 u78 u79 u80 u81 u82 u83 u84 u85 u86 u87 u88 u89 u90 u91 u92 u93 u94 u95 u96 u97 u98 u99 u100 u101 u102 u103 u104 u105 u106 u107 u108 u109 u110 u111 u112 u113 u114 u115 u116 u117 u118 u119 u120 u121 u122 u123 u124 u125 u126 u127 u128 u129 u130 u131 u132 u133 u134 u135 u136 u137 u138 u139 u140 u141 u142 u143 u144 u145 u146 u147 u148 u149 u150 u151 u152 u153 u154 u155 u156 u157 u158 u159 u160 u161 u162 u163 u164 u165 u166 u167 u168 u169 u170 u171 u172 u173 u174 u175 u176 u177 u178 u179 u180 u181 u182 u183
  · exact nleaf_10 sb g deep b p1 nx h L blk va ln vcap wo wc hb255 hn59 hp1 hdp5 HG (IHB (by omega)) HKK HB u8 u9 u10 u11 u12 u13 u14 u15 u16 u17 u18 u19 u20 u21 u22 u23 u24 u25 u26 u27 u28 u29 u30 u31 u32 u33 u34 u35 u36 u37 u38 u39 u40 u41 u42 u43 u44 u45 u46 u47 u48 u49 u50 u51 u52 u53 u54 u55 u56 u57 u58 u59 u60 u61 u62 u63 u64 u65 u66 u67 u68 u69 u70 u71 u72 u73 u74 u75 u76 u77 u78 u79 u80 u81 u82 u83 u84 u85 u86 u87 u88 u89 u90 u91 u92 u93 u94 u95 u96 u97 u98 u99 u100 u101 u102 u103 u104 u105 u106 u107 u108 u109 u110 u111 u112 u113 u114 u115 u116 u117 u118 u119 u120 u121 u122 u123 u124 u125 u126 u127 u128 u129 u130 u131 u132 u133 u134 u135 u136 u137 u138 u139 u140 u141 u142 u143 u144 u145 u146 u147 u148 u149 u150 u151 u152 u153 u154 u155 u156 u157 u158 u159 u160 u161 u162 u163 u164 u165 u166 u167 u168 u169 u170 u171 u172 u173 u174 u175 u176 u177 u178 u179 u180 u181 u182 u183
set_option maxRecDepth 1000000 in
set_option maxHeartbeats 40000000 in
theorem nblock_step (sb : Nat) (L : List Nat) (h deep : Nat) (hdp : h + deep = 5) (blk : Qn → List St × Qn) (hgood : ∀ q : Qn, q.1 ≤ L.length → q.2 ≤ 60 → GoodN L h q (blk q))
    (IHB : 1 ≤ h → Hid (∀ (q : Qn) (W : World), Rdr W sb L q.1 q.2 → q.2 ≤ 60 → Calls Tryd.prog 31 #[.pointer (some ⟨sb, 0, none⟩), .int .i64 ((deep : Int) + 1)] W (BlQ W sb L (blk q))))
    (q0 : Qn) (w : World) (hw : Rdr w sb L q0.1 q0.2) (hq : q0.2 ≤ 60) :
    Calls Tryd.prog 31 #[.pointer (some ⟨sb, 0, none⟩), .int .i64 deep] w (BlQ w sb L (rdsN L h blk L.length [] q0)) := by
  obtain ⟨i0, hi, hz0, hz1, hz2⟩ := info_parts info_st
  have hbw := fun p => hw.byte_le p
  have hll := hw.ple
  have HBW := hide hbw
  have hl1 : L.length ≤ 9223372036854775807 := hll.2.1
  have HN := hide fun (p nx : Nat) (W : World) (hW : Rdr W sb L p nx) => byte_any sb nx p L W hW
  have HE3 := hide fun (p nx : Nat) (W : World) (hW : Rdr W sb L p nx) => nexpr3_any sb nx L W p hW
  have HE2 := hide fun (p nx : Nat) (W : World) (hW : Rdr W sb L p nx) => nexpr2_any sb nx L W p hW
  have HWR := hide hw
  have HG := hide hgood
  have hsb := hw.lt
  obtain ⟨R, hR⟩ : ∃ R, R = rdsN L h blk L.length [] q0 := ⟨_, rfl⟩
  rw [← hR]
  have HR0 := hide hR.symm
  obtain ⟨p0, n0⟩ := q0
  simp only at hq
  clear hw hgood hbw hll hR
  go_enter Tryd.func31, Tryd.ntmps31
  go_wp2_with fail
  go_loopw [5] (fun v wr => ∃ (l : List St) (p nx n : Nat), Hid (rdsN L h blk n l (p, nx) = R) ∧ L.length ≤ p + n ∧ l.length ≤ 30 ∧ nx ≤ 60 ∧ Hid (OwnL wr w.heap.size 62 8 StC (List.range w.heap.size) v l) ∧ Rdr wr sb L p nx ∧ Hid (Kept [sb] w wr)) (fun _ wr => L.length - ptOf wr sb)
  case atStart => exact ⟨[], p0, n0, L.length, HR0, by omega, by simp, hq, hide (OwnL.nil _ _ _ _ _ _), HWR.out, hide (Kept.refl _ _)⟩
  case round =>
    obtain ⟨l, p, nx, n, HR, hn, hl, hnx, HOWN, hs, HK⟩ := hrel
    obtain ⟨va, vcap, rfl, -, hvm⟩ := HOWN.out.slice
    obtain ⟨ca, ccap, c0, c1, c2, f2⟩ := hs.cells
    have hbl := cell_lt c0
    simp only at hbl
    by_cases h1 : (p : Int) < (L.length : Int)
    · have hd1 : decide ((p : Int) < (L.length : Int)) = true := by simpa using h1
      by_cases h2 : (nx : Int) < 60
      · have hd2 : decide ((nx : Int) < 60) = true := by simpa using h2
        by_cases h3 : (l.length : Int) < 30
        · have hd3 : decide ((l.length : Int) < 30) = true := by simpa using h3
          go_wp2_with fail
          go_quiet (fail)
          obtain ⟨b, p1, hb⟩ : ∃ b p1, rbN L p = (b, p1) := ⟨_, _, rfl⟩
          have hb255 := HBW.out p
          rw [hb] at hb255
          simp only at hb255
          have hc : p < L.length ∧ nx < 60 ∧ l.length < 30 := by omega
          have hp1 := rbN_le L p (by omega)
          rw [hb] at hp1
          simp only at hp1
          have HB := hide hb
          clear hb
          go_wp2_with fail
          refine (HN.out p nx _ (hs.below (below_dq (bl _) _))).mono ?_
          rintro r w1 ⟨hr, HS, hK⟩
          rw [HB.out] at hr HS
          subst hr
          have HK1 := hide (((Kept.refl [sb] wr).dn nq).tr hK)
          have HC := hide hc
          clear hK c0 c1 c2 f2 hd1 hd2 hd3 h1 h2 h3 hc
          by_cases he : b = 255
          · have HEND := hide (HR.out.symm.trans (rdsN_end (h := h) (blk := blk) (l := l) (q := (p, nx)) (n := n) HC.out HB.out he hn))
            subst he
            go_wp2_with fail
            go_ret
            rw [HEND.out]
            exact ⟨⟨_, rfl, HOWN.out.kept StC.mono HK1.out (by simpa using hsb)⟩, HS, HK.out.tr HK1.out⟩
          · obtain ⟨m, hm, hstep⟩ := rdsN_step (h := h) (blk := blk) (l := l) (q := (p, nx)) (n := n) HC.out HB.out he hn
            subst hm
            have HSTEP := hide (hstep.symm.trans HR.out)
            have hb1 : ((b : Int) == 255) = false := by simp; omega
            simp only at HSTEP
            clear hstep HR he
            obtain ⟨a2, cc2, -, -, d2, e2⟩ := HS.cells
            have hl2 := cell_lt d2
            simp only at hl2
            go_upto_region 6 with fail
            have HX : Hid ((w1.alloc (.cells #[(.int .i64 (1 + (b : Int) % 10)), (.int .i64 nx), .string ⟨#[]⟩, .int .i64 0, .string ⟨#[]⟩, .slice none 0 0, .slice none 0 0, .slice none 0 0] 62)).heap[w1.heap.size]? = some (.cells #[(.int .i64 (1 + (b : Int) % 10)), (.int .i64 nx), .string ⟨#[]⟩, .int .i64 0, .string ⟨#[]⟩, .slice none 0 0, .slice none 0 0, .slice none 0 0] 62 (0, 0))) := hide (heap_alloc_new _ _)
            have HK2 := hide (HK1.out.al (.cells #[(.int .i64 (1 + (b : Int) % 10)), (.int .i64 nx), .string ⟨#[]⟩, .int .i64 0, .string ⟨#[]⟩, .slice none 0 0, .slice none 0 0, .slice none 0 0] 62))
            have HS2 := HS.al (.cells #[(.int .i64 (1 + (b : Int) % 10)), (.int .i64 nx), .string ⟨#[]⟩, .int .i64 0, .string ⟨#[]⟩, .slice none 0 0, .slice none 0 0, .slice none 0 0] 62)
            have hwn : wr.heap.size ≤ w1.heap.size := HK1.out.size
            have hsn : sb < w1.heap.size := HS.lt
            clear HS d2 e2 hl2 HK1
            generalize w1.alloc (.cells #[(.int .i64 (1 + (b : Int) % 10)), (.int .i64 nx), .string ⟨#[]⟩, .int .i64 0, .string ⟨#[]⟩, .slice none 0 0, .slice none 0 0, .slice none 0 0] 62) = w2 at *
            generalize w1.heap.size = g at *
            have x0 := cell_at (j := 0) HX.out rfl
            have f0 := free_at (j := 0) HX.out
            have hxl := (Array.getElem?_eq_some_iff.1 HX.out).1
            have hk1 : 1 ≤ skN h b ∧ skN h b ≤ 10 ∧ (h = 0 → skN h b ≤ 8) := by unfold skN; split <;> omega
            obtain ⟨B, hB⟩ : ∃ B, B = (decide ((5 : Int) ≤ (deep : Int)) && decide ((9 : Int) ≤ 1 + (b : Int) % 10)) := ⟨_, rfl⟩
            have HB1 : Hid ((B = true ∧ skN h b = 5) ∨ (B = false ∧ skN h b = 1 + b % 10)) := hide (by
              rw [hB]
              unfold skN
              by_cases h9 : h = 0 ∧ 9 ≤ 1 + b % 10
              · refine .inl ⟨?_, if_pos h9⟩
                simp only [Bool.and_eq_true, decide_eq_true_eq]
                omega
              · refine .inr ⟨?_, if_neg h9⟩
                simp only [Bool.and_eq_false_iff, decide_eq_false_iff_not]
                omega)
            have HB2 := hide hB
            clear hB
            go_cut [51] (fun s51 wx => s51 = .bool B ∧ w2 = wx)
            case first =>
              cases hd5 : decide ((5 : Int) ≤ (deep : Int))
              · rw [hd5] at HB2
                go_wp2_with fail
                go_meet
                exact ⟨by rw [HB2.out]; rfl, rfl⟩
              · cases hd9 : decide ((9 : Int) ≤ 1 + (b : Int) % 10)
                · rw [hd5, hd9] at HB2
                  go_wp2_with fail
                  go_meet
                  exact ⟨by rw [HB2.out]; rfl, rfl⟩
                · rw [hd5, hd9] at HB2
                  go_wp2_with fail
                  go_meet
                  exact ⟨by rw [HB2.out]; rfl, rfl⟩
            case rest =>
              obtain ⟨rfl, rfl⟩ := hcut
              obtain ⟨K, hK⟩ : ∃ K, K = skN h b := ⟨_, rfl⟩
              rw [← hK] at HB1 hk1
              have HKK := hide hK
              clear hK
              go_upto_if 51 with fail
              go_cut [0] (fun z wx => z = .pointer (some ⟨sb, 0, none⟩) ∧ Hid (Rdr wx sb L p1 nx) ∧ Hid (Kept [sb] wr wx) ∧ Hid (wx.heap[g]? = some (.cells #[(.int .i64 (K : Nat)), (.int .i64 nx), .string ⟨#[]⟩, .int .i64 0, .string ⟨#[]⟩, .slice none 0 0, .slice none 0 0, .slice none 0 0] 62 (0, 0))))
              case first =>
                rcases HB1.out with ⟨rfl, hk⟩ | ⟨rfl, hk⟩
                · subst hk
                  go_wp2_with fail
                  go_meet
                  exact ⟨rfl, hide (HS2.setNew hsn _ _), hide (HK2.out.set (.inr (by have := HK2.out.size; omega)) _ _), hide (by simpa using heap_set (i := 0) HX.out (.int .i64 5))⟩
                · subst hk
                  go_wp2_with fail
                  go_meet
                  exact ⟨rfl, hide HS2, hide HK2.out, hide (by simpa using HX.out)⟩
              case rest =>
                obtain ⟨rfl, HS, HK1, HX⟩ := hcut
                obtain ⟨a3, cc3, -, -, d3, e3⟩ := HS.out.cells
                have hsl := HS.out.lt
                have hgs : ¬ g = sb := by omega
                go_upto_region 8 with fail
                go_cut [0] (fun z wx => z = .pointer (some ⟨sb, 0, none⟩) ∧ wc.setCell ⟨sb, 2, none⟩ (.int .i64 ((nx : Int) + 1)) = wx)
                case first =>
                  go_wp2_with fail
                  go_meet
                  exact ⟨rfl, rfl⟩
                case rest =>
                  obtain ⟨rfl, hwc⟩ := hcut
                  have HS9 := HS.out.set (p' := p1) (nx' := nx + 1) (.int .i64 ((nx : Int) + 1)) (.inr ⟨rfl, by simp, rfl, by omega⟩)
                  have HK9 := hide (HK1.out.set (g := sb) (.inl (by simp)) 2 (.int .i64 ((nx : Int) + 1)))
                  have HX9 := hide ((Below.heap_setCell _ ⟨sb, 2, none⟩ (.int .i64 ((nx : Int) + 1)) g hgs).trans HX.out)
                  rw [hwc] at HS9 HK9 HX9
                  clear hwc HS HK1 HX d3 e3 hsl
                  go_step
                  go_step
                  obtain ⟨wo, rfl⟩ : ∃ wo, wo = wr := ⟨wr, rfl⟩
                  have HB' := HB
                  have HB := hide (show Bx wo sb g L _ p1 (nx + 1) wc from ⟨HS9, HK9.out, HX9.out, hsn, hwn⟩)
                  clear HS9 HK9 HX9 HS2 HK2
                  obtain ⟨s', q', hsq⟩ : ∃ s' q', stN L h blk b nx (p1, nx + 1) = (s', q') := ⟨_, _, rfl⟩
                  rw [hsq] at HSTEP
                  have HSQ := hide hsq
                  clear hsq
                  go_cut [0] (fun z wx => z = .pointer (some ⟨sb, 0, none⟩) ∧ Hid (StR wo sb g L s' q' wx))
                  case first =>
                    rename_i J K' hJ hK'
                    have hn59 : nx < 60 := HC.out.2.1
                    have hdp5 : (deep : Int) ≤ 5 := by omega
                    have hlf := nleaf_any sb g deep b p1 nx h K L blk va l.length vcap wo wc hb255 hn59 hp1.2 hdp5 hk1.1 hk1.2.1 hk1.2.2 HG IHB HKK HB u8 u9 u10 u11 u12 u13 u14 u15 u16 u17 u18 u19 u20 u21 u22 u23 u24 u25 u26 u27 u28 u29 u30 u31 u32 u33 u34 u35 u36 u37 u38 u39 u40 u41 u42 u43 u44 u45 u46 u47 u48 u49 u50 u51 u52 u53 u54 u55 u56 u57 u58 u59 u60 u61 u62 u63 u64 u65 u66 u67 u68 u69 u70 u71 u72 u73 u74 u75 u76 u77 u78 u79 u80 u81 u82 u83 u84 u85 u86 u87 u88 u89 u90 u91 u92 u93 u94 u95 u96 u97 u98 u99 u100 u101 u102 u103 u104 u105 u106 u107 u108 u109 u110 u111 u112 u113 u114 u115 u116 u117 u118 u119 u120 u121 u122 u123 u124 u125 u126 u127 u128 u129 u130 u131 u132 u133 u134 u135 u136 u137 u138 u139 u140 u141 u142 u143 u144 u145 u146 u147 u148 u149 u150 u151 u152 u153 u154 u155 u156 u157 u158 u159 u160 u161 u162 u163 u164 u165 u166 u167 u168 u169 u170 u171 u172 u173 u174 u175 u176 u177 u178 u179 u180 u181 u182 u183
                    rw [HSQ.out] at hlf
                    refine wp_mono hlf ?_
                    intro e a' w' hq
                    cases e with
                    | normal => exact hK' _ _ (Met.intro (hJ _ _ hq))
                    | exit id => exact (hq : False).elim
                    | goto l => exact (hq : False).elim
                    | ret => exact (hq : False).elim
                    | panic ch => exact (hq : False).elim
                    | outgrown => exact (hq : False).elim
                  case rest =>
                    obtain ⟨rfl, HR0'⟩ := hcut
                    obtain ⟨HSs, HKs, pa, pb, pe, ca', cb, ce, hx, hwf, ra, rb, re⟩ := HR0'.out
                    have x0 := cell_at (j := 0) hx rfl
                    have x1 := cell_at (j := 1) hx rfl
                    have x2 := cell_at (j := 2) hx rfl
                    have x3 := cell_at (j := 3) hx rfl
                    have x4 := cell_at (j := 4) hx rfl
                    have x5 := cell_at (j := 5) hx rfl
                    have x6 := cell_at (j := 6) hx rfl
                    have x7 := cell_at (j := 7) hx rfl
                    have hxl2 := (Array.getElem?_eq_some_iff.1 hx).1
                    have HOWN2 := hide (HOWN.out.kept StC.mono HKs (by simpa using hsb))
                    have hav := own_avoid HOWN.out (Nat.le_refl _) (fun g hg => by have := List.mem_range.1 hg; have := HK.out.size; omega)
                    have hav2 : ∀ x ∈ (Value.slice va l.length vcap).ownBlock.toList ++ List.range w.heap.size, x < g + 1 := fun x hx => by have := hav x hx; omega
                    have HV := hide (fun o => (⟨pa, pb, pe, ca', cb, ce, rfl, hwf, ra.has ((has_nw_av hav2).tr (has_av_below ((bl wc).al o))), rb.has ((has_nw_av hav2).tr (has_av_below ((bl wc).al o))), re.has ((has_nw_av hav2).tr (has_av_below ((bl wc).al o)))⟩ : StC (av _ (wc.alloc o)) _ _))
                    have hn59 : nx < 60 := HC.out.2.1
                    have hq60 : q'.2 ≤ 60 ∧ p1 ≤ q'.1 := by
                      have := stN_good L h blk HG.out b nx (p1, nx + 1) (by simp only; omega) rfl (by simp only; omega)
                      rw [HSQ.out] at this
                      exact ⟨this.2.2.2.2.2.1, this.2.2.2.2.2.2.1⟩
                    have hp2 := (rbN_le L p (by omega)).1
                    have hpp : p < p1 := by
                      have e1 : (rbN L p).2 = p + 1 := by unfold rbN; rw [if_pos HC.out.1]
                      rw [HB'.out] at e1
                      simp only at e1
                      omega
                    have hwc0 : w.heap.size ≤ wc.heap.size := Nat.le_trans HK.out.size HKs.size
                    have HKs' := hide HKs
                    have hl30 : l.length < 30 := HC.out.2.2
                    clear hwf ra rb re hav hav2 HR0' hx HKs HC HB
                    go_wp2_with (at_builtin; refine wpList_push _ rfl _ _ 40 rfl w.heap.size 62 i0 _ 8 128 Tryd.underlying40 hi hz0 hz1 hz2 rfl (by decide) StC StC.mono (List.range w.heap.size) _ l rfl (HOWN2.out.al StC.mono _) ⟨wc.heap.size, 0, none⟩ 1 _ s' rfl rfl (news_row _ _ _ _ rfl) (by simp [Value.oneCell']) (HV.out _) (by unfold maxLen; omega) (by omega) (by simp; omega) ?_; intro v' w4 hown3 hgrow)
                    have hbk := fun k hk => (HOWN.out.lt k hk).1
                    go_roundw
                    case rel =>
                      exact ⟨_, q'.1, q'.2, m, HSTEP, (by show L.length ≤ q'.1 + m; omega), by simp; omega, hq60.1, hide hown3, (HSs.al _).grown hgrow (fun k hk => Nat.lt_of_lt_of_le hsb (hbk k hk)), hide (((HK.out.tr HKs'.out).al _).grown hgrow (fun k hk => .inr (hbk k hk)))⟩
                    case measure =>
                      have e1 := hs.pt
                      have e2 := ((HSs.al (.cells #[.int .i64 s'.kind, .int .i64 s'.no, .string ⟨s'.name.toArray⟩, .int .i64 s'.typ, .string ⟨s'.callee.toArray⟩, .slice pa s'.args.length ca', .slice pb s'.body.length cb, .slice pe s'.els.length ce] 62)).grown hgrow (fun k hk => Nat.lt_of_lt_of_le hsb (hbk k hk))).pt
                      rw [e1, e2]
                      omega
        · have hd3 : decide ((l.length : Int) < 30) = false := by simpa using h3
          have HSTOP := hide (HR.out.symm.trans (rdsN_stop (h := h) (blk := blk) (q := (p, nx)) (l := l) (L := L) (by simp only; omega) n))
          go_wp2_with fail
          go_quiet (fail)
          go_wp2_with fail
          go_ret
          rw [HSTOP.out]
          exact ⟨⟨_, rfl, HOWN.out.kept StC.mono ((Kept.refl [sb] wr).dn _) (by simpa using hsb)⟩, hs.below (below_dq (bl _) _), HK.out.dn _⟩
      · have hd2 : decide ((nx : Int) < 60) = false := by simpa using h2
        have HSTOP := hide (HR.out.symm.trans (rdsN_stop (h := h) (blk := blk) (q := (p, nx)) (l := l) (L := L) (by simp only; omega) n))
        go_wp2_with fail
        go_quiet (fail)
        go_wp2_with fail
        go_ret
        rw [HSTOP.out]
        exact ⟨⟨_, rfl, HOWN.out.kept StC.mono ((Kept.refl [sb] wr).dn _) (by simpa using hsb)⟩, hs.below (below_dq (bl _) _), HK.out.dn _⟩
    · have hd1 : decide ((p : Int) < (L.length : Int)) = false := by simpa using h1
      have hd1b : decide (p < L.length) = false := by simpa using h1
      have hd1c : ¬ p < L.length := by omega
      have hd1d : (L.length : Int) ≤ (p : Int) := by omega
      have HSTOP := hide (HR.out.symm.trans (rdsN_stop (h := h) (blk := blk) (q := (p, nx)) (l := l) (L := L) (by simp only; omega) n))
      go_wp2_with fail
      go_quiet (fail)
      go_wp2_with fail
      go_ret
      rw [HSTOP.out]
      exact ⟨⟨_, rfl, HOWN.out.kept StC.mono ((Kept.refl [sb] wr).dn _) (by simpa using hsb)⟩, hs.below (below_dq (bl _) _), HK.out.dn _⟩
theorem nblock_any (sb : Nat) (L : List Nat) : ∀ (h deep : Nat), h + deep = 5 → ∀ (q : Qn) (W : World), Rdr W sb L q.1 q.2 → q.2 ≤ 60 → Calls Tryd.prog 31 #[.pointer (some ⟨sb, 0, none⟩), .int .i64 deep] W (BlQ W sb L (blN L h q))
  | 0, deep, hd, q, W, hW, hq => nblock_step sb L 0 deep hd (fun q => ([], q)) (fun q a b => ⟨rfl, rfl, by simp [cntL], b, Nat.le_refl _, a⟩) (fun h => absurd h (by omega)) q W hW hq
  | h + 1, deep, hd, q, W, hW, hq => nblock_step sb L (h + 1) deep hd (blN L h) (fun q a b => blN_good L h q a b) (fun _ => hide (fun q W hW hq => by
      have := nblock_any sb L h (deep + 1) (by omega) q W hW hq
      rw [show ((deep + 1 : Nat) : Int) = (deep : Int) + 1 by omega] at this
      exact this)) q W hW hq
end Go.Proofs.YtccgpmncpemmdaaDoor
