import Derived.Test.YtebiidfpgdolnaaDoorMj
namespace Go.Proofs.YtebiidfpgdolnaaDoor.Dmp
open Go.ChangeShapes Go.WideShapes Go.ChangeAt Go.RowKit Go.Deep
set_option linter.unusedVariables false
open Go.Lib
set_option linter.unusedSimpArgs false

set_option maxRecDepth 1000000 in
set_option maxHeartbeats 6400000 in
theorem reg6_7 {Q : Exit → Act → World → Prop} (H : Nat) (w0 : World) (ty st : Int) (en : Bool) (da : ByteArray) (ki on we : Int) (ex : Bool) (co la n : Int) (sa : Option Addr) (sm sc : Nat) (w : World) (hR : HoldR w0 w H #[.int .i64 ty, .int .i64 st, .bool en, .string da, .int .i64 ki, .int .i64 on, .int .i64 we, .bool ex, .int .i64 co, .int .i64 la, .int .i64 n, .slice sa sm sc]) (bb : Bool) (ps : List (Int × Int)) (hcl : ty = 7) (hb : bb = bad3 ⟨ty, st, en, da, ki, on, we, ex, co, la, n, ps⟩)
    (s0 s2 s4 s5 s6 s7 s8 s9 s10 s11 s12 s13 s14 s15 s16 s17 s18 s19 s20 s21 s22 s23 s24 s25 s26 s27 s28 s29 s30 s31 s32 s33 s34 s35 s36 s37 s38 s39 s40 s41 s42 s43 s44 s45 s46 s47 s48 s49 s50 s51 s52 s53 s54 s55 s56 s57 s58 s59 s60 s61 s62 s63 s64 s65 s66 s67 s68 s69 s70 s71 s72 s73 s74 s75 s76 s77 s78 s79 s80 s81 s82 s83 s84 s85 s86 s87 s88 s89 s90 s91 s92 s93 s94 s95 s96 s97 s98 s99 s100 s101 s102 s103 s104 s105 s106 s107 s108 s109 s110 s111 s112 s113 s114 s115 s116 s117 s118 s119 s120 s121 s122 s123 s124 s125 s126 s127 s128 s129 s130 s131 s132 s133 s134 s135 s136 s137 s138 s139 s140 s141 s142 s143 s144 s145 s146 s147 s148 s149 s150 s151 s152 s153 s154 s155 s156 s157 s158 s159 s160 s161 s162 s163 s164 s165 s166 s167 s168 s169 s170 s171 s172 s173 s174 s175 s176 s177 s178 s179 s180 s181 s182 s183 s184 s185 s186 s187 s188 s189 s190 s191 s192 s193 s194 s195 s196 s197 s198 s199 s200 s201 s202 s203 s204 s205 s206 s207 s208 s209 s210 s211 s212 s213 s214 s215 s216 s217 s218 s219 s220 s221 s222 s223 s224 s225 : Value)
    (hQ : ∀ (r95 r96 r97 r98 r99 r100 r101 r102 r103 r104 r105 r106 r107 r108 r109 r110 r111 r112 r113 r114 r115 r116 r117 r118 r119 r120 r121 r122 : Value) (w' : World) (hw' : HoldR w0 w' H #[.int .i64 ty, .int .i64 st, .bool en, .string da, .int .i64 ki, .int .i64 on, .int .i64 we, .bool ex, .int .i64 co, .int .i64 la, .int .i64 n, .slice sa sm sc]), Q .normal ⟨#[s0, .pointer (some ⟨H, 0, none⟩), s2, .int .i64 ty, s4, s5, s6, s7, s8, s9, s10, s11, s12, s13, s14, s15, s16, s17, s18, s19, s20, s21, s22, s23, s24, s25, s26, s27, s28, s29, s30, s31, s32, s33, s34, s35, s36, s37, s38, s39, s40, s41, s42, s43, s44, s45, s46, s47, s48, s49, s50, s51, s52, s53, s54, s55, s56, s57, s58, s59, s60, s61, s62, s63, s64, s65, s66, s67, s68, s69, s70, s71, s72, s73, s74, s75, s76, s77, s78, s79, s80, s81, s82, s83, s84, s85, s86, s87, s88, s89, s90, s91, s92, s93, s94, r95, r96, r97, r98, r99, r100, r101, r102, r103, r104, r105, r106, r107, r108, r109, r110, r111, r112, r113, r114, r115, r116, r117, r118, r119, r120, r121, r122, .bool bb, s124, s125, s126, s127, s128, s129, s130, s131, s132, s133, s134, s135, s136, s137, s138, s139, s140, s141, s142, s143, s144, s145, s146, s147, s148, s149, s150, s151, s152, s153, s154, s155, s156, s157, s158, s159, s160, s161, s162, s163, s164, s165, s166, s167, s168, s169, s170, s171, s172, s173, s174, s175, s176, s177, s178, s179, s180, s181, s182, s183, s184, s185, s186, s187, s188, s189, s190, s191, s192, s193, s194, s195, s196, s197, s198, s199, s200, s201, s202, s203, s204, s205, s206, s207, s208, s209, s210, s211, s212, s213, s214, s215, s216, s217, s218, s219, s220, s221, s222, s223, s224, s225], []⟩ w') :
    Code.wp Tryd.prog body6 Q ⟨#[s0, .pointer (some ⟨H, 0, none⟩), s2, .int .i64 ty, s4, s5, s6, s7, s8, s9, s10, s11, s12, s13, s14, s15, s16, s17, s18, s19, s20, s21, s22, s23, s24, s25, s26, s27, s28, s29, s30, s31, s32, s33, s34, s35, s36, s37, s38, s39, s40, s41, s42, s43, s44, s45, s46, s47, s48, s49, s50, s51, s52, s53, s54, s55, s56, s57, s58, s59, s60, s61, s62, s63, s64, s65, s66, s67, s68, s69, s70, s71, s72, s73, s74, s75, s76, s77, s78, s79, s80, s81, s82, s83, s84, s85, s86, s87, s88, s89, s90, s91, s92, s93, s94, s95, s96, s97, s98, s99, s100, s101, s102, s103, s104, s105, s106, s107, s108, s109, s110, s111, s112, s113, s114, s115, s116, s117, s118, s119, s120, s121, s122, s123, s124, s125, s126, s127, s128, s129, s130, s131, s132, s133, s134, s135, s136, s137, s138, s139, s140, s141, s142, s143, s144, s145, s146, s147, s148, s149, s150, s151, s152, s153, s154, s155, s156, s157, s158, s159, s160, s161, s162, s163, s164, s165, s166, s167, s168, s169, s170, s171, s172, s173, s174, s175, s176, s177, s178, s179, s180, s181, s182, s183, s184, s185, s186, s187, s188, s189, s190, s191, s192, s193, s194, s195, s196, s197, s198, s199, s200, s201, s202, s203, s204, s205, s206, s207, s208, s209, s210, s211, s212, s213, s214, s215, s216, s217, s218, s219, s220, s221, s222, s223, s224, s225], []⟩ w := by
  conv => arg 2; whnf
  obtain ⟨c0, h0⟩ : ∃ c, noneB on we ex = c := ⟨_, rfl⟩
  have q0 := fun w => none_any on we ex w
  rw [h0] at q0
  have e3 := hR.2.cell 3
  have e5 := hR.2.cell 5
  have e6 := hR.2.cell 6
  have e7 := hR.2.cell 7
  have HR := Lib.hid (And.intro hR (And.intro hb (And.intro hQ (And.intro h0 q0))))
  clear hR hb hQ h0 q0
  have t1 : 1 < ty := by omega
  have t2 : (ty != 2) = true := by simp; omega
  have t3 : (ty != 3) = true := by simp; omega
  have t7 : (ty != 7) = false := by simp; omega
  have t8 : (ty != 8) = true := by simp; omega
  have HC := Lib.hid (show 1 < ty ∧ ¬ ty = 2 ∧ ¬ ty = 3 ∧ ty = 7 ∧ ¬ ty = 8 by omega)
  clear hcl
  by_cases hd : da = ⟨#[]⟩
  · have hd1 : da.toList = [] := (nil_iff _).2 hd
    have hd2 : (!da.toList.isEmpty) = false := by rw [hd1]; rfl
    have HD := Lib.hid hd
    clear hd
    cases c0
    · have hv : bb = true := by rw [HR.out.2.1]; simp [bad3, HD.out, HC.out, HR.out.2.2.2.1]
      have hq := HR.out.2.2.1
      rw [hv] at hq
      have HQ := Lib.hid hq
      clear hq hv
      go_wp2_with fail
      refine (HR.out.2.2.2.2 _).mono ?_
      rintro e wz ⟨rfl, hmz⟩
      have hH4 := HR.out.1.below hmz
      have e3 := hH4.2.cell 3
      have HH4 := Lib.hid hH4
      clear hH4 hmz
      go_wp2_with fail
      exact HQ.out _ _ _ _ _ _ _ _ _ _ _ _ _ _ _ _ _ _ _ _ _ _ _ _ _ _ _ _ wz HH4.out
    · have hv : bb = false := by rw [HR.out.2.1]; simp [bad3, HD.out, HC.out, HR.out.2.2.2.1]
      have hq := HR.out.2.2.1
      rw [hv] at hq
      have HQ := Lib.hid hq
      clear hq hv
      go_wp2_with fail
      refine (HR.out.2.2.2.2 _).mono ?_
      rintro e wz ⟨rfl, hmz⟩
      have hH4 := HR.out.1.below hmz
      have e3 := hH4.2.cell 3
      have HH4 := Lib.hid hH4
      clear hH4 hmz
      go_wp2_with fail
      exact HQ.out _ _ _ _ _ _ _ _ _ _ _ _ _ _ _ _ _ _ _ _ _ _ _ _ _ _ _ _ wz HH4.out
  · have hd1 : ¬ da.toList = [] := fun h => hd ((nil_iff _).1 h)
    have hd2 : (!da.toList.isEmpty) = true := by cases h : da.toList with | nil => exact absurd h hd1 | cons a b => rfl
    have HD := Lib.hid hd
    clear hd
    cases c0
    · have hv : bb = true := by rw [HR.out.2.1]; simp [bad3, HD.out, HC.out, HR.out.2.2.2.1]
      have hq := HR.out.2.2.1
      rw [hv] at hq
      have HQ := Lib.hid hq
      clear hq hv
      go_wp2_with fail
      refine (HR.out.2.2.2.2 _).mono ?_
      rintro e wz ⟨rfl, hmz⟩
      have hH4 := HR.out.1.below hmz
      have e3 := hH4.2.cell 3
      have HH4 := Lib.hid hH4
      clear hH4 hmz
      go_wp2_with fail
      exact HQ.out _ _ _ _ _ _ _ _ _ _ _ _ _ _ _ _ _ _ _ _ _ _ _ _ _ _ _ _ wz HH4.out
    · have hv : bb = false := by rw [HR.out.2.1]; simp [bad3, HD.out, HC.out, HR.out.2.2.2.1]
      have hq := HR.out.2.2.1
      rw [hv] at hq
      have HQ := Lib.hid hq
      clear hq hv
      go_wp2_with fail
      refine (HR.out.2.2.2.2 _).mono ?_
      rintro e wz ⟨rfl, hmz⟩
      have hH4 := HR.out.1.below hmz
      have e3 := hH4.2.cell 3
      have HH4 := Lib.hid hH4
      clear hH4 hmz
      go_wp2_with fail
      exact HQ.out _ _ _ _ _ _ _ _ _ _ _ _ _ _ _ _ _ _ _ _ _ _ _ _ _ _ _ _ wz HH4.out

end Go.Proofs.YtebiidfpgdolnaaDoor.Dmp

namespace Go.Proofs.YtebiidfpgdolnaaDoor.Dmp
open Go.ChangeShapes Go.WideShapes Go.ChangeAt Go.RowKit Go.Deep
set_option linter.unusedVariables false
open Go.Lib
set_option linter.unusedSimpArgs false

set_option maxRecDepth 1000000 in
set_option maxHeartbeats 6400000 in
theorem reg6_8 {Q : Exit → Act → World → Prop} (H : Nat) (w0 : World) (ty st : Int) (en : Bool) (da : ByteArray) (ki on we : Int) (ex : Bool) (co la n : Int) (sa : Option Addr) (sm sc : Nat) (w : World) (hR : HoldR w0 w H #[.int .i64 ty, .int .i64 st, .bool en, .string da, .int .i64 ki, .int .i64 on, .int .i64 we, .bool ex, .int .i64 co, .int .i64 la, .int .i64 n, .slice sa sm sc]) (bb : Bool) (ps : List (Int × Int)) (hcl : ty = 8) (hb : bb = bad3 ⟨ty, st, en, da, ki, on, we, ex, co, la, n, ps⟩)
    (s0 s2 s4 s5 s6 s7 s8 s9 s10 s11 s12 s13 s14 s15 s16 s17 s18 s19 s20 s21 s22 s23 s24 s25 s26 s27 s28 s29 s30 s31 s32 s33 s34 s35 s36 s37 s38 s39 s40 s41 s42 s43 s44 s45 s46 s47 s48 s49 s50 s51 s52 s53 s54 s55 s56 s57 s58 s59 s60 s61 s62 s63 s64 s65 s66 s67 s68 s69 s70 s71 s72 s73 s74 s75 s76 s77 s78 s79 s80 s81 s82 s83 s84 s85 s86 s87 s88 s89 s90 s91 s92 s93 s94 s95 s96 s97 s98 s99 s100 s101 s102 s103 s104 s105 s106 s107 s108 s109 s110 s111 s112 s113 s114 s115 s116 s117 s118 s119 s120 s121 s122 s123 s124 s125 s126 s127 s128 s129 s130 s131 s132 s133 s134 s135 s136 s137 s138 s139 s140 s141 s142 s143 s144 s145 s146 s147 s148 s149 s150 s151 s152 s153 s154 s155 s156 s157 s158 s159 s160 s161 s162 s163 s164 s165 s166 s167 s168 s169 s170 s171 s172 s173 s174 s175 s176 s177 s178 s179 s180 s181 s182 s183 s184 s185 s186 s187 s188 s189 s190 s191 s192 s193 s194 s195 s196 s197 s198 s199 s200 s201 s202 s203 s204 s205 s206 s207 s208 s209 s210 s211 s212 s213 s214 s215 s216 s217 s218 s219 s220 s221 s222 s223 s224 s225 : Value)
    (hQ : ∀ (r95 r96 r97 r98 r99 r100 r101 r102 r103 r104 r105 r106 r107 r108 r109 r110 r111 r112 r113 r114 r115 r116 r117 r118 r119 r120 r121 r122 : Value) (w' : World) (hw' : HoldR w0 w' H #[.int .i64 ty, .int .i64 st, .bool en, .string da, .int .i64 ki, .int .i64 on, .int .i64 we, .bool ex, .int .i64 co, .int .i64 la, .int .i64 n, .slice sa sm sc]), Q .normal ⟨#[s0, .pointer (some ⟨H, 0, none⟩), s2, .int .i64 ty, s4, s5, s6, s7, s8, s9, s10, s11, s12, s13, s14, s15, s16, s17, s18, s19, s20, s21, s22, s23, s24, s25, s26, s27, s28, s29, s30, s31, s32, s33, s34, s35, s36, s37, s38, s39, s40, s41, s42, s43, s44, s45, s46, s47, s48, s49, s50, s51, s52, s53, s54, s55, s56, s57, s58, s59, s60, s61, s62, s63, s64, s65, s66, s67, s68, s69, s70, s71, s72, s73, s74, s75, s76, s77, s78, s79, s80, s81, s82, s83, s84, s85, s86, s87, s88, s89, s90, s91, s92, s93, s94, r95, r96, r97, r98, r99, r100, r101, r102, r103, r104, r105, r106, r107, r108, r109, r110, r111, r112, r113, r114, r115, r116, r117, r118, r119, r120, r121, r122, .bool bb, s124, s125, s126, s127, s128, s129, s130, s131, s132, s133, s134, s135, s136, s137, s138, s139, s140, s141, s142, s143, s144, s145, s146, s147, s148, s149, s150, s151, s152, s153, s154, s155, s156, s157, s158, s159, s160, s161, s162, s163, s164, s165, s166, s167, s168, s169, s170, s171, s172, s173, s174, s175, s176, s177, s178, s179, s180, s181, s182, s183, s184, s185, s186, s187, s188, s189, s190, s191, s192, s193, s194, s195, s196, s197, s198, s199, s200, s201, s202, s203, s204, s205, s206, s207, s208, s209, s210, s211, s212, s213, s214, s215, s216, s217, s218, s219, s220, s221, s222, s223, s224, s225], []⟩ w') :
    Code.wp Tryd.prog body6 Q ⟨#[s0, .pointer (some ⟨H, 0, none⟩), s2, .int .i64 ty, s4, s5, s6, s7, s8, s9, s10, s11, s12, s13, s14, s15, s16, s17, s18, s19, s20, s21, s22, s23, s24, s25, s26, s27, s28, s29, s30, s31, s32, s33, s34, s35, s36, s37, s38, s39, s40, s41, s42, s43, s44, s45, s46, s47, s48, s49, s50, s51, s52, s53, s54, s55, s56, s57, s58, s59, s60, s61, s62, s63, s64, s65, s66, s67, s68, s69, s70, s71, s72, s73, s74, s75, s76, s77, s78, s79, s80, s81, s82, s83, s84, s85, s86, s87, s88, s89, s90, s91, s92, s93, s94, s95, s96, s97, s98, s99, s100, s101, s102, s103, s104, s105, s106, s107, s108, s109, s110, s111, s112, s113, s114, s115, s116, s117, s118, s119, s120, s121, s122, s123, s124, s125, s126, s127, s128, s129, s130, s131, s132, s133, s134, s135, s136, s137, s138, s139, s140, s141, s142, s143, s144, s145, s146, s147, s148, s149, s150, s151, s152, s153, s154, s155, s156, s157, s158, s159, s160, s161, s162, s163, s164, s165, s166, s167, s168, s169, s170, s171, s172, s173, s174, s175, s176, s177, s178, s179, s180, s181, s182, s183, s184, s185, s186, s187, s188, s189, s190, s191, s192, s193, s194, s195, s196, s197, s198, s199, s200, s201, s202, s203, s204, s205, s206, s207, s208, s209, s210, s211, s212, s213, s214, s215, s216, s217, s218, s219, s220, s221, s222, s223, s224, s225], []⟩ w := by
  conv => arg 2; whnf
  obtain ⟨c0, h0⟩ : ∃ c, noneB on we ex = c := ⟨_, rfl⟩
  have q0 := fun w => none_any on we ex w
  rw [h0] at q0
  have e3 := hR.2.cell 3
  have e5 := hR.2.cell 5
  have e6 := hR.2.cell 6
  have e7 := hR.2.cell 7
  have HR := Lib.hid (And.intro hR (And.intro hb (And.intro hQ (And.intro h0 q0))))
  clear hR hb hQ h0 q0
  have t1 : 1 < ty := by omega
  have t2 : (ty != 2) = true := by simp; omega
  have t3 : (ty != 3) = true := by simp; omega
  have t7 : (ty != 7) = true := by simp; omega
  have t8 : (ty != 8) = false := by simp; omega
  have HC := Lib.hid (show 1 < ty ∧ ¬ ty = 2 ∧ ¬ ty = 3 ∧ ¬ ty = 7 ∧ ty = 8 by omega)
  clear hcl
  by_cases hd : da = ⟨#[]⟩
  · have hd1 : da.toList = [] := (nil_iff _).2 hd
    have hd2 : (!da.toList.isEmpty) = false := by rw [hd1]; rfl
    have HD := Lib.hid hd
    clear hd
    cases c0
    · have hv : bb = true := by rw [HR.out.2.1]; simp [bad3, HD.out, HC.out, HR.out.2.2.2.1]
      have hq := HR.out.2.2.1
      rw [hv] at hq
      have HQ := Lib.hid hq
      clear hq hv
      go_wp2_with fail
      refine (HR.out.2.2.2.2 _).mono ?_
      rintro e wz ⟨rfl, hmz⟩
      have hH4 := HR.out.1.below hmz
      have e3 := hH4.2.cell 3
      have HH4 := Lib.hid hH4
      clear hH4 hmz
      go_wp2_with fail
      exact HQ.out _ _ _ _ _ _ _ _ _ _ _ _ _ _ _ _ _ _ _ _ _ _ _ _ _ _ _ _ wz HH4.out
    · have hv : bb = false := by rw [HR.out.2.1]; simp [bad3, HD.out, HC.out, HR.out.2.2.2.1]
      have hq := HR.out.2.2.1
      rw [hv] at hq
      have HQ := Lib.hid hq
      clear hq hv
      go_wp2_with fail
      refine (HR.out.2.2.2.2 _).mono ?_
      rintro e wz ⟨rfl, hmz⟩
      have hH4 := HR.out.1.below hmz
      have e3 := hH4.2.cell 3
      have HH4 := Lib.hid hH4
      clear hH4 hmz
      go_wp2_with fail
      exact HQ.out _ _ _ _ _ _ _ _ _ _ _ _ _ _ _ _ _ _ _ _ _ _ _ _ _ _ _ _ wz HH4.out
  · have hd1 : ¬ da.toList = [] := fun h => hd ((nil_iff _).1 h)
    have hd2 : (!da.toList.isEmpty) = true := by cases h : da.toList with | nil => exact absurd h hd1 | cons a b => rfl
    have HD := Lib.hid hd
    clear hd
    cases c0
    · have hv : bb = true := by rw [HR.out.2.1]; simp [bad3, HD.out, HC.out, HR.out.2.2.2.1]
      have hq := HR.out.2.2.1
      rw [hv] at hq
      have HQ := Lib.hid hq
      clear hq hv
      go_wp2_with fail
      refine (HR.out.2.2.2.2 _).mono ?_
      rintro e wz ⟨rfl, hmz⟩
      have hH4 := HR.out.1.below hmz
      have e3 := hH4.2.cell 3
      have HH4 := Lib.hid hH4
      clear hH4 hmz
      go_wp2_with fail
      exact HQ.out _ _ _ _ _ _ _ _ _ _ _ _ _ _ _ _ _ _ _ _ _ _ _ _ _ _ _ _ wz HH4.out
    · have hv : bb = false := by rw [HR.out.2.1]; simp [bad3, HD.out, HC.out, HR.out.2.2.2.1]
      have hq := HR.out.2.2.1
      rw [hv] at hq
      have HQ := Lib.hid hq
      clear hq hv
      go_wp2_with fail
      refine (HR.out.2.2.2.2 _).mono ?_
      rintro e wz ⟨rfl, hmz⟩
      have hH4 := HR.out.1.below hmz
      have e3 := hH4.2.cell 3
      have HH4 := Lib.hid hH4
      clear hH4 hmz
      go_wp2_with fail
      exact HQ.out _ _ _ _ _ _ _ _ _ _ _ _ _ _ _ _ _ _ _ _ _ _ _ _ _ _ _ _ wz HH4.out

end Go.Proofs.YtebiidfpgdolnaaDoor.Dmp

namespace Go.Proofs.YtebiidfpgdolnaaDoor.Dmp
open Go.ChangeShapes Go.WideShapes Go.ChangeAt Go.RowKit Go.Deep
set_option linter.unusedVariables false
open Go.Lib
set_option linter.unusedSimpArgs false

set_option maxRecDepth 1000000 in
set_option maxHeartbeats 6400000 in
theorem reg6_r {Q : Exit → Act → World → Prop} (H : Nat) (w0 : World) (ty st : Int) (en : Bool) (da : ByteArray) (ki on we : Int) (ex : Bool) (co la n : Int) (sa : Option Addr) (sm sc : Nat) (w : World) (hR : HoldR w0 w H #[.int .i64 ty, .int .i64 st, .bool en, .string da, .int .i64 ki, .int .i64 on, .int .i64 we, .bool ex, .int .i64 co, .int .i64 la, .int .i64 n, .slice sa sm sc]) (bb : Bool) (ps : List (Int × Int)) (hcl : ty = 4 ∨ ty = 5 ∨ ty = 6 ∨ 9 ≤ ty ∧ ty ≤ 11) (hb : bb = bad3 ⟨ty, st, en, da, ki, on, we, ex, co, la, n, ps⟩)
    (s0 s2 s4 s5 s6 s7 s8 s9 s10 s11 s12 s13 s14 s15 s16 s17 s18 s19 s20 s21 s22 s23 s24 s25 s26 s27 s28 s29 s30 s31 s32 s33 s34 s35 s36 s37 s38 s39 s40 s41 s42 s43 s44 s45 s46 s47 s48 s49 s50 s51 s52 s53 s54 s55 s56 s57 s58 s59 s60 s61 s62 s63 s64 s65 s66 s67 s68 s69 s70 s71 s72 s73 s74 s75 s76 s77 s78 s79 s80 s81 s82 s83 s84 s85 s86 s87 s88 s89 s90 s91 s92 s93 s94 s95 s96 s97 s98 s99 s100 s101 s102 s103 s104 s105 s106 s107 s108 s109 s110 s111 s112 s113 s114 s115 s116 s117 s118 s119 s120 s121 s122 s123 s124 s125 s126 s127 s128 s129 s130 s131 s132 s133 s134 s135 s136 s137 s138 s139 s140 s141 s142 s143 s144 s145 s146 s147 s148 s149 s150 s151 s152 s153 s154 s155 s156 s157 s158 s159 s160 s161 s162 s163 s164 s165 s166 s167 s168 s169 s170 s171 s172 s173 s174 s175 s176 s177 s178 s179 s180 s181 s182 s183 s184 s185 s186 s187 s188 s189 s190 s191 s192 s193 s194 s195 s196 s197 s198 s199 s200 s201 s202 s203 s204 s205 s206 s207 s208 s209 s210 s211 s212 s213 s214 s215 s216 s217 s218 s219 s220 s221 s222 s223 s224 s225 : Value)
    (hQ : ∀ (r95 r96 r97 r98 r99 r100 r101 r102 r103 r104 r105 r106 r107 r108 r109 r110 r111 r112 r113 r114 r115 r116 r117 r118 r119 r120 r121 r122 : Value) (w' : World) (hw' : HoldR w0 w' H #[.int .i64 ty, .int .i64 st, .bool en, .string da, .int .i64 ki, .int .i64 on, .int .i64 we, .bool ex, .int .i64 co, .int .i64 la, .int .i64 n, .slice sa sm sc]), Q .normal ⟨#[s0, .pointer (some ⟨H, 0, none⟩), s2, .int .i64 ty, s4, s5, s6, s7, s8, s9, s10, s11, s12, s13, s14, s15, s16, s17, s18, s19, s20, s21, s22, s23, s24, s25, s26, s27, s28, s29, s30, s31, s32, s33, s34, s35, s36, s37, s38, s39, s40, s41, s42, s43, s44, s45, s46, s47, s48, s49, s50, s51, s52, s53, s54, s55, s56, s57, s58, s59, s60, s61, s62, s63, s64, s65, s66, s67, s68, s69, s70, s71, s72, s73, s74, s75, s76, s77, s78, s79, s80, s81, s82, s83, s84, s85, s86, s87, s88, s89, s90, s91, s92, s93, s94, r95, r96, r97, r98, r99, r100, r101, r102, r103, r104, r105, r106, r107, r108, r109, r110, r111, r112, r113, r114, r115, r116, r117, r118, r119, r120, r121, r122, .bool bb, s124, s125, s126, s127, s128, s129, s130, s131, s132, s133, s134, s135, s136, s137, s138, s139, s140, s141, s142, s143, s144, s145, s146, s147, s148, s149, s150, s151, s152, s153, s154, s155, s156, s157, s158, s159, s160, s161, s162, s163, s164, s165, s166, s167, s168, s169, s170, s171, s172, s173, s174, s175, s176, s177, s178, s179, s180, s181, s182, s183, s184, s185, s186, s187, s188, s189, s190, s191, s192, s193, s194, s195, s196, s197, s198, s199, s200, s201, s202, s203, s204, s205, s206, s207, s208, s209, s210, s211, s212, s213, s214, s215, s216, s217, s218, s219, s220, s221, s222, s223, s224, s225], []⟩ w') :
    Code.wp Tryd.prog body6 Q ⟨#[s0, .pointer (some ⟨H, 0, none⟩), s2, .int .i64 ty, s4, s5, s6, s7, s8, s9, s10, s11, s12, s13, s14, s15, s16, s17, s18, s19, s20, s21, s22, s23, s24, s25, s26, s27, s28, s29, s30, s31, s32, s33, s34, s35, s36, s37, s38, s39, s40, s41, s42, s43, s44, s45, s46, s47, s48, s49, s50, s51, s52, s53, s54, s55, s56, s57, s58, s59, s60, s61, s62, s63, s64, s65, s66, s67, s68, s69, s70, s71, s72, s73, s74, s75, s76, s77, s78, s79, s80, s81, s82, s83, s84, s85, s86, s87, s88, s89, s90, s91, s92, s93, s94, s95, s96, s97, s98, s99, s100, s101, s102, s103, s104, s105, s106, s107, s108, s109, s110, s111, s112, s113, s114, s115, s116, s117, s118, s119, s120, s121, s122, s123, s124, s125, s126, s127, s128, s129, s130, s131, s132, s133, s134, s135, s136, s137, s138, s139, s140, s141, s142, s143, s144, s145, s146, s147, s148, s149, s150, s151, s152, s153, s154, s155, s156, s157, s158, s159, s160, s161, s162, s163, s164, s165, s166, s167, s168, s169, s170, s171, s172, s173, s174, s175, s176, s177, s178, s179, s180, s181, s182, s183, s184, s185, s186, s187, s188, s189, s190, s191, s192, s193, s194, s195, s196, s197, s198, s199, s200, s201, s202, s203, s204, s205, s206, s207, s208, s209, s210, s211, s212, s213, s214, s215, s216, s217, s218, s219, s220, s221, s222, s223, s224, s225], []⟩ w := by
  conv => arg 2; whnf
  obtain ⟨c0, h0⟩ : ∃ c, noneB on we ex = c := ⟨_, rfl⟩
  have q0 := fun w => none_any on we ex w
  rw [h0] at q0
  have e3 := hR.2.cell 3
  have e5 := hR.2.cell 5
  have e6 := hR.2.cell 6
  have e7 := hR.2.cell 7
  have HR := Lib.hid (And.intro hR (And.intro hb (And.intro hQ (And.intro h0 q0))))
  clear hR hb hQ h0 q0
  have t1 : 1 < ty := by omega
  have t2 : (ty != 2) = true := by simp; omega
  have t3 : (ty != 3) = true := by simp; omega
  have t7 : (ty != 7) = true := by simp; omega
  have t8 : (ty != 8) = true := by simp; omega
  have HC := Lib.hid (show 1 < ty ∧ ¬ ty = 2 ∧ ¬ ty = 3 ∧ ¬ ty = 7 ∧ ¬ ty = 8 by omega)
  clear hcl
  by_cases hd : da = ⟨#[]⟩
  · have hd1 : da.toList = [] := (nil_iff _).2 hd
    have hd2 : (!da.toList.isEmpty) = false := by rw [hd1]; rfl
    have HD := Lib.hid hd
    clear hd
    cases c0
    · have hv : bb = true := by rw [HR.out.2.1]; simp [bad3, HD.out, HC.out, HR.out.2.2.2.1]
      have hq := HR.out.2.2.1
      rw [hv] at hq
      have HQ := Lib.hid hq
      clear hq hv
      go_wp2_with fail
      refine (HR.out.2.2.2.2 _).mono ?_
      rintro e wz ⟨rfl, hmz⟩
      have hH4 := HR.out.1.below hmz
      have e3 := hH4.2.cell 3
      have HH4 := Lib.hid hH4
      clear hH4 hmz
      go_wp2_with fail
      exact HQ.out _ _ _ _ _ _ _ _ _ _ _ _ _ _ _ _ _ _ _ _ _ _ _ _ _ _ _ _ wz HH4.out
    · have hv : bb = false := by rw [HR.out.2.1]; simp [bad3, HD.out, HC.out, HR.out.2.2.2.1]
      have hq := HR.out.2.2.1
      rw [hv] at hq
      have HQ := Lib.hid hq
      clear hq hv
      go_wp2_with fail
      refine (HR.out.2.2.2.2 _).mono ?_
      rintro e wz ⟨rfl, hmz⟩
      have hH4 := HR.out.1.below hmz
      have e3 := hH4.2.cell 3
      have HH4 := Lib.hid hH4
      clear hH4 hmz
      go_wp2_with fail
      exact HQ.out _ _ _ _ _ _ _ _ _ _ _ _ _ _ _ _ _ _ _ _ _ _ _ _ _ _ _ _ wz HH4.out
  · have hd1 : ¬ da.toList = [] := fun h => hd ((nil_iff _).1 h)
    have hd2 : (!da.toList.isEmpty) = true := by cases h : da.toList with | nil => exact absurd h hd1 | cons a b => rfl
    have HD := Lib.hid hd
    clear hd
    cases c0
    · have hv : bb = true := by rw [HR.out.2.1]; simp [bad3, HD.out, HC.out, HR.out.2.2.2.1]
      have hq := HR.out.2.2.1
      rw [hv] at hq
      have HQ := Lib.hid hq
      clear hq hv
      go_wp2_with fail
      refine (HR.out.2.2.2.2 _).mono ?_
      rintro e wz ⟨rfl, hmz⟩
      have hH4 := HR.out.1.below hmz
      have e3 := hH4.2.cell 3
      have HH4 := Lib.hid hH4
      clear hH4 hmz
      go_wp2_with fail
      exact HQ.out _ _ _ _ _ _ _ _ _ _ _ _ _ _ _ _ _ _ _ _ _ _ _ _ _ _ _ _ wz HH4.out
    · have hv : bb = true := by rw [HR.out.2.1]; simp [bad3, HD.out, HC.out, HR.out.2.2.2.1]
      have hq := HR.out.2.2.1
      rw [hv] at hq
      have HQ := Lib.hid hq
      clear hq hv
      go_wp2_with fail
      refine (HR.out.2.2.2.2 _).mono ?_
      rintro e wz ⟨rfl, hmz⟩
      have hH4 := HR.out.1.below hmz
      have e3 := hH4.2.cell 3
      have HH4 := Lib.hid hH4
      clear hH4 hmz
      go_wp2_with fail
      exact HQ.out _ _ _ _ _ _ _ _ _ _ _ _ _ _ _ _ _ _ _ _ _ _ _ _ _ _ _ _ wz HH4.out

end Go.Proofs.YtebiidfpgdolnaaDoor.Dmp
