import Derived.Test.YtebiidfpgdolnaaDoorMf
namespace Go.Proofs.YtebiidfpgdolnaaDoor.Dmp
open Go.ChangeShapes Go.WideShapes Go.ChangeAt Go.RowKit Go.Deep
set_option linter.unusedVariables false
open Go.Lib
set_option linter.unusedSimpArgs false

set_option maxRecDepth 1000000 in
set_option maxHeartbeats 6400000 in
theorem reg4_2 {Q : Exit → Act → World → Prop} (H : Nat) (w0 : World) (ty st : Int) (en : Bool) (da : ByteArray) (ki on we : Int) (ex : Bool) (co la n : Int) (sa : Option Addr) (sm sc : Nat) (w : World) (hR : HoldR w0 w H #[.int .i64 ty, .int .i64 st, .bool en, .string da, .int .i64 ki, .int .i64 on, .int .i64 we, .bool ex, .int .i64 co, .int .i64 la, .int .i64 n, .slice sa sm sc]) (bb : Bool) (ps : List (Int × Int)) (hlen : ps.length = sm) (hcl : ty = 2) (hb : bb = bad2 ⟨ty, st, en, da, ki, on, we, ex, co, la, n, ps⟩)
    (s0 s2 s4 s5 s6 s7 s8 s9 s10 s11 s12 s13 s14 s15 s16 s17 s18 s19 s20 s21 s22 s23 s24 s25 s26 s27 s28 s29 s30 s31 s32 s33 s34 s35 s36 s37 s38 s39 s40 s41 s42 s43 s44 s45 s46 s47 s48 s49 s50 s51 s52 s53 s54 s55 s56 s57 s58 s59 s60 s61 s62 s63 s64 s65 s66 s67 s68 s69 s70 s71 s72 s73 s74 s75 s76 s77 s78 s79 s80 s81 s82 s83 s84 s85 s86 s87 s88 s89 s90 s91 s92 s93 s94 s95 s96 s97 s98 s99 s100 s101 s102 s103 s104 s105 s106 s107 s108 s109 s110 s111 s112 s113 s114 s115 s116 s117 s118 s119 s120 s121 s122 s123 s124 s125 s126 s127 s128 s129 s130 s131 s132 s133 s134 s135 s136 s137 s138 s139 s140 s141 s142 s143 s144 s145 s146 s147 s148 s149 s150 s151 s152 s153 s154 s155 s156 s157 s158 s159 s160 s161 s162 s163 s164 s165 s166 s167 s168 s169 s170 s171 s172 s173 s174 s175 s176 s177 s178 s179 s180 s181 s182 s183 s184 s185 s186 s187 s188 s189 s190 s191 s192 s193 s194 s195 s196 s197 s198 s199 s200 s201 s202 s203 s204 s205 s206 s207 s208 s209 s210 s211 s212 s213 s214 s215 s216 s217 s218 s219 s220 s221 s222 s223 s224 s225 : Value)
    (hQ : ∀ (r39 r40 r41 r42 r43 r44 r45 r46 r47 r48 r49 r50 r51 r52 r53 r54 r55 r56 r57 r58 r59 r60 r61 r62 r63 r64 r65 r66 r67 r68 r69 r70 r71 r72 r73 r74 r75 r76 r77 r78 r79 r80 r81 r82 r83 r84 r85 r86 r87 r88 r89 r90 r91 r92 r93 : Value), Q .normal ⟨#[s0, .pointer (some ⟨H, 0, none⟩), s2, .int .i64 ty, s4, s5, s6, s7, s8, s9, s10, s11, s12, s13, s14, s15, s16, s17, s18, s19, s20, s21, s22, s23, s24, s25, s26, s27, s28, s29, s30, s31, s32, s33, s34, s35, s36, s37, s38, r39, r40, r41, r42, r43, r44, r45, r46, r47, r48, r49, r50, r51, r52, r53, r54, r55, r56, r57, r58, r59, r60, r61, r62, r63, r64, r65, r66, r67, r68, r69, r70, r71, r72, r73, r74, r75, r76, r77, r78, r79, r80, r81, r82, r83, r84, r85, r86, r87, r88, r89, r90, r91, r92, r93, .bool bb, s95, s96, s97, s98, s99, s100, s101, s102, s103, s104, s105, s106, s107, s108, s109, s110, s111, s112, s113, s114, s115, s116, s117, s118, s119, s120, s121, s122, s123, s124, s125, s126, s127, s128, s129, s130, s131, s132, s133, s134, s135, s136, s137, s138, s139, s140, s141, s142, s143, s144, s145, s146, s147, s148, s149, s150, s151, s152, s153, s154, s155, s156, s157, s158, s159, s160, s161, s162, s163, s164, s165, s166, s167, s168, s169, s170, s171, s172, s173, s174, s175, s176, s177, s178, s179, s180, s181, s182, s183, s184, s185, s186, s187, s188, s189, s190, s191, s192, s193, s194, s195, s196, s197, s198, s199, s200, s201, s202, s203, s204, s205, s206, s207, s208, s209, s210, s211, s212, s213, s214, s215, s216, s217, s218, s219, s220, s221, s222, s223, s224, s225], []⟩ w) :
    Code.wp Tryd.prog body4 Q ⟨#[s0, .pointer (some ⟨H, 0, none⟩), s2, .int .i64 ty, s4, s5, s6, s7, s8, s9, s10, s11, s12, s13, s14, s15, s16, s17, s18, s19, s20, s21, s22, s23, s24, s25, s26, s27, s28, s29, s30, s31, s32, s33, s34, s35, s36, s37, s38, s39, s40, s41, s42, s43, s44, s45, s46, s47, s48, s49, s50, s51, s52, s53, s54, s55, s56, s57, s58, s59, s60, s61, s62, s63, s64, s65, s66, s67, s68, s69, s70, s71, s72, s73, s74, s75, s76, s77, s78, s79, s80, s81, s82, s83, s84, s85, s86, s87, s88, s89, s90, s91, s92, s93, s94, s95, s96, s97, s98, s99, s100, s101, s102, s103, s104, s105, s106, s107, s108, s109, s110, s111, s112, s113, s114, s115, s116, s117, s118, s119, s120, s121, s122, s123, s124, s125, s126, s127, s128, s129, s130, s131, s132, s133, s134, s135, s136, s137, s138, s139, s140, s141, s142, s143, s144, s145, s146, s147, s148, s149, s150, s151, s152, s153, s154, s155, s156, s157, s158, s159, s160, s161, s162, s163, s164, s165, s166, s167, s168, s169, s170, s171, s172, s173, s174, s175, s176, s177, s178, s179, s180, s181, s182, s183, s184, s185, s186, s187, s188, s189, s190, s191, s192, s193, s194, s195, s196, s197, s198, s199, s200, s201, s202, s203, s204, s205, s206, s207, s208, s209, s210, s211, s212, s213, s214, s215, s216, s217, s218, s219, s220, s221, s222, s223, s224, s225], []⟩ w := by
  conv => arg 2; whnf
  have e2 := hR.2.cell 2
  have e4 := hR.2.cell 4
  have e8 := hR.2.cell 8
  have e9 := hR.2.cell 9
  have e10 := hR.2.cell 10
  have e11 := hR.2.cell 11
  have HR := Lib.hid (And.intro hR (And.intro hb hQ))
  clear hR hQ hb
  have t1 : 1 < ty := by omega
  have t2 : (ty != 2) = false := by simp; omega
  have t4 : (ty != 4) = true := by simp; omega
  have t9 : (ty != 9) = true := by simp; omega
  have t5 : (ty != 5) = true := by simp; omega
  have t10 : ty < 10 := by omega
  have HC := Lib.hid (show 1 < ty ∧ ty = 2 ∧ ¬ ty = 4 ∧ ¬ ty = 9 ∧ ty < 10 ∧ ¬ ty = 5 by omega)
  clear hcl
  cases en with
  | false =>
    by_cases hki : ki = 0
    · have fki : (ki != 0) = false := by simp [hki]
      by_cases hco : co = 0
      · have fco : (co != 0) = false := by simp [hco]
        by_cases hla : la = 0
        · have fla : (la != 0) = false := by simp [hla]
          by_cases hn : n = 0
          · have fn : (n != 0) = false := by simp [hn]
            by_cases hm : sm = 0
            · have fm : ¬ (0 : Int) < (sm : Int) := by omega
              have hv : bb = false := by rw [HR.out.2.1]; simp [bad2, hlen, HC.out, hki, hco, hla, hn, hm]; try omega
              have HV := Lib.hid (And.intro hv HR.out.2.2)
              clear hv hki hco hla hn hm
              have hq := HV.out.2
              rw [HV.out.1] at hq
              have HQ := Lib.hid hq
              clear hq
              go_wp2_with fail
              exact HQ.out _ _ _ _ _ _ _ _ _ _ _ _ _ _ _ _ _ _ _ _ _ _ _ _ _ _ _ _ _ _ _ _ _ _ _ _ _ _ _ _ _ _ _ _ _ _ _ _ _ _ _ _ _ _ _
            · have fm : (0 : Int) < (sm : Int) := by omega
              have hv : bb = true := by rw [HR.out.2.1]; simp [bad2, hlen, HC.out, hki, hco, hla, hn, hm]; try omega
              have HV := Lib.hid (And.intro hv HR.out.2.2)
              clear hv hki hco hla hn hm
              have hq := HV.out.2
              rw [HV.out.1] at hq
              have HQ := Lib.hid hq
              clear hq
              go_wp2_with fail
              exact HQ.out _ _ _ _ _ _ _ _ _ _ _ _ _ _ _ _ _ _ _ _ _ _ _ _ _ _ _ _ _ _ _ _ _ _ _ _ _ _ _ _ _ _ _ _ _ _ _ _ _ _ _ _ _ _ _
          · have fn : (n != 0) = true := by simp [hn]
            have hv : bb = true := by rw [HR.out.2.1]; simp [bad2, hlen, HC.out, hki, hco, hla, hn]; try omega
            have HV := Lib.hid (And.intro hv HR.out.2.2)
            clear hv hki hco hla hn
            have hq := HV.out.2
            rw [HV.out.1] at hq
            have HQ := Lib.hid hq
            clear hq
            go_wp2_with fail
            exact HQ.out _ _ _ _ _ _ _ _ _ _ _ _ _ _ _ _ _ _ _ _ _ _ _ _ _ _ _ _ _ _ _ _ _ _ _ _ _ _ _ _ _ _ _ _ _ _ _ _ _ _ _ _ _ _ _
        · have fla : (la != 0) = true := by simp [hla]
          have hv : bb = true := by rw [HR.out.2.1]; simp [bad2, hlen, HC.out, hki, hco, hla]; try omega
          have HV := Lib.hid (And.intro hv HR.out.2.2)
          clear hv hki hco hla
          have hq := HV.out.2
          rw [HV.out.1] at hq
          have HQ := Lib.hid hq
          clear hq
          go_wp2_with fail
          exact HQ.out _ _ _ _ _ _ _ _ _ _ _ _ _ _ _ _ _ _ _ _ _ _ _ _ _ _ _ _ _ _ _ _ _ _ _ _ _ _ _ _ _ _ _ _ _ _ _ _ _ _ _ _ _ _ _
      · have fco : (co != 0) = true := by simp [hco]
        have hv : bb = true := by rw [HR.out.2.1]; simp [bad2, hlen, HC.out, hki, hco]; try omega
        have HV := Lib.hid (And.intro hv HR.out.2.2)
        clear hv hki hco
        have hq := HV.out.2
        rw [HV.out.1] at hq
        have HQ := Lib.hid hq
        clear hq
        go_wp2_with fail
        exact HQ.out _ _ _ _ _ _ _ _ _ _ _ _ _ _ _ _ _ _ _ _ _ _ _ _ _ _ _ _ _ _ _ _ _ _ _ _ _ _ _ _ _ _ _ _ _ _ _ _ _ _ _ _ _ _ _
    · have fki : (ki != 0) = true := by simp [hki]
      by_cases hco : co = 0
      · have fco : (co != 0) = false := by simp [hco]
        by_cases hla : la = 0
        · have fla : (la != 0) = false := by simp [hla]
          by_cases hn : n = 0
          · have fn : (n != 0) = false := by simp [hn]
            by_cases hm : sm = 0
            · have fm : ¬ (0 : Int) < (sm : Int) := by omega
              have hv : bb = false := by rw [HR.out.2.1]; simp [bad2, hlen, HC.out, hki, hco, hla, hn, hm]; try omega
              have HV := Lib.hid (And.intro hv HR.out.2.2)
              clear hv hki hco hla hn hm
              have hq := HV.out.2
              rw [HV.out.1] at hq
              have HQ := Lib.hid hq
              clear hq
              go_wp2_with fail
              exact HQ.out _ _ _ _ _ _ _ _ _ _ _ _ _ _ _ _ _ _ _ _ _ _ _ _ _ _ _ _ _ _ _ _ _ _ _ _ _ _ _ _ _ _ _ _ _ _ _ _ _ _ _ _ _ _ _
            · have fm : (0 : Int) < (sm : Int) := by omega
              have hv : bb = true := by rw [HR.out.2.1]; simp [bad2, hlen, HC.out, hki, hco, hla, hn, hm]; try omega
              have HV := Lib.hid (And.intro hv HR.out.2.2)
              clear hv hki hco hla hn hm
              have hq := HV.out.2
              rw [HV.out.1] at hq
              have HQ := Lib.hid hq
              clear hq
              go_wp2_with fail
              exact HQ.out _ _ _ _ _ _ _ _ _ _ _ _ _ _ _ _ _ _ _ _ _ _ _ _ _ _ _ _ _ _ _ _ _ _ _ _ _ _ _ _ _ _ _ _ _ _ _ _ _ _ _ _ _ _ _
          · have fn : (n != 0) = true := by simp [hn]
            have hv : bb = true := by rw [HR.out.2.1]; simp [bad2, hlen, HC.out, hki, hco, hla, hn]; try omega
            have HV := Lib.hid (And.intro hv HR.out.2.2)
            clear hv hki hco hla hn
            have hq := HV.out.2
            rw [HV.out.1] at hq
            have HQ := Lib.hid hq
            clear hq
            go_wp2_with fail
            exact HQ.out _ _ _ _ _ _ _ _ _ _ _ _ _ _ _ _ _ _ _ _ _ _ _ _ _ _ _ _ _ _ _ _ _ _ _ _ _ _ _ _ _ _ _ _ _ _ _ _ _ _ _ _ _ _ _
        · have fla : (la != 0) = true := by simp [hla]
          have hv : bb = true := by rw [HR.out.2.1]; simp [bad2, hlen, HC.out, hki, hco, hla]; try omega
          have HV := Lib.hid (And.intro hv HR.out.2.2)
          clear hv hki hco hla
          have hq := HV.out.2
          rw [HV.out.1] at hq
          have HQ := Lib.hid hq
          clear hq
          go_wp2_with fail
          exact HQ.out _ _ _ _ _ _ _ _ _ _ _ _ _ _ _ _ _ _ _ _ _ _ _ _ _ _ _ _ _ _ _ _ _ _ _ _ _ _ _ _ _ _ _ _ _ _ _ _ _ _ _ _ _ _ _
      · have fco : (co != 0) = true := by simp [hco]
        have hv : bb = true := by rw [HR.out.2.1]; simp [bad2, hlen, HC.out, hki, hco]; try omega
        have HV := Lib.hid (And.intro hv HR.out.2.2)
        clear hv hki hco
        have hq := HV.out.2
        rw [HV.out.1] at hq
        have HQ := Lib.hid hq
        clear hq
        go_wp2_with fail
        exact HQ.out _ _ _ _ _ _ _ _ _ _ _ _ _ _ _ _ _ _ _ _ _ _ _ _ _ _ _ _ _ _ _ _ _ _ _ _ _ _ _ _ _ _ _ _ _ _ _ _ _ _ _ _ _ _ _
  | true =>
    have hv : bb = true := by rw [HR.out.2.1]; simp [bad2, hlen, HC.out]; try omega
    have HV := Lib.hid (And.intro hv HR.out.2.2)
    clear hv
    have hq := HV.out.2
    rw [HV.out.1] at hq
    have HQ := Lib.hid hq
    clear hq
    go_wp2_with fail
    exact HQ.out _ _ _ _ _ _ _ _ _ _ _ _ _ _ _ _ _ _ _ _ _ _ _ _ _ _ _ _ _ _ _ _ _ _ _ _ _ _ _ _ _ _ _ _ _ _ _ _ _ _ _ _ _ _ _

end Go.Proofs.YtebiidfpgdolnaaDoor.Dmp

namespace Go.Proofs.YtebiidfpgdolnaaDoor.Dmp
open Go.ChangeShapes Go.WideShapes Go.ChangeAt Go.RowKit Go.Deep
set_option linter.unusedVariables false
open Go.Lib
set_option linter.unusedSimpArgs false

set_option maxRecDepth 1000000 in
set_option maxHeartbeats 6400000 in
theorem reg4_5 {Q : Exit → Act → World → Prop} (H : Nat) (w0 : World) (ty st : Int) (en : Bool) (da : ByteArray) (ki on we : Int) (ex : Bool) (co la n : Int) (sa : Option Addr) (sm sc : Nat) (w : World) (hR : HoldR w0 w H #[.int .i64 ty, .int .i64 st, .bool en, .string da, .int .i64 ki, .int .i64 on, .int .i64 we, .bool ex, .int .i64 co, .int .i64 la, .int .i64 n, .slice sa sm sc]) (bb : Bool) (ps : List (Int × Int)) (hlen : ps.length = sm) (hcl : ty = 5) (hb : bb = bad2 ⟨ty, st, en, da, ki, on, we, ex, co, la, n, ps⟩)
    (s0 s2 s4 s5 s6 s7 s8 s9 s10 s11 s12 s13 s14 s15 s16 s17 s18 s19 s20 s21 s22 s23 s24 s25 s26 s27 s28 s29 s30 s31 s32 s33 s34 s35 s36 s37 s38 s39 s40 s41 s42 s43 s44 s45 s46 s47 s48 s49 s50 s51 s52 s53 s54 s55 s56 s57 s58 s59 s60 s61 s62 s63 s64 s65 s66 s67 s68 s69 s70 s71 s72 s73 s74 s75 s76 s77 s78 s79 s80 s81 s82 s83 s84 s85 s86 s87 s88 s89 s90 s91 s92 s93 s94 s95 s96 s97 s98 s99 s100 s101 s102 s103 s104 s105 s106 s107 s108 s109 s110 s111 s112 s113 s114 s115 s116 s117 s118 s119 s120 s121 s122 s123 s124 s125 s126 s127 s128 s129 s130 s131 s132 s133 s134 s135 s136 s137 s138 s139 s140 s141 s142 s143 s144 s145 s146 s147 s148 s149 s150 s151 s152 s153 s154 s155 s156 s157 s158 s159 s160 s161 s162 s163 s164 s165 s166 s167 s168 s169 s170 s171 s172 s173 s174 s175 s176 s177 s178 s179 s180 s181 s182 s183 s184 s185 s186 s187 s188 s189 s190 s191 s192 s193 s194 s195 s196 s197 s198 s199 s200 s201 s202 s203 s204 s205 s206 s207 s208 s209 s210 s211 s212 s213 s214 s215 s216 s217 s218 s219 s220 s221 s222 s223 s224 s225 : Value)
    (hQ : ∀ (r39 r40 r41 r42 r43 r44 r45 r46 r47 r48 r49 r50 r51 r52 r53 r54 r55 r56 r57 r58 r59 r60 r61 r62 r63 r64 r65 r66 r67 r68 r69 r70 r71 r72 r73 r74 r75 r76 r77 r78 r79 r80 r81 r82 r83 r84 r85 r86 r87 r88 r89 r90 r91 r92 r93 : Value), Q .normal ⟨#[s0, .pointer (some ⟨H, 0, none⟩), s2, .int .i64 ty, s4, s5, s6, s7, s8, s9, s10, s11, s12, s13, s14, s15, s16, s17, s18, s19, s20, s21, s22, s23, s24, s25, s26, s27, s28, s29, s30, s31, s32, s33, s34, s35, s36, s37, s38, r39, r40, r41, r42, r43, r44, r45, r46, r47, r48, r49, r50, r51, r52, r53, r54, r55, r56, r57, r58, r59, r60, r61, r62, r63, r64, r65, r66, r67, r68, r69, r70, r71, r72, r73, r74, r75, r76, r77, r78, r79, r80, r81, r82, r83, r84, r85, r86, r87, r88, r89, r90, r91, r92, r93, .bool bb, s95, s96, s97, s98, s99, s100, s101, s102, s103, s104, s105, s106, s107, s108, s109, s110, s111, s112, s113, s114, s115, s116, s117, s118, s119, s120, s121, s122, s123, s124, s125, s126, s127, s128, s129, s130, s131, s132, s133, s134, s135, s136, s137, s138, s139, s140, s141, s142, s143, s144, s145, s146, s147, s148, s149, s150, s151, s152, s153, s154, s155, s156, s157, s158, s159, s160, s161, s162, s163, s164, s165, s166, s167, s168, s169, s170, s171, s172, s173, s174, s175, s176, s177, s178, s179, s180, s181, s182, s183, s184, s185, s186, s187, s188, s189, s190, s191, s192, s193, s194, s195, s196, s197, s198, s199, s200, s201, s202, s203, s204, s205, s206, s207, s208, s209, s210, s211, s212, s213, s214, s215, s216, s217, s218, s219, s220, s221, s222, s223, s224, s225], []⟩ w) :
    Code.wp Tryd.prog body4 Q ⟨#[s0, .pointer (some ⟨H, 0, none⟩), s2, .int .i64 ty, s4, s5, s6, s7, s8, s9, s10, s11, s12, s13, s14, s15, s16, s17, s18, s19, s20, s21, s22, s23, s24, s25, s26, s27, s28, s29, s30, s31, s32, s33, s34, s35, s36, s37, s38, s39, s40, s41, s42, s43, s44, s45, s46, s47, s48, s49, s50, s51, s52, s53, s54, s55, s56, s57, s58, s59, s60, s61, s62, s63, s64, s65, s66, s67, s68, s69, s70, s71, s72, s73, s74, s75, s76, s77, s78, s79, s80, s81, s82, s83, s84, s85, s86, s87, s88, s89, s90, s91, s92, s93, s94, s95, s96, s97, s98, s99, s100, s101, s102, s103, s104, s105, s106, s107, s108, s109, s110, s111, s112, s113, s114, s115, s116, s117, s118, s119, s120, s121, s122, s123, s124, s125, s126, s127, s128, s129, s130, s131, s132, s133, s134, s135, s136, s137, s138, s139, s140, s141, s142, s143, s144, s145, s146, s147, s148, s149, s150, s151, s152, s153, s154, s155, s156, s157, s158, s159, s160, s161, s162, s163, s164, s165, s166, s167, s168, s169, s170, s171, s172, s173, s174, s175, s176, s177, s178, s179, s180, s181, s182, s183, s184, s185, s186, s187, s188, s189, s190, s191, s192, s193, s194, s195, s196, s197, s198, s199, s200, s201, s202, s203, s204, s205, s206, s207, s208, s209, s210, s211, s212, s213, s214, s215, s216, s217, s218, s219, s220, s221, s222, s223, s224, s225], []⟩ w := by
  conv => arg 2; whnf
  have e2 := hR.2.cell 2
  have e4 := hR.2.cell 4
  have e8 := hR.2.cell 8
  have e9 := hR.2.cell 9
  have e10 := hR.2.cell 10
  have e11 := hR.2.cell 11
  have HR := Lib.hid (And.intro hR (And.intro hb hQ))
  clear hR hQ hb
  have t1 : 1 < ty := by omega
  have t2 : (ty != 2) = true := by simp; omega
  have t4 : (ty != 4) = true := by simp; omega
  have t9 : (ty != 9) = true := by simp; omega
  have t5 : (ty != 5) = false := by simp; omega
  have t10 : ty < 10 := by omega
  have HC := Lib.hid (show 1 < ty ∧ ¬ ty = 2 ∧ ¬ ty = 4 ∧ ¬ ty = 9 ∧ ty < 10 ∧ ty = 5 by omega)
  clear hcl
  cases en with
  | false =>
    by_cases hki : ki = 0
    · have fki : (ki != 0) = false := by simp [hki]
      by_cases hco : co = 0
      · have fco : (co != 0) = false := by simp [hco]
        by_cases hla : la = 0
        · have fla : (la != 0) = false := by simp [hla]
          by_cases hn : n = 0
          · have fn : (n != 0) = false := by simp [hn]
            by_cases hm : sm = 0
            · have fm : ¬ (0 : Int) < (sm : Int) := by omega
              have hv : bb = false := by rw [HR.out.2.1]; simp [bad2, hlen, HC.out, hki, hco, hla, hn, hm]; try omega
              have HV := Lib.hid (And.intro hv HR.out.2.2)
              clear hv hki hco hla hn hm
              have hq := HV.out.2
              rw [HV.out.1] at hq
              have HQ := Lib.hid hq
              clear hq
              go_wp2_with fail
              exact HQ.out _ _ _ _ _ _ _ _ _ _ _ _ _ _ _ _ _ _ _ _ _ _ _ _ _ _ _ _ _ _ _ _ _ _ _ _ _ _ _ _ _ _ _ _ _ _ _ _ _ _ _ _ _ _ _
            · have fm : (0 : Int) < (sm : Int) := by omega
              have hv : bb = false := by rw [HR.out.2.1]; simp [bad2, hlen, HC.out, hki, hco, hla, hn, hm]; try omega
              have HV := Lib.hid (And.intro hv HR.out.2.2)
              clear hv hki hco hla hn hm
              have hq := HV.out.2
              rw [HV.out.1] at hq
              have HQ := Lib.hid hq
              clear hq
              go_wp2_with fail
              exact HQ.out _ _ _ _ _ _ _ _ _ _ _ _ _ _ _ _ _ _ _ _ _ _ _ _ _ _ _ _ _ _ _ _ _ _ _ _ _ _ _ _ _ _ _ _ _ _ _ _ _ _ _ _ _ _ _
          · have fn : (n != 0) = true := by simp [hn]
            have hv : bb = true := by rw [HR.out.2.1]; simp [bad2, hlen, HC.out, hki, hco, hla, hn]; try omega
            have HV := Lib.hid (And.intro hv HR.out.2.2)
            clear hv hki hco hla hn
            have hq := HV.out.2
            rw [HV.out.1] at hq
            have HQ := Lib.hid hq
            clear hq
            go_wp2_with fail
            exact HQ.out _ _ _ _ _ _ _ _ _ _ _ _ _ _ _ _ _ _ _ _ _ _ _ _ _ _ _ _ _ _ _ _ _ _ _ _ _ _ _ _ _ _ _ _ _ _ _ _ _ _ _ _ _ _ _
        · have fla : (la != 0) = true := by simp [hla]
          have hv : bb = true := by rw [HR.out.2.1]; simp [bad2, hlen, HC.out, hki, hco, hla]; try omega
          have HV := Lib.hid (And.intro hv HR.out.2.2)
          clear hv hki hco hla
          have hq := HV.out.2
          rw [HV.out.1] at hq
          have HQ := Lib.hid hq
          clear hq
          go_wp2_with fail
          exact HQ.out _ _ _ _ _ _ _ _ _ _ _ _ _ _ _ _ _ _ _ _ _ _ _ _ _ _ _ _ _ _ _ _ _ _ _ _ _ _ _ _ _ _ _ _ _ _ _ _ _ _ _ _ _ _ _
      · have fco : (co != 0) = true := by simp [hco]
        have hv : bb = true := by rw [HR.out.2.1]; simp [bad2, hlen, HC.out, hki, hco]; try omega
        have HV := Lib.hid (And.intro hv HR.out.2.2)
        clear hv hki hco
        have hq := HV.out.2
        rw [HV.out.1] at hq
        have HQ := Lib.hid hq
        clear hq
        go_wp2_with fail
        exact HQ.out _ _ _ _ _ _ _ _ _ _ _ _ _ _ _ _ _ _ _ _ _ _ _ _ _ _ _ _ _ _ _ _ _ _ _ _ _ _ _ _ _ _ _ _ _ _ _ _ _ _ _ _ _ _ _
    · have fki : (ki != 0) = true := by simp [hki]
      have hv : bb = true := by rw [HR.out.2.1]; simp [bad2, hlen, HC.out, hki]; try omega
      have HV := Lib.hid (And.intro hv HR.out.2.2)
      clear hv hki
      have hq := HV.out.2
      rw [HV.out.1] at hq
      have HQ := Lib.hid hq
      clear hq
      go_wp2_with fail
      exact HQ.out _ _ _ _ _ _ _ _ _ _ _ _ _ _ _ _ _ _ _ _ _ _ _ _ _ _ _ _ _ _ _ _ _ _ _ _ _ _ _ _ _ _ _ _ _ _ _ _ _ _ _ _ _ _ _
  | true =>
    have hv : bb = true := by rw [HR.out.2.1]; simp [bad2, hlen, HC.out]; try omega
    have HV := Lib.hid (And.intro hv HR.out.2.2)
    clear hv
    have hq := HV.out.2
    rw [HV.out.1] at hq
    have HQ := Lib.hid hq
    clear hq
    go_wp2_with fail
    exact HQ.out _ _ _ _ _ _ _ _ _ _ _ _ _ _ _ _ _ _ _ _ _ _ _ _ _ _ _ _ _ _ _ _ _ _ _ _ _ _ _ _ _ _ _ _ _ _ _ _ _ _ _ _ _ _ _

end Go.Proofs.YtebiidfpgdolnaaDoor.Dmp
