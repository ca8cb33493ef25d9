import Derived.Test.YtlimfgdbfadohaaGreatDoorJ11
set_option linter.unusedVariables false
set_option maxHeartbeats 128000000
namespace Go.aA
theorem acs:∀ (b:Bs),ak.num b.reverse=big b:=by
 intro b
 rw [← List.reverse_reverse b]
 generalize b.reverse=r
 rw [List.reverse_reverse]
 induction r with
 |nil=>rfl
 |cons c r ih=>
  rw [List.reverse_cons,NS,← ih]
  show c.toNat+256 * ak.num r=_
  omega
def Pre (b:Bs) (i:Nat) (l:List Nat):Prop:=i≤16∧l=(first b).take i∨16≤i∧i≤64∧l=more (i - 16) (first b)
theorem Pre.len {b:Bs}{i:Nat}{l:List Nat} (h:Pre b i l):l.length=i∧i≤64∧uS l:=by
 rcases h with ⟨h1,rfl⟩|⟨h1,h2,rfl⟩
 ·exact ⟨by rw [List.length_take,xY];omega,by omega,fun x hx=>En b x (List.mem_of_mem_take hx)⟩
 ·exact ⟨by rw [EL,xY];omega,h2,EK _ _ (En b)⟩
theorem Pre.lo {b:Bs}{i:Nat}{l:List Nat} (h:Pre b i l) (hi:i<16):Pre b (i+1) (l++[big ((b.drop (4 * i)).take 4)]):=by
 rcases h with ⟨h1,rfl⟩|⟨h1,h2,rfl⟩
 ·refine .inl ⟨hi,?_⟩
  have e:=List.take_add_one (l:=first b) (i:=i)
  rw [e]
  congr 1
  unfold first
  rw [List.getElem?_map,List.getElem?_range' hi,Option.map_some,Option.toList_some,Nat.one_mul,Nat.zero_add]
 ·omega
theorem Pre.hi {b:Bs}{i:Nat}{l:List Nat} (h:Pre b i l) (h16:16≤i) (h64:i<64):Pre b (i+1) (l++[next l]):=by
 have e:l=more (i - 16) (first b):=by
  rcases h with ⟨h1,rfl⟩|⟨h1,h2,rfl⟩
  ·obtain rfl:i=16:=by omega
   rw [List.take_of_length_le (by rw [xY];exact Nat.le_refl _)];rfl
  ·rfl
 refine .inr ⟨by omega,h64,?_⟩
 rw [show i+1 - 16=(i - 16)+1 by omega,EM,← e]
theorem Pre.all {b:Bs}{l:List Nat} (h:Pre b 64 l):l=sched b:=by
 rcases h with ⟨h1,_⟩|⟨_,_,e⟩
 ·omega
 ·unfold sched
  exact e
end Go.aA
namespace Go.Proofs.YtlimfgdbfadohaaGreatDoor
open Go Go.Sl Go.aB Go.MapKept Go.RowKit
abbrev jI (v:Value) (l:List Nat):aC:=aF 78 1 v (w32 l)
section
variable {w0 w:World}{F:List aC}{a:Option Addr}{c:Nat}{b:ak.Bs}{v:Value}{l:List Nat}
theorem FV {i:Nat} (h:i<l.length):(w32 l)[i]?=some (.int .u32 (aA.at_ l i:Nat)):=by
 unfold w32 aA.at_
 rw [List.getElem?_map,List.getD_eq_getElem?_getD,List.getElem?_eq_getElem h];rfl
theorem Vg (l m:List Nat):w32 l++w32 m=w32 (l++m):=by unfold w32;rw [List.map_append]
theorem FY (h:Sat w0 w (jI v l::F)):∃ a n c,v = .slice a n c∧n=l.length:=by
 obtain ⟨a,n,c,e,hl⟩:=(Sat.rd h).len
 rw [Dl,Nat.mul_one]at hl
 exact ⟨a,n,c,e,hl.symm⟩
theorem FX {a:Option Addr}{n c i:Nat} (h:Sat w0 w (jI (.slice a n c) l::F)) (hi:i<l.length):∃ bk off,a=some ⟨bk,off,none⟩∧∀ w',Sat w0 w' (jI (.slice a n c) l::F)→∀ j,j<l.length→w'.cell? ⟨bk,off+j,none⟩=some (.int .u32 (aA.at_ l j:Nat)):=by
 obtain ⟨bk,off,rfl,_⟩:=iU (Sat.rd h) (FV hi)
 refine ⟨bk,off,rfl,fun w' hw j hj=>?_⟩
 obtain ⟨_,_,he,hc⟩:=iU (Sat.rd hw) (FV hj)
 cases he
 exact hc j _ (FV hj)
set_option maxRecDepth 20000 in
theorem afv (hb:b.length=64) (hr:RS w0 F (.slice a 64 c) b) (h:Sat w0 w F) :
  Calls Tryz.prog 30 #[.slice a 64 c] w (aI fun v w'=>Sat w0 w' (jI v (aA.sched b)::F)):=by
 have Hr:=uQ hr;have Hb:=uQ hb
 obtain ⟨_,_,_,hce,hc1,hc2⟩:=hr.cap
 cases hce
 have Hc:=uQ (And.intro hc1 hc2)
 clear hr hb hc1 hc2
 go_enter Tryz.func30,Tryz.ntmps30
 go_wp2_with fail
 go_loopg [3,4] 64 (fun g oq iq wr=>∃ (i:Nat) (l:List Nat) (ov:Value),g=64 - i∧iq = .int .i64 i∧ov=oq∧aA.Pre b i l∧Sat w0 wr (jI ov l::F))
 case atStart=>exact ⟨0,[],_,rfl,rfl,rfl,.inl ⟨Nat.zero_le _,rfl⟩,Sat.fM.2 h⟩
 case round=>
  obtain ⟨i,l,ov,rfl,rfl,rfl,hp,hS⟩:=hrel
  clear h
  obtain ⟨hl,hi,hal⟩:=hp.len
  by_cases hi64:i<64
  rotate_left
  focus
   as_aux_lemma=>
    obtain rfl:i=64:=by omega
    have c1:¬ ((64:Nat):Int)<64:=by decide
    rw [hp.all]at hS
    clear hp hl hi hal hi64
    go_wp2_with fail
    go_ret
    exact ⟨_,rfl,hS⟩
  have c64:(i:Int)<64:=oQ
  have hwi:IntKind.i64.wrap ((i:Int)+1)=((i+1:Nat):Int):=by rw [IntWalk.i64_in _ oQ];omega
  have Hi:=uQ hi64
  have L8:=uQ (show l.length≤64 by omega)
  by_cases h16:i<16
  ·as_aux_lemma=>
    have c16:(i:Int)<16:=oQ
    obtain ⟨lo,hlo⟩:∃ lo,4 * i=lo:=⟨_,rfl⟩
    have e1:IntKind.i64.wrap (4 * (i:Int))=(lo:Int):=by rw [IntWalk.i64_in _ oQ];omega
    obtain ⟨hi4,hh⟩:∃ hh,lo+4=hh:=⟨_,rfl⟩
    have e2:IntKind.i64.wrap ((lo:Int)+4)=(hi4:Int):=by rw [IntWalk.i64_in _ oQ];omega
    have hrm:=RS.mid (b:=b) (a:=a) (c:=c) (l:=lo) (h:=hi4) (by rw [Hb.out];exact Hr.out) oQ (by rw [Hb.out];omega)
    rw [show hi4 - lo=4 by omega]at hrm
    obtain ⟨sa,sc,hsd⟩:∃ sa sc,sliced a lo hi4 c 1 = .slice sa 4 sc:=⟨_,_,by unfold sliced;rw [show hi4 - lo=4 by omega]⟩
    rw [hsd]at hrm
    have hsl:∀ w,(Instr.sliceAt 27 (.slice a 64 c) (some (.int .i64 lo)) (some (.int .i64 hi4)) none).run Tryz.prog w = .ok (.slice sa 4 sc) w:=fun w=>by
     rw [CY (a:=a) (n:=64) (c:=c) (l:=lo) (h:=hi4) oQ (by have:=Hc.out;omega) w,hsd]
    have II:((b.drop lo).take 4).length=4:=by rw [List.length_take,List.length_drop,Hb.out];omega
    have hbk:=Tn (b:=(b.drop lo).take 4) oQ (hrm.more iJ) hS
    have Hp:=uQ (hp.lo h16)
    rw [hlo]at Hp
    have hbg:aA.big ((b.drop lo).take 4)<4294967296:=by
     have h1:=aA.D5 ((b.drop lo).take 4)
     rw [II]at h1;exact h1
    have hnb:=aA.acs ((b.drop lo).take 4)
    have Z8:(((b.drop lo).take 4).reverse).length=4:=by rw [List.length_reverse];exact II
    have Gm:=uQ (fun (w':World) (v:Value) (hw:bK 1 v (ay ((b.drop lo).take 4).reverse) w')=>adB ((b.drop lo).take 4).reverse oQ oQ hw)
    rw [hnb]at Gm
    generalize aA.big ((b.drop lo).take 4)=X at *
    generalize ((b.drop lo).take 4).reverse=rb at *
    have x1:IntKind.u32.wrap (X:Int)=(X:Int):=by rw [IntKind.wrap_u32];omega
    have x2:(X:Int)%4294967296=(X:Int):=oQ
    clear hrm hsd hlo hh II hbg hnb Z8 hp hl hi hal hi64 h16
    go_wp2_with ((with_reducible refine zi ⟨?_⟩);refine Af ah ah ah hsl ?_)
    refine hbk.mono ?_
    rintro ee w4 ⟨v,rfl,h4⟩
    clear hbk hS hsl e1 e2
    go_wp2_with fail
    refine (Gm.out _ _ (Sat.rd h4)).mono ?_
    rintro ee w5 ⟨v,rfl,rfl,rfl⟩
    have h5:=h4.drop
    clear h4 Gm
    go_wp2_with (first
     |((with_reducible refine kU ⟨?_⟩);refine lu (e:=78) (sz:=1) (dX:=4) au h5 ah (cs:=#[.int .u32 (X:Int)]) rfl rfl bH ?_;intro bN wN hN)
     |(with_reducible apply jf))
    refine ⟨lq 78 1 4 au hN ah ah (xs:=w32 l) aP aH ah (Nat.le_refl 1) ah (by rw [Dl];have:=L8.out;omega) (by show 1≤65536;decide) aJ (ys:=w32 [X]) rfl ?_⟩
    intro bA nA cA wA hA
    rw [Vg]at hA
    clear hN h5
    go_wp2_with fail
    go_roundg (64 - (i+1))
    case measure=>have:=Hi.out;omega
    case rel=>exact ⟨i+1,_,_,rfl,by first|rfl|go_num,rfl,Hp.out,hA⟩
  ·as_aux_lemma=>
    have c16:¬ (i:Int)<16:=oQ
    have Hp:=uQ (hp.hi oQ hi64)
    obtain ⟨ni,h15⟩:∃ p,i - 15=p:=⟨_,rfl⟩
    obtain ⟨p2,h2⟩:∃ p,i - 2=p:=⟨_,rfl⟩
    obtain ⟨p16,Bv⟩:∃ p,i - 16=p:=⟨_,rfl⟩
    obtain ⟨p7,h7⟩:∃ p,i - 7=p:=⟨_,rfl⟩
    have hnx:aA.next l=(((aA.at_ l p16+aA.g0 (aA.at_ l ni))%4294967296+aA.at_ l p7)%4294967296+aA.g1 (aA.at_ l p2))%4294967296:=by
     unfold aA.next
     rw [hl,h15,h2,Bv,h7]
    obtain ⟨oa,on,oc,rfl,hon⟩:=FY hS
    obtain ⟨bk,off,rfl,hcs⟩:=FX hS (i:=p2) oQ
    have HG:=uQ (show ∀ w',Sat w0 w' (jI (.slice (some ⟨bk,off,none⟩) on oc) l::F)→w'.cell? ⟨bk,off+ni,none⟩=some (.int .u32 (aA.at_ l ni:Nat))∧w'.cell? ⟨bk,off+p2,none⟩=some (.int .u32 (aA.at_ l p2:Nat))∧w'.cell? ⟨bk,off+p16,none⟩=some (.int .u32 (aA.at_ l p16:Nat))∧w'.cell? ⟨bk,off+p7,none⟩=some (.int .u32 (aA.at_ l p7:Nat)) from fun w' hw=>⟨hcs w' hw _ oQ,hcs w' hw _ oQ,hcs w' hw _ oQ,hcs w' hw _ oQ⟩)
    have l15:=aA.qx hal ni
    have l2:=aA.qx hal p2
    generalize aA.at_ l ni=x15 at *
    generalize aA.at_ l p2=x2 at *
    generalize aA.at_ l p16=x16 at *
    generalize aA.at_ l p7=x7 at *
    have Jp:IntKind.i64.wrap ((i:Int) - 15)=(ni:Int):=by rw [IntWalk.i64_in _ oQ];omega
    have i2:IntKind.i64.wrap ((i:Int) - 2)=(p2:Int):=by rw [IntWalk.i64_in _ oQ];omega
    have i16:IntKind.i64.wrap ((i:Int) - 16)=(p16:Int):=by rw [IntWalk.i64_in _ oQ];omega
    have i7:IntKind.i64.wrap ((i:Int) - 7)=(p7:Int):=by rw [IntWalk.i64_in _ oQ];omega
    have b15:(ni:Int)<(on:Int):=oQ
    have b2:(p2:Int)<(on:Int):=oQ
    have b16:(p16:Int)<(on:Int):=oQ
    have b7:(p7:Int)<(on:Int):=oQ
    have H2:=uQ (And.intro i2 b2)
    have H3:=uQ (And.intro i16 (And.intro i7 (And.intro b16 b7)))
    have vC:=uQ hnx;have ahu:=uQ l15;have Hl2:=uQ l2
    have h1:=hS.drew
    have hG:=(HG.out _ h1).1
    obtain ⟨ra,rb,rd,u0,ha,hbb,hd,hu,hg0,hu0⟩:=PU l15
    have e8:IntKind.u32.wrap ((x15:Int) / 8)=(x15:Int) / 8:=by rw [IntKind.wrap_u32];omega
    have yx:=uQ (agz x15 l15);have yj:=uQ (agt x15 l15)
    rw [ha]at yx;rw [hbb]at yj
    clear hS hcs hal hl hi hi64 h16 h15 h2 Bv h7 hnx hp i2 i16 i7 b2 b16 b7 hon ha hbb hu0 l15 l2
    go_wp2_with fail
    refine dh [19,20] (fun w'=>w'.cell? ⟨bk,off+ni,none⟩=some (.int .u32 (x15:Nat))) au ?_
    refine rP 0 ?_ (y:=aG)
    refine rP 1 ?_ (y:=aG)
    refine rP 2 ?_ (y:=dB)
    refine rP 3 ?_ (y:=dZ)
    refine rt 4 (h:=?_)
    refine rP 6 ?_ (y:=aG)
    refine rP 7 ?_ (y:=aG)
    refine rP 8 ?_ (y:=dB)
    refine rP 9 ?_ (y:=dZ)
    refine rt 10 (h:=?_)
    refine rP 13 ?_ (y:=aG)
    refine rP 14 ?_ (y:=aG)
    refine rP 15 ?_ (y:=dB)
    refine rP 16 ?_ (y:=dZ)
    refine rt 17 (h:=?_)
    refine rP 18 ?_ (y:=dB)
    clear hG
    refine bG 5 aj au (fun K hK=>?_)
    (refine eU au aj aj ?_)
    refine (yx.out _).mono ?_
    rintro ee fU ⟨v,rfl,rfl,rfl⟩
    refine hK _ _ (.inr (.inr rfl)) ?_
    clear hK
    refine bG 11 aj au (fun K hK=>?_)
    (refine eU au aj aj ?_)
    refine (yj.out _).mono ?_
    rintro ee w12 ⟨v,rfl,rfl,rfl⟩
    refine hK _ _ (.inr (.inr rfl)) ?_
    clear hK
    refine rP 12 ?_ (y:=dB)
    refine rP 19 ?_ (y:=dB)
    refine rP 20 ?_ (y:=dN)
    refine cu au ?_
    clear hd hu yx yj Jp b15 e8
    obtain ⟨i2,b2⟩:=H2.out
    have h2:=h1.drew
    have hG:=(HG.out _ h2).2.1
    obtain ⟨sa,sb,sd,u1,ha,hbb,hd,hu,hg1,hu1⟩:=PW Hl2.out
    have l2:=Hl2.out
    have e8:IntKind.u32.wrap ((x2:Int) / 1024)=(x2:Int) / 1024:=by rw [IntKind.wrap_u32];omega
    have yx:=uQ (ags x2 Hl2.out);have yj:=uQ (agu x2 Hl2.out)
    rw [ha]at yx;rw [hbb]at yj
    clear h1 ha hbb hu1 l2
    go_wp2_with fail
    refine dh [19,20] (fun w'=>w'.cell? ⟨bk,off+p2,none⟩=some (.int .u32 (x2:Nat))) au ?_
    refine rP 0 ?_ (y:=aG)
    refine rP 1 ?_ (y:=aG)
    refine rP 2 ?_ (y:=dB)
    refine rP 3 ?_ (y:=dZ)
    refine rt 4 (h:=?_)
    refine rP 6 ?_ (y:=aG)
    refine rP 7 ?_ (y:=aG)
    refine rP 8 ?_ (y:=dB)
    refine rP 9 ?_ (y:=dZ)
    refine rt 10 (h:=?_)
    refine rP 13 ?_ (y:=aG)
    refine rP 14 ?_ (y:=aG)
    refine rP 15 ?_ (y:=dB)
    refine rP 16 ?_ (y:=dZ)
    refine rt 17 (h:=?_)
    refine rP 18 ?_ (y:=dB)
    clear hG
    refine bG 5 aj au (fun K hK=>?_)
    (refine eU au aj aj ?_)
    refine (yx.out _).mono ?_
    rintro ee jH ⟨v,rfl,rfl,rfl⟩
    refine hK _ _ (.inr (.inr rfl)) ?_
    clear hK
    refine bG 11 aj au (fun K hK=>?_)
    (refine eU au aj aj ?_)
    refine (yj.out _).mono ?_
    rintro ee pq ⟨v,rfl,rfl,rfl⟩
    refine hK _ _ (.inr (.inr rfl)) ?_
    clear hK
    refine rP 12 ?_ (y:=dB)
    refine rP 19 ?_ (y:=dB)
    refine rP 20 ?_ (y:=dN)
    refine cu au ?_
    clear hd hu yx yj i2 b2 e8
    obtain ⟨i16,i7,b16,b7⟩:=H3.out
    obtain ⟨s1,s2,s3,k1,k2,k3,k4⟩:=SH x16 u0 x7 u1
    have hnx2:aA.next l=s3:=by rw [vC.out,hg0,hg1,k4]
    rw [hnx2]at Hp
    have h3:=h2.drew
    have hG:=(HG.out _ h3).2.2
    clear h2 hnx2 k4 hg0 hg1
    go_wp2_with fail
    refine dh [13,15,16,17,18] (fun w'=>w'.cell? ⟨bk,off+p16,none⟩=some (.int .u32 (x16:Nat))∧w'.cell? ⟨bk,off+p7,none⟩=some (.int .u32 (x7:Nat))) au ?_
    refine rP 0 ?_ (y:=aG)
    refine rP 1 ?_ (y:=aG)
    refine rP 2 ?_ (y:=aG)
    refine rP 3 ?_ (y:=dB)
    refine rP 4 ?_ (y:=dZ)
    refine rt 5 (h:=?_)
    refine rP 6 ?_ (y:=aG)
    refine rP 7 ?_ (y:=dB)
    refine rP 8 ?_ (y:=aG)
    refine rP 9 ?_ (y:=aG)
    refine rP 10 ?_ (y:=dB)
    refine rP 11 ?_ (y:=dZ)
    refine rt 12 (h:=?_)
    clear hG
    refine rP 13 ?_ (y:=dB)
    refine rP 14 ?_ (y:=aG)
    refine rP 15 ?_ (y:=dB)
    refine bG 16 aj au (fun K hK=>?_)
    refine OM (e:=78) (sz:=1) (dX:=4) au h3 aj (cs:=#[.int .u32 (s3:Int)]) rfl rfl bH ?_
    intro bN wN hN
    refine hK _ _ (.inl rfl) ?_
    clear hK h3
    refine bG 17 aj au (fun K hK=>?_)
    refine OJ 78 1 4 au hN aj aj (xs:=w32 l) aP aH ah (Nat.le_refl 1) ah (by rw [Dl];have:=L8.out;omega) (by show 1≤65536;decide) aJ (ys:=w32 [s3]) rfl ?_
    intro bA nA cA wA hA
    refine hK _ _ (.inl rfl) ?_
    rw [Vg]at hA
    clear hK hN
    refine rP 18 ?_ (y:=dN)
    refine cu au ?_
    clear i16 i7 b16 b7 k1 k2 k3
    go_wp2_with fail
    go_roundg (64 - (i+1))
    case measure=>have:=Hi.out;omega
    case rel=>exact ⟨i+1,_,_,rfl,by first|rfl|go_num,rfl,Hp.out,hA⟩
end
theorem afV {s:aA.St} (h:s.Ok) (k w:Nat):∃ r6 r11 r25 d1 d2 a1 n1 a2 x1 u1 u2 u3 u4:Nat,aA.rr 6 s.e=r6∧aA.rr 11 s.e=r11∧aA.rr 25 s.e=r25∧bits .xor .u32 (r6:Int) (r11:Int)=(d1:Int)∧bits .xor .u32 (d1:Int) (r25:Int)=(d2:Int) ∧
  bits .and .u32 (s.e:Int) (s.f:Int)=(a1:Int)∧bits .xor .u32 (s.e:Int) 4294967295=(n1:Int)∧bits .and .u32 (n1:Int) (s.g:Int)=(a2:Int)∧bits .or .u32 (a1:Int) (a2:Int)=(x1:Int)∧IntKind.u32.wrap ((s.h:Int)+(d2:Int))=(u1:Int)∧IntKind.u32.wrap ((u1:Int)+(x1:Int))=(u2:Int)∧IntKind.u32.wrap ((u2:Int)+(k:Int))=(u3:Int)∧IntKind.u32.wrap ((u3:Int)+(w:Int))=(u4:Int)∧aA.t1 s k w=u4:=by
 have hr:=fun n=>aA.nO n h.e
 have hn:s.e ^^^ 4294967295<4294967296:=aA.nD h.e aJ
 refine ⟨_,_,_,aA.rr 6 s.e ^^^ aA.rr 11 s.e,aA.rr 6 s.e ^^^ aA.rr 11 s.e ^^^ aA.rr 25 s.e,s.e &&& s.f,s.e ^^^ 4294967295,(s.e ^^^ 4294967295) &&& s.g,(s.e &&& s.f) ||| ((s.e ^^^ 4294967295) &&& s.g),_,_,_,_,rfl,rfl,rfl,u32_xor_nat _ _ (hr 6) (hr 11),u32_xor_nat _ _ (aA.nD (hr 6) (hr 11)) (hr 25),u32_and_nat _ _ h.e h.f,u32_xor_nat _ 4294967295 h.e aJ,u32_and_nat _ _ hn h.g,u32_or_nat _ _ (aA.oP h.e) (aA.oP hn),jP _ _,jP _ _,jP _ _,jP _ _,?_⟩
 rw [aA.Yq _ _ _ h.e]
 rfl
theorem afX {s:aA.St} (h:s.Ok):∃ r2 r13 r22 d1 d2 a1 a2 x1 a3 x2:Nat,aA.rr 2 s.a=r2∧aA.rr 13 s.a=r13∧aA.rr 22 s.a=r22∧bits .xor .u32 (r2:Int) (r13:Int)=(d1:Int)∧bits .xor .u32 (d1:Int) (r22:Int)=(d2:Int)∧bits .and .u32 (s.a:Int) (s.b:Int)=(a1:Int)∧bits .and .u32 (s.a:Int) (s.c:Int)=(a2:Int)∧bits .or .u32 (a1:Int) (a2:Int)=(x1:Int)∧bits .and .u32 (s.b:Int) (s.c:Int)=(a3:Int)∧bits .or .u32 (x1:Int) (a3:Int)=(x2:Int)∧aA.t2 s=(d2+x2)%4294967296:=by
 have hr:=fun n=>aA.nO n h.a
 refine ⟨_,_,_,aA.rr 2 s.a ^^^ aA.rr 13 s.a,aA.rr 2 s.a ^^^ aA.rr 13 s.a ^^^ aA.rr 22 s.a,s.a &&& s.b,s.a &&& s.c,(s.a &&& s.b) ||| (s.a &&& s.c),s.b &&& s.c,(s.a &&& s.b) ||| (s.a &&& s.c) ||| (s.b &&& s.c),rfl,rfl,rfl,u32_xor_nat _ _ (hr 2) (hr 13),u32_xor_nat _ _ (aA.nD (hr 2) (hr 13)) (hr 22),u32_and_nat _ _ h.a h.b,u32_and_nat _ _ h.a h.c,u32_or_nat _ _ (aA.oP h.a) (aA.oP h.a),u32_and_nat _ _ h.b h.c,u32_or_nat _ _ (aA.SN (aA.oP h.a) (aA.oP h.a)) (aA.oP h.b),?_⟩
 rw [aA.abO]
 rfl
theorem ad9 (s:aA.St) (k w t d2 x2:Nat) (ht:aA.t1 s k w=t) (hu:aA.t2 s=(d2+x2)%4294967296):∃ y z1 z2:Nat,IntKind.u32.wrap ((t:Int)+(d2:Int))=(y:Int)∧IntKind.u32.wrap ((y:Int)+(x2:Int))=(z1:Int)∧IntKind.u32.wrap ((s.d:Int)+(t:Int))=(z2:Int)∧aA.round s k w=⟨z1,s.a,s.b,s.c,z2,s.e,s.f,s.g⟩:=
 ⟨_,_,_,jP _ _,jP _ _,jP _ _,by
  unfold aA.round
  rw [ht,hu]
  congr 1
  show (t+(d2+x2)%4294967296)%4294967296=((t+d2)%4294967296+x2)%4294967296
  omega⟩
section
variable {P:Program}{w0 w:World}{L:List aC}{ops:Array Oper}{rest:List Oper}{a:Act}{Q:Exit→Act→World→Prop}{dst:Option Tmp}{t ty e:TypeId}{pos:String}{after:Array Edge}{n:Nat}{cs:Array Value}
theorem Vw {K:Act→World→Prop}{g:Option (Nat×Bool)}{xs:Array (Nat×Operand)}{vs:Array (Nat×Value)} (hv:xs.map (fun p=>(p.1,a.eval p.2))=vs) (hr:∀ w,(Instr.buildSlice ty n vs).run P w = .ok (.slice (some ⟨w.heap.size,0,none⟩) n n) (w.alloc (.cells cs e))) (hs:Sat w0 w L)
  (hK:∀ b w',Sat w0 w' (pt b (.cells cs e (0,0))::L)→K (a.put dst (.slice (some ⟨b,0,none⟩) n n)) w'):Oper.wp P ⟨dst,.buildSlice ty n xs,t,pos,after,g⟩ a w K Q:=by
 have hS:=hs.alloc (.cells cs e)
 unfold Oper.wp execOp
 simp only [hv,Sem.run_bind,hr,Result.andThen_ok,Sem.run_pure]
 exact hK _ _ hS
theorem agS {xs:Array (Nat×Operand)}{vs:Array (Nat×Value)} (hv:xs.map (fun p=>(p.1,a.eval p.2))=vs) (hr:∀ w,(Instr.buildSlice ty n vs).run P w = .ok (.slice (some ⟨w.heap.size,0,none⟩) n n) (w.alloc (.cells cs e))) (hs:Sat w0 w L)
  (hK:∀ b w',Sat w0 w' (pt b (.cells cs e (0,0))::L)→wpList P ops Q rest (a.put dst (.slice (some ⟨b,0,none⟩) n n)) w'):wpList P ops Q (⟨dst,.buildSlice ty n xs,t,pos,after,none⟩::rest) a w:=
 wpList_plain rfl fun _ hK'=>Vw hv hr hs fun b w' h=>hK' _ _ (hK b w' h)
theorem Y5 {K:Act→World→Prop}{E:Prop}{xs:Array (Nat×Operand)}{vs:Array (Nat×Value)} (hv:xs.map (fun p=>(p.1,a.eval p.2))=vs) (hr:∀ w,(Instr.buildSlice ty n vs).run P w = .ok (.slice (some ⟨w.heap.size,0,none⟩) n n) (w.alloc (.cells cs e))) (hs:Sat w0 w L)
  (hK:∀ b w',Sat w0 w' (pt b (.cells cs e (0,0))::L)→K (a.put dst (.slice (some ⟨b,0,none⟩) n n)) w'):if Region.wanted ⟨dst,.buildSlice ty n xs,t,pos,after,none⟩ (yielded ops a.tmps)=true then Oper.wp P ⟨dst,.buildSlice ty n xs,t,pos,after,none⟩ a w K Q else E:=
 xR rfl (Vw hv hr hs hK)
end
def UH (x0 x1 x2 x3 x4 x5 x6 x7:Int):Array Value:=#[.int .u32 x0,.int .u32 x1,.int .u32 x2,.int .u32 x3,.int .u32 x4,.int .u32 x5,.int .u32 x6,.int .u32 x7]
theorem Ui (x0 x1 x2 x3 x4 x5 x6 x7:Int) (w:World):(Instr.buildSlice 79 8 #[(0,.int .u32 x0),(1,.int .u32 x1),(2,.int .u32 x2),(3,.int .u32 x3),(4,.int .u32 x4),(5,.int .u32 x5),(6,.int .u32 x6),(7,.int .u32 x7)]).run Tryz.prog w = .ok (.slice (some ⟨w.heap.size,0,none⟩) 8 8) (w.alloc (.cells (UH x0 x1 x2 x3 x4 x5 x6 x7) 78)):=by kernel_rfl
theorem UJ {w0 w:World}{F:List aC}{b:Nat} (s:aA.St) (h:Sat w0 w (pt b (.cells (UH s.a s.b s.c s.d s.e s.f s.g s.h) 78 (0,0))::F)):Sat w0 w (jI (.slice (some ⟨b,0,none⟩) 8 8) s.l::F):=
 Sat.jV h rfl (Nat.le_refl _) (Nat.le_refl _) aJ rfl
section
variable {w0 w:World}{F:List aC}{b:ak.Bs}{s:aA.St}{sv wv:Value}
set_option maxRecDepth 20000 in
theorem adW (hs:s.Ok) (h:Sat w0 w (jI sv s.l::jI wv (aA.sched b)::F)) :
  Calls Tryz.prog 29 #[sv,wv] w (aI fun v w'=>Sat w0 w' (jI v (aA.take s b).l::F)):=by
 have Hs:=uQ hs
 obtain ⟨sa,sn,sc,rfl,hsn⟩:=FY h
 obtain ⟨wa,wn,wc,rfl,hwn⟩:=FY h.aP
 obtain rfl:sn=8:=hsn
 rw [aA.zY]at hwn
 subst hwn
 obtain ⟨sb,so,rfl,hS⟩:=FX h (i:=0) (show 0<8 by decide)
 obtain ⟨wb,wo,rfl,hW⟩:=FX h.aP (i:=0) (by rw [aA.zY];decide)
 have HS:=uQ (show ∀ w',Sat w0 w' (jI (.slice (some ⟨sb,so,none⟩) 8 sc) s.l::jI (.slice (some ⟨wb,wo,none⟩) 64 wc) (aA.sched b)::F)→(w'.cell? ⟨sb,so,none⟩=some (.int .u32 (s.a:Nat))∧w'.cell? ⟨sb,so+1,none⟩=some (.int .u32 (s.b:Nat))∧w'.cell? ⟨sb,so+2,none⟩=some (.int .u32 (s.c:Nat))∧w'.cell? ⟨sb,so+3,none⟩=some (.int .u32 (s.d:Nat)))∧(w'.cell? ⟨sb,so+4,none⟩=some (.int .u32 (s.e:Nat))∧w'.cell? ⟨sb,so+5,none⟩=some (.int .u32 (s.f:Nat))∧w'.cell? ⟨sb,so+6,none⟩=some (.int .u32 (s.g:Nat))∧w'.cell? ⟨sb,so+7,none⟩=some (.int .u32 (s.h:Nat))) from fun w' hw=>
  ⟨⟨hS w' hw 0 (by show 0<8;decide),hS w' hw 1 (by show 1<8;decide),hS w' hw 2 (by show 2<8;decide),hS w' hw 3 (by show 3<8;decide)⟩,hS w' hw 4 (by show 4<8;decide),hS w' hw 5 (by show 5<8;decide),hS w' hw 6 (by show 6<8;decide),hS w' hw 7 (by show 7<8;decide)⟩)
 have HW:=uQ (show ∀ w',Sat w0 w' (jI (.slice (some ⟨wb,wo,none⟩) 64 wc) (aA.sched b)::jI (.slice (some ⟨sb,so,none⟩) 8 sc) s.l::F)→∀ j,j<64→w'.cell? ⟨wb,wo+j,none⟩=some (.int .u32 (aA.at_ (aA.sched b) j:Nat)) from fun w' hw j hj=>hW w' hw j (by rw [aA.zY];exact hj))
 obtain ⟨KA,BH⟩:∃ KA,(w32 aA.K).toArray=KA:=⟨_,rfl⟩
 have hks:KA.size=64:=by rw [← BH];rfl
 have VZ:=uQ (show KA.toList.all (·.oneCell')=true by rw [← BH];rfl)
 have V3:=uQ (show ∀ i,i<64→KA[i]?=some (.int .u32 (aA.at_ aA.K i:Nat)) from fun i hi=>by rw [← BH,List.getElem?_toArray];exact FV hi)
 have dW:=uQ hks
 have L6:=uQ BH
 clear hs hS hW BH hks
 go_enter Tryz.func29,Tryz.ntmps29
 go_wp2_with (with_reducible apply dY)
 refine ⟨dS F6 h rfl ?_⟩
 intro b5 w5 h5
 clear h
 go_wp2_with (with_reducible apply bU)
 refine ⟨eH KA h5 ah (by rw [← L6.out];rfl) (dW.out.trans (vM (l:=[]) aJ).symm) bJ (by rw [dW.out];exact Cb) VZ.out ?_⟩
 intro w6 h6
 clear h5 L6
 try generalize Value.agg _=vK
 go_wp2_with fail
 have h7:=h6.drew
 have hG:=(HS.out _ h7.drop).1
 clear h6
 refine dh [15] (fun w'=>w'.cell? ⟨sb,so,none⟩=some (.int .u32 (s.a:Nat))∧w'.cell? ⟨sb,so+1,none⟩=some (.int .u32 (s.b:Nat))∧w'.cell? ⟨sb,so+2,none⟩=some (.int .u32 (s.c:Nat))∧w'.cell? ⟨sb,so+3,none⟩=some (.int .u32 (s.d:Nat))) au ?_
 refine rP 0 ?_ (y:=aG)
 refine rP 1 ?_ (y:=dZ)
 refine rt 2 (h:=?_)
 refine rP 3 ?_ (y:=aG)
 refine rP 4 ?_ (y:=dZ)
 refine rt 5 (h:=?_)
 refine rP 6 ?_ (y:=aG)
 refine rP 7 ?_ (y:=dZ)
 refine rt 8 (h:=?_)
 refine rP 9 ?_ (y:=aG)
 refine rP 10 ?_ (y:=dZ)
 refine rt 11 (h:=?_)
 clear hG
 refine rP 12 ?_ (y:=dN)
 refine rP 13 ?_ (y:=dN)
 refine rP 14 ?_ (y:=dN)
 refine rP 15 ?_ (y:=dN)
 refine cu au ?_
 go_wp2_with fail
 have h8:=h7.drew
 have hG:=(HS.out _ h8.drop).2
 clear h7
 refine dh [15] (fun w'=>w'.cell? ⟨sb,so+4,none⟩=some (.int .u32 (s.e:Nat))∧w'.cell? ⟨sb,so+5,none⟩=some (.int .u32 (s.f:Nat))∧w'.cell? ⟨sb,so+6,none⟩=some (.int .u32 (s.g:Nat))∧w'.cell? ⟨sb,so+7,none⟩=some (.int .u32 (s.h:Nat))) au ?_
 refine rP 0 ?_ (y:=aG)
 refine rP 1 ?_ (y:=dZ)
 refine rt 2 (h:=?_)
 refine rP 3 ?_ (y:=aG)
 refine rP 4 ?_ (y:=dZ)
 refine rt 5 (h:=?_)
 refine rP 6 ?_ (y:=aG)
 refine rP 7 ?_ (y:=dZ)
 refine rt 8 (h:=?_)
 refine rP 9 ?_ (y:=aG)
 refine rP 10 ?_ (y:=dZ)
 refine rt 11 (h:=?_)
 clear hG
 refine rP 12 ?_ (y:=dN)
 refine rP 13 ?_ (y:=dN)
 refine rP 14 ?_ (y:=dN)
 refine rP 15 ?_ (y:=dN)
 refine cu au ?_
 go_wp2_with fail
 go_loopg [6,7,8,9,10,11,12,13,14] 64 (fun gg q6 q7 q8 q9 q10 q11 q12 q13 iq wr=>∃ (i:Nat) (r:aA.St),gg=64 - i∧i≤64∧r=aA.rounds b s i ∧ .int .u32 (r.a:Nat)=q6 ∧ .int .u32 (r.b:Nat)=q7 ∧ .int .u32 (r.c:Nat)=q8 ∧ .int .u32 (r.d:Nat)=q9 ∧ .int .u32 (r.e:Nat)=q10 ∧ .int .u32 (r.f:Nat)=q11 ∧ .int .u32 (r.g:Nat)=q12 ∧ .int .u32 (r.h:Nat)=q13∧iq = .int .i64 i∧Sat w0 wr (pt b5 (.cells KA 129 (0,0))::jI (.slice (some ⟨sb,so,none⟩) 8 sc) s.l::jI (.slice (some ⟨wb,wo,none⟩) 64 wc) (aA.sched b)::F))
 case atStart=>exact ⟨0,s,rfl,Nat.zero_le _,rfl,rfl,rfl,rfl,rfl,rfl,rfl,rfl,rfl,rfl,h8⟩
 case round=>
  obtain ⟨i,r,rfl,hi,hr,rfl,rfl,rfl,rfl,rfl,rfl,rfl,rfl,rfl,hS⟩:=hrel
  clear h8
  by_cases hil:i<64
  rotate_left
  focus
   as_aux_lemma=>
    obtain rfl:i=64:=by omega
    have c1:¬ ((64:Nat):Int)<64:=by decide
    have Hf:=uQ (show aA.take s b=aA.add s r by rw [hr];rfl)
    obtain ⟨v0,v1,v2,v3,v4,v5,v6,v7,e0,e1,e2,e3,e4,e5,e6,e7,he⟩:∃ v0 v1 v2 v3 v4 v5 v6 v7:Nat,IntKind.u32.wrap ((s.a:Int)+(r.a:Int))=(v0:Int)∧IntKind.u32.wrap ((s.b:Int)+(r.b:Int))=(v1:Int)∧IntKind.u32.wrap ((s.c:Int)+(r.c:Int))=(v2:Int)∧IntKind.u32.wrap ((s.d:Int)+(r.d:Int))=(v3:Int)∧IntKind.u32.wrap ((s.e:Int)+(r.e:Int))=(v4:Int)∧IntKind.u32.wrap ((s.f:Int)+(r.f:Int))=(v5:Int)∧IntKind.u32.wrap ((s.g:Int)+(r.g:Int))=(v6:Int)∧IntKind.u32.wrap ((s.h:Int)+(r.h:Int))=(v7:Int)∧aA.add s r=⟨v0,v1,v2,v3,v4,v5,v6,v7⟩:=
     ⟨_,_,_,_,_,_,_,_,jP _ _,jP _ _,jP _ _,jP _ _,jP _ _,jP _ _,jP _ _,jP _ _,rfl⟩
    rw [he]at Hf
    have h1:=hS.drew
    have hG:=HS.out _ h1.drop
    have HH:=uQ h1
    clear hS h1 hi hil hr he
    go_wp2_with fail
    refine dh [40,41] (fun w'=>(w'.cell? ⟨sb,so,none⟩=some (.int .u32 (s.a:Nat))∧w'.cell? ⟨sb,so+1,none⟩=some (.int .u32 (s.b:Nat))∧w'.cell? ⟨sb,so+2,none⟩=some (.int .u32 (s.c:Nat))∧w'.cell? ⟨sb,so+3,none⟩=some (.int .u32 (s.d:Nat)))∧(w'.cell? ⟨sb,so+4,none⟩=some (.int .u32 (s.e:Nat))∧w'.cell? ⟨sb,so+5,none⟩=some (.int .u32 (s.f:Nat))∧w'.cell? ⟨sb,so+6,none⟩=some (.int .u32 (s.g:Nat))∧w'.cell? ⟨sb,so+7,none⟩=some (.int .u32 (s.h:Nat)))) au ?_
    refine rP 0 ?_ (y:=aG)
    refine rP 1 ?_ (y:=dZ)
    refine dK 2 aj au bC (uK aj au (fun w hw=>hw.1.1)) aQ gQ ?_
    refine rP 3 ?_ (y:=aG)
    refine rP 4 ?_ (y:=dB)
    refine rP 5 ?_ (y:=aG)
    refine rP 6 ?_ (y:=dZ)
    refine dK 7 aj au bC (uK aj au (fun w hw=>hw.1.2.1)) aQ gQ ?_
    refine rP 8 ?_ (y:=aG)
    refine rP 9 ?_ (y:=dB)
    refine rP 10 ?_ (y:=aG)
    refine rP 11 ?_ (y:=dZ)
    refine dK 12 aj au bC (uK aj au (fun w hw=>hw.1.2.2.1)) aQ gQ ?_
    refine rP 13 ?_ (y:=aG)
    refine rP 14 ?_ (y:=dB)
    refine rP 15 ?_ (y:=aG)
    refine rP 16 ?_ (y:=dZ)
    refine dK 17 aj au bC (uK aj au (fun w hw=>hw.1.2.2.2)) aQ gQ ?_
    refine rP 18 ?_ (y:=aG)
    refine rP 19 ?_ (y:=dB)
    refine rP 20 ?_ (y:=aG)
    refine rP 21 ?_ (y:=dZ)
    refine dK 22 aj au bC (uK aj au (fun w hw=>hw.2.1)) aQ gQ ?_
    refine rP 23 ?_ (y:=aG)
    refine rP 24 ?_ (y:=dB)
    refine rP 25 ?_ (y:=aG)
    refine rP 26 ?_ (y:=dZ)
    refine dK 27 aj au bC (uK aj au (fun w hw=>hw.2.2.1)) aQ gQ ?_
    refine rP 28 ?_ (y:=aG)
    refine rP 29 ?_ (y:=dB)
    refine rP 30 ?_ (y:=aG)
    refine rP 31 ?_ (y:=dZ)
    refine dK 32 aj au bC (uK aj au (fun w hw=>hw.2.2.2.1)) aQ gQ ?_
    refine rP 33 ?_ (y:=aG)
    refine rP 34 ?_ (y:=dB)
    refine rP 35 ?_ (y:=aG)
    refine rP 36 ?_ (y:=dZ)
    refine dK 37 aj au bC (uK aj au (fun w hw=>hw.2.2.2.2)) aQ gQ ?_
    clear hG
    refine rP 38 ?_ (y:=aG)
    refine rP 39 ?_ (y:=dB)
    refine bG 40 aj au (fun K hK=>?_)
    refine Y5 (by simp only [List.map_toArray,List.map_cons,List.map_nil];rfl) (Ui v0 v1 v2 v3 v4 v5 v6 v7) HH.out ?_
    intro bN wN hN
    refine hK _ _ (.inl rfl) ?_
    clear hK
    refine rP 41 ?_ (y:=dN)
    refine cu au ?_
    have iP:=uQ ((UJ ⟨v0,v1,v2,v3,v4,v5,v6,v7⟩ hN).sb:Sat w0 wN (jI (.slice (some ⟨bN,0,none⟩) 8 8) (aA.St.l ⟨v0,v1,v2,v3,v4,v5,v6,v7⟩)::F))
    clear hN e0 e1 e2 e3 e4 e5 e6 e7
    go_wp2_with fail
    go_ret
    exact ⟨_,rfl,by rw [Hf.out];exact iP.out⟩
  as_aux_lemma=>
   have qm:=uQ (show aA.rounds b s (i+1)=aA.round r (aA.at_ aA.K i) (aA.at_ (aA.sched b) i) by rw [aA.rounds_succ,← hr])
   have hro:r.Ok:=by rw [hr];exact aA.KF Hs.out b i
   have g5:=V3.out i hil
   have HG:=uQ (show ∀ w',Sat w0 w' (pt b5 (.cells KA 129 (0,0))::jI (.slice (some ⟨sb,so,none⟩) 8 sc) s.l::jI (.slice (some ⟨wb,wo,none⟩) 64 wc) (aA.sched b)::F)→w'.cell? ⟨b5,i,none⟩=some (.int .u32 (aA.at_ aA.K i:Nat))∧w'.cell? ⟨wb,wo+i,none⟩=some (.int .u32 (aA.at_ (aA.sched b) i:Nat)) from fun w' hw=>⟨hw.cellP aH i g5,HW.out w' (hw.sb) i hil⟩)
   obtain ⟨r6,r11,r25,d1,d2,a1,n1,a2,x1,u1,u2,u3,u4,f1,f2,f3,f4,f5,f6,f7,f8,f9,f10,f11,f12,f13,f14⟩:=afV hro (aA.at_ aA.K i) (aA.at_ (aA.sched b) i)
   obtain ⟨q2,q13,q22,e1,e2,m1,m2,y1,m3,y2,j1,j2,j3,j4,j5,j6,j7,j8,j9,j10,j11⟩:=afX hro
   obtain ⟨y,z1,z2,l1,l2,l3,l4⟩:=ad9 r (aA.at_ aA.K i) (aA.at_ (aA.sched b) i) u4 e2 y2 f14 j11
   generalize aA.at_ aA.K i=ki at *
   generalize aA.at_ (aA.sched b) i=wi at *
   rw [l4]at qm
   have jZ:=uQ (agy r.e hro.e);have uh:=uQ (agq r.e hro.e);have uq:=uQ (agw r.e hro.e)
   have hR2:=uQ (agx r.a hro.a);have uj:=uQ (agr r.a hro.a);have um:=uQ (agv r.a hro.a)
   rw [f1]at jZ;rw [f2]at uh;rw [f3]at uq;rw [j1]at hR2;rw [j2]at uj;rw [j3]at um
   obtain ⟨ra,rb,rc,rd,re,rf,rg,rh⟩:=r
   dsimp only at f6 f7 f8 f10 j6 j7 j9 l3 qm jZ uh uq hR2 uj um ⊢
   have c1:(i:Int)<64:=oQ
   have hwi:IntKind.i64.wrap ((i:Int)+1)=((i+1:Nat):Int):=by rw [IntWalk.i64_in _ oQ];omega
   have jL:=uQ hil
   clear hil hi hro f1 f2 f3 f14 j1 j2 j3 j11 l4 g5 hr
   go_wp2_with fail
   refine (jZ.out _).mono ?_
   rintro ee fU ⟨v,rfl,rfl,rfl⟩
   go_wp2_with fail
   refine (uh.out _).mono ?_
   rintro ee w12 ⟨v,rfl,rfl,rfl⟩
   go_wp2_with fail
   refine (uq.out _).mono ?_
   rintro ee jH ⟨v,rfl,rfl,rfl⟩
   clear jZ uh uq
   go_wp2_with fail
   have h1:=hS.drew
   have hG:=HG.out _ h1
   clear hS f4 f5 f6 f7 f8 f9
   refine dh [13,14] (fun w'=>w'.cell? ⟨b5,i,none⟩=some (.int .u32 (ki:Nat))∧w'.cell? ⟨wb,wo+i,none⟩=some (.int .u32 (wi:Nat))) au ?_
   refine rP 0 ?_ (y:=aG)
   refine rP 1 ?_ (y:=aG)
   refine rP 2 ?_ (y:=dB)
   refine rP 3 ?_ (y:=aG)
   refine rP 4 ?_ (y:=dB)
   refine rP 5 ?_ (y:=aG)
   refine rP 6 ?_ (y:=dZ)
   refine rt 7 (h:=?_)
   refine rP 8 ?_ (y:=dB)
   refine rP 9 ?_ (y:=aG)
   refine rP 10 ?_ (y:=aG)
   refine rP 11 ?_ (y:=dZ)
   refine rt 12 (h:=?_)
   clear hG
   refine rP 13 ?_ (y:=dB)
   refine rP 14 ?_ (y:=dN)
   refine cu au ?_
   clear f10 f11 f12 f13
   go_wp2_with fail
   refine (hR2.out _).mono ?_
   rintro ee pq ⟨v,rfl,rfl,rfl⟩
   go_wp2_with fail
   refine (uj.out _).mono ?_
   rintro ee Dk ⟨v,rfl,rfl,rfl⟩
   go_wp2_with fail
   refine (um.out _).mono ?_
   rintro ee w16 ⟨v,rfl,rfl,rfl⟩
   clear hR2 uj um
   go_wp2_with fail
   go_roundg (64 - (i+1))
   case measure=>have:=jL.out;omega
   case rel=>exact ⟨i+1,⟨z1,ra,rb,rc,z2,re,rf,rg⟩,rfl,Nat.succ_le_of_lt jL.out,qm.out.symm,rfl,rfl,rfl,rfl,rfl,rfl,rfl,rfl,by first|rfl|go_num,h1⟩
end
end Go.Proofs.YtlimfgdbfadohaaGreatDoor
namespace Go.aA
def mM (l:List Nat) (i k:Nat):Bs:=((l.take i).flatMap fun w=>fE w 4)++(fE (at_ l i) 4).take k++List.replicate (32 - (4 * i+k)) 0
theorem AZ (x n:Nat):(fE x n).length=n:=by unfold fE;rw [List.length_reverse,ak.gW]
theorem Pn (l:List Nat):(l.flatMap fun w=>fE w 4).length=4 * l.length:=by
 induction l with
 |nil=>rfl
 |cons a l ih=>rw [List.flatMap_cons,List.length_append,AZ,ih,List.length_cons];omega
theorem acL {l:List Nat} (hl:l.length=8){i k:Nat} (hi:i<8) (hk:k≤4):(mM l i k).length=32:=by
 unfold mM
 rw [List.length_append,List.length_append,Pn,List.length_take,List.length_take,AZ,List.length_replicate];omega
theorem acO (l:List Nat):mM l 0 0=ak.zero32:=rfl
theorem acM {l:List Nat} (hl:l.length=8){i:Nat} (hi:i<8):mM l i 4=mM l (i+1) 0:=by
 have hlt:i<l.length:=oQ
 have e1:(fE (at_ l i) 4).take 4=fE (at_ l i) 4:=List.take_of_length_le (by rw [AZ];exact Nat.le_refl _)
 have e2:at_ l i=l[i]:=by
  unfold at_
  rw [List.getD_eq_getElem?_getD,List.getElem?_eq_getElem hlt];rfl
 unfold mM
 rw [e1,List.take_zero,List.append_nil,List.take_succ_eq_append_getElem hlt,List.flatMap_append,List.flatMap_cons,List.flatMap_nil,List.append_nil,e2]
 rfl
theorem acK {l:List Nat} (hl:l.length=8):mM l 8 0=l.flatMap fun w=>fE w 4:=by
 unfold mM
 rw [List.take_of_length_le oQ,List.take_zero,List.append_nil,show 32 - (4 * 8+0)=0 from rfl,List.replicate_zero,List.append_nil]
theorem acN {l:List Nat} (hl:l.length=8){i k:Nat} (hi:i<8) (hk:k<4):(mM l i k).set (4 * i+k) ((fE (at_ l i) 4).getD k 0)=mM l i (k+1):=by
 have hb:=AZ (at_ l i) 4
 have hf:((l.take i).flatMap fun w=>fE w 4).length=4 * i:=by rw [Pn,List.length_take];omega
 have ht:((fE (at_ l i) 4).take k).length=k:=by rw [List.length_take];omega
 unfold mM
 rw [List.set_append_right _ _ (by rw [List.length_append,hf,ht];exact Nat.le_refl _),List.length_append,hf,ht,Nat.sub_self]
 rw [show 32 - (4 * i+k)=(32 - (4 * i+(k+1)))+1 by omega,List.replicate_succ,List.set_cons_zero,List.take_succ_eq_append_getElem oQ,List.getD_eq_getElem?_getD,List.getElem?_eq_getElem oQ]
 simp only [List.append_assoc,List.cons_append,List.nil_append,Option.getD_some]
end Go.aA
namespace Go.Proofs.YtlimfgdbfadohaaGreatDoor
open Go Go.Sl Go.aB Go.MapKept Go.RowKit
section
variable {w0 w:World}{F:List aC}{bv:Value}{b:ak.Bs}
theorem VI:iH Tryz.prog 30=some (.agg (ay ak.zero32).toArray):=by kernel_rfl
theorem afk (w:World):(sizeOf 5).run Tryz.prog w = .ok 1 w:=by kernel_rfl
theorem X6 {P:Program}{ops:Array Oper}{rest:List Oper}{a:Act}{Q:Exit→Act→World→Prop}{dst:Option Tmp}{t ty:TypeId}{pos:String}{after:Array Edge}{n:Nat}{xs:Array (Nat×Operand)} (h:Stop (wpList P ops Q (⟨dst,.buildSlice ty n xs,t,pos,after,none⟩::rest) a w)):wpList P ops Q (⟨dst,.buildSlice ty n xs,t,pos,after,none⟩::rest) a w:=h.out
theorem Yk {l:ak.Bs}{i:Nat}{x:UInt8}:eG (ay l).toArray i [.int .u8 (x.toNat:Int)]=(ay (l.set i x)).toArray:=by
 apply Array.toList_inj.1
 show ((ay l).toArray.setIfInBounds i _).toList=_
 rw [Array.toList_setIfInBounds,List.toList_toArray,List.toList_toArray]
 unfold ay
 rw [List.map_set]
set_option maxRecDepth 20000 in
theorem Fj (hl:b.length≤250) (hr:RS w0 F bv b) (h:Sat w0 w F) :
  Calls Tryz.prog 10 #[bv] w (aI fun v w'=>v = .agg (ay (aA.sum b)).toArray∧Sat w0 w' F):=by
 have Hl:=uQ hl
 have Jg:=aA.acP b
 have hpb:(aA.oh b).length≤1000:=by
  unfold aA.oh
  simp only [List.length_append,List.length_replicate,List.length_singleton,aA.AZ];omega
 have MV:=uQ (aA.afQ b)
 have MP:=uQ (fun (w':World) (R:List aC) (hs:RS w0 R bv b) (hw:Sat w0 w' R)=>ad2 oQ hs hw)
 obtain ⟨ba,bc,rfl,y1,y2⟩:=hr.len h
 generalize aA.oh b=p at *
 obtain ⟨n,hn⟩:∃ n,p.length / 64=n:=⟨_,rfl⟩
 rw [hn]at Jg MV
 have Hp:=uQ (And.intro Jg hpb);have Hr:=uQ hr
 clear hl hr y1 y2 Jg hpb hn
 go_enter Tryz.func10,Tryz.ntmps10
 go_wp2_with (with_reducible apply dY)
 refine ⟨dS VI h rfl ?_⟩
 intro b2 w2 h2
 replace h2:Sat w0 w2 (pt b2 (.cells (ay ak.zero32).toArray 30 (0,0))::F):=h2
 clear h
 go_wp2_with fail
 refine (MP.out _ _ (Hr.out.more iJ) h2).mono ?_
 rintro ee w3 ⟨v,rfl,h3⟩
 obtain ⟨pa,pn,pc,rfl,x1,x2,x3⟩:=iY h3
 subst x3
 have Gy:=uQ x1
 clear h2 MP x1 x2 Hr
 go_wp2_with ((with_reducible refine X6 ⟨?_⟩);refine agS (by simp only [List.map_toArray,List.map_cons,List.map_nil];rfl) (Ui 1779033703 3144134277 1013904242 2773480762 1359893119 2600822924 528734635 1541459225) h3 ?_;intro bN w4 h4)
 replace h4:Sat w0 w4 (jI (.slice (some ⟨bN,0,none⟩) 8 8) aA.begin.l::aK (.slice pa p.length pc) p::pt b2 (.cells (ay ak.zero32).toArray 30 (0,0))::F):=UJ aA.begin h4
 clear h3
 go_loopg [4,5] n (fun gg sq aq wr=>∃ (j at_:Nat) (s:aA.St) (sv:Value),gg=n - j∧j≤n∧at_=64 * j∧aq = .int .i64 at_∧sv=sq∧s.Ok∧(aA.blocks n aA.begin p).1=(aA.blocks (n - j) s (p.drop (64 * j))).1∧Sat w0 wr (jI sv s.l::aK (.slice pa p.length pc) p::pt b2 (.cells (ay ak.zero32).toArray 30 (0,0))::F))
 case atStart=>exact ⟨0,0,aA.begin,_,rfl,Nat.zero_le _,rfl,rfl,rfl,aA.NQ,rfl,h4⟩
 case round=>
  obtain ⟨j,at_,s,sv,rfl,hj,hat,rfl,rfl,hok,heq,hS⟩:=hrel
  clear h4
  obtain ⟨p1,p2⟩:=Hp.out
  obtain ⟨N,hN⟩:∃ N,p.length=N:=⟨_,rfl⟩
  by_cases hjn:j<n
  ·as_aux_lemma=>
    have c1:(at_:Int)<(p.length:Int):=oQ
    have D8:at_<p.length:=oQ
    obtain ⟨hi64,hh⟩:∃ x,at_+64=x:=⟨_,rfl⟩
    have e1:IntKind.i64.wrap ((at_:Int)+64)=(hi64:Int):=by rw [IntWalk.i64_in _ oQ];omega
    have hsl:∀ w,(Instr.sliceAt 27 (.slice pa p.length pc) (some (.int .i64 at_)) (some (.int .i64 hi64)) none).run Tryz.prog w = .ok (sliced pa at_ hi64 pc 1) w:=fun w=>CY oQ (by have:=Gy.out;omega) w
    have hrm:=RS.mid (l:=at_) (h:=hi64) (RS.sK hS.aP) oQ oQ
    rw [show hi64 - at_=64 by omega]at hrm
    obtain ⟨ta,tc,hsd⟩:∃ ta tc,sliced pa at_ hi64 pc 1 = .slice ta 64 tc:=⟨_,_,by unfold sliced;rw [show hi64 - at_=64 by omega]⟩
    rw [hsd]at hrm
    simp only [hsd]at hsl
    have hbl:((p.drop at_).take 64).length=64:=by rw [List.length_take,List.length_drop];omega
    have hsp:=afv (b:=(p.drop at_).take 64) hbl (hrm.more iJ) hS
    have Heq:=uQ (show (aA.blocks n aA.begin p).1=(aA.blocks (n - (j+1)) (aA.take s ((p.drop at_).take 64)) (p.drop (64 * (j+1)))).1 by
     rw [heq,show n - j=(n - (j+1))+1 by omega,aA.Ba (by rw [List.length_drop];omega),List.drop_drop,← hat,show 64 * (j+1)=at_+64 by omega])
    have bY:=uQ hok
    have Hj:=uQ (And.intro hjn (show hi64=64 * (j+1) by omega))
    clear heq hbl hrm hsd hok hat hh p1 p2 hj hjn hN
    go_wp2_with ((with_reducible refine zi ⟨?_⟩);refine Af ah ah ah hsl ?_)
    refine hsp.mono ?_
    rintro ee w5 ⟨v,rfl,h5⟩
    have hrd:=adW (b:=(p.drop at_).take 64) bY.out (h5.sb:Sat w0 w5 (jI sv s.l::jI v (aA.sched ((p.drop at_).take 64))::aK (.slice pa p.length pc) p::pt b2 (.cells (ay ak.zero32).toArray 30 (0,0))::F))
    clear hsp hS h5 hsl
    go_wp2_with fail
    refine hrd.mono ?_
    rintro ee w6 ⟨v,rfl,h6⟩
    clear hrd
    go_wp2_with fail
    go_roundg (n - (j+1))
    case measure=>have:=Hj.out;omega
    case rel=>exact ⟨j+1,hi64,_,_,rfl,Nat.succ_le_of_lt Hj.out.1,Hj.out.2,by first|rfl|go_num,rfl,aA.Le _ _,Heq.out,h6⟩
  as_aux_lemma=>
   obtain rfl:j=n:=by omega
   have c1:¬ (at_:Int)<(p.length:Int):=oQ
   have D8:¬ at_<p.length:=oQ
   have Hs:=uQ (show aA.sum b=s.l.flatMap fun w=>aA.fE w 4 by rw [MV.out,heq,Nat.sub_self];rfl)
   have BN:s.l.length=8:=rfl
   have hal:aA.uS s.l:=by
    intro x hx
    simp only [aA.St.l,List.mem_cons,List.not_mem_nil,or_false]at hx
    rcases hx with rfl|rfl|rfl|rfl|rfl|rfl|rfl|rfl
    ·exact hok.a
    ·exact hok.b
    ·exact hok.c
    ·exact hok.d
    ·exact hok.e
    ·exact hok.f
    ·exact hok.g
    ·exact hok.h
   generalize s.l=l at *
   have xC:=uQ BN;have Dv:=uQ hal
   clear heq hok hat hj hjn p1 p2 hN BN hal
   have hS2:Sat w0 _ (jI sv l::pt b2 (.cells (ay ak.zero32).toArray 30 (0,0))::F):=hS.sb
   clear hS
   go_wp2_with (with_reducible apply dY)
   refine ⟨dS VI hS2 rfl ?_⟩
   intro b6 w7 h7
   replace h7:Sat w0 w7 (pt b6 (.cells (ay (aA.mM l 0 0)).toArray 30 (0,0))::jI sv l::pt b2 (.cells (ay ak.zero32).toArray 30 (0,0))::F):=by rw [aA.acO];exact h7
   clear hS2 c1 D8
   go_wp2_with fail
   go_loopg [7] 8 (fun gg iq wr=>∃ i:Nat,gg=8 - i∧i≤8∧iq = .int .i64 i∧Sat w0 wr (pt b6 (.cells (ay (aA.mM l i 0)).toArray 30 (0,0))::jI sv l::pt b2 (.cells (ay ak.zero32).toArray 30 (0,0))::F))
   case atStart=>exact ⟨0,rfl,Nat.zero_le _,rfl,h7⟩
   case round=>
    obtain ⟨i,rfl,hi,rfl,hT⟩:=hrel
    clear h7
    by_cases hil:i<8
    rotate_left
    focus
     obtain rfl:i=8:=by omega
     rw [aA.acK xC.out,← Hs.out]at hT
     have hks:=lg b
     have dw:=uQ (show (ay (aA.sum b)).toArray.size=32 by rw [List.size_toArray,aU,hks])
     have jA:=uQ (show (ay (aA.sum b)).toArray.toList.all (·.oneCell')=true by rw [List.all_eq_true];exact jU _)
     have gV:(Tryz.prog.info? 30).map (·.size)=some (ay (aA.sum b)).toArray.size:=by rw [dw.out];kernel_rfl
     obtain ⟨k,hk⟩:∃ k,aA.sum b=k:=⟨_,rfl⟩
     rw [hk]at hT dw jA gV
     have WG:=uQ hk
     clear hi hil hks hk
     go_wp2_with (first
      |((with_reducible refine bI ⟨?_⟩);refine fB (cs:=(ay k).toArray) hT ah aH Tryz.underlying30 rfl gV ?_)
      |(with_reducible apply bU))
     refine ⟨eH (ay k).toArray (hT.sb:Sat w0 _ (pt b2 (.cells (ay ak.zero32).toArray 30 (0,0))::F)) ah ah (dw.out.trans ah) bJ gV jA.out ?_⟩
     intro w9 h9
     have hrc:=fun tmps hp=>uI (tmps:=tmps) (fn:=Tryz.f10) rfl h9 hp aH Tryz.underlying30 rfl gV
     go_wp2_with fail
     refine ⟨rfl,_,hrc _ ah,_,rfl,by rw [WG.out],h9.drop⟩
    have ci:(i:Int)<8:=oQ
    have hwi:IntKind.i64.wrap ((i:Int)+1)=((i+1:Nat):Int):=by rw [IntWalk.i64_in _ oQ];omega
    obtain ⟨sa,sn,sc,rfl,hsn⟩:=FY hT.aP
    rw [xC.out]at hsn
    subst hsn
    obtain ⟨sb,so,rfl,hcs⟩:=FX hT.aP (i:=i) (by rw [xC.out];exact hil)
    have e1:=hcs _ hT.aP i (by rw [xC.out];exact hil)
    have hx:=aA.qx Dv.out i
    obtain ⟨x,hxx⟩:∃ x,aA.at_ l i=x:=⟨_,rfl⟩
    rw [hxx]at e1 hx
    have hwx:IntKind.u64.wrap (x:Int)=(x:Int):=by rw [IntKind.wrap_u64];omega
    have hpt:=TW x 4 oQ aJ aJ hT
    have Hi:=uQ hil;have Xw:=uQ hxx
    clear hx hxx hil hi hcs
    go_wp2_with fail
    refine hpt.mono ?_
    rintro ee w8 ⟨v,rfl,h8,xa,xn,xc,rfl⟩
    obtain ⟨_,_,_,q0,x1,x2,x3⟩:=iY h8
    cases q0
    rw [ak.gW]at x3
    subst x3
    clear hpt hT e1 hwx x1 x2
    go_wp2_with fail
    go_loopg [9] 4 (fun gg kq wr=>∃ k:Nat,gg=4 - k∧k≤4∧kq = .int .i64 k∧Sat w0 wr (aK (.slice xa 4 xc) (ak.le x 4)::pt b6 (.cells (ay (aA.mM l i k)).toArray 30 (0,0))::jI (.slice (some ⟨sb,so,none⟩) 8 sc) l::pt b2 (.cells (ay ak.zero32).toArray 30 (0,0))::F))
    case atStart=>exact ⟨0,rfl,Nat.zero_le _,rfl,h8⟩
    case round=>
     obtain ⟨k,rfl,hk,rfl,hU⟩:=hrel
     clear h8
     by_cases hkl:k<4
     rotate_left
     focus
      obtain rfl:k=4:=by omega
      rw [aA.acM xC.out Hi.out]at hU
      clear hk hkl
      go_wp2_with fail
      go_roundg (8 - (i+1))
      case measure=>have:=Hi.out;omega
      case rel=>exact ⟨i+1,rfl,Nat.succ_le_of_lt Hi.out,by first|rfl|go_num,hU.drop⟩
     have ck:(k:Int)<4:=oQ
     have hwk:IntKind.i64.wrap ((k:Int)+1)=((k+1:Nat):Int):=by rw [IntWalk.i64_in _ oQ];omega
     obtain ⟨r3,hr3⟩:∃ z,3 - k=z:=⟨_,rfl⟩
     have hw3:IntKind.i64.wrap (3 - (k:Int))=(r3:Int):=by rw [IntWalk.i64_in _ oQ];omega
     obtain ⟨i4,hi4⟩:∃ z,4 * i=z:=⟨_,rfl⟩
     have hil:=Hi.out
     have hw4:IntKind.i64.wrap (4 * (i:Int))=(i4:Int):=by rw [IntWalk.i64_in _ oQ];omega
     obtain ⟨ix,hix0⟩:∃ z,i4+k=z:=⟨_,rfl⟩
     have hw5:IntKind.i64.wrap ((i4:Int)+(k:Int))=(ix:Int):=by rw [IntWalk.i64_in _ oQ];omega
     have c3:(r3:Int)<4:=oQ
     have g1:(ay (ak.le x 4))[r3]?=some (.int .u8 ((ak.le x 4).getD r3 0).toNat):=nX.2 ⟨_,by rw [List.getD_eq_getElem?_getD,List.getElem?_eq_getElem (show r3<(ak.le x 4).length by rw [ak.gW];omega)];rfl,rfl⟩
     obtain ⟨bk,off,rfl,hcs⟩:=iU (Sat.rd hU) g1
     have e1:=hcs _ _ g1
     have hgd:(ak.le x 4).getD r3 0=(aA.fE x 4).getD k 0:=by
      unfold aA.fE
      rw [List.getD_eq_getElem?_getD,List.getD_eq_getElem?_getD,List.getElem?_reverse (by rw [ak.gW];omega),ak.gW,← hr3]
     have kT:=uQ (aA.acN xC.out hil hkl)
     have WY:=uQ (aA.acL xC.out hil hk)
     rw [Xw.out,← hgd,hi4,hix0]at kT
     generalize (ak.le x 4).getD r3 0=y at *
     have Qs:=fun (w:World)=>Ue (P:=Tryz.prog) (k:= .i64) (b:=b6) Tryz.underlying30 afk (show ix<32 by omega) w
     have W9:=uQ (show eG (ay (aA.mM l i k)).toArray ix [.int .u8 (y.toNat:Int)]=(ay (aA.mM l i (k+1))).toArray by rw [Yk,kT.out])
     have lD:=uQ (show ix+1≤(ay (aA.mM l i k)).toArray.size by rw [List.size_toArray,aU,WY.out];omega)
     have Hk:=uQ hkl
     clear g1 hcs hgd hr3 hi4 hix0 hk hkl hil
     go_wp2_with (first
      |((with_reducible refine NG ⟨?_⟩);refine Vm ah ah Qs ?_)
      |(with_reducible apply bU))
     refine ⟨eX (cs':=(ay (aA.mM l i (k+1))).toArray) (hU.pick aP) ah aj W9.out bJ lD.out au ah ?_⟩
     intro w10 h10
     clear hU e1 Qs
     go_wp2_with fail
     go_roundg (4 - (k+1))
     case measure=>have:=Hk.out;omega
     case rel=>exact ⟨k+1,rfl,Nat.succ_le_of_lt Hk.out,by first|rfl|go_num,h10.sb⟩
end
end Go.Proofs.YtlimfgdbfadohaaGreatDoor
namespace Go.Seg
end Go.Seg
namespace Go.Proofs.YtlimfgdbfadohaaGreatDoor
open Go Go.Sl Go.aB Go.MapKept Go.RowKit
def vI (w0:World) (F:List aC) (ls:List (Value×ak.Bs)):Prop:=∀ x∈ls,RS w0 F x.1 x.2
def iE (ls:List (Value×ak.Bs)):List Value:=ls.map (·.1)
def Has (T:Seg.TT) (ls:List (Value×ak.Bs)):Prop:=∀ x∈ls,x.2.length≤150∧aA.sum x.2≠ak.zero32∧∃ cc,T (aA.sum x.2)=some (x.2,cc)
theorem vI.more {w0:World}{F G:List aC}{ls:List (Value×ak.Bs)} (h:vI w0 F ls) (k:Sub G F):vI w0 G ls:=fun x hx=>(h x hx).more k
theorem tu {ls:List (Value×ak.Bs)}{i:Nat}{x:Value×ak.Bs} (h:ls[i]?=some x):(iE ls)[i]?=some x.1:=by unfold iE;rw [List.getElem?_map,h];rfl
section
variable {w0 w:World}{F:List aC}{z:Int}
end
structure BD where
 kind:Int
 b:ak.Bs
 bv:Value
 n:Int
 m:Int
 lv:Value
def tX (d:BD):List Value:=[.int .i64 d.kind,d.bv,.int .i64 d.n,.int .i64 d.m,d.lv]
def qy (d:BD):Array Value:=(tX d).toArray
def jC (ds:List BD):List Value:=ds.flatMap tX
structure F8 (w0:World) (F:List aC) (d:BD):Prop where
 rd:RS w0 F d.bv d.b
 Ob:kK d.lv
def VL:BD:=⟨0,[],.slice none 0 0,0,0,.slice none 0 0⟩
theorem zBD:iH Tryz.prog 46=some (.agg (qy VL)):=by kernel_rfl
theorem Jr:(Tryz.prog.info? 46).map (·.size)=some 5:=by kernel_rfl
theorem DY (ds:List BD):(jC ds).length=5 * ds.length:=by
 unfold jC
 induction ds with
 |nil=>rfl
 |cons x ds ih=>rw [List.flatMap_cons,List.length_append,ih,List.length_cons];show 5+_=_;omega
theorem AY {ds:List BD}{i:Nat}{d:BD} (hi:ds[i]?=some d){j:Nat}{y:Value} (hj:(tX d)[j]?=some y):(jC ds)[i * 5+j]?=some y:=by
 induction ds generalizing i with
 |nil=>simp at hi
 |cons x ds ih=>
  have hx:(tX x).length=5:=rfl
  unfold jC at *
  rw [List.flatMap_cons]
  cases i with
  |zero=>
   obtain rfl:x=d:=by simpa using hi
   rw [List.getElem?_append_left (by have:=(List.getElem?_eq_some_iff.1 hj).1;omega),Nat.zero_mul,Nat.zero_add]
   exact hj
  |succ i=>
   rw [List.getElem?_append_right (by rw [hx];omega),hx,show (i+1) * 5+j - 5=i * 5+j by omega]
   exact ih (by simpa using hi)
theorem Yg (ds:List BD) (d:BD):jC (ds++[d])=jC ds++(qy d).toList:=by unfold jC qy;rw [List.flatMap_append];simp
theorem NM (d:BD){a1 a2:Option Addr}{n1 n2 c1 c2:Nat} (h1:d.bv = .slice a1 n1 c1) (h2:d.lv = .slice a2 n2 c2):(qy d).toList.all (·.oneCell')=true:=by
 unfold qy tX
 rw [List.toList_toArray,h1,h2]
 rfl
def mD (ds:List BD):aC:=stars (ds.map fun d=>aK d.bv d.b)
theorem Yf (ds:List BD) (d:BD):mD (ds++[d])=star (aK d.bv d.b) (mD ds):=by
 unfold mD
 rw [List.map_append,pX,FD]
 show star (stars [aK d.bv d.b]) _=_
 rw [FH]
section
variable {w0 w:World}{F R:List aC}{lv:Value}
theorem NJ {ds:List BD}{d:BD} (hd:d∈ds) (h:Sat w0 w (mD ds::F)):∃ G,Sat w0 w (aK d.bv d.b::G):=by
 induction ds generalizing F with
 |nil=>cases hd
 |cons x ds ih=>
  have e:mD (x::ds)=star (aK x.bv x.b) (mD ds):=by
   unfold mD
   rw [List.map_cons]
   rfl
  rw [e]at h
  have h2:=Sat.star.1 h
  rcases List.mem_cons.1 hd with rfl|hd
  ·exact ⟨_,h2⟩
  ·exact ih hd h2.aP
theorem Hy {ds:List BD}{d:BD} (hd:d∈ds) (h:Sat w0 w (mD ds::F)):RS w0 (mD ds::R) d.bv d.b:=by
 refine ⟨fun w' hw=>?_,?_⟩
 ·obtain ⟨G,h2⟩:=NJ hd hw
  exact (RS.sK h2).rd w' h2
 ·obtain ⟨G,h2⟩:=NJ hd h
  exact (RS.sK h2).cap
set_option maxRecDepth 20000 in
theorem Zn (ds:List BD) (n:Nat) (hn:n≤1048576) (hr:Ro w0 F (bK 5 lv (jC ds))) (he:∀ d∈ds,F8 w0 F d) (h:Sat w0 w F) :
  Calls Tryz.prog 14 #[lv,.int .i64 n] w (aI fun v w'=>∃ (es:List BD),es.length≤n∧(∀ d∈es,d.b.length≤150) ∧
   Sat w0 w' (aF 46 5 v (jC es)::mD es::F)):=by
 obtain ⟨la,ln,lc,rfl,hl,_⟩:=hr w h
 rw [DY]at hl
 obtain rfl:ln=ds.length:=by omega
 have Hr:=uQ hr;have He:=uQ he;have Hn:=uQ hn
 clear hr he hl hn
 go_enter Tryz.func14,Tryz.ntmps14
 go_wp2_with fail
 go_loopg [5,6] ds.length (fun g ov iq wr=>∃ (i:Nat) (es:List BD),g=ds.length - i∧i≤ds.length∧i≤n∧iq = .int .i64 i∧es.length=i∧(∀ d∈es,d.b.length≤150) ∧
  Sat w0 wr (aF 46 5 ov (jC es)::mD es::F))
 case atStart=>exact ⟨0,[],rfl,Nat.zero_le _,Nat.zero_le _,rfl,rfl,(fun d hd=>by cases hd),Sat.fM.2 (Sat.emp.2 h)⟩
 case round=>
  obtain ⟨i,es,rfl,hi,hin,rfl,hfs,hls,hS⟩:=hrel
  have pF:=uQ hfs;have Hi:=uQ hi;have kS:=uQ hin;have Gs:=uQ hls
  clear h hfs hi hin hls
  by_cases hlt:i<ds.length∧i<n
  ·obtain ⟨hl1,hl2⟩:=hlt
   have c1:(i:Int)<(ds.length:Int):=oQ
   have c2:(i:Int)<(n:Int):=oQ
   have hwi:IntKind.i64.wrap ((i:Int)+1)=(i:Int)+1:=IntWalk.i64_in _ (by have:=Hn.out;omega)
   have Gq:=uQ hl1;have Hl2:=uQ hl2
   clear hl1 hl2
   obtain ⟨x,hx⟩:∃ x,ds[i]?=some x:=⟨_,List.getElem?_eq_getElem Gq.out⟩
   have hxe:=He.out x (List.mem_of_getElem? hx)
   have Ji:Ro w0 (aF 46 5 u5 (jC es)::mD es::F) (bK 5 (.slice la ds.length lc) (jC ds)):=Ro.os Hr.out
   have hx0:(jC ds)[i * 5+0]?=some (.int .i64 x.kind):=AY hx rfl
   obtain ⟨bk,off,rfl,_⟩:=iU (Ji _ hS) hx0
   have hcell:∀ j v,(tX x)[j]?=some v→wr.cell? ⟨bk,off+i * 5+j,none⟩=some v:=by
    intro j v hj
    obtain ⟨HY,off',ru,hcell⟩:=iU (Ji _ hS) hx0
    cases ru
    have:=hcell _ _ (AY hx hj)
    rw [← Nat.add_assoc]at this
    exact this
   obtain ⟨kind,b,bv,xn,xm,lv⟩:=x
   obtain ⟨hrd,aal⟩:=hxe
   have hrd:RS w0 F bv b:=hrd
   obtain ⟨ba,bc,rfl,k1,k2⟩:=hrd.len (hS.sb:Sat w0 wr F)
   obtain ⟨qC,qF,qE,rfl,Qx,Qv⟩:=aal
   have hcut:=fun w=>cut_c ba b.length bc 150 k1 k2 w
   have hnum:=fun w=>acu qC qF qE 60 Qx Qv w
   have vF:=uQ (show Ro w0 F (bK 1 (.slice ba (min b.length 150) bc) (ay (b.take 150))) from fun w hw=>Kw (hrd.rd w hw))
   have lK:=uQ (show (b.take 150).length≤150 by rw [List.length_take];omega)
   obtain ⟨nb,hnb⟩:∃ nb,min b.length 150=nb:=⟨_,rfl⟩
   rw [hnb]at vF
   have hcut:∀ w,Calls Tryz.prog 6 #[.slice ba b.length bc,.int .i64 (150:Nat)] w (aI fun v w'=>v = .slice ba nb bc∧w=w'):=fun w=>by have:=hcut w;rwa [hnb]at this
   clear hx Ji hx0 k1 k2 hrd hnb Qx Qv
   go_wp2_with (first
    |((with_reducible refine bI ⟨?_⟩);refine jw (b:=bk) (o:=off+i * 5) (tX ⟨kind,b,.slice ba b.length bc,xn,xm,.slice qC qF qE⟩) ah hcell Tryz.underlying46 rfl Jr ?_)
    |((with_reducible refine dY ⟨?_⟩);refine dS zBD aQ rfl ?_;intro q w1 hS1)
    |((with_reducible refine bU ⟨?_⟩);refine eH (qy ⟨kind,b,.slice ba b.length bc,xn,xm,.slice qC qF qE⟩) hS1 (cs:=qy VL) ah ah rfl eP Jr (NM _ rfl rfl) ?_;intro w2 hS2))
   clear hcell hS hS1
   have hSd:=hS2.drew
   have hG:World.cell? _ ⟨q,1,none⟩=some (.slice ba b.length bc)∧World.cell? _ ⟨q,4,none⟩=some (.slice qC qF qE):=⟨hSd.cellP aH 1 rfl,hSd.cellP aH 4 rfl⟩
   clear hS2
   refine dh [6,7,8,9,10] (fun w'=>w'.cell? ⟨q,1,none⟩=some (.slice ba b.length bc)∧w'.cell? ⟨q,4,none⟩=some (.slice qC qF qE)) au ?_
   refine rP 0 ?_ (y:=cO)
   refine rt 1 (h:=?_)
   refine rP 4 ?_ (y:=cO)
   refine rt 5 (h:=?_)
   refine bG 2 aj au (fun K hK=>?_)
   (refine eU au aj aj ?_)
   refine (hcut _).mono ?_
   rintro ee w3 ⟨v,rfl,rfl,rfl⟩
   refine hK _ _ (.inr (.inl hG)) ?_
   clear hK hcut hG
   have hcp:=Oo hSd (b.take 150) (vF.out _ (hSd.sb)) (by have:=lK.out;omega)
   refine bG 3 aj au (fun K hK=>?_)
   (refine vT au aj ?_)
   refine hcp.mono ?_
   rintro ee w4 ⟨v,rfl,hS4,ca,cn,cc,rfl⟩
   refine hK _ _ (.inr (.inl ⟨hS4.cellP aP 1 rfl,hS4.cellP aP 4 rfl⟩)) ?_
   clear hK hcp hSd
   refine rP 7 ?_ (y:=cO)
   refine bG 6 aj au (fun K hK=>?_)
   (refine eU au aj aj ?_)
   refine (hnum _).mono ?_
   rintro ee w5 ⟨v,rfl,rfl,rfl⟩
   refine hK _ _ (.inl rfl) ?_
   clear hK hnum
   refine bG 8 aj au (fun K hK=>?_)
   refine jD (cs':=qy ⟨kind,b,.slice ca cn cc,xn,xm,.slice qC qF qE⟩) hS4 aj aj ah (fD bJ) bH au ah ?_
   intro w6 hS6
   refine hK _ _ (.inl rfl) ?_
   clear hK hS4
   refine rP 9 ?_ (y:=cO)
   refine bG 10 aj au (fun K hK=>?_)
   refine jD (cs':=qy ⟨kind,b,.slice ca cn cc,xn,xm,.slice qC (min qF 60) qE⟩) hS6 aj aj ah (fD bJ) bH au ah ?_
   intro w7 hS7
   refine hK _ _ (.inl rfl) ?_
   clear hK hS6
   refine cu au ?_
   have WX:=uQ (NM ⟨kind,b,.slice ca cn cc,xn,xm,.slice qC (min qF 60) qE⟩ rfl rfl)
   have hlen:(jC es).length≤2147483648:=by rw [DY];have:=Hn.out;have:=kS.out;have:=pF.out;omega
   go_wp2_with (first
    |((with_reducible refine bI ⟨?_⟩);refine fB (b:=q) (cs:=qy ⟨kind,b,.slice ca cn cc,xn,xm,.slice qC (min qF 60) qE⟩) hS7 ah aY Tryz.underlying46 rfl Jr ?_)
    |((with_reducible refine kU ⟨?_⟩);refine lu (e:=46) (sz:=5) (dX:=72) au hS7 ah (cs:=qy ⟨kind,b,.slice ca cn cc,xn,xm,.slice qC (min qF 60) qE⟩) rfl rfl bH ?_;intro bN wN hN)
    |((with_reducible refine jf ⟨?_⟩);refine lq 46 5 72 au hN ah ah aY aY ah (Nat.le_refl 1) WX.out hlen (by show 5≤65536;decide) aJ rfl ?_;intro bA nA cA wA hA))
   go_roundg (ds.length - (i+1))
   case measure=>have:=Gq.out;omega
   case rel=>
    refine ⟨i+1,es++[⟨kind,b.take 150,.slice ca cn cc,xn,xm,.slice qC (min qF 60) qE⟩],rfl,Nat.succ_le_of_lt Gq.out,Nat.succ_le_of_lt Hl2.out,by first|rfl|go_num,by rw [List.length_append,pF.out];rfl,?_,?_⟩
    ·intro d hd
     rcases List.mem_append.1 hd with hd|hd
     ·exact Gs.out d hd
     ·rw [List.mem_singleton.1 hd];exact lK.out
    ·rw [Yg,Yf]
     have h10:Sat w0 wA (aK (.slice ca cn cc) (b.take 150)::mD es::aF 46 5 (.slice (some ⟨bA,0,none⟩) nA cA) (jC es++(qy ⟨kind,b,.slice ca cn cc,xn,xm,.slice qC (min qF 60) qE⟩).toList)::F):=hA.sb
     exact (Sat.star.2 h10).aP
  ·have hle:es.length≤n:=by rw [pF.out];exact kS.out
   have lD:=uQ hle
   clear hle
   by_cases hl1:i<ds.length
   ·have c1:(i:Int)<(ds.length:Int):=by omega
    have c2:¬ (i:Int)<(n:Int):=oQ
    clear hlt hl1
    go_wp2
    go_ret
    exact ⟨_,rfl,es,lD.out,Gs.out,hS⟩
   ·have c1:¬ (i:Int)<(ds.length:Int):=by omega
    clear hlt hl1
    go_wp2
    go_ret
    exact ⟨_,rfl,es,lD.out,Gs.out,hS⟩
end
def VT (ts:List (Value×ak.Bs)) (b:ak.Bs) (v:Value):Prop:=(∃ (i:Nat) (x:Value×ak.Bs),v = .int .i64 i∧ts[i]?=some x∧x.2=b)∨(v = .int .i64 (-1)∧∀ x∈ts,x.2≠b)
def TwinS (ts:List (Value×ak.Bs)) (b:ak.Bs) (v:Value):Prop:=∃ r:Bool,v = .bool r∧((∃ x∈ts,x.2≠b∧aA.sum x.2=aA.sum b)→r=true)
def AnyS (ts:List (Value×ak.Bs)) (v:Value):Prop:=∃ r:Bool,v = .bool r∧(Seg.Twins (ts.map (·.2))→r=true)
section
variable {w0 w:World}{F:List aC}{tv bv:Value}{ts:List (Value×ak.Bs)}{b:ak.Bs}
theorem FT (hl:Ro w0 F (bK 1 tv (iE ts))) (h:Sat w0 w F):∃ a c,tv = .slice a ts.length c:=by
 obtain ⟨a,n,c,rfl,hl',_⟩:=hl w h
 unfold iE at hl'
 rw [List.length_map,Nat.mul_one]at hl'
 exact ⟨a,c,by rw [hl']⟩
set_option maxRecDepth 20000 in
theorem Zt (hn:ts.length≤1000) (hl:Ro w0 F (bK 1 tv (iE ts))) (ht:vI w0 F ts) (hlen:∀ x∈ts,x.2.length≤150) (hb:RS w0 F bv b) (h:Sat w0 w F) :
  Calls Tryz.prog 37 #[tv,bv] w (aI fun v w'=>VT ts b v∧Sat w0 w' F):=by
 obtain ⟨ta,tc,rfl⟩:=FT hl h
 have HL:=uQ hl;have HT:=uQ ht;have Hlen:=uQ hlen;have Hb:=uQ hb;have Hn:=uQ hn
 clear hl ht hlen hb hn
 go_enter Tryz.func37,Tryz.ntmps37
 go_wp2_with fail
 go_loopg [5] ts.length (fun g iq wr=>∃ (i:Nat),g=ts.length - i∧i≤ts.length∧iq = .int .i64 i∧(∀ j x,ts[j]?=some x→j<i→x.2≠b)∧Sat w0 wr F)
 case atStart=>exact ⟨0,rfl,Nat.zero_le _,rfl,(fun j x _ hj=>absurd hj (Nat.not_lt_zero _)),h⟩
 case round=>
  obtain ⟨i,rfl,hi,rfl,hno,hS⟩:=hrel
  clear h
  by_cases hlt:i<ts.length
  rotate_left
  ·have c1:¬ (i:Int)<(ts.length:Int):=by omega
   have Hno:=uQ (show ∀ x∈ts,x.2≠b from fun x hx=>by
    obtain ⟨j,hj⟩:=List.mem_iff_getElem?.1 hx
    exact hno j x hj (by have:=(List.getElem?_eq_some_iff.1 hj).1;omega))
   clear hi hno hlt
   go_wp2_with fail
   go_ret
   exact ⟨_,rfl,.inr ⟨rfl,Hno.out⟩,hS⟩
  ·obtain ⟨⟨xv,xb⟩,hx⟩:∃ x,ts[i]?=some x:=⟨_,List.getElem?_eq_getElem hlt⟩
   have hrx:RS w0 F xv xb:=HT.out _ (List.mem_of_getElem? hx)
   have hbl:xb.length≤150:=Hlen.out _ (List.mem_of_getElem? hx)
   obtain ⟨bk,off,rfl,hcs⟩:=iU (HL.out _ hS) (tu hx)
   have e1:=hcs _ _ (tu hx)
   have c1:(i:Int)<(ts.length:Int):=oQ
   have hwi:IntKind.i64.wrap ((i:Int)+1)=((i+1:Nat):Int):=by rw [IntWalk.i64_in _ (by have:=Hn.out;omega)];omega
   have hsm:=KJ xb b hrx.rd Hb.out.rd hS oQ
   have Hno:=uQ hno;have Hx:=uQ hx;have Hi:=uQ hlt
   obtain ⟨xa,xc,rfl,k1,k2⟩:=hrx.len hS
   obtain ⟨ba,bc,rfl,k3,k4⟩:=Hb.out.len hS
   clear hi hno hlt hcs hx hrx hbl hS k1 k2 k3 k4
   go_wp2_with fail
   refine hsm.mono ?_
   rintro ee w2 ⟨v,rfl,rfl,h2⟩
   clear hsm e1 c1
   by_cases he:xb=b
   ·have hd:decide (xb=b)=true:=decide_eq_true he
    have He:=uQ he
    clear he
    go_wp2_with fail
    go_ret
    exact ⟨_,rfl,.inl ⟨i,_,rfl,Hx.out,He.out⟩,h2⟩
   ·have hd:decide (xb=b)=false:=decide_eq_false he
    have He:=uQ he
    clear he
    go_wp2_with fail
    go_roundg (ts.length - (i+1))
    case measure=>have:=Hi.out;omega
    case rel=>exact ⟨i+1,rfl,Hi.out,by first|rfl|go_num,(fun j x hj hji=>by
     rcases Nat.lt_or_ge j i with q|q
     ·exact Hno.out j x hj q
     ·obtain rfl:j=i:=by omega
      have hj2:=hj.symm.trans Hx.out
      cases hj2
      exact He.out),h2⟩
set_option maxRecDepth 20000 in
theorem agA (hn:ts.length≤1000) (hl:Ro w0 F (bK 1 tv (iE ts))) (ht:vI w0 F ts) (hlen:∀ x∈ts,x.2.length≤150) (hbl:b.length≤150) (hb:RS w0 F bv b) (h:Sat w0 w F) :
  Calls Tryz.prog 42 #[tv,bv] w (aI fun v w'=>TwinS ts b v∧Sat w0 w' F):=by
 obtain ⟨ta,tc,rfl⟩:=FT hl h
 have HL:=uQ hl;have HT:=uQ ht;have Hlen:=uQ hlen;have Hb:=uQ hb;have Hn:=uQ hn
 have Xg:=uQ (fun (w':World) (hw:Sat w0 w' F)=>Fj (b:=b) oQ hb hw)
 have hkb:=lg b
 clear hl ht hlen hb hn hbl
 go_enter Tryz.func42,Tryz.ntmps42
 go_wp2_with fail
 go_loopg [5] ts.length (fun g iq wr=>∃ (i:Nat),g=ts.length - i∧i≤ts.length∧iq = .int .i64 i∧(∀ j x,ts[j]?=some x→j<i→¬ (x.2≠b∧aA.sum x.2=aA.sum b))∧Sat w0 wr F)
 case atStart=>exact ⟨0,rfl,Nat.zero_le _,rfl,(fun j x _ hj=>absurd hj (Nat.not_lt_zero _)),h⟩
 case round=>
  obtain ⟨i,rfl,hi,rfl,hno,hS⟩:=hrel
  clear h
  by_cases hlt:i<ts.length
  rotate_left
  ·have c1:¬ (i:Int)<(ts.length:Int):=by omega
   have Hno:=uQ (show (∃ x∈ts,x.2≠b∧aA.sum x.2=aA.sum b)→false=true from fun ⟨x,hx,hq⟩=>by
    obtain ⟨j,hj⟩:=List.mem_iff_getElem?.1 hx
    exact absurd hq (hno j x hj (by have:=(List.getElem?_eq_some_iff.1 hj).1;omega)))
   clear hi hno hlt
   go_wp2_with fail
   go_ret
   exact ⟨_,rfl,⟨false,rfl,Hno.out⟩,hS⟩
  ·obtain ⟨⟨xv,xb⟩,hx⟩:∃ x,ts[i]?=some x:=⟨_,List.getElem?_eq_getElem hlt⟩
   have hrx:RS w0 F xv xb:=HT.out _ (List.mem_of_getElem? hx)
   have hbl:xb.length≤150:=Hlen.out _ (List.mem_of_getElem? hx)
   obtain ⟨bk,off,rfl,hcs⟩:=iU (HL.out _ hS) (tu hx)
   have Me:=uQ (show ∀ (w':World),Sat w0 w' F→w'.cell? ⟨bk,off+i,none⟩=some xv from fun w' hw=>by
    obtain ⟨_,_,he,hc⟩:=iU (HL.out _ hw) (tu hx)
    cases he
    exact hc i _ (tu hx))
   have e1:=Me.out _ hS
   have c1:(i:Int)<(ts.length:Int):=oQ
   have c0:(0:Int)≤(i:Int):=oQ
   have hwi:IntKind.i64.wrap ((i:Int)+1)=((i+1:Nat):Int):=by rw [IntWalk.i64_in _ (by have:=Hn.out;omega)];omega
   have hsm:=KJ xb b hrx.rd Hb.out.rd hS oQ
   have Xj:=uQ (fun (w':World) (hw:Sat w0 w' F)=>Fj (b:=xb) oQ hrx hw)
   have nM:∀ w,(Op.equalIn 10000 30 (.agg (ay (aA.sum xb)).toArray) (.agg (ay (aA.sum b)).toArray)).run Tryz.prog w = .ok (decide (aA.sum xb=aA.sum b)) w:=fun w=>pJ _ _ (lg xb) hkb w
   have Hno:=uQ hno;have Hx:=uQ hx;have Hi:=uQ hlt
   obtain ⟨xa,xc,rfl,k1,k2⟩:=hrx.len hS
   obtain ⟨ba,bc,rfl,k3,k4⟩:=Hb.out.len hS
   clear hi hno hlt hcs hx hrx hbl hS k1 k2 k3 k4
   go_wp2_with fail
   refine hsm.mono ?_
   rintro ee w2 ⟨v,rfl,rfl,h2⟩
   clear hsm e1
   by_cases he:xb=b
   ·have hd:decide (xb=b)=true:=decide_eq_true he
    have He:=uQ he
    clear he nM
    go_wp2_with fail
    go_roundg (ts.length - (i+1))
    case measure=>have:=Hi.out;omega
    case rel=>exact ⟨i+1,rfl,Hi.out,by first|rfl|go_num,(fun j x hj hji=>by
     rcases Nat.lt_or_ge j i with q|q
     ·exact Hno.out j x hj q
     ·obtain rfl:j=i:=by omega
      have hj2:=hj.symm.trans Hx.out
      cases hj2
      exact fun hq=>hq.1 He.out),h2⟩
   ·have hd:decide (xb=b)=false:=decide_eq_false he
    have He:=uQ he
    have e2:=Me.out _ h2
    have hs1:=Xj.out _ h2
    clear he
    go_wp2_with fail
    refine hs1.mono ?_
    rintro ee w3 ⟨v,rfl,rfl,h3⟩
    clear hs1 e2 h2
    have hs2:=Xg.out _ h3
    go_wp2_with fail
    refine hs2.mono ?_
    rintro ee w4 ⟨v,rfl,rfl,h4⟩
    clear hs2 h3
    by_cases hq:aA.sum xb=aA.sum b
    ·have BP:decide (aA.sum xb=aA.sum b)=true:=decide_eq_true hq
     have aaj:∀ w,(Op.equalIn 10000 30 (.agg (ay (aA.sum xb)).toArray) (.agg (ay (aA.sum b)).toArray)).run Tryz.prog w = .ok true w:=fun w=>by rw [nM,BP]
     clear hq BP nM
     generalize aA.sum xb=k1 at *
     generalize aA.sum b=k2 at *
     go_wp2_with fail
     go_ret
     exact ⟨_,rfl,⟨true,rfl,fun _=>rfl⟩,h4⟩
    ·have BP:decide (aA.sum xb=aA.sum b)=false:=decide_eq_false hq
     have aaj:∀ w,(Op.equalIn 10000 30 (.agg (ay (aA.sum xb)).toArray) (.agg (ay (aA.sum b)).toArray)).run Tryz.prog w = .ok false w:=fun w=>by rw [nM,BP]
     have WT:=uQ (show ∀ j x,ts[j]?=some x→j<i+1→¬ (x.2≠b∧aA.sum x.2=aA.sum b) from fun j x hj hji=>by
      rcases Nat.lt_or_ge j i with q|q
      ·exact Hno.out j x hj q
      ·obtain rfl:j=i:=by omega
       have hj2:=hj.symm.trans Hx.out
       cases hj2
       exact fun hq2=>hq hq2.2)
     clear hq BP nM
     go_wp2_with fail
     go_roundg (ts.length - (i+1))
     case measure=>have:=Hi.out;omega
     case rel=>exact ⟨i+1,rfl,Hi.out,by first|rfl|go_num,WT.out,h4⟩
set_option maxRecDepth 20000 in
theorem XQ (hn:ts.length≤1000) (hl:Ro w0 F (bK 1 tv (iE ts))) (ht:vI w0 F ts) (hlen:∀ x∈ts,x.2.length≤150) (h:Sat w0 w F) :
  Calls Tryz.prog 16 #[tv] w (aI fun v w'=>AnyS ts v∧Sat w0 w' F):=by
 obtain ⟨ta,tc,rfl⟩:=FT hl h
 have HL:=uQ hl;have HT:=uQ ht;have Hlen:=uQ hlen;have Hn:=uQ hn
 clear hl ht hlen hn
 go_enter Tryz.func16,Tryz.ntmps16
 go_wp2_with fail
 go_loopg [3] ts.length (fun g iq wr=>∃ (i:Nat),g=ts.length - i∧i≤ts.length∧iq = .int .i64 i∧(∀ j x,ts[j]?=some x→j<i→¬ ∃ y∈ts,y.2≠x.2∧aA.sum y.2=aA.sum x.2)∧Sat w0 wr F)
 case atStart=>exact ⟨0,rfl,Nat.zero_le _,rfl,(fun j x _ hj=>absurd hj (Nat.not_lt_zero _)),h⟩
 case round=>
  obtain ⟨i,rfl,hi,rfl,hno,hS⟩:=hrel
  clear h
  by_cases hlt:i<ts.length
  rotate_left
  ·have c1:¬ (i:Int)<(ts.length:Int):=by omega
   have Hno:=uQ (show Seg.Twins (ts.map (·.2))→false=true from fun ⟨x,hx,y,hy,hne,hq⟩=>by
    obtain ⟨x1,hx1,rfl⟩:=List.mem_map.1 hx
    obtain ⟨y1,hy1,rfl⟩:=List.mem_map.1 hy
    obtain ⟨j,hj⟩:=List.mem_iff_getElem?.1 hy1
    exact absurd ⟨x1,hx1,hne,hq⟩ (hno j y1 hj (by have:=(List.getElem?_eq_some_iff.1 hj).1;omega)))
   clear hi hno hlt
   go_wp2_with fail
   go_ret
   exact ⟨_,rfl,⟨false,rfl,Hno.out⟩,hS⟩
  ·obtain ⟨⟨xv,xb⟩,hx⟩:∃ x,ts[i]?=some x:=⟨_,List.getElem?_eq_getElem hlt⟩
   have hrx:RS w0 F xv xb:=HT.out _ (List.mem_of_getElem? hx)
   have hbl:xb.length≤150:=Hlen.out _ (List.mem_of_getElem? hx)
   obtain ⟨bk,off,rfl,hcs⟩:=iU (HL.out _ hS) (tu hx)
   have e1:=hcs _ _ (tu hx)
   have c1:(i:Int)<(ts.length:Int):=oQ
   have hwi:IntKind.i64.wrap ((i:Int)+1)=((i+1:Nat):Int):=by rw [IntWalk.i64_in _ (by have:=Hn.out;omega)];omega
   have htw:=agA Hn.out HL.out HT.out Hlen.out hbl hrx hS
   have Hno:=uQ hno;have Hx:=uQ hx;have Hi:=uQ hlt
   obtain ⟨xa,xc,rfl,k1,k2⟩:=hrx.len hS
   clear hi hno hlt hcs hx hrx hbl hS k1 k2
   go_wp2_with fail
   refine htw.mono ?_
   rintro ee w2 ⟨v,rfl,⟨r,rfl,hr⟩,h2⟩
   clear htw e1 c1
   cases r with
   |true=>
    go_wp2_with fail
    go_ret
    exact ⟨_,rfl,⟨true,rfl,fun _=>rfl⟩,h2⟩
   |false=>
    have Hr:=uQ hr
    clear hr
    go_wp2_with fail
    go_roundg (ts.length - (i+1))
    case measure=>have:=Hi.out;omega
    case rel=>exact ⟨i+1,rfl,Hi.out,by first|rfl|go_num,(fun j x hj hji=>by
     rcases Nat.lt_or_ge j i with q|q
     ·exact Hno.out j x hj q
     ·obtain rfl:j=i:=by omega
      have hj2:=hj.symm.trans Hx.out
      cases hj2
      exact fun hq=>by cases Hr.out hq),h2⟩
end
structure lJ (w0:World) (F:List aC) (es:List BD) (i:Nat) (T:Seg.TT) (us:List (ak.Bs×Nat)) (ts:List (Value×ak.Bs)):Prop where
 bk:Seg.Bk T us
 eq:ts.map (·.2)=us.map (·.1)
 tx:vI w0 F ts
 len:∀ x∈ts,x.2.length≤150
 sub:∀ x∈ts,x.2∈es.map (·.b)
 n:ts.length≤i
 c:∀ u∈us,u.2≤i
def zK (u:ak.Bs×Nat):List Value:=[.int .i64 (u.2:Nat)]
def jh (us:List (ak.Bs×Nat)):List Value:=us.flatMap zK
theorem zL (us:List (ak.Bs×Nat)):(jh us).length=us.length:=by
 unfold jh
 induction us with
 |nil=>rfl
 |cons u us ih=>rw [List.flatMap_cons,List.length_append,ih,List.length_cons];show 1+_=_;omega
theorem acr (us:List (ak.Bs×Nat)) (b:ak.Bs):jh (us++[(b,0)])=jh us++[.int .i64 0]:=by unfold jh;rw [List.flatMap_append];rfl
theorem EO {us:List (ak.Bs×Nat)}{i:Nat}{u:ak.Bs×Nat} (h:us[i]?=some u):(jh us)[i]?=some (.int .i64 (u.2:Nat)):=by
 induction us generalizing i with
 |nil=>simp at h
 |cons x us ih=>
  unfold jh at *
  rw [List.flatMap_cons]
  cases i with
  |zero=>cases h;rfl
  |succ i=>show (zK x++_)[i+1]?=_;unfold zK;rw [List.cons_append,List.nil_append,List.getElem?_cons_succ];exact ih (by simpa using h)
theorem JZ {us:List (ak.Bs×Nat)}{i t':Nat}{b:ak.Bs} (h:i<us.length):jF (jh us) i [.int .i64 (t':Nat)]=jh (us.set i (b,t')):=by
 have:=sU (f:=zK) (k:=1) (i:=i) (x:=(b,t')) (l:=us) (fun x _=>rfl) rfl h
 rw [Nat.mul_one]at this
 exact this.symm
def VN (es:List BD) (v:Value):Prop:=∃ r:Bool,v = .bool r∧(r=false→Seg.Twins (es.map (·.b)))
section
variable {w0 w:World}{F:List aC}{es:List BD}{i:Nat}{T:Seg.TT}{us:List (ak.Bs×Nat)}{ts:List (Value×ak.Bs)}{b:ak.Bs}{t a:Nat}
theorem lJ.ul (h:lJ w0 F es i T us ts):us.length=ts.length:=by have:=congrArg List.length h.eq;simpa using this.symm
theorem lJ.at (h:lJ w0 F es i T us ts){x:Value×ak.Bs} (hx:ts[a]?=some x):∃ t,us[a]?=some (x.2,t):=by
 have h1:(us.map (·.1))[a]?=some x.2:=by rw [← h.eq,List.getElem?_map,hx];rfl
 rw [List.getElem?_map]at h1
 cases hu:us[a]? with
 |none=>rw [hu]at h1;cases h1
 |some u=>rw [hu]at h1;exact ⟨u.2,by rw [← Option.some.inj h1]⟩
theorem lJ.twin (h:lJ w0 F es i T us ts) (ht:Seg.Twins (us.map (·.1))):Seg.Twins (es.map (·.b)):=by
 have hs:∀ y∈us.map (·.1),y∈es.map (·.b):=fun y hy=>by
  rw [← h.eq]at hy
  obtain ⟨x,hx,rfl⟩:=List.mem_map.1 hy
  exact h.sub x hx
 obtain ⟨x,hx,y,hy,hq⟩:=ht
 exact ⟨x,hs x hx,y,hs y hy,hq⟩
theorem lJ.up (h:lJ w0 F es i T us ts):lJ w0 F es (i+1) T us ts:=⟨h.bk,h.eq,h.tx,h.len,h.sub,Nat.le_succ_of_le h.n,fun u hu=>Nat.le_succ_of_le (h.c u hu)⟩
theorem lJ.new (h:lJ w0 F es i T us ts){bv:Value} (hno:∀ x∈ts,x.2≠b) (hr:RS w0 F bv b) (hl:b.length≤150) (hm:b∈es.map (·.b)):lJ w0 F es (i+1) T (us++[(b,0)]) (ts++[(bv,b)]):=by
 refine ⟨h.bk.new fun u hu e=>?_,by rw [List.map_append,List.map_append,h.eq];rfl,fun x hx=>?_,fun x hx=>?_,fun x hx=>?_,by rw [List.length_append];exact Nat.succ_le_succ h.n,fun u hu=>?_⟩
 ·have:u.1∈ts.map (·.2):=by rw [h.eq];exact List.mem_map.2 ⟨u,hu,rfl⟩
  obtain ⟨x,hx,e2⟩:=List.mem_map.1 this
  exact hno x hx (e2.trans e)
 ·rcases List.mem_append.1 hx with hx|hx
  ·exact h.tx x hx
  ·rw [List.mem_singleton.1 hx];exact hr
 ·rcases List.mem_append.1 hx with hx|hx
  ·exact h.len x hx
  ·rw [List.mem_singleton.1 hx];exact hl
 ·rcases List.mem_append.1 hx with hx|hx
  ·exact h.sub x hx
  ·rw [List.mem_singleton.1 hx];exact hm
 ·rcases List.mem_append.1 hu with hu|hu
  ·exact Nat.le_succ_of_le (h.c u hu)
  ·rw [List.mem_singleton.1 hu];exact Nat.zero_le _
theorem lJ.set (h:lJ w0 F es i T us ts){T':Seg.TT}{t':Nat} (hu:us[a]?=some (b,t)) (hb:Seg.Bk T' (us.set a (b,t'))) (ht:t'≤i):lJ w0 F es i T' (us.set a (b,t')) ts:=by
 refine ⟨hb,by rw [Seg.CZ hu];exact h.eq,h.tx,h.len,h.sub,h.n,fun u hm=>?_⟩
 rcases List.mem_or_eq_of_mem_set hm with hm|rfl
 ·exact h.c u hm
 ·exact ht
theorem lJ.same (h:lJ w0 F es i T us ts) (hu:us[a]?=some (b,0)):us.set a (b,0)=us:=by
 refine List.ext_getElem? fun j=>?_
 rw [List.getElem?_set]
 split
 ·rename_i e
  subst e
  rw [if_pos (List.getElem?_eq_some_iff.1 hu).1,hu]
 ·rfl
end
theorem Ud (a b:Int) (w:World):(Instr.field 60 (.agg (aN ⟨a,b⟩).toArray) 0).run Tryz.prog w = .ok (.int .i64 a) w:=by kernel_rfl
section
variable {w0 w:World}{F:List aC}
set_option maxRecDepth 20000 in
theorem Yb (z:Int) (es:List BD) (hn:es.length≤40) (hbl:∀ d∈es,d.b.length≤150){lv:Value} (hl:Ro w0 F (bK 5 lv (jC es))) (he:∀ d∈es,RS w0 F d.bv d.b) (hH:Ro w0 F Half) (jl:Ro w0 F kE) (h:Sat w0 w F) :
  Calls Tryz.prog 15 #[.int .i64 z,lv] w (aI fun v w'=>VN es v∧Sat w0 w' F):=by
 have hop:=UL z hH h
 obtain ⟨la,ln,lc,rfl,hll,_⟩:=hl w h
 rw [DY]at hll
 obtain rfl:ln=es.length:=by omega
 have HL:=uQ hl;have HE:=uQ he;have HB:=uQ hbl;have HN:=uQ hn;have HH:=uQ hH;have lZ:=uQ jl
 clear hl he hbl hn hH jl h hll
 go_enter Tryz.func15,Tryz.ntmps15
 go_wp2_with fail
 refine hop.mono ?_
 rintro ee w1 ⟨v,rfl,s,m,rfl,hst⟩
 clear hop
 go_wp2_with fail
 have h0:gX w0 s m 0 0 (fun _=>none) (aF 27 1 (.slice none 0 0) (iE [])::aF 3 1 (.slice none 0 0) (jh [])::F) w1:=by
  obtain ⟨P,h1,hP⟩:=hst.one
  exact hP _ _ ((Sat.fM.2 (Sat.fM.2 h1)).sb)
 have hb0:lJ w0 F es 0 (fun _=>none) [] []:=⟨Seg.Bk.start,rfl,fun x hx=>(by cases hx),fun x hx=>(by cases hx),fun x hx=>(by cases hx),Nat.le_refl _,fun u hu=>(by cases hu)⟩
 clear hst
 go_loopg [8,9,10] es.length (fun g xq yq iq wr=>∃ (i:Nat) (us:List (ak.Bs×Nat)) (ts:List (Value×ak.Bs)) (xv yv:Value) (T:Seg.TT),g=es.length - i∧i≤es.length∧xv=xq∧yv=yq∧iq = .int .i64 i∧lJ w0 F es i T us ts∧gX w0 s m i i T (aF 27 1 xv (iE ts)::aF 3 1 yv (jh us)::F) wr)
 case atStart=>exact ⟨0,[],[],_,_,_,rfl,Nat.zero_le _,rfl,rfl,rfl,hb0,h0⟩
 case round=>
  obtain ⟨i,us,ts,xv,yv,T,rfl,hi,rfl,rfl,rfl,hk,hst⟩:=hrel
  clear h0 hb0
  by_cases hlt:i<es.length
  rotate_left
  focus
   as_aux_lemma=>
    have c1:¬ (i:Int)<(es.length:Int):=oQ
    have Hk:=uQ hk
    have Hi:=uQ (show i≤40 by have:=HN.out;omega)
    obtain ⟨P,hS,_⟩:=hst.one
    obtain ⟨xa,xc,rfl⟩:=FT (ts:=ts) (F:=P::aF 27 1 xv (iE ts)::aF 3 1 yv (jh us)::F) (fun w' hw=>Sat.rd (hw.pick aP)) hS
    obtain ⟨ya,yc,rfl⟩:=jm (f:=zK) (k:=1) (l:=us) (fun x _=>rfl) (Sat.rd (hS.pick dM)) aJ
    clear hlt hi hk hS
    go_wp2_with fail
    go_loopg [16,17] ts.length (fun g oq jq wr=>∃ (j o:Nat),g=ts.length - j∧j≤ts.length∧oq = .int .i64 o∧jq = .int .i64 j∧o=(us.take j).countP (fun u=>decide (0<u.2))∧gX w0 s m i i T (aF 27 1 (.slice xa ts.length xc) (iE ts)::aF 3 1 (.slice ya us.length yc) (jh us)::F) wr)
    case atStart=>exact ⟨0,0,rfl,Nat.zero_le _,rfl,rfl,rfl,hst⟩
    case round=>
     clear hst c1
     obtain ⟨j,o,rfl,hj,rfl,rfl,ho,hst⟩:=hrel
     by_cases hjl:j<ts.length
     rotate_left
     focus
      as_aux_lemma=>
       obtain rfl:j=ts.length:=by omega
       rw [List.take_of_length_le (by rw [Hk.out.ul];exact Nat.le_refl _)]at ho
       obtain ⟨kv,hkv⟩:=Hk.out.bk.kv
       have hkc:=Hk.out.bk.count hkv
       have hkl:kv.length≤1000:=Nat.le_trans (Nat.le_of_eq hkc) (Nat.le_trans List.countP_le_length (by
        have h2:=Hk.out.ul
        have h3:=Hk.out.n
        have:=Hi.out
        omega))
       obtain rfl:o=kv.length:=by rw [ho,hkc]
       obtain ⟨r,QH,hln⟩:=afK hkv hst
       have hct:=afF (by have:=Hi.out;omega) hkv hkl hst
       have c1:¬ (ts.length:Int)<(ts.length:Int):=oQ
       clear hjl hj ho hkv hkc hkl hst
       go_wp2_with fail
       refine QH.mono ?_
       rintro ee w2 ⟨v,rfl,rfl,rfl⟩
       clear QH
       go_wp2_with fail
       refine hln.mono ?_
       rintro ee w3 ⟨v,rfl,rfl,rfl⟩
       clear hln
       go_wp2_with fail
       refine hct.mono ?_
       rintro ee w4 ⟨v,rfl,ca,cp,rfl,hs4⟩
       obtain ⟨P4,h4,_⟩:=hs4.one
       clear hct hs4
       go_wp2_with fail
       go_ret
       exact ⟨_,rfl,⟨true,rfl,fun h=>by cases h⟩,h4.sb⟩
     as_aux_lemma=>
      obtain ⟨⟨bv,b⟩,hx⟩:∃ x,ts[j]?=some x:=⟨_,List.getElem?_eq_getElem hjl⟩
      obtain ⟨t,hut⟩:=Hk.out.at hx
      have hrb:RS w0 F bv b:=Hk.out.tx _ (List.mem_of_getElem? hx)
      have hdl:b.length≤150:=Hk.out.len _ (List.mem_of_getElem? hx)
      have BQ:t≤i:=Hk.out.c _ (List.mem_of_getElem? hut)
      obtain ⟨P,hS,hP⟩:=hst.one
      obtain ⟨bk2,off2,ru,_⟩:=iU (Sat.rd (hS.pick aP)) (tu hx)
      cases ru
      obtain ⟨tb,aak⟩:=sO (hS.pick dM) (by rw [zL,Hk.out.ul];omega)
      subst aak
      have Hct:=uQ (show ∀ (w':World) (R:List aC),Sat w0 w' (aF 27 1 (.slice (some ⟨bk2,off2,none⟩) ts.length xc) (iE ts)::R)→w'.cell? ⟨bk2,off2+j,none⟩=some bv from fun w' R hw=>by
       obtain ⟨_,_,he,hc⟩:=iU (Sat.rd hw) (tu hx)
       cases he
       exact hc j _ (tu hx))
      have pz:=uQ (show ∀ (w':World) (R:List aC),Sat w0 w' (aF 3 1 (.slice (some ⟨tb,0,none⟩) us.length yc) (jh us)::R)→w'.cell? ⟨tb,j,none⟩=some (.int .i64 (t:Nat)) from fun w' R hw=>by
       obtain ⟨HY,off',ru,hcell⟩:=iU (Sat.rd hw) (EO hut)
       cases ru
       have:=hcell _ _ (EO hut)
       rwa [Nat.zero_add]at this)
      obtain ⟨ba,bc,rfl,k1,k2⟩:=hrb.len (hS.sb:Sat w0 wr F)
      have e1:=Hct.out _ _ (hS.pick aP)
      have hsum:=Fj (b:=b) oQ (hrb.more iJ) hS
      have c1:(j:Int)<(ts.length:Int):=oQ
      have c2:(j:Int)<(us.length:Int):=by have:=Hk.out.ul;omega
      have c3:(0:Int)≤(j:Int):=oQ
      have QV:IntKind.i64.wrap ((j:Int)+1)=((j+1:Nat):Int):=by rw [IntWalk.i64_in _ (by have:=Hk.out.n;have:=Hi.out;omega)];omega
      have dW:=uQ (show (ay (aA.sum b)).length=32 by rw [aU,lg b])
      have dw:=uQ (show (ay (aA.sum b)).toArray.size=32 by rw [List.size_toArray,aU,lg b])
      have jA:=uQ (show (ay (aA.sum b)).toArray.toList.all (·.oneCell')=true by rw [List.all_eq_true];exact jU _)
      have gV:(Tryz.prog.info? 30).map (·.size)=some (ay (aA.sum b)).toArray.size:=by rw [dw.out];kernel_rfl
      have vF:=uQ hrb;have xu:=uQ hdl;have qo:=uQ hut;have HP:=uQ hP;have Hj:=uQ (And.intro hjl BQ)
      have Ho:=uQ (show o+(if 0<t then 1 else 0)=(us.take (j+1)).countP (fun u=>decide (0<u.2)) by
       rw [List.take_add_one,List.countP_append,← ho,hut]
       show _=_+List.countP _ [(b,t)]
       rw [List.countP_singleton]
       by_cases h0:0<t
       ·rw [if_pos h0,if_pos (decide_eq_true h0)]
       ·rw [if_neg h0,if_neg (by rw [decide_eq_false h0];decide)])
      have Gw:=uQ (show o≤40 by
       have h1:(us.take j).countP (fun u=>decide (0<u.2))≤(us.take j).length:=List.countP_le_length
       have h2:=Hk.out.n
       have h3:=Hi.out
       rw [List.length_take]at h1
       omega)
      clear hj hjl hx hut hrb hdl BQ hst hS hP k1 k2 ho
      go_wp2_with fail
      refine hsum.mono ?_
      rintro ee w4 ⟨v,rfl,rfl,h4⟩
      clear hsum e1
      go_wp2_with (with_reducible apply dY)
      refine ⟨dS oz h4 rfl ?_⟩
      intro b18 w5 h5
      clear h4
      go_wp2_with (with_reducible apply bU)
      refine ⟨eH (ay (aA.sum b)).toArray h5 ah ah (dw.out.trans ah) bJ gV jA.out ?_⟩
      intro w6 h6
      clear h5
      have hs6:gX w0 s m i i T (pt b18 (.cells (ay (aA.sum b)).toArray 30 (0,0))::aF 27 1 (.slice (some ⟨bk2,off2,none⟩) ts.length xc) (iE ts)::aF 3 1 (.slice (some ⟨tb,0,none⟩) us.length yc) (jh us)::F) w6:=HP.out _ _ h6.aP
      rcases Hk.out.bk.at qo.out with ⟨hT,ht0⟩|⟨ht0,hT⟩|⟨ht0,⟨p,hT⟩,htw⟩
      focus
       subst ht0
       have hget:=afI (by have:=Hi.out;omega) (lg b) hT hs6
       clear hs6
       go_wp2_with ((with_reducible refine bI ⟨?_⟩);refine fB (cs:=(ay (aA.sum b)).toArray) h6 ah aH Tryz.underlying30 rfl gV ?_)
       refine hget.mono ?_
       rintro ee w7 ⟨v,rfl,rfl,hs7⟩
       clear hget h6
       obtain ⟨P7,h7,ng⟩:=hs7.one
       have qQ:=uQ ng
       clear hs7 ng
       go_wp2_with fail
       have h8:=h7.drew
       clear h7
       have hct:=Lc (by have:=Hi.out;omega) (lg b) (qQ.out _ _ h8)
       rw [hT]at hct
       have hct:Calls _ _ _ _ (aI fun v w'=>v = .agg (aN ⟨0,0⟩).toArray∧gX w0 s m i i T (pt b18 (.cells (ay (aA.sum b)).toArray 30 (0,0))::aF 27 1 (.slice (some ⟨bk2,off2,none⟩) ts.length xc) (iE ts)::aF 3 1 (.slice (some ⟨tb,0,none⟩) us.length yc) (jh us)::F) w'):=hct
       have hG:World.cell? _ ⟨tb,j,none⟩=some (.int .i64 0)∧World.cell? _ ⟨bk2,off2+j,none⟩=some (.slice ba b.length bc)∧World.rangeAt _ b18 0 (ay (aA.sum b)):=⟨pz.out _ _ (h8.pick iy),Hct.out _ _ (h8.pick dM),fun j v hj=>h8.cellP aP (0+j) (by simpa using hj)⟩
       clear h8 hT
       refine dh [38,39] (fun w'=>w'.cell? ⟨tb,j,none⟩=some (.int .i64 0)∧w'.cell? ⟨bk2,off2+j,none⟩=some (.slice ba b.length bc)∧w'.rangeAt b18 0 (ay (aA.sum b))) au ?_
       refine rP 0 ?_ (y:=aG)
       refine rP 1 ?_ (y:=aG)
       refine rP 2 ?_ (y:=dZ)
       refine rt 3 (h:=?_)
       refine rP 4 ?_ (y:=dB)
       refine rP 5 ?_ (y:=aG)
       refine rP 6 ?_ (y:=(fV ah aj))
       refine rP 7 ?_ (y:=(jJ ah aj aj bT))
       refine rP 8 ?_ (y:=(jK ah aj aj))
       refine rP 9 ?_ (y:=aG)
       refine rP 10 ?_ (y:=(fV ah aj))
       refine rP 11 ?_ (y:=(fV ah aj))
       refine rP 12 ?_ (y:=(uO ah aj aj bT))
       refine dK 13 aj au bC (nC ah aj au (by intro wq hq;first|exact hq|exact hq.1|exact hq.2|exact hq.2.1|exact hq.2.2|exact hq.2.2.1|exact hq.2.2.2|exact hq.2.2.2.1|exact hq.2.2.2.2)) aQ gQ ?_
       refine rP 14 ?_ (y:=(jJ ah aj aj bT))
       refine rP 15 ?_ (y:=(fV ah aj))
       refine dF 16 aj au bC ah gQ ?_
       refine dF 17 aj au bC ah gQ ?_
       refine dF 18 aj au bC ah gQ ?_
       refine dF 19 aj au bC ah gQ ?_
       refine dF 20 aj au bC ah gQ ?_
       refine dF 21 aj au bC ah gQ ?_
       refine dF 22 aj au bC ah gQ ?_
       refine dF 23 aj au bC ah gQ ?_
       refine bG 24 aj au (fun K hK=>?_)
       refine Ee ah (hK _ _ (.inr (.inr rfl)) ?_)
       clear hK
       refine dF 25 aj au bC ah gQ ?_
       refine dF 26 aj au bC ah gQ ?_
       refine rP 27 ?_ (y:=(jK ah aj aj))
       refine rP 28 ?_ (y:=(jK ah aj aj))
       refine rP 29 ?_ (y:=aG)
       refine rP 30 ?_ (y:=(fV ah aj))
       refine dK 31 aj au bC (FN (b:=b18) (o:=0) (ay (aA.sum b)) ah ah Tryz.underlying30 rfl (by rw [dW.out];kernel_rfl) (fun w hw=>hw.2.2)) aQ gQ ?_
       refine rP 34 ?_ (y:=(fV ah aj))
       refine rP 35 ?_ (y:=(fV ah aj))
       refine rP 36 ?_ (y:=(uO ah aj aj bT))
       refine dK 37 aj au bC (nC ah aj au (by intro wq hq;first|exact hq|exact hq.1|exact hq.2|exact hq.2.1|exact hq.2.2|exact hq.2.2.1|exact hq.2.2.2|exact hq.2.2.2.1|exact hq.2.2.2.2)) aQ gQ ?_
       clear hG
       refine bG 32 aj au (fun K hK=>?_)
       refine zx [ptr s,.agg (ay (aA.sum b)).toArray] ah au ah ?_
       refine hct.mono ?_
       rintro ee w9 ⟨v,rfl,rfl,hs9⟩
       obtain ⟨P9,h9,Qk⟩:=hs9.one
       refine hK _ _ (.inr (.inl ⟨pz.out _ _ (h9.pick iy),Hct.out _ _ (h9.pick dM),fun j v hj=>h9.cellP aP (0+j) (by simpa using hj)⟩)) ?_
       clear hK hct
       refine rP 33 ?_ (y:=(LM ah aj (Ud 0 0)))
       refine rP 38 ?_ (y:=(jJ ah aj aj bT))
       refine rP 39 ?_ (y:=(jK ah aj aj))
       refine cu au ?_
       have V7:=uQ Qk
       have et:World.cell? _ ⟨tb,j,none⟩=some (.int .i64 0):=pz.out _ _ (h9.pick iy)
       clear hs9 Qk
       go_wp2_with fail
       go_roundg (ts.length - (j+1))
       case measure=>have:=Hj.out.1;omega
       case rel=>exact ⟨j+1,o,rfl,Hj.out.1,rfl,by first|rfl|go_num,by rw [← Ho.out];rfl,(V7.out _ _ h9).drop⟩
      focus
       have hget:=UK (by have:=Hi.out;omega) hT (Ro.os HH.out) (Ro.os lZ.out) hs6
       have ct1:decide ((t:Int)=0)=false:=decide_eq_false oQ
       have YK:decide (t=0)=false:=decide_eq_false oQ
       have ahE:((t:Int)==0)=false:=by rw [beq_eq_false_iff_ne];omega
       have ct2:decide ((0:Int)<(t:Int))=true:=decide_eq_true oQ
       have YL:decide (0<t)=true:=decide_eq_true ht0
       clear hs6
       go_wp2_with ((with_reducible refine bI ⟨?_⟩);refine fB (cs:=(ay (aA.sum b)).toArray) h6 ah aH Tryz.underlying30 rfl gV ?_)
       refine hget.mono ?_
       rintro ee w7 ⟨v,rfl,ga,gl,gc,rfl,hs7⟩
       clear hget h6
       obtain ⟨P7,h7,ng⟩:=hs7.one
       have qQ:=uQ ng
       clear hs7 ng
       go_wp2_with fail
       have h8:Sat w0 _ (P7::aK (.slice ga gl gc) b::pt b18 (.cells (ay (aA.sum b)).toArray 30 (0,0))::aF 27 1 (.slice (some ⟨bk2,off2,none⟩) ts.length xc) (iE ts)::aF 3 1 (.slice (some ⟨tb,0,none⟩) us.length yc) (jh us)::F):=h7.drew
       clear h7
       have hsm:=KJ (w0:=w0) (F:=P7::aK (.slice ga gl gc) b::pt b18 (.cells (ay (aA.sum b)).toArray 30 (0,0))::aF 27 1 (.slice (some ⟨bk2,off2,none⟩) ts.length xc) (iE ts)::aF 3 1 (.slice (some ⟨tb,0,none⟩) us.length yc) (jh us)::F) (av:= .slice ga gl gc) (bv:= .slice ba b.length bc) b b (Ro.J5 (Ro.aK _ _) aP) (Ro.os vF.out.rd) h8 (by have:=xu.out;omega)
       rw [decide_eq_true (show b=b from rfl)]at hsm
       have hG:World.cell? _ ⟨tb,j,none⟩=some (.int .i64 (t:Nat))∧World.cell? _ ⟨bk2,off2+j,none⟩=some (.slice ba b.length bc)∧World.rangeAt _ b18 0 (ay (aA.sum b)):=⟨pz.out _ _ (h8.pick ny),Hct.out _ _ (h8.pick iy),fun j v hj=>h8.cellP dM (0+j) (by simpa using hj)⟩
       have HT:=uQ hT
       clear h8 hT ht0
       refine dh [38,39] (fun w'=>w'.cell? ⟨tb,j,none⟩=some (.int .i64 (t:Nat))∧w'.cell? ⟨bk2,off2+j,none⟩=some (.slice ba b.length bc)∧w'.rangeAt b18 0 (ay (aA.sum b))) au ?_
       refine rP 0 ?_ (y:=aG)
       refine rP 1 ?_ (y:=aG)
       refine rP 2 ?_ (y:=dZ)
       refine rt 3 (h:=?_)
       refine rP 4 ?_ (y:=dB)
       refine rP 5 ?_ (y:=aG)
       refine dF 6 aj au bC ah gQ ?_
       refine dF 7 aj au bC ah gQ ?_
       refine rP 8 ?_ (y:=(jK ah aj aj))
       refine rP 9 ?_ (y:=aG)
       refine rP 10 ?_ (y:=(fV ah aj))
       refine rP 11 ?_ (y:=(fV ah aj))
       refine rP 12 ?_ (y:=(uO ah aj aj bT))
       refine dK 13 aj au bC (nC ah aj au (by intro wq hq;first|exact hq|exact hq.1|exact hq.2|exact hq.2.1|exact hq.2.2|exact hq.2.2.1|exact hq.2.2.2|exact hq.2.2.2.1|exact hq.2.2.2.2)) aQ gQ ?_
       refine rP 14 ?_ (y:=(jJ ah aj aj bT))
       refine rP 15 ?_ (y:=(fV ah aj))
       refine rP 16 ?_ (y:=(fV ah aj))
       refine rP 17 ?_ (y:=(jJ ah aj aj bT))
       refine rP 18 ?_ (y:=(fV ah aj))
       refine rP 19 ?_ (y:=(fV ah aj))
       refine rP 20 ?_ (y:=(fV ah aj))
       refine rP 21 ?_ (y:=(fV ah aj))
       refine rP 22 ?_ (y:=(uO ah aj aj bT))
       refine dK 23 aj au bC (nC ah aj au (by intro wq hq;first|exact hq|exact hq.1|exact hq.2|exact hq.2.1|exact hq.2.2|exact hq.2.2.1|exact hq.2.2.2|exact hq.2.2.2.1|exact hq.2.2.2.2)) aQ gQ ?_
       clear hG
       refine bG 24 aj au (fun K hK=>?_)
       refine zx [.slice ga gl gc,.slice ba b.length bc] ah au ah ?_
       refine hsm.mono ?_
       rintro ee w9 ⟨v,rfl,rfl,h9⟩
       have hG:World.cell? _ ⟨tb,j,none⟩=some (.int .i64 (t:Nat))∧World.cell? _ ⟨bk2,off2+j,none⟩=some (.slice ba b.length bc)∧World.rangeAt _ b18 0 (ay (aA.sum b)):=⟨pz.out _ _ (h9.pick ny),Hct.out _ _ (h9.pick iy),fun j v hj=>h9.cellP dM (0+j) (by simpa using hj)⟩
       refine hK _ _ (.inr (.inl hG)) ?_
       clear hK hsm
       have hct:=Lc (by have:=Hi.out;omega) (lg b) (qQ.out _ _ h9)
       rw [HT.out]at hct
       have hct:Calls _ _ _ _ (aI fun v w'=>v = .agg (aN ⟨(t:Nat),(b.length:Nat)⟩).toArray∧gX w0 s m i i T (aK (.slice ga gl gc) b::pt b18 (.cells (ay (aA.sum b)).toArray 30 (0,0))::aF 27 1 (.slice (some ⟨bk2,off2,none⟩) ts.length xc) (iE ts)::aF 3 1 (.slice (some ⟨tb,0,none⟩) us.length yc) (jh us)::F) w'):=hct
       clear h9
       refine rP 25 ?_ (y:=(VB ah aj bT))
       refine rP 26 ?_ (y:=(jK ah aj aj))
       refine rP 27 ?_ (y:=(jK ah aj aj))
       refine rP 28 ?_ (y:=(jK ah aj aj))
       refine rP 29 ?_ (y:=aG)
       refine rP 30 ?_ (y:=(fV ah aj))
       refine dK 31 aj au bC (FN (b:=b18) (o:=0) (ay (aA.sum b)) ah ah Tryz.underlying30 rfl (by rw [dW.out];kernel_rfl) (fun w hw=>hw.2.2)) aQ gQ ?_
       refine rP 34 ?_ (y:=(fV ah aj))
       refine rP 35 ?_ (y:=(fV ah aj))
       refine rP 36 ?_ (y:=(uO ah aj aj bT))
       refine dK 37 aj au bC (nC ah aj au (by intro wq hq;first|exact hq|exact hq.1|exact hq.2|exact hq.2.1|exact hq.2.2|exact hq.2.2.1|exact hq.2.2.2|exact hq.2.2.2.1|exact hq.2.2.2.2)) aQ gQ ?_
       clear hG
       refine bG 32 aj au (fun K hK=>?_)
       refine zx [ptr s,.agg (ay (aA.sum b)).toArray] ah au ah ?_
       refine hct.mono ?_
       rintro ee w10 ⟨v,rfl,rfl,hs10⟩
       obtain ⟨P10,h10,Qj⟩:=hs10.one
       refine hK _ _ (.inr (.inl ⟨pz.out _ _ (h10.pick ny),Hct.out _ _ (h10.pick iy),fun j v hj=>h10.cellP dM (0+j) (by simpa using hj)⟩)) ?_
       clear hK hct
       refine rp 33 (hy:=(LM ah aj (Ud (t:Nat) (b.length:Nat)))) (h:=?_)
       refine rP 38 ?_ (y:=(jJ ah aj aj bT))
       refine rP 39 ?_ (y:=(jK ah aj aj))
       refine cu au ?_
       have V6:=uQ Qj
       have et:World.cell? _ ⟨tb,j,none⟩=some (.int .i64 (t:Nat)):=pz.out _ _ (h10.pick ny)
       have hwo:IntKind.i64.wrap ((o:Int)+1)=((o+1:Nat):Int):=by rw [IntWalk.i64_in _ (by have:=Gw.out;omega)];omega
       clear hs10 Qj ct1 YK
       go_wp2_with fail
       go_roundg (ts.length - (j+1))
       case measure=>have:=Hj.out.1;omega
       case rel=>exact ⟨j+1,o+1,rfl,Hj.out.1,by first|rfl|go_num,by first|rfl|go_num,by rw [← Ho.out,if_pos (of_decide_eq_true YL)],(V6.out _ _ h10).drop.drop⟩
      focus
       subst ht0
       have hget:=UK (by have:=Hi.out;omega) hT (Ro.os HH.out) (Ro.os lZ.out) hs6
       have Htw:=uQ (Hk.out.twin htw)
       clear hs6 hT htw
       go_wp2_with ((with_reducible refine bI ⟨?_⟩);refine fB (cs:=(ay (aA.sum b)).toArray) h6 ah aH Tryz.underlying30 rfl gV ?_)
       refine hget.mono ?_
       rintro ee w7 ⟨v,rfl,ga,gl,gc,rfl,hs7⟩
       clear hget h6
       obtain ⟨P7,h7,_⟩:=hs7.one
       clear hs7
       go_wp2_with fail
       have h8:=h7.drew
       clear h7
       have hG:World.cell? _ ⟨tb,j,none⟩=some (.int .i64 0)∧World.cell? _ ⟨bk2,off2+j,none⟩=some (.slice ba b.length bc)∧World.rangeAt _ b18 0 (ay (aA.sum b)):=⟨pz.out _ _ (h8.pick ny),Hct.out _ _ (h8.pick iy),fun j v hj=>h8.cellP dM (0+j) (by simpa using hj)⟩
       refine dh [38,39] (fun w'=>w'.cell? ⟨tb,j,none⟩=some (.int .i64 0)∧w'.cell? ⟨bk2,off2+j,none⟩=some (.slice ba b.length bc)∧w'.rangeAt b18 0 (ay (aA.sum b))) au ?_
       refine rP 0 ?_ (y:=aG)
       refine rP 1 ?_ (y:=aG)
       refine rP 2 ?_ (y:=dZ)
       refine rt 3 (h:=?_)
       clear hG
       refine rP 4 ?_ (y:=dB)
       refine rP 5 ?_ (y:=aG)
       refine rP 6 ?_ (y:=(fV ah aj))
       refine rP 7 ?_ (y:=(jJ ah aj aj bT))
       refine rP 8 ?_ (y:=(jK ah aj aj))
       refine rP 9 ?_ (y:=aG)
       refine dF 10 aj au bC ah gQ ?_
       refine dF 11 aj au bC ah gQ ?_
       refine dF 12 aj au bC ah gQ ?_
       refine dF 13 aj au bC ah gQ ?_
       refine dF 14 aj au bC ah gQ ?_
       refine dF 15 aj au bC ah gQ ?_
       refine dF 16 aj au bC ah gQ ?_
       refine dF 17 aj au bC ah gQ ?_
       refine dF 18 aj au bC ah gQ ?_
       refine dF 19 aj au bC ah gQ ?_
       refine dF 20 aj au bC ah gQ ?_
       refine dF 21 aj au bC ah gQ ?_
       refine dF 22 aj au bC ah gQ ?_
       refine dF 23 aj au bC ah gQ ?_
       refine bG 24 aj au (fun K hK=>?_)
       refine Ee ah (hK _ _ (.inr (.inr rfl)) ?_)
       clear hK
       refine dF 25 aj au bC ah gQ ?_
       refine dF 26 aj au bC ah gQ ?_
       refine dF 27 aj au bC ah gQ ?_
       refine rP 28 ?_ (y:=(jK ah aj aj))
       refine rP 29 ?_ (y:=aG)
       refine dF 30 aj au bC ah gQ ?_
       refine dF 31 aj au bC ah gQ ?_
       refine dF 34 aj au bC ah gQ ?_
       refine dF 35 aj au bC ah gQ ?_
       refine dF 36 aj au bC ah gQ ?_
       refine dF 37 aj au bC ah gQ ?_
       refine bG 32 aj au (fun K hK=>?_)
       refine Ee ah (hK _ _ (.inr (.inr rfl)) ?_)
       clear hK
       refine dF 33 aj au bC ah gQ ?_
       refine dF 38 aj au bC ah gQ ?_
       refine rP 39 ?_ (y:=(jK ah aj aj))
       refine cu au ?_
       go_wp2_with fail
       go_ret
       exact ⟨_,rfl,⟨false,rfl,fun _=>Htw.out⟩,h8.sb⟩
  as_aux_lemma=>
   obtain ⟨P,hS,hP⟩:=hst.one
   obtain ⟨d,hd⟩:∃ d,es[i]?=some d:=⟨_,List.getElem?_eq_getElem hlt⟩
   have hdm:=List.mem_of_getElem? hd
   have hrb:=HE.out d hdm
   have hdl:=HB.out d hdm
   have hmem:d.b∈es.map (·.b):=List.mem_map.2 ⟨d,hdm,rfl⟩
   have hx0:(jC es)[i * 5+0]?=some (.int .i64 d.kind):=AY hd rfl
   obtain ⟨bk,off,rfl,_⟩:=iU (HL.out _ (hS.sb:Sat w0 wr F)) hx0
   have Hc:=uQ (show ∀ (w':World),Sat w0 w' F→w'.cell? ⟨bk,off+i * 5,none⟩=some (.int .i64 d.kind)∧w'.cell? ⟨bk,off+i * 5+1,none⟩=some d.bv by
    intro w' hw
    obtain ⟨_,_,ru,hcell⟩:=iU (HL.out _ hw) hx0
    cases ru
    exact ⟨hcell _ _ hx0,hcell _ _ (AY hd (j:=1) rfl)⟩)
   obtain ⟨kind,b,bv,dn,dm,YT⟩:=d
   have hrb:RS w0 F bv b:=hrb
   have hdl:b.length≤150:=hdl
   have hfind:=Zt (b:=b) (by have:=hk.n;have:=HN.out;omega) (fun w' hw=>Sat.rd (hw.pick aP)) (hk.tx.more iJ) hk.len (hrb.more iJ) (hS:Sat w0 wr (P::aF 27 1 xv (iE ts)::aF 3 1 yv (jh us)::F))
   obtain ⟨ba,bc,rfl,k1,k2⟩:=hrb.len (hS.sb:Sat w0 wr F)
   have e1:=(Hc.out _ (hS.sb)).2
   have c1:(i:Int)<(es.length:Int):=oQ
   have hwi:IntKind.i64.wrap ((i:Int)+1)=((i+1:Nat):Int):=by rw [IntWalk.i64_in _ (by have:=HN.out;omega)];omega
   have vF:=uQ hrb;have xu:=uQ hdl;have WQ:=uQ hmem;have dH:=uQ hlt;have HP:=uQ hP;have Hk:=uQ hk
   clear hlt hi hk hst hS hP hd hdm hrb hdl hmem hx0 k1 k2
   go_wp2_with fail
   refine hfind.mono ?_
   rintro ee w2 ⟨v,rfl,hfs,h2⟩
   clear hfind e1
   rcases hfs with ⟨a,x,rfl,hx,hxb⟩|⟨rfl,hno⟩
   focus
    have hnd:decide ((a:Int)<0)=false:=decide_eq_false oQ
    obtain ⟨t,hut⟩:=Hk.out.at hx
    rw [hxb]at hut
    have oH:=uQ Hk.out.up
    have qo:=uQ hut
    have MW:=uQ (show t≤i from Hk.out.c _ (List.mem_of_getElem? hut))
    have e1:=(Hc.out _ (h2.sb)).2
    clear hx hxb hut
    go_wp2_with fail
    clear e1
    obtain ⟨mP,hq⟩:∃ y,y=us:=⟨_,rfl⟩
    subst hq
    obtain ⟨sZ,hq⟩:∃ y,y=ts:=⟨_,rfl⟩
    subst hq
    obtain ⟨xw,hq⟩:∃ y,y=xv:=⟨_,rfl⟩
    subst hq
    obtain ⟨yw,hq⟩:∃ y,y=yv:=⟨_,rfl⟩
    subst hq
    obtain ⟨w3,hq⟩:∃ y,y=w2:=⟨_,rfl⟩
    subst hq
    have h3:=h2
    clear h2 Hk hnd
   rotate_left
   focus
    have e1:=(Hc.out _ (h2.sb)).2
    have oH:=uQ (Hk.out.new hno vF.out xu.out WQ.out)
    have EG:=Hk.out.ul
    have htl:=Hk.out.n
    obtain ⟨a,ha⟩:∃ a,ts.length=a:=⟨_,rfl⟩
    obtain ⟨t,qo,MW⟩:∃ t,Hid ((us++[(b,0)])[a]?=some (b,t))∧Hid (t≤i):=⟨0,uQ (by rw [← ha,← EG,List.getElem?_append_right (Nat.le_refl _),Nat.sub_self];rfl),uQ (Nat.zero_le _)⟩
    clear hno
    go_wp2_with (with_reducible apply kU)
    refine ⟨lu (e:=27) (sz:=1) (dX:=24) au h2 ah (cs:=#[.slice ba b.length bc]) rfl rfl bH ?_⟩
    intro bN wN hN
    clear h2
    go_wp2_with (with_reducible apply jf)
    refine ⟨lq 27 1 24 au hN ah ah (xs:=iE ts) dM aH ah (Nat.le_refl 1) ah (by unfold iE;rw [List.length_map];have:=HN.out;have:=dH.out;omega) (by show 1≤65536;decide) aJ (ys:=[.slice ba b.length bc]) rfl ?_⟩
    intro bA nA cA wA hA
    have hA2:Sat w0 wA (aF 27 1 (.slice (some ⟨bA,0,none⟩) nA cA) (iE (ts++[(.slice ba b.length bc,b)]))::P::aF 3 1 yv (jh us)::F):=by
     unfold iE
     rw [List.map_append]
     exact hA
    have hnA:nA=a+1:=by
     obtain ⟨_,_,_,he,hl2,_⟩:=Sat.rd hA2
     cases he
     unfold iE at hl2
     rw [List.length_map,List.length_append,Nat.mul_one]at hl2
     rw [← ha]
     exact hl2.symm
    have MN:=uQ hnA
    clear hN hA hnA
    go_wp2_with (with_reducible apply kU)
    refine ⟨lu (e:=3) (sz:=1) (dX:=8) au hA2 ah (cs:=#[.int .i64 0]) rfl rfl bH ?_⟩
    intro bM wM hM
    clear hA2
    go_wp2_with (with_reducible apply jf)
    refine ⟨lq 3 1 8 au hM ah ah (xs:=jh us) iy aH ah (Nat.le_refl 1) ah (by rw [zL];have:=HN.out;have:=dH.out;omega) (by show 1≤65536;decide) aJ (ys:=[.int .i64 0]) rfl ?_⟩
    intro bZ nZ cZ w3 hZ
    rw [← acr us b]at hZ
    have h3:Sat w0 w3 (P::aF 27 1 (.slice (some ⟨bA,0,none⟩) nA cA) (iE (ts++[(.slice ba b.length bc,b)]))::aF 3 1 (.slice (some ⟨bZ,0,none⟩) nZ cZ) (jh (us++[(b,0)]))::F):=hZ.sb
    have e1:=(Hc.out _ (h3.sb)).2
    have aaC:IntKind.i64.wrap ((nA:Int) - 1)=(a:Int):=by rw [IntWalk.i64_in _ (by have:=HN.out;have:=dH.out;have:=MN.out;omega)];have:=MN.out;omega
    clear hM hZ ha EG htl
    go_wp2_with fail
    clear aaC e1 Hk
    generalize ts++[(.slice ba b.length bc,b)]=sZ at *
    generalize us++[(b,0)]=mP at *
    generalize Value.slice (some ⟨bA,0,none⟩) nA cA=xw at *
    generalize Value.slice (some ⟨bZ,0,none⟩) nZ cZ=yw at *
   all_goals as_aux_lemma=>
    have hut:=qo.out
    have hk2:=oH.out
    have hal:a<mP.length:=(List.getElem?_eq_some_iff.1 hut).1
    have BQ:t≤i+1:=hk2.c _ (List.mem_of_getElem? hut)
    have Qq:i<40:=Nat.lt_of_lt_of_le dH.out HN.out
    obtain ⟨ya,yc,rfl⟩:=jm (f:=zK) (k:=1) (l:=mP) (fun x _=>rfl) (Sat.rd (h3.pick dM)) aJ
    obtain ⟨tb,rfl⟩:=sO (h3.pick dM) (by rw [zL];omega)
    have pz:=uQ (show ∀ (w':World) (R:List aC),Sat w0 w' (aF 3 1 (.slice (some ⟨tb,0,none⟩) mP.length yc) (jh mP)::R)→w'.cell? ⟨tb,a,none⟩=some (.int .i64 (t:Nat)) from fun w' R hw=>by
     obtain ⟨HY,off',ru,hcell⟩:=iU (Sat.rd hw) (EO hut)
     cases ru
     have:=hcell _ _ (EO hut)
     rwa [Nat.zero_add]at this)
    have hsum:=Fj (b:=b) (by have:=xu.out;omega) (vF.out.more iJ) h3
    have dw:=uQ (show (ay (aA.sum b)).toArray.size=32 by rw [List.size_toArray,aU,lg b])
    have jA:=uQ (show (ay (aA.sum b)).toArray.toList.all (·.oneCell')=true by rw [List.all_eq_true];exact jU _)
    have gV:(Tryz.prog.info? 30).map (·.size)=some (ay (aA.sum b)).toArray.size:=by rw [dw.out];kernel_rfl
    have c2:(a:Int)<(mP.length:Int):=oQ
    have c3:(0:Int)≤(a:Int):=oQ
    have Ha:=uQ (And.intro hal (And.intro BQ Qq))
    clear hut hk2 hal BQ Qq
    refine hsum.mono ?_
    rintro ee w4 ⟨v,rfl,rfl,h4⟩
    clear hsum h3
    go_wp2_with (with_reducible apply dY)
    refine ⟨dS oz h4 rfl ?_⟩
    intro b12 w5 h5
    clear h4
    go_wp2_with (with_reducible apply bU)
    refine ⟨eH (ay (aA.sum b)).toArray h5 ah ah (dw.out.trans ah) bJ gV jA.out ?_⟩
    intro w6 h6
    clear h5
    have e0:=(Hc.out _ (h6.sb)).1
    have hs6:gX w0 s m i i T (pt b12 (.cells (ay (aA.sum b)).toArray 30 (0,0))::aF 27 1 xw (iE sZ)::aF 3 1 (.slice (some ⟨tb,0,none⟩) mP.length yc) (jh mP)::F) w6:=HP.out _ _ h6.aP
    by_cases hkd:kind=1
    ·subst hkd
     have et:=pz.out w6 _ (h6.pick iy)
     have hrel:=afJ (by have:=Ha.out;omega) (by have:=Ha.out;omega) (lg b) (Ro.os HH.out) hs6
     clear hs6
     rcases oH.out.bk.at qo.out with ⟨hT,ht0⟩|⟨ht0,hT⟩|⟨ht0,⟨p,hT⟩,htw⟩
     focus
      rw [hT]at hrel
      have wJ:Calls _ _ _ _ (aI fun v w'=>v=errno 9∧gX w0 s m (i+1) (i+1) (T.rel (aA.sum b)) (pt b12 (.cells (ay (aA.sum b)).toArray 30 (0,0))::aF 27 1 xw (iE sZ)::aF 3 1 (.slice (some ⟨tb,0,none⟩) mP.length yc) (jh mP)::F) w'):=hrel
      have uU:=uQ (show Seg.Bk (T.rel (aA.sum b)) (mP.set a (b,t - 1)) by
       subst ht0
       have e:T.rel (aA.sum b)=T:=by unfold Seg.TT.rel;rw [hT]
       rw [e,show (0 - 1:Nat)=0 from rfl,oH.out.same qo.out]
       exact oH.out.bk)
      have c16:decide ((t:Int)=0)=true:=decide_eq_true oQ
      have c16b:((t:Int)==0)=true:=by rw [beq_iff_eq];omega
      have Bc:decide (t=0)=true:=decide_eq_true ht0
      obtain ⟨t',ht'⟩:∃ t',t - 1=t':=⟨_,rfl⟩
      have hmx:max ((t:Int) - 1) 0=(t':Int):=oQ
      have hwt:IntKind.i64.wrap ((t:Int) - 1)=(t:Int) - 1:=IntWalk.i64_in _ (by have:=Ha.out;omega)
      have AP:=uQ (show t'≤i+1 by have:=Ha.out;omega)
      rw [ht']at uU
      clear hrel hT ht0 ht'
      go_wp2_with ((with_reducible refine bI ⟨?_⟩);refine fB (cs:=(ay (aA.sum b)).toArray) h6 ah aH Tryz.underlying30 rfl gV ?_)
      refine wJ.mono ?_
      rintro ee w7 ⟨v,rfl,rfl,hs7⟩
      clear wJ et h6
      obtain ⟨P7,h7,ng⟩:=hs7.one
      have et:=pz.out w7 _ (h7.pick iy)
      have qQ:=uQ ng
      clear hs7 ng c16 Bc c16b
      go_wp2_with (with_reducible apply bU)
      refine ⟨Dp (vs:=[.int .i64 (t':Nat)]) a h7 ah ah rfl (fD (fD (fD bJ))) (by rw [zL];exact Ha.out.1) au ah ?_⟩
      intro w8 h8
      rw [JZ (b:=b) Ha.out.1]at h8
      clear h7 et hmx hwt e0
      go_wp2_with fail
      go_roundg (es.length - (i+1))
      case measure=>have:=dH.out;omega
      case rel=>exact ⟨i+1,_,sZ,xw,_,_,rfl,dH.out,rfl,rfl,by first|rfl|go_num,oH.out.set qo.out uU.out AP.out,(qQ.out _ _ h8).drop⟩
     focus
      rw [hT]at hrel
      have wJ:Calls _ _ _ _ (aI fun v w'=>v=errno 0∧gX w0 s m (i+1) (i+1) (T.rel (aA.sum b)) (pt b12 (.cells (ay (aA.sum b)).toArray 30 (0,0))::aF 27 1 xw (iE sZ)::aF 3 1 (.slice (some ⟨tb,0,none⟩) mP.length yc) (jh mP)::F) w'):=hrel
      have uU:=uQ (oH.out.bk.rel qo.out ht0 hT)
      have c16:decide ((t:Int)=0)=false:=decide_eq_false oQ
      have c16b:((t:Int)==0)=false:=by rw [beq_eq_false_iff_ne];omega
      have Bc:decide (t=0)=false:=decide_eq_false oQ
      obtain ⟨t',ht'⟩:∃ t',t - 1=t':=⟨_,rfl⟩
      have hmx:max ((t:Int) - 1) 0=(t':Int):=oQ
      have hwt:IntKind.i64.wrap ((t:Int) - 1)=(t:Int) - 1:=IntWalk.i64_in _ (by have:=Ha.out;omega)
      have AP:=uQ (show t'≤i+1 by have:=Ha.out;omega)
      rw [ht']at uU
      clear hrel hT ht0 ht'
      go_wp2_with ((with_reducible refine bI ⟨?_⟩);refine fB (cs:=(ay (aA.sum b)).toArray) h6 ah aH Tryz.underlying30 rfl gV ?_)
      refine wJ.mono ?_
      rintro ee w7 ⟨v,rfl,rfl,hs7⟩
      clear wJ et h6
      obtain ⟨P7,h7,ng⟩:=hs7.one
      have et:=pz.out w7 _ (h7.pick iy)
      have qQ:=uQ ng
      clear hs7 ng c16 Bc c16b
      go_wp2_with (with_reducible apply bU)
      refine ⟨Dp (vs:=[.int .i64 (t':Nat)]) a h7 ah ah rfl (fD (fD (fD bJ))) (by rw [zL];exact Ha.out.1) au ah ?_⟩
      intro w8 h8
      rw [JZ (b:=b) Ha.out.1]at h8
      clear h7 et hmx hwt e0
      go_wp2_with fail
      go_roundg (es.length - (i+1))
      case measure=>have:=dH.out;omega
      case rel=>exact ⟨i+1,_,sZ,xw,_,_,rfl,dH.out,rfl,rfl,by first|rfl|go_num,oH.out.set qo.out uU.out AP.out,(qQ.out _ _ h8).drop⟩
     focus
      rw [hT]at hrel
      have wJ:Calls _ _ _ _ (aI fun v w'=>v=errno 0∧gX w0 s m (i+1) (i+1) (T.rel (aA.sum b)) (pt b12 (.cells (ay (aA.sum b)).toArray 30 (0,0))::aF 27 1 xw (iE sZ)::aF 3 1 (.slice (some ⟨tb,0,none⟩) mP.length yc) (jh mP)::F) w'):=hrel
      have Htw:=uQ (oH.out.twin htw)
      have c16:decide ((t:Int)=0)=true:=decide_eq_true oQ
      have c16b:((t:Int)==0)=true:=by rw [beq_iff_eq];omega
      have Bc:decide (t=0)=true:=decide_eq_true ht0
      clear hrel hT ht0 htw
      go_wp2_with ((with_reducible refine bI ⟨?_⟩);refine fB (cs:=(ay (aA.sum b)).toArray) h6 ah aH Tryz.underlying30 rfl gV ?_)
      refine wJ.mono ?_
      rintro ee w7 ⟨v,rfl,rfl,hs7⟩
      clear wJ et h6
      obtain ⟨P7,h7,_⟩:=hs7.one
      clear hs7 c16 Bc c16b
      go_wp2_with fail
      go_ret
      exact ⟨_,rfl,⟨false,rfl,fun _=>Htw.out⟩,h7.sb⟩
    ·have Qu:decide (kind=1)=false:=decide_eq_false hkd
     have e1:=(Hc.out _ (h6.sb)).2
     have hput:=UM (by have:=Ha.out;omega) (by have:=Ha.out;omega) xu.out (vF.out.more iJ) (Ro.os HH.out) (Ro.os lZ.out) hs6
     have hkl:=lg b
     clear hs6 h6
     go_wp2_with fail
     refine hput.mono ?_
     rintro ee w7 ⟨v,rfl,⟨rfl,hz,hT,hs7⟩|⟨rfl,hs7,hcl⟩⟩
     focus
      obtain ⟨P7,h7,ng⟩:=hs7.one
      have qQ:=uQ ng
      have uU:=uQ (oH.out.bk.put qo.out hT)
      have IY:∀ w,(Op.equalIn 10000 30 (.agg (ay (aA.sum b)).toArray) (.agg (ay ak.zero32).toArray)).run Tryz.prog w = .ok false w:=fun w=>by rw [pJ _ _ hkl aJ,decide_eq_false hz]
      have aai:∀ w,(Op.equalIn 10000 30 (.agg (ay (aA.sum b)).toArray) (.agg (ay (aA.sum b)).toArray)).run Tryz.prog w = .ok true w:=fun w=>by rw [pJ _ _ hkl hkl,decide_eq_true rfl]
      obtain ⟨t',ht'⟩:∃ t',t+1=t':=⟨_,rfl⟩
      have hwt:IntKind.i64.wrap ((t:Int)+1)=(t':Int):=by rw [IntWalk.i64_in _ (by have:=Ha.out;omega)];omega
      have AP:=uQ (show t'≤i+1 by have:=MW.out;omega)
      rw [ht']at uU
      clear hput hs7 ng hz hT hkl e1 e0 hkd Qu ht'
      go_wp2_with (with_reducible apply dY)
      refine ⟨dS oz h7 rfl ?_⟩
      intro b14 w8 h8
      clear h7
      go_wp2_with (with_reducible apply bU)
      refine ⟨eH (ay (aA.sum b)).toArray h8 ah ah (dw.out.trans ah) bJ gV jA.out ?_⟩
      intro w9 h9
      clear h8
      have et:=pz.out w9 _ (h9.pick ny)
      go_wp2_with (first
       |((with_reducible apply U7);refine ⟨?_⟩;refine U8 ah ?_;first|refine fB (cs:=(ay (aA.sum b)).toArray) h9 ah aH Tryz.underlying30 rfl gV ?_|refine fB (cs:=(ay (aA.sum b)).toArray) h9 ah dM Tryz.underlying30 rfl gV ?_)
       |((with_reducible refine bI ⟨?_⟩);refine fB (cs:=(ay (aA.sum b)).toArray) h9 ah dM Tryz.underlying30 rfl gV ?_)
       |((with_reducible refine rZ ⟨?_⟩);refine tC yJ ?_)
       |(with_reducible apply bU))
      refine ⟨Dp (vs:=[.int .i64 (t':Nat)]) a h9 ah ah rfl (fD (fD (fD (fD bJ)))) (by rw [zL];exact Ha.out.1) au ah ?_⟩
      intro w10 h10
      rw [JZ (b:=b) Ha.out.1]at h10
      clear h9 et hwt IY aai
      go_wp2_with fail
      go_roundg (es.length - (i+1))
      case measure=>have:=dH.out;omega
      case rel=>exact ⟨i+1,_,sZ,xw,_,_,rfl,dH.out,rfl,rfl,by first|rfl|go_num,oH.out.set qo.out uU.out AP.out,(qQ.out _ _ h10.drop).drop⟩
     focus
      obtain ⟨P7,h7,ng⟩:=hs7.one
      have qQ:=uQ ng
      have aar:(Tryz.prog.info? 30).map (·.size)=some (ay ak.zero32).toArray.size:=by kernel_rfl
      have aaw:(ay ak.zero32).toArray.toList.all (·.oneCell')=true:=by rw [List.all_eq_true];exact jU _
      clear hput hs7 ng e1 e0 hkd Qu
      go_wp2_with (with_reducible apply dY)
      refine ⟨dS oz h7 rfl ?_⟩
      intro b14 w8 h8
      clear h7
      go_wp2_with (with_reducible apply bU)
      refine ⟨eH (ay ak.zero32).toArray h8 ah ah ah bJ aar aaw ?_⟩
      intro w9 h9
      clear h8
      by_cases hz:aA.sum b=ak.zero32
      ·have IY:∀ w,(Op.equalIn 10000 30 (.agg (ay (aA.sum b)).toArray) (.agg (ay ak.zero32).toArray)).run Tryz.prog w = .ok true w:=fun w=>by rw [pJ _ _ hkl aJ,decide_eq_true hz]
       clear hz hcl hkl
       go_wp2_with (first
        |((with_reducible refine bI ⟨?_⟩);refine fB (cs:=(ay (aA.sum b)).toArray) h9 ah dM Tryz.underlying30 rfl gV ?_)
        |((with_reducible refine rZ ⟨?_⟩);refine tC yJ ?_))
       go_roundg (es.length - (i+1))
       case measure=>have:=dH.out;omega
       case rel=>exact ⟨i+1,mP,sZ,xw,_,_,rfl,dH.out,rfl,rfl,by first|rfl|go_num,oH.out,(qQ.out _ _ (h9.sb:Sat w0 w9 (P7::aF 27 1 xw (iE sZ)::aF 3 1 (.slice (some ⟨tb,0,none⟩) mP.length yc) (jh mP)::F))).mono (Nat.le_succ _) (Nat.le_succ _)⟩
      ·have IY:∀ w,(Op.equalIn 10000 30 (.agg (ay (aA.sum b)).toArray) (.agg (ay ak.zero32).toArray)).run Tryz.prog w = .ok false w:=fun w=>by rw [pJ _ _ hkl aJ,decide_eq_false hz]
       have Htw:=uQ (show Seg.Twins (es.map (·.b)) by
        rcases hcl with hcl|⟨u,cc,hu,hne⟩
        ·exact absurd hcl hz
        ·obtain ⟨a1,a2,a3⟩:=oH.out.bk.of _ _ hu
         exact oH.out.twin ⟨u,List.mem_map.2 ⟨_,a2,rfl⟩,b,List.mem_map.2 ⟨_,List.mem_of_getElem? qo.out,rfl⟩,hne,a1.symm⟩)
       clear hz hcl hkl
       go_wp2_with (first
        |((with_reducible refine bI ⟨?_⟩);refine fB (cs:=(ay (aA.sum b)).toArray) h9 ah dM Tryz.underlying30 rfl gV ?_)
        |((with_reducible refine rZ ⟨?_⟩);refine tC yJ ?_))
       go_ret
       exact ⟨_,rfl,⟨false,rfl,fun _=>Htw.out⟩,h9.sb⟩
end
def qN (d:BD):Value×ak.Bs:=(d.bv,d.b)
section
variable {w0 w:World}{F:List aC}
set_option maxRecDepth 20000 in
theorem Yw (z:Int) (ds:List BD){lv:Value} (hl:Ro w0 F (bK 5 lv (jC ds))) (he:∀ d∈ds,F8 w0 F d) (hH:Ro w0 F Half) (jl:Ro w0 F kE) (h:Sat w0 w F) :
  Calls Tryz.prog 4 #[.int .i64 z,lv] w (aI fun v w'=>v = .bool true∧Sat w0 w' F):=by
 have hfw:=Zn ds 40 aJ hl he h
 have HH:=uQ hH;have lZ:=uQ jl
 clear hl he hH jl h
 go_enter Tryz.func4,Tryz.ntmps4
 go_wp2_with fail
 refine hfw.mono ?_
 rintro ee w1 ⟨v,rfl,es,hn,hbl,h1⟩
 clear hfw
 obtain ⟨la,ln,lc,rfl,hll,_⟩:=Sat.rd h1
 rw [DY]at hll
 obtain rfl:ln=es.length:=by omega
 have Hn:=uQ hn;have lK:=uQ hbl
 clear hn hbl hll
 go_wp2_with fail
 go_loopg [5,6] es.length (fun g xq iq wr=>∃ (i:Nat) (xv:Value),g=es.length - i∧i≤es.length∧xv=xq∧iq = .int .i64 i∧Sat w0 wr (aF 27 1 xv (iE ((es.take i).map qN))::aF 46 5 (.slice la es.length lc) (jC es)::mD es::F))
 case atStart=>exact ⟨0,_,rfl,Nat.zero_le _,rfl,rfl,Sat.fM.2 h1⟩
 case round=>
  obtain ⟨i,xv,rfl,hi,rfl,rfl,hS⟩:=hrel
  clear h1
  by_cases hlt:i<es.length
  ·obtain ⟨d,hd⟩:∃ d,es[i]?=some d:=⟨_,List.getElem?_eq_getElem hlt⟩
   have hdm:=List.mem_of_getElem? hd
   have hrb:=Hy (R:=F) hdm (hS.pick dM)
   have hx1:(jC es)[i * 5+1]?=some d.bv:=AY hd (j:=1) rfl
   obtain ⟨bk,off,ru,hc⟩:=iU (Sat.rd (hS.pick aP)) hx1
   cases ru
   have e1:wr.cell? ⟨bk,off+i * 5+1,none⟩=some d.bv:=by rw [Nat.add_assoc];exact hc _ _ hx1
   have iM:=uQ (show (es.take (i+1)).map qN=(es.take i).map qN++[qN d] by rw [List.take_add_one,hd,List.map_append];rfl)
   obtain ⟨kind,b,bv,dn,dm,YT⟩:=d
   have hrb:RS w0 (mD es::F) bv b:=hrb
   obtain ⟨ba,bc,rfl,k1,k2⟩:=hrb.len (hS.sb)
   have c1:(i:Int)<(es.length:Int):=oQ
   have hwi:IntKind.i64.wrap ((i:Int)+1)=((i+1:Nat):Int):=by rw [IntWalk.i64_in _ (by have:=Hn.out;omega)];omega
   have dH:=uQ hlt
   clear hlt hi hd hdm hrb hx1 hc k1 k2
   go_wp2_with (with_reducible apply kU)
   refine ⟨lu (e:=27) (sz:=1) (dX:=24) au hS ah (cs:=#[.slice ba b.length bc]) rfl rfl bH ?_⟩
   intro bN wN hN
   clear hS e1
   go_wp2_with (with_reducible apply jf)
   refine ⟨lq 27 1 24 au hN ah ah (xs:=iE ((es.take i).map qN)) aP aH ah (Nat.le_refl 1) ah (by unfold iE;rw [List.length_map,List.length_map,List.length_take];have:=Hn.out;omega) (by show 1≤65536;decide) aJ (ys:=[.slice ba b.length bc]) rfl ?_⟩
   intro bA nA cA wA hA
   have hA2:Sat w0 wA (aF 27 1 (.slice (some ⟨bA,0,none⟩) nA cA) (iE ((es.take (i+1)).map qN))::aF 46 5 (.slice (some ⟨bk,off,none⟩) es.length lc) (jC es)::mD es::F):=by
    rw [iM.out]
    unfold iE
    rw [List.map_append]
    exact hA
   clear hN hA
   go_wp2_with fail
   go_roundg (es.length - (i+1))
   case measure=>have:=dH.out;omega
   case rel=>exact ⟨i+1,_,rfl,dH.out,rfl,by first|rfl|go_num,hA2⟩
  ·obtain rfl:i=es.length:=by omega
   rw [List.take_length]at hS
   have c1:¬ (es.length:Int)<(es.length:Int):=oQ
   have hbk:=Yb z es Hn.out lK.out (F:=aF 27 1 xv (iE (es.map qN))::aF 46 5 (.slice la es.length lc) (jC es)::mD es::F) (fun w' hw=>Sat.rd (hw.pick aP)) (fun d hd=>(Hy (R:=F) hd (hS.pick dM)).more iJ) (Ro.os HH.out) (Ro.os lZ.out) hS
   have Xq:=uQ (show vI w0 (aF 27 1 xv (iE (es.map qN))::aF 46 5 (.slice la es.length lc) (jC es)::mD es::F) (es.map qN) from fun x hx=>by
    obtain ⟨d,hd,rfl⟩:=List.mem_map.1 hx
    exact (Hy (R:=F) hd (hS.pick dM)).more iJ)
   have Hlen:=uQ (show ∀ x∈es.map qN,x.2.length≤150 from fun x hx=>by
    obtain ⟨d,hd,rfl⟩:=List.mem_map.1 hx
    exact lK.out d hd)
   clear hlt hi hS
   go_wp2_with fail
   refine hbk.mono ?_
   rintro ee w2 ⟨v,rfl,⟨r,rfl,hr⟩,h2⟩
   clear hbk
   cases r with
   |true=>
    clear hr
    have hlv:=RG HH.out lZ.out (h2.sb:Sat w0 w2 F)
    clear h2
    go_wp2_with fail
    refine hlv.mono ?_
    rintro ee w3 ⟨v,rfl,rfl,h3⟩
    clear hlv
    go_wp2_with fail
    go_ret
    exact ⟨_,rfl,rfl,h3⟩
   |false=>
    have hat:=XQ (ts:=es.map qN) (by rw [List.length_map];have:=Hn.out;omega) (fun w' hw=>Sat.rd (hw.pick aH)) Xq.out Hlen.out h2
    have Htw:=uQ (show Seg.Twins ((es.map qN).map (·.2)) by rw [List.map_map];exact hr rfl)
    clear hr h2
    go_wp2_with fail
    refine hat.mono ?_
    rintro ee w3 ⟨v,rfl,⟨r2,rfl,hr2⟩,h3⟩
    clear hat
    obtain rfl:r2=true:=hr2 Htw.out
    have hlv:=RG HH.out lZ.out (h3.sb:Sat w0 w3 F)
    clear h3 hr2
    go_wp2_with fail
    refine hlv.mono ?_
    rintro ee w4 ⟨v,rfl,rfl,h4⟩
    clear hlv
    go_wp2_with fail
    go_ret
    exact ⟨_,rfl,rfl,h4⟩
end
end Go.Proofs.YtlimfgdbfadohaaGreatDoor
namespace Go.Proofs.YtlimfgdbfadohaaGreatDoor
open Go Go.Sl Go.aB Go.ChangeShapes Go.WideShapes Go.RowKit
structure BD.At (W:World) (d:BD):Prop where
 rd:bK 1 d.bv (ay d.b) W
 cap:kK d.bv
 Ob:kK d.lv
section
variable {H:Type}{enc:TypeId×Value→H}{W:World}{base:Nat}{spare:Nat→Bool}{held:Bool}
set_option maxRecDepth 100000 in
theorem acE {fuel:Nat}{cs:List Value}{x:DataW H×List MemPlace} (h:DataW.trod enc Tryz.prog W base spare held fuel 46 cs=some x):∃ d:BD,tX d=cs∧d.At W:=by
 obtain ⟨hl,hf⟩:=acG Tryz.underlying46 h
 have e5:Tryz.prog.cellsOf 46=5:=by kernel_rfl
 have e1:Tryz.prog.cellsOf 3=1:=by kernel_rfl
 have e3:Tryz.prog.cellsOf 27=1:=by kernel_rfl
 have e4:Tryz.prog.cellsOf 44=1:=by kernel_rfl
 have eu:Tryz.prog.cellsOf 5=1:=by kernel_rfl
 rw [e5]at hl
 match cs,hl with
 |[v0,v1,v2,v3,v4],_=>
  obtain ⟨n0,y0,h0⟩:=hf 0 _ rfl
  obtain ⟨n1,y1,h1⟩:=hf 1 _ rfl
  obtain ⟨n2,y2,h2⟩:=hf 2 _ rfl
  obtain ⟨n3,y3,h3⟩:=hf 3 _ rfl
  obtain ⟨n4,y4,h4⟩:=hf 4 _ rfl
  simp only [List.getElem_toArray,List.getElem_cons_zero,List.getElem_cons_succ,e1,e3,e4,List.drop_zero,List.drop_succ_cons,List.take_succ_cons,List.take_zero]at h0 h1 h2 h3 h4
  obtain ⟨z0,q0,_,_⟩:=DataW.trod_int Tryz.underlying3 h0
  obtain ⟨l1,r1,c1⟩:=aaN Tryz.underlying27 Tryz.underlying5 eu h1
  obtain ⟨z2,q2,_,_⟩:=DataW.trod_int Tryz.underlying3 h2
  obtain ⟨z3,q3,_,_⟩:=DataW.trod_int Tryz.underlying3 h3
  obtain ⟨l4,r4,c4,_⟩:=aaO Tryz.underlying44 Tryz.underlying3 e1 h4
  simp only [List.cons.injEq,and_true]at q0 q2 q3
  subst q0;subst q2;subst q3
  exact ⟨⟨z0,l1,v1,z2,z3,v4⟩,rfl,r1,c1,c4⟩
theorem aaM {fuel:Nat}{v:Value}{x:DataW H×List MemPlace} (h:DataW.trod enc Tryz.prog W base spare held fuel 42 [v]=some x) :
  ∃ ds:List BD,bK 5 v (jC ds) W∧kK v∧∀ d∈ds,d.At W:=by
 obtain ⟨elems,h1,h2,h3⟩:=SL Tryz.underlying42 (k:=5) au oQ h
 obtain ⟨ds,h4,h5⟩:=JH (f:=tX) (p:=fun d=>d.At W) elems fun cs hcs=>by
  obtain ⟨_,n,y,h6⟩:=h3 cs hcs
  exact acE h6
 refine ⟨ds,?_,h2,h5⟩
 unfold jC
 rw [List.flatMap_def,h4]
 exact h1
theorem BD.At.ro {d:BD} (h:d.At W):F8 W [Sl.old W] d:=⟨⟨Tq h.rd,h.cap⟩,h.Ob⟩
end
end Go.Proofs.YtlimfgdbfadohaaGreatDoor
