/- Texts put together: WRuleI1, WRuleI2, WRuleI3. -/
import Derived.Test.YtgfkglhelfkpoaaGreatRSM
import Derived.Test.YtgfkglhelfkpoaaGreatRSL
import Derived.Maps.OwnOps
import Derived.Maps.RangeWalk
set_option maxRecDepth 100000
set_option maxHeartbeats 4000000
open Go.Lib (hid)
namespace Go.Proofs.YtgfkglhelfkpoaaGreat
section
open Go.RowKit Plain
theorem indexI_any (A:Option Addr) (cap:Nat) (l:List Int) (x:Int) (w:World) (hA:Ints w A l) (hl:l.length≤1048576) :
  Calls Tryz.prog 208 #[.slice A l.length cap,.int .i64 x] w fun e w'=>(∃ v:Int,e=.returned (.int .i64 v)∧decide (0≤v)=l.contains x)∧w=w':=by
 have HA:=hid hA
 obtain ⟨rr,hrr⟩:∃ rr,rr=l.contains x:=⟨_,rfl⟩
 rw [←hrr]
 have HRR:=hid hrr
 clear hA hrr
 go_enter Tryz.func208,Tryz.ntmps208
 go_wp2_with fail
 go_loopg [5,8] (l.length+1) (fun kx _ s8 wr=>∃ (i:Nat),s8=.int .i64 (i:Int)∧i≤l.length∧l.length - i<kx∧Hid (rr=(l.drop i).contains x)∧w=wr)
 case atStart=>exact ⟨0,by first | rfl | go_num,by omega,by omega,by show _=_;rw [List.drop_zero];exact HRR.out,rfl⟩
 case round=>
  obtain ⟨i,rfl,hin,hkx,HD,rfl⟩:=hrel
  by_cases hlt:i<l.length
  ·have hiz:(i:Int)<(l.length:Int):=by omega
   obtain ⟨b,o,rfl,hb,hc⟩:=HA.out.cfAt (by omega)
   have e0:=hc i hlt
   have HX:Hid (l.drop i=cf l i :: l.drop (i+1)):=by
    show _=_;rw [List.drop_eq_getElem_cons hlt];congr 1;simp [cf,List.getD,hlt]
   obtain ⟨y,hy⟩:∃ y,y=cf l i:=⟨_,rfl⟩
   rw [←hy] at e0 HX
   clear hc hy
   by_cases hxy:x=y
   ·subst hxy
    have HV:Hid (rr=true):=by show _=_;rw [HD.out,HX.out];simp
    go_wp2
    go_ret
    exact ⟨⟨(i:Int),rfl,by rw [HV.out];simp⟩,rfl⟩
   ·have HV:Hid (rr=(l.drop (i+1)).contains x):=by show _=_;rw [HD.out,HX.out];simp [hxy]
    have hxb:(x==y)=false:=beq_eq_false_iff_ne.2 hxy
    go_wp2
    go_roundg (l.length - (i+1)+1)
    case measure=>omega
    case rel=>exact ⟨i+1,by first | rfl | go_num,by omega,by omega,HV,rfl⟩
  ·obtain rfl:i=l.length:=by omega
   have hiz:¬ (l.length:Int)<(l.length:Int):=by omega
   have HV:Hid (rr=false):=by show _=_;rw [HD.out,List.drop_length];rfl
   go_wp2
   go_ret
   exact ⟨⟨-1,rfl,by rw [HV.out];rfl⟩,rfl⟩
theorem containsI_any (A:Option Addr) (cap:Nat) (l:List Int) (x:Int) (w:World) (hA:Ints w A l) (hl:l.length≤1048576) :
  Calls Tryz.prog 132 #[.slice A l.length cap,.int .i64 x] w fun e w'=>e=.returned (.bool (l.contains x))∧w=w':=by
 have HI:=hid (indexI_any A cap l x w hA hl)
 obtain ⟨rr,hrr⟩:∃ rr,rr=l.contains x:=⟨_,rfl⟩
 rw [←hrr] at HI ⊢
 clear hA hrr
 go_enter Tryz.func132,Tryz.ntmps132
 go_wp2_with fail
 refine HI.out.mono ?_;rintro e w' ⟨⟨v,rfl,hv⟩,rfl⟩
 have HV:=hid hv
 clear hv
 go_wp2
 go_ret
 exact ⟨ret_bool HV.out,rfl⟩
def anyE (p:Nd→Bool):Es→Bool
 | .nil=>false
 | .cons k n q c ks r=>p ⟨k,n,q,c,ks⟩ || anyE p r
theorem containsE_any (K:Option Addr) (cap B:Nat) (es:Es) (w:World) (hA:ExSl w B es K) (hB:B≤w.heap.size) (hn:es.len≤1048576)
  (f:Nat) (hf:Enters f) (cs:Array Value) (p:Nd→Bool) (hp:Hid (∀ i k n q c ks K' cp wx,es.get? i=some ⟨k,n,q,c,ks⟩→Below w.heap.size w wx→ExSl wx B ks K'→ks.len≤cp→cp≤maxLen→Calls Tryz.prog f (#[exV k n q c K' ks.len cp]++cs) wx fun e w'=>e=.returned (.bool (p ⟨k,n,q,c,ks⟩))∧Below wx.heap.size wx w')) :
  Calls Tryz.prog 219 #[.slice K es.len cap,.func (.func f) #[] cs] w fun e w'=>e=.returned (.bool (anyE p es))∧Below w.heap.size w w':=by
 have HIX:Hid (Calls Tryz.prog 258 #[.slice K es.len cap,.func (.func f) #[] cs] w fun e w'=>(∃ v:Int,e=.returned (.int .i64 v)∧decide (0≤v)=anyE p es)∧Below w.heap.size w w'):=by
  show Calls _ _ _ _ _
  obtain ⟨b',o',hK,hks⟩:=hA
  have HKS:=hid hks;clear hks
  obtain ⟨rr,hrr⟩:∃ rr,rr=anyE p es:=⟨_,rfl⟩
  rw [←hrr]
  have HRR:=hid hrr
  clear hrr
  go_enter Tryz.func258,Tryz.ntmps258
  go_wp2_with fail
  go_loopg [5,8] (es.len+1) (fun kx _ s8 wr=>∃ (j:Nat) (es':Es),s8=.int .i64 (j:Int)∧j+es'.len=es.len∧es.len - j<kx∧Hid (rr=anyE p es')∧Hid (∀ i,es'.get? i=es.get? (j+i))∧Hid (ExsAt wr B es' b' (o'+j*5))∧Hid (Below w.heap.size w wr))
  case atStart=>exact ⟨0,es,by first | rfl | go_num,by omega,by omega,HRR,(fun i=>by rw [Nat.zero_add]),by show ExsAt _ _ _ _ _;rw [Nat.zero_mul,Nat.add_zero];exact HKS.out,Below.refl _ _⟩
  case round=>
   obtain ⟨j,es',rfl,hj,hkx,HV,HG,HE,HB⟩:=hrel
   cases es' with
   | nil=>
    simp only [Es.len] at hj
    have hjz:¬ (j:Int)<(es.len:Int):=by omega
    have HV2:Hid (rr=false):=HV.out
    go_wp2
    go_ret
    exact ⟨⟨-1,rfl,by rw [HV2.out];rfl⟩,HB.out⟩
   | cons kk n' p' c' ks' r=>
    simp only [Es.len] at hj
    have hjz:(j:Int)<(es.len:Int):=by omega
    have hK:=hK (by omega)
    subst hK
    obtain ⟨hel,hr⟩:=HE.out
    have HR:=hid hr
    obtain ⟨hbB,h0,h1,h2,h3,K',cap',b2,o2,h4,hc2,hcm2,hK2,hks2⟩:=hel
    have HG2:Hid (∀ i,r.get? i=es.get? (j+1+i)):=fun i=>by
     have:=HG.out (i+1)
     simp only [Es.get?] at this
     rw [this];congr 1;omega
    have HC:=hid (hp.out j kk n' p' c' ks' K' cap' wr (by rw [←Nat.add_zero j,←HG.out 0];rfl) HB.out ⟨b2,o2,hK2,hks2⟩ hc2 hcm2)
    have HV2:Hid (rr=(p ⟨kk,n',p',c',ks'⟩ || anyE p r)):=HV.out
    clear hr HE hks2 hK2 HG HV
    cases hpx:p ⟨kk,n',p',c',ks'⟩
    ·rw [hpx] at HC HV2
     have HV3:Hid (rr=anyE p r):=HV2.out
     clear hpx
     go_wp2_with fail
     rw [hf _ _,Oper.upon_enter]
     refine HC.out.mono ?_;rintro e w1 ⟨rfl,hb1⟩
     have HE1:Hid (ExsAt w1 B r b' (o'+(j+1)*5)):=by
      have:=HR.out.below (hb1.mono (by have:=HB.out.size;omega))
      rwa [show o'+j*5+5=o'+(j+1)*5 by omega] at this
     have HB1:=hid (bnext HB.out hb1)
     clear hb1
     go_wp2
     go_roundg (es.len - (j+1)+1)
     case measure=>omega
     case rel=>exact ⟨j+1,r,by first | rfl | go_num,by omega,by omega,HV3,HG2,HE1,HB1⟩
    ·rw [hpx] at HC HV2
     have HV3:Hid (rr=true):=HV2.out
     clear hpx
     go_wp2_with fail
     rw [hf _ _,Oper.upon_enter]
     refine HC.out.mono ?_;rintro e w1 ⟨rfl,hb1⟩
     have HB1:=hid (bnext HB.out hb1)
     clear hb1
     go_wp2
     go_ret
     exact ⟨⟨(j:Int),rfl,by rw [HV3.out];simp⟩,HB1.out⟩
 obtain ⟨rr,hrr⟩:∃ rr,rr=anyE p es:=⟨_,rfl⟩
 rw [←hrr] at HIX ⊢
 clear hA hrr hp
 go_enter Tryz.func219,Tryz.ntmps219
 go_wp2_with fail
 refine HIX.out.mono ?_;rintro e w' ⟨⟨v,rfl,hv⟩,hb⟩
 have HV:=hid hv
 have HB:=hid hb
 clear hv hb
 go_wp2
 go_ret
 exact ⟨ret_bool HV.out,HB.out⟩
theorem plain_any (es:Es):plainL es=!anyE (fun y=>!y.plain) es:=by
 induction es with
 | nil=>rfl
 | cons k n p c ks r _ ih=>
  simp only [plainL,anyE,ih]
  show (Nd.plain ⟨k,n,p,c,ks⟩&&_)=_
  cases Nd.plain ⟨k,n,p,c,ks⟩<;>simp
theorem contains_plainK (k:Int):([1,2,3,4,5,7]:List Int).contains k=plainK k:=by
 cases h:plainK k
 ·have:¬ (k=1∨k=2∨k=3∨k=4∨k=5∨k=7):=fun hh=>by rw [plainK_iff.2 hh] at h;cases h
  simp;omega
 ·have:=plainK_iff.1 h
  simp;omega
def KindsC (ks:Es):Prop:=∀ (k n p c:Int) (K:Option Addr) (cap B:Nat) (A:Option Addr) (w:World),ExSl w B ks K→ks.len≤cap→cap≤maxLen→B≤w.heap.size→ks.size≤1048576→Ints w A [1,2,3,4,5,7] →
 Calls Tryz.prog 205 #[exV k n p c K ks.len cap,.slice A 6 6] w fun e w'=>e=.returned (.bool (Nd.plain ⟨k,n,p,c,ks⟩))∧Below w.heap.size w w'
theorem hasKinds_any:∀ (m:Nat) (ks:Es),ks.size<m→KindsC ks:=by
 intro m
 induction m with
 | zero=>intro es h;omega
 | succ m ih=>
 intro ks hm k n p c K cap B A w hKs hc hcm hB hsz0 hA
 have IH:=hid ih;clear ih
 have hls:=Es.len_le_size ks
 have hcm':cap≤9223372036854775807:=by unfold maxLen at hcm;omega
 obtain ⟨W0,hW0⟩:∃ W0,W0=(w.alloc (.cells #[.int .i64 k,.int .i64 n,.int .i64 p,.int .i64 c,.slice K ks.len cap] 33)).alloc (.cells #[.slice A 6 6] 28):=⟨_,rfl⟩
 have hb0:Below w.heap.size w W0:=by rw [hW0];go_grown
 have hs0:W0.heap.size=w.heap.size+2:=by rw [hW0];simp
 have hq1:Cells W0 w.heap.size 33 [.int .i64 k,.int .i64 n,.int .i64 p,.int .i64 c,.slice K ks.len cap]:=by
  rw [hW0];exact (Cells.new w 33 [.int .i64 k,.int .i64 n,.int .i64 p,.int .i64 c,.slice K ks.len cap]).next (by go_grown)
 have hq2:Cells W0 (w.heap.size+1) 28 [.slice A 6 6]:=by
  rw [hW0]
  have:=Cells.new (w.alloc (.cells #[.int .i64 k,.int .i64 n,.int .i64 p,.int .i64 c,.slice K ks.len cap] 33)) 28 [.slice A 6 6]
  simpa using this
 have HCI:=hid (containsI_any A 6 [1,2,3,4,5,7] k W0 (hA.below hb0) (by simp))
 rw [contains_plainK] at HCI
 have HCE:Hid (Calls Tryz.prog 219 #[.slice K ks.len cap,.func (.func 250) #[] #[.pointer (some ⟨w.heap.size+1,0,none⟩)]] W0 fun e w'=>e=.returned (.bool (anyE (fun y=>!y.plain) ks))∧Below W0.heap.size W0 w'):=by
  refine containsE_any K cap B ks W0 (hKs.below (hb0.mono hB)) (by omega) (by omega) 250 (fun _ _=>rfl) _ _ ?_
  intro i k' n' p' c' ks' K' cp wx hget hbx hE2 hc2 hcm2
  show Calls Tryz.prog 250 #[exV k' n' p' c' K' ks'.len cp,.pointer (some ⟨w.heap.size+1,0,none⟩)] wx _
  have hlt:=Es.get?_size hget
  simp only at hlt
  have hwx:W0.heap.size≤wx.heap.size:=hbx.size
  have hcp:cp≤9223372036854775807:=by unfold maxLen at hcm2;omega
  have k1:wx.cell? ⟨w.heap.size+1,0,none⟩=some (.slice A 6 6):=by rw [(hq2.next hbx).cell];rfl
  have k1':(wx.alloc (.cells #[.int .i64 k',.int .i64 n',.int .i64 p',.int .i64 c',.slice K' ks'.len cp] 33)).cell? ⟨w.heap.size+1,0,none⟩=some (.slice A 6 6):=keepC k1 (by go_grown)
  obtain ⟨W1,hW1⟩:∃ W1,W1=wx.alloc (.cells #[.int .i64 k',.int .i64 n',.int .i64 p',.int .i64 c',.slice K' ks'.len cp] 33):=⟨_,rfl⟩
  have hbn:Below wx.heap.size wx W1:=by rw [hW1];go_grown
  have hIH:=IH.out ks' (by omega) k' n' p' c' K' cp B A W1 (hE2.below (hbn.mono (by omega))) hc2 hcm2 (by have:=hbn.size;omega) (by omega) (((hA.below hb0).below hbx).below hbn)
  have HI:=hid hIH
  have HW1:=hid hW1
  have HBN:=hid hbn
  clear hIH hW1 hbn hE2 hget IH HCI hKs hA
  go_enter Tryz.func250,Tryz.ntmps250
  go_wp2_with fail
  rw [←HW1.out]
  refine HI.out.mono ?_;rintro e w2 ⟨rfl,hb2⟩
  have HB2:=hid (bnext HBN.out hb2)
  clear hb2
  go_wp2
  go_ret
  exact ⟨rfl,HB2.out⟩
 have HW0:=hid hW0
 have HB0:=hid hb0
 have HPA:=hid (plain_any ks)
 have HPL:Hid (Nd.plain ⟨k,n,p,c,ks⟩=(plainK k&&plainL ks)):=rfl
 obtain ⟨pp,hpp⟩:∃ pp,pp=Nd.plain ⟨k,n,p,c,ks⟩:=⟨_,rfl⟩
 rw [←hpp]
 rw [←hpp] at HPL
 have q0:W0.cell? ⟨w.heap.size,0,none⟩=some (.int .i64 k):=by rw [hq1.cell];rfl
 have q4:W0.cell? ⟨w.heap.size,4,none⟩=some (.slice K ks.len cap):=by rw [hq1.cell];rfl
 have q5:W0.cell? ⟨w.heap.size+1,0,none⟩=some (.slice A 6 6):=by rw [hq2.cell];rfl
 clear hKs hA IH hpp hW0 hb0 hs0 hq1 hq2
 cases hk:plainK k
 ·rw [hk] at HCI HPL
  have HV:Hid (pp=false):=HPL.out
  clear hk
  go_enter Tryz.func205,Tryz.ntmps205
  go_wp2_with fail
  rw [←HW0.out]
  refine HCI.out.mono ?_;rintro e w' ⟨rfl,rfl⟩
  go_wp2
  go_ret
  exact ⟨by rw [HV.out];rfl,HB0.out⟩
 ·rw [hk] at HCI HPL
  have HV:Hid (pp=!anyE (fun y=>!y.plain) ks):=by show _=_;rw [HPL.out,HPA.out];rfl
  obtain ⟨aa,haa⟩:∃ aa,aa=anyE (fun y=>!y.plain) ks:=⟨_,rfl⟩
  rw [←haa] at HV HCE
  clear hk haa
  go_enter Tryz.func205,Tryz.ntmps205
  go_wp2_with fail
  rw [←HW0.out]
  refine HCI.out.mono ?_;rintro e w' ⟨rfl,rfl⟩
  go_wp2_with fail
  refine HCE.out.mono ?_;rintro e w1 ⟨rfl,hb1⟩
  have HB1:Hid (Below w.heap.size w w1):=HB0.out.trans (hb1.mono HB0.out.size)
  clear hb1
  go_wp2
  go_ret
  exact ⟨by rw [HV.out];rfl,HB1.out⟩
end
section
open Go.RowKit Plain
def MSet (w:World) (b n:Nat) (S:List Int):Prop:=
 ∃ D:DataW Unit,w.ownsMap Tryz.prog 2 (plainElem Tryz.prog 4) b n D∧∀ x:Int,(Lit.int .i64 x).wf=true→(Maps.has D (.int .i64 x)=true ↔ x∈S)
theorem below_grown {w w':World} (h:Below w.heap.size w w'):w.grownBy w' none:=⟨h.os,h.tape,h.output,h.size,fun k hk _=>h.block k hk⟩
theorem MSet.below {w w':World} {b n:Nat} {S:List Int} (h:MSet w b n S) (hb:Below w.heap.size w w'):MSet w' b n S:=by
 obtain ⟨D,h1,h2⟩:=h
 exact ⟨D,h1.kept (below_grown hb) (by simp),h2⟩
theorem MSet.lt {w:World} {b n:Nat} {S:List Int} (h:MSet w b n S):b<w.heap.size:=by obtain ⟨D,h1,_⟩:=h;exact h1.lt
theorem MSet.put {w w':World} {b n:Nat} {D:DataW Unit} {S:List Int} (h:w.ownsMap Tryz.prog 2 (plainElem Tryz.prog 4) b n D) (hs:∀ x:Int,(Lit.int .i64 x).wf=true→(Maps.has D (.int .i64 x)=true ↔ x∈S)) (x:Int) {v:DataW Unit} {m:Nat}
  (hown:w'.ownsMap Tryz.prog 2 (plainElem Tryz.prog 4) b m (D.put (.int .i64 x) v)) (hx:(Lit.int .i64 x).wf=true):MSet w' b m (insS x S):=by
 refine ⟨_,hown,fun y hy=>?_⟩
 have hm:Maps.IsMap D:=by obtain ⟨es,_,_,_,_,e⟩:=h;exact ⟨_,e⟩
 rw [insS_mem]
 by_cases e:y=x
 ·subst e
  rw [Maps.has_put_same hm (by simp [WideAt.IsKeyLit])]
  simp
 ·rw [Maps.has_put_other (by simpa using e),hs y hy]
  simp [e]
theorem wf64 {x:Int} (h0:-9223372036854775808≤x) (h1:x≤9223372036854775807):(Lit.int .i64 x).wf=true:=by
 exact WalkArith.wf_i64 ⟨h0,h1⟩
theorem only_grown {w w':World} {b:Nat} (hg:w.grownBy w' (some b)):Only (fun q=>q=b) w w':=⟨hg.os,hg.tape,hg.output,hg.size,fun k hk hne=>hg.block k hk (fun e=>hne (Option.some.inj e))⟩
def VarsC (ks:Es):Prop:=∀ (k n p c:Int) (K:Option Addr) (cap B b nn:Nat) (S:List Int) (vars:Int) (w:World),ExSl w B ks K→ks.len≤cap→cap≤maxLen→B≤b→ks.size≤1000→MSet w b nn S→nn+ks.size+1≤3000 →
 plainK k=true→plainL ks=true→formed [] 0 vars ⟨k,n,p,c,ks⟩=true→0≤vars→vars≤412 →
 Calls Tryz.prog 251 #[exV k n p c K ks.len cap,.int .i64 vars,.int .i64 vars,.map (some b)] w fun e w'=>e=.returned (.bool true)∧(∃ nn',nn'≤nn+ks.size+1∧MSet w' b nn' (occN k n ks S))∧Only (fun q=>q=b) w w'
theorem variables_any:∀ (m:Nat) (ks:Es),ks.size<m→VarsC ks:=by
 intro m
 induction m with
 | zero=>intro es h;omega
 | succ m ih=>
 intro ks hm k n p c K cap B b nn S vars w hKs hc hcm hBb hsz0 hMS hnn hpk hpl hfm hv0 hv1
 have IH:=hid ih;clear ih
 have hls:=Es.len_le_size ks
 have hcm':cap≤9223372036854775807:=by unfold maxLen at hcm;omega
 have hk:=plainK_iff.1 hpk
 have hk9:(k==9)=false:=beq_eq_false_iff_ne.2 (by omega)
 have hk9':¬ k=9:=by omega
 have HKV:Hid (∀ j,kidVars k vars j=vars):=fun j=>by unfold kidVars;rw [if_neg (by omega)]
 unfold formed at hfm
 simp only [Bool.and_eq_true] at hfm
 have hnk:=hfm.1
 have HFM:Hid (formedL [] 0 ks k 0 vars=true):=hfm.2
 have HPL:Hid (plainL ks=true):=hpl
 clear hfm hpl hpk
 obtain ⟨W0,hW0⟩:∃ W0,W0=w.alloc (.cells #[.int .i64 k,.int .i64 n,.int .i64 p,.int .i64 c,.slice K ks.len cap] 33):=⟨_,rfl⟩
 have hb0:Below w.heap.size w W0:=by rw [hW0];go_grown
 have hs0:W0.heap.size=w.heap.size+1:=by rw [hW0];simp
 have hbw:=hMS.lt
 have hq:Cells W0 w.heap.size 33 [.int .i64 k,.int .i64 n,.int .i64 p,.int .i64 c,.slice K ks.len cap]:=by rw [hW0];exact Cells.new w 33 _
 have HW0:=hid hW0
 have HB0:=hid hb0
 have HS0:=hid hs0
 have HQ:=hid hq
 have HM0:=hid (hMS.below hb0)
 have HKS:Hid (ExSl W0 B ks K):=hKs.below (hb0.mono (by omega))
 by_cases hk2:k=2
 ·subst hk2
  have hnb:0≤n∧n<vars∧ks.len=0:=by
   unfold nodeOk at hnk
   simp at hnk
   have:=inR_true.1 hnk.2.2
   omega
  obtain ⟨hn0,hn1,hl0⟩:=hnb
  have hks0:ks=.nil:=Es.len0 hl0
  subst hks0
  have HIN:=hid (fun wx=>within_any n 0 (vars - 1) wx)
  rw [show inR n 0 (vars - 1)=true from inR_true.2 (by omega)] at HIN
  have hwv:IntKind.i64.wrap (vars - 1)=vars - 1:=by rw [IntKind.wrap_i64];omega
  have hwf:=wf64 (x:=n) (by omega) (by omega)
  obtain ⟨D,hown,hset⟩:=HM0.out
  have q0:W0.cell? ⟨w.heap.size,0,none⟩=some (.int .i64 2):=by rw [hq.cell];rfl
  have q1:W0.cell? ⟨w.heap.size,1,none⟩=some (.int .i64 n):=by rw [hq.cell];rfl
  have q4:W0.cell? ⟨w.heap.size,4,none⟩=some (.slice K 0 cap):=by rw [hq.cell];rfl
  have HSET:=hid hset
  have law:Maps.Keyed Tryz.prog 2:=Maps.int_keyed Tryz.underlying2
  have hkey:keyOf Tryz.prog 2 (.int .i64 n)=some (.int .i64 n):=Maps.keyOf_int_mk Tryz.underlying2 hwf
  have hn3:nn<maxLen:=by unfold maxLen;omega
  clear hnk hls HKS HFM HPL HKV IH hMS hKs hb0 hW0 hs0 hq hset
  have HW1:Hid (W0=w.alloc (.cells #[.int .i64 2,.int .i64 n,.int .i64 p,.int .i64 c,.slice K 0 cap] 33)):=HW0.out
  show Calls Tryz.prog 251 #[exV 2 n p c K 0 cap,.int .i64 vars,.int .i64 vars,.map (some b)] w _
  go_enter Tryz.func251,Tryz.ntmps251
  go_upto_region 1 with fail
  rw [←HW1.out]
  go_wp2_with (first
   | (go_at_call 90;refine (HIN.out _).mono ?_;rintro e w' ⟨rfl,rfl⟩)
   | (at_mapUpdate;refine wpList_mapUpdate_own _ rfl _ _ _ 283 rfl 2 4 law Tryz.underlying283 _ b nn _ rfl hown hn3 _ _ _ rfl rfl hkey _ [] (plainElem_bool Tryz.underlying4 true) ?_;intro w1 hown1 hgrow1;have y0:=hgrow1.cell q0 (by simp;omega);have y4:=hgrow1.cell q4 (by simp;omega)))
  refine wp_loop_rounds 1 ?_
  rw [rounds_succ]
  go_wp2
  go_ret
  exact ⟨rfl,⟨nn+1,by simp [Es.size],MSet.put hown HSET.out n hown1 hwf⟩,(Only.of_below HB0.out).trans (only_grown hgrow1)⟩
 ·have hk2b:(k==2)=false:=beq_eq_false_iff_ne.2 hk2
  have HEQ:Hid (occN k n ks S=occL ks S):=by show _=_;unfold occN;rw [if_neg hk2]
  rw [HEQ.out]
  obtain ⟨b',o',hK,hks⟩:=HKS.out
  have HKX:=hid hks
  have q0:W0.cell? ⟨w.heap.size,0,none⟩=some (.int .i64 k):=by rw [hq.cell];rfl
  have q4:W0.cell? ⟨w.heap.size,4,none⟩=some (.slice K ks.len cap):=by rw [hq.cell];rfl
  have hBw:B≤w.heap.size:=by omega
  have hbne:b≠w.heap.size:=by omega
  clear hnk hMS hKs hb0 hW0 hs0 hq hks HKS
  go_enter Tryz.func251,Tryz.ntmps251
  go_upto_region 1 with fail
  rw [←HW0.out]
  go_wp2_with fail
  clear q0 q4
  go_loopg [40] (ks.len+1) (fun kx s40 wr=>∃ (j:Nat) (es':Es) (S':List Int) (nn':Nat),s40=.int .i64 (j:Int)∧j+es'.len=ks.len∧ks.len - j<kx∧Hid (occL ks S=occL es' S')∧Hid (plainL es'=true)∧Hid (formedL [] 0 es' k j vars=true)∧Hid (nn'+es'.size≤nn+ks.size)∧Hid (es'.size≤ks.size)∧Hid (ExsAt wr B es' b' (o'+j*5))∧Hid (MSet wr b nn' S')∧Hid (Cells wr w.heap.size 33 [.int .i64 k,.int .i64 n,.int .i64 p,.int .i64 c,.slice K ks.len cap])∧Hid (Only (fun q=>q=b) W0 wr))
  case atStart=>exact ⟨0,ks,S,nn,by first | rfl | go_num,by omega,by omega,rfl,HPL,HFM,Nat.le_refl _,Nat.le_refl _,by show ExsAt _ _ _ _ _;rw [Nat.zero_mul,Nat.add_zero];exact HKX.out,HM0,HQ,Only.refl _ _⟩
  case round=>
   obtain ⟨j,es',S',nn',rfl,hj,hkx,hy,hpl,hfm,hna,hsz,HE,HM,HQr,HO⟩:=hrel
   clear HPL HFM HM0 HQ HKX
   have r0:wr.cell? ⟨w.heap.size,0,none⟩=some (.int .i64 k):=by rw [HQr.out.cell];rfl
   cases es' with
   | nil=>
    simp only [Es.len] at hj
    have hjz:¬ (j:Int)<(ks.len:Int):=by omega
    have HV:Hid (occL ks S=S'):=hy.out
    go_wp2
    go_ret
    exact ⟨rfl,⟨nn',by have:=hna.out;simp only [Es.size] at this;omega,by rw [HV.out];exact HM.out⟩,(Only.of_below HB0.out).trans HO.out⟩
   | cons kk n' p' c' ks' r=>
    simp only [Es.len] at hj
    have hjz:(j:Int)<(ks.len:Int):=by omega
    have hK:=hK (by omega)
    subst hK
    obtain ⟨hel,hr⟩:=HE.out
    have HR:=hid hr
    obtain ⟨hbB,h0,h1,h2,h3,K',cap',b2,o2,h4,hc2,hcm2,hK2,hks2⟩:=hel
    have hcm2':cap'≤9223372036854775807:=by unfold maxLen at hcm2;omega
    have hp:=hpl.out
    have hf:=hfm.out
    simp only [plainL,Bool.and_eq_true] at hp
    simp only [formedL,Bool.and_eq_true] at hf
    rw [HKV.out] at hf
    have HP2:Hid (plainL r=true):=hp.2
    have HF2:Hid (formedL [] 0 r k (j+1) vars=true):=hf.2
    have hrs:Hid (r.size≤ks.size∧ks'.size<ks.size∧nn'+(1+ks'.size+r.size)≤nn+ks.size):=by
     have:=hsz.out
     have h2:=hna.out
     simp only [Es.size] at this h2
     exact ⟨by omega,by omega,by omega⟩
    obtain ⟨W1,hW1⟩:∃ W1,W1=wr.alloc (.cells #[.int .i64 kk,.int .i64 n',.int .i64 p',.int .i64 c',.slice K' ks'.len cap'] 33):=⟨_,rfl⟩
    have hb1:Below wr.heap.size wr W1:=by rw [hW1];go_grown
    have HQ1:Hid (Cells W1 w.heap.size 33 [.int .i64 k,.int .i64 n,.int .i64 p,.int .i64 c,.slice (some ⟨b',o',none⟩) ks.len cap]):=HQr.out.next hb1
    have e0:(wr.alloc (.cells #[.int .i64 kk,.int .i64 n',.int .i64 p',.int .i64 c',.slice K' ks'.len cap'] 33)).cell? ⟨w.heap.size,0,none⟩=some (.int .i64 k):=keepC r0 (by go_grown)
    have hwr:W0.heap.size≤wr.heap.size:=HO.out.size
    have hw0s:=HS0.out
    have HC:=hid (IH.out ks' (by have:=hrs.out;omega) kk n' p' c' K' cap' B b nn' S' vars W1 (ExSl.below (w:=wr) ⟨b2,o2,hK2,hks2⟩ (hb1.mono (by omega))) hc2 hcm2 hBb (by have:=hrs.out;omega) (HM.out.below hb1) (by have:=hrs.out;omega) hp.1.1 hp.1.2 (by unfold formed;rw [hf.1.1,hf.1.2];rfl) hv0 hv1)
    have HE1:Hid (ExsAt W1 B r b' (o'+j*5+5)):=HR.out.below (hb1.mono (by omega))
    have HB1:=hid hb1
    have HW1:=hid hW1
    clear hr HE hp hf hpl hfm hks2 hK2 HR hb1 hW1 HQr
    go_wp2_with fail
    rw [←HW1.out]
    refine HC.out.mono ?_;rintro e w1 ⟨rfl,⟨nn2,hn2,hm2⟩,ho1⟩
    have HM2:=hid hm2
    have HE2:Hid (ExsAt w1 B r b' (o'+(j+1)*5)):=by
     have:=HE1.out.below (ho1.below (by have:=HB1.out.size;omega) (fun q hq=>by omega))
     rwa [show o'+j*5+5=o'+(j+1)*5 by omega] at this
    have HQ2:Hid (Cells w1 w.heap.size 33 [.int .i64 k,.int .i64 n,.int .i64 p,.int .i64 c,.slice (some ⟨b',o',none⟩) ks.len cap]):=(ho1.block _ (by have:=HB1.out.size;omega) (fun e=>hbne e.symm)).trans HQ1.out
    have HO2:Hid (Only (fun q=>q=b) W0 w1):=(HO.out.trans (Only.of_below HB1.out)).trans ho1
    have HN2:Hid (nn2+r.size≤nn+ks.size):=by have:=hrs.out;show _≤_;omega
    have HY2:Hid (occL ks S=occL r (occN kk n' ks' S')):=hy.out
    clear hm2 hn2 ho1 HC HE1 HB1 HQ1 HO e0 r0
    go_wp2
    go_roundg (ks.len - (j+1)+1)
    case measure=>omega
    case rel=>exact ⟨j+1,r,_,nn2,by first | rfl | go_num,by omega,by omega,HY2,HP2,HF2,HN2,hrs.out.1,HE2,HM2,HQ2,HO2⟩
theorem isSide_any (x:Nd) (K:Option Addr) (cap B:Nat) (v:Int) (w:World) (hKs:ExSl w B x.ks K) (hc:x.ks.len≤cap) (hcm:cap≤maxLen) (hB:B≤w.heap.size) (hsz:x.ks.size≤1048576) :
  Calls Tryz.prog 128 #[exV x.k x.n x.p x.c K x.ks.len cap,.int .i64 v] w (FPost (sideOk x v) w):=by
 have hls:=Es.len_le_size x.ks
 have hcm':cap≤9223372036854775807:=by unfold maxLen at hcm;omega
 obtain ⟨W0,hW0⟩:∃ W0,W0=w.alloc (.cells #[.int .i64 x.k,.int .i64 x.n,.int .i64 x.p,.int .i64 x.c,.slice K x.ks.len cap] 33):=⟨_,rfl⟩
 have hb0:Below w.heap.size w W0:=by rw [hW0];go_grown
 have hs0:W0.heap.size=w.heap.size+1:=by rw [hW0];simp
 have hq:Cells W0 w.heap.size 33 [.int .i64 x.k,.int .i64 x.n,.int .i64 x.p,.int .i64 x.c,.slice K x.ks.len cap]:=by rw [hW0];exact Cells.new w 33 _
 have HC1:=hid (validExpr_any [] x.ks x.k x.n x.p x.c K cap B none 0 v 0 W0 (hKs.below (hb0.mono hB)) hc hcm ⟨0,0,fun h=>by simp at h,trivial⟩ (by simp) (by unfold maxLen;omega) (by omega) (by omega))
 have HC2:Hid (∀ wx,Below W0.heap.size W0 wx→Calls Tryz.prog 151 #[exV x.k x.n x.p x.c K x.ks.len cap] wx fun e w'=>e=.returned (.int .i64 (x.size:Int))∧Below wx.heap.size wx w'):=fun wx h=>by
  have:=size_any _ x.ks (Nat.lt_succ_self _) x.k x.n x.p x.c K cap B wx ((hKs.below (hb0.mono hB)).below (h.mono (by omega))) hc hcm (by have:=h.size;omega) (by omega)
  rwa [show ((x.ks.size+1:Nat):Int)=(x.size:Int) by unfold Nd.size;omega] at this
 have HC3:Hid (∀ wx A,Below W0.heap.size W0 wx→Ints wx A [1,2,3,4,5,7]→Calls Tryz.prog 205 #[exV x.k x.n x.p x.c K x.ks.len cap,.slice A 6 6] wx fun e w'=>e=.returned (.bool x.plain)∧Below wx.heap.size wx w'):=fun wx A h hA=>
  hasKinds_any _ x.ks (Nat.lt_succ_self _) x.k x.n x.p x.c K cap B A wx ((hKs.below (hb0.mono hB)).below (h.mono (by omega))) hc hcm (by have:=h.size;omega) hsz hA
 have q0:W0.cell? ⟨w.heap.size,0,none⟩=some (.int .i64 x.k):=by rw [hq.cell];rfl
 have q1:W0.cell? ⟨w.heap.size,1,none⟩=some (.int .i64 x.n):=by rw [hq.cell];rfl
 have q2:W0.cell? ⟨w.heap.size,2,none⟩=some (.int .i64 x.p):=by rw [hq.cell];rfl
 have q3:W0.cell? ⟨w.heap.size,3,none⟩=some (.int .i64 x.c):=by rw [hq.cell];rfl
 have q4:W0.cell? ⟨w.heap.size,4,none⟩=some (.slice K x.ks.len cap):=by rw [hq.cell];rfl
 have HQ:=hid hq
 have HB0:=hid hb0
 have HW0:=hid hW0
 have HSO:Hid (sideOk x v=(exprOk [] x v 0&&(decide (x.size≤40)&&x.plain))):=by show _=_;unfold sideOk;rw [Bool.and_assoc]
 obtain ⟨ss,hss⟩:∃ ss,ss=sideOk x v:=⟨_,rfl⟩
 rw [←hss] at HSO ⊢
 have hszz:(x.size:Int)≤2000000:=by unfold Nd.size;omega
 clear hKs hb0 hW0 hs0 hq hss
 cases hok:exprOk [] x v 0
 ·have HC1':Hid (Calls Tryz.prog 73 #[prV none 0 0,exV x.k x.n x.p x.c K x.ks.len cap,.int .i64 v,.int .i64 0] W0 (FPost false W0)):=by rw [←hok];exact HC1.out
  rw [hok] at HSO
  have HV:Hid (ss=false):=HSO.out
  clear hok HC1
  go_enter Tryz.func128,Tryz.ntmps128
  go_upto_region 1 with fail
  rw [←HW0.out]
  go_wp2_with fail
  refine HC1'.out.mono ?_;rintro e w1 ⟨rfl,hb1⟩
  have HB1:Hid (Below w.heap.size w w1):=HB0.out.trans (hb1.mono HB0.out.size)
  clear hb1
  go_wp2
  go_ret
  exact ⟨ret_bool HV.out.symm,HB1.out⟩
 ·have HC1':Hid (Calls Tryz.prog 73 #[prV none 0 0,exV x.k x.n x.p x.c K x.ks.len cap,.int .i64 v,.int .i64 0] W0 (FPost true W0)):=by rw [←hok];exact HC1.out
  rw [hok] at HSO
  clear hok HC1
  by_cases h40:x.size≤40
  ·have h40z:(x.size:Int)≤40:=by omega
   have h40b:decide ((x.size:Int)≤40)=true:=decide_eq_true h40z
   have HV:Hid (ss=x.plain):=by show _=_;rw [HSO.out,decide_eq_true h40];rfl
   obtain ⟨pl,hpl⟩:∃ pl,pl=x.plain:=⟨_,rfl⟩
   rw [←hpl] at HC3 HV
   obtain ⟨sz,hsz'⟩:∃ sz:Int,sz=(x.size:Int):=⟨_,rfl⟩
   rw [←hsz'] at HC2 h40z h40b
   clear hpl hsz'
   go_enter Tryz.func128,Tryz.ntmps128
   go_upto_region 1 with fail
   rw [←HW0.out]
   go_wp2_with fail
   refine HC1'.out.mono ?_;rintro e w1 ⟨rfl,hb1⟩
   have HB1:=hid hb1
   have HX2:=hid (HC2.out w1 hb1)
   have r0:=keepC q0 hb1
   have r1:=keepC q1 hb1
   have r2:=keepC q2 hb1
   have r3:=keepC q3 hb1
   have r4:=keepC q4 hb1
   clear hb1 q0 q1 q2 q3 q4
   go_wp2_with fail
   refine HX2.out.mono ?_;rintro e w2 ⟨rfl,hb2⟩
   have s0:=keepC r0 hb2
   have s1:=keepC r1 hb2
   have s2:=keepC r2 hb2
   have s3:=keepC r3 hb2
   have s4:=keepC r4 hb2
   have HB2:=hid (bnext HB1.out hb2)
   have hal:Below w2.heap.size w2 (w2.alloc (.cells #[.int .i64 1,.int .i64 2,.int .i64 3,.int .i64 4,.int .i64 5,.int .i64 7] 2)):=by go_grown
   have hcn:=Cells.new w2 2 [.int .i64 1,.int .i64 2,.int .i64 3,.int .i64 4,.int .i64 5,.int .i64 7]
   have HX3:=hid (HC3.out _ (some ⟨w2.heap.size,0,none⟩) (bnext HB2.out hal) (Cells.intsM' (B:=0) (zs:=[1,2,3,4,5,7]) hcn (Nat.zero_le _)).ints)
   have HAL:=hid hal
   clear hb2 hal hcn r0 r1 r2 r3 r4 HX2
   go_wp2_with fail
   refine HX3.out.mono ?_;rintro e w3 ⟨rfl,hb3⟩
   have HB3:Hid (Below w.heap.size w w3):=HB0.out.trans ((bnext (bnext HB2.out HAL.out) hb3).mono HB0.out.size)
   clear hb3
   go_wp2
   go_ret
   exact ⟨ret_bool HV.out.symm,HB3.out⟩
  ·have h40z:¬ (x.size:Int)≤40:=by omega
   have h40b:decide ((x.size:Int)≤40)=false:=decide_eq_false h40z
   have HV:Hid (ss=false):=by show _=_;rw [HSO.out,decide_eq_false h40];rfl
   obtain ⟨sz,hsz'⟩:∃ sz:Int,sz=(x.size:Int):=⟨_,rfl⟩
   rw [←hsz'] at HC2 h40z h40b
   clear hsz'
   go_enter Tryz.func128,Tryz.ntmps128
   go_upto_region 1 with fail
   rw [←HW0.out]
   go_wp2_with fail
   refine HC1'.out.mono ?_;rintro e w1 ⟨rfl,hb1⟩
   have HB1:=hid hb1
   have HX2:=hid (HC2.out w1 hb1)
   have r0:=keepC q0 hb1
   have r1:=keepC q1 hb1
   have r2:=keepC q2 hb1
   have r3:=keepC q3 hb1
   have r4:=keepC q4 hb1
   clear hb1 q0 q1 q2 q3 q4
   go_wp2_with fail
   refine HX2.out.mono ?_;rintro e w2 ⟨rfl,hb2⟩
   have HB3:Hid (Below w.heap.size w w2):=HB0.out.trans ((bnext HB1.out hb2).mono HB0.out.size)
   clear hb2
   go_wp2
   go_ret
   exact ⟨ret_bool HV.out.symm,HB3.out⟩
end
section
open Go.RowKit Plain
theorem elemB_inv {P:Program} {e:TypeId} (he:P.underlying e=some .bool) {v:Value} {y:DataW Unit×List MemPlace} (h:plainElem P e v=some y):∃ c,v=.bool c:=by
 unfold plainElem at h
 rw [he] at h
 cases v<;>simp at h
 exact ⟨_,rfl⟩
theorem wpList_next_keys {P:Program} {kt et:TypeId} {w:World} {ops:Array Oper} {rest:List Oper} {o:Oper} {a:Act} {Q:Exit→Act→World→Prop} (hg:o.guard=none) (it:Operand) (hop:o.op=Op.next it false) (K:Maps.Keyed P kt)
  (hk:P.underlying kt=some (.int .i64)) (he:P.underlying et=some .bool) (b r n:Nat) (D:DataW Unit) (left:Lit→Bool) (cnt:Nat) (hit:a.eval it=.pointer (some ⟨r,0,none⟩)) (h:w.ranges P kt (plainElem P et) b r n D left cnt)
  (hDone:cnt=0→(∀ kl,left kl=false)→wpList P ops Q rest (a.put o.dst (.tuple #[.bool false])) w)
  (hMore:∀ (x:Int) (v:Value) (w':World) (cnt':Nat),(Lit.int .i64 x).wf=true→left (.int .i64 x)=true→Maps.has D (.int .i64 x)=true→w'.ranges P kt (plainElem P et) b r n D (fun z=>left z&&!z.sameKey (.int .i64 x)) cnt'→cnt'<cnt →
   w.grownBy w' (some r)→w'.heap.size=w.heap.size→(Instr.entry (.pointer (some ⟨r,0,none⟩))).run P w'=.ok (.tuple #[.int .i64 x,v]) w'→wpList P ops Q rest (a.put o.dst (.tuple #[.bool true,.int .i64 x,v])) w') :
  wpList P ops Q (o :: rest) a w:=
 wpList_next_ranges w hg it hop kt K (plainElem P et) (Value.int .i64) Value.bool (fun key kl hkey=>by obtain ⟨x,rfl,_⟩:=Maps.keyOf_int_inv hk hkey;exact ⟨x,rfl⟩) (fun v y hy=>elemB_inv he hy) b r n D left cnt hit h hDone
  (fun x c kl y w' cnt' hkey hlx _ hat hrg1 hlt hg1 hs1 hen=>by
   obtain ⟨x',ex,rfl,hwx⟩:=Maps.keyOf_int_inv hk hkey
   cases ex
   exact hMore x (.bool c) w' cnt' hwx hlx (Maps.has_true_of_atKey hat) hrg1 hlt hg1 hs1 hen)
theorem sorted_le_of {l:List Int} (h:SrtTo l.length l):l.Pairwise (·≤·):=by
 rw [List.pairwise_iff_getElem]
 intro i j hi hj hij
 have:=h i j hij hj
 rwa [←getElem_cf hi,←getElem_cf hj] at this
theorem sorted_unique:∀ {l m:List Int},l.Perm m→l.Pairwise (·≤·)→m.Pairwise (·<·)→l=m:=by
 intro l
 induction l with
 | nil=>intro m hp _ _;exact (List.nil_perm.1 hp).symm
 | cons x xs ih=>
  intro m hp hl hm
  cases m with
  | nil=>exact absurd hp.length_eq (by simp)
  | cons y ys=>
   obtain ⟨l1,l2⟩:=List.pairwise_cons.1 hl
   obtain ⟨m1,m2⟩:=List.pairwise_cons.1 hm
   have hxy:x=y:=by
    have hx:x∈y :: ys:=hp.mem_iff.1 (List.mem_cons_self ..)
    have hy:y∈x :: xs:=hp.mem_iff.2 (List.mem_cons_self ..)
    rcases List.mem_cons.1 hx with e | hx
    ·exact e
    ·rcases List.mem_cons.1 hy with e | hy
     ·exact e.symm
     ·have:=m1 x hx
      have:=l1 y hy
      omega
   subst hxy
   rw [ih (List.Perm.cons_inv hp) l2 m2]
theorem lt_nodup {l:List Int} (h:l.Pairwise (·<·)):l.Nodup:=h.imp fun h e=>by omega
theorem nodup_len {l m:List Int} (hl:l.Nodup) (h:∀ x∈l,x∈m):l.length≤m.length:=by
 induction l generalizing m with
 | nil=>simp
 | cons x xs ih=>
  obtain ⟨h1,h2⟩:=List.nodup_cons.1 hl
  have hx:=h x (List.mem_cons_self ..)
  have:=ih (m:=m.erase x) h2 fun y hy=>(List.mem_erase_of_ne (fun e=>h1 (by rw [←e];exact hy))).2 (h y (List.mem_cons_of_mem _ hy))
  rw [List.length_erase_of_mem hx] at this
  have:=List.length_pos_of_mem hx
  simp only [List.length_cons];omega
theorem ascending_any (b nn:Nat) (S:List Int) (w:World) (h:MSet w b nn S) (hs:S.Pairwise (·<·)) (hl:S.length≤12) (hn:nn≤100000) (hbd:∀ x∈S,(Lit.int .i64 x).wf=true) :
  Calls Tryz.prog 252 #[.map (some b)] w fun e w'=>∃ A cap,e=.returned (.slice A S.length cap)∧Ints w' A S∧Below w.heap.size w w':=by
 obtain ⟨i0,hi,hz0,hz1,hz2⟩:=info_parts Tryz.infoI
 obtain ⟨D,hown,hset⟩:=h
 have law:Maps.Keyed Tryz.prog 2:=Maps.int_keyed Tryz.underlying2
 have HSET:=hid hset
 have HS:=hid hs
 have HBD:=hid hbd
 have hbw:=hown.lt
 have hown1:=hown.alloc (.cells #[] 2)
 have hsz1:(w.alloc (.cells #[] 2)).heap.size=w.heap.size+1:=by simp
 have HR0:=hid (rowStartI w)
 have HB0:Hid (Below w.heap.size w (w.alloc (.cells #[] 2))):=by show Below _ _ _;go_grown
 have HSZ:Hid (Maps.size D≤nn):=by
  obtain ⟨es,_,_,_,h1,h2⟩:=hown
  show _≤_
  rw [h2]
  show (_:List _).length≤nn
  rw [Go.length_sorted,List.length_map,Array.length_toList]
  exact h1
 clear hset hs hbd hown
 go_enter Tryz.func252,Tryz.ntmps252
 go_wp2_with (first
  | (at_range;refine wpList_range_own _ rfl _ 283 rfl 2 4 law Tryz.underlying283 _ b nn _ rfl hown1 ?_;intro w0 hrg0 hg0 hs0)
  | go_in)
 go_frame
 generalize (w.alloc (.cells #[] 2)).heap.size=r at *
 have hr1:w.heap.size+1≤r:=by omega
 have hr2:r≤w.heap.size+1:=by omega
 have hsa:(w.alloc (.cells #[] 2)).heap.size=w.heap.size+1:=by simp
 clear hsz1
 go_loopw [3,4] (fun s3 _ wr=>∃ (left:Lit→Bool) (cnt:Nat) (out:List Int) (cp:Nat) (Av:Option Addr),s3=.slice Av out.length cp∧wr.ranges Tryz.prog 2 (plainElem Tryz.prog 4) b r nn D left cnt∧Hid (IntRow wr w.heap.size (.slice Av out.length cp) out)∧Hid (Below w.heap.size w wr)∧Hid (out.Nodup)∧Hid (∀ x∈out,x∈S∧left (.int .i64 x)=false)∧Hid (∀ x∈S,left (.int .i64 x)=true∨x∈out)∧out.length+cnt≤nn∧w.heap.size+2≤wr.heap.size) (fun _ _ wr=>wr.rangeLeft b r)
 case atStart=>
  refine ⟨Maps.has D,Maps.size D,[],0,some ⟨w.heap.size,0,none⟩,rfl,hrg0, ?_,HB0.out.trans ⟨hg0.os,hg0.tape,hg0.output,by omega,fun k hk=>hg0.block k (by omega) (by simp)⟩,List.nodup_nil,(fun x hx=>by simp at hx),(fun x hx=>.inl ((HSET.out x (HBD.out x hx)).2 hx)),by have:=HSZ.out;simp;omega,by omega⟩
  exact HR0.out.keep fun g hg=>hg0.block g (HR0.out.lt hg).2 (by simp)
 case round=>
  obtain ⟨left,cnt,out,cp,Av,rfl,hrg,HR,HB,HN,HI,HC,hcn,hwz⟩:=hrel
  have hnb:∀ q,(Value.slice Av out.length cp).ownBlock=some q→q≠b∧q≠r:=fun q hq=>by
   obtain ⟨cs,hcs⟩:=own_typed HR.out hq
   obtain ⟨es,clock,since,seen,c0,g1,_,_,_,g2,_⟩:=hrg
   exact ⟨fun e=>(by rw [e,g1] at hcs;cases hcs),fun e=>(by rw [e,g2] at hcs;cases hcs)⟩
  have HNB:=hid hnb
  clear hnb
  have hol:out.length≤nn:=by omega
  go_wp2_with (first
   | (at_next;refine wpList_next_keys rfl _ rfl law Tryz.underlying2 Tryz.underlying4 b r nn _ _ _ rfl hrg ?_ ?_)
   | go_in)
  ·intro _ hl0
   have hp:out.Perm S:=by
    rw [List.perm_ext_iff_of_nodup HN.out (lt_nodup HS.out)]
    exact fun x=>⟨fun hx=>(HI.out x hx).1,fun hx=>(HC.out x hx).resolve_left (by rw [hl0];simp)⟩
   have HP:=hid hp
   have HLEN:Hid (out.length=S.length):=hp.length_eq
   have HSO:=hid (sortI_any w.heap.size Av cp out.length out wr HR.out rfl (by have:=HLEN.out;omega))
   clear hl0 hp hrg
   go_wp2_with (go_at_call 271;refine HSO.out.mono ?_;rintro e w1 ⟨rfl,l1,hp1,hs1,hr1,hb1⟩)
   go_ret
   have hl1:l1.length=out.length:=hp1.length_eq
   have he:l1=S:=sorted_unique (hp1.trans HP.out) (sorted_le_of (by rw [hl1];exact hs1)) HS.out
   refine ⟨Av,cp,by rw [←HLEN.out];rfl, ?_,HB.out.trans hb1⟩
   rw [←he]
   have hr2:IntRow w1 w.heap.size (.slice Av l1.length cp) l1:=by rw [hl1];exact hr1
   exact hr2.intsM.ints
  ·intro x v w1 cnt1 hwx hlx hhas hrg1 hlt hg1 hs1 hen
   have hxS:x∈S:=(HSET.out x hwx).1 hhas
   have hxo:x ∉ out:=fun hx=>by have:=(HI.out x hx).2;rw [hlx] at this;cases this
   have HR1:Hid (IntRow w1 w.heap.size (.slice Av out.length cp) out):=HR.out.keep fun q hq=>hg1.block q (HR.out.lt hq).2 (fun e=>(HNB.out q hq).2 (Option.some.inj e))
   have HB1:Hid (Below w.heap.size w w1):=HB.out.trans ⟨hg1.os,hg1.tape,hg1.output,by omega,fun k hk=>hg1.block k (by have:=HB.out.size;omega) (fun e=>by have:=Option.some.inj e;omega)⟩
   have HXS:=hid hxS
   have HXO:=hid hxo
   have hwz1:w.heap.size+2≤w1.heap.size:=by omega
   have hs1a:w1.heap.size≤wr.heap.size:=by omega
   have hs1b:wr.heap.size≤w1.heap.size:=by omega
   clear hs1
   clear hxS hxo hhas
   go_wp2_with (first
    | (at_builtin;refine wpList_append_own _ rfl _ _ 28 rfl w.heap.size 2 i0 (.int .i64 0) 1 8 Tryz.underlying28 hi hz0 hz1 hz2 rfl (by decide) _ out.length _ rfl ((HR1.out.ownN rfl).alloc _) ⟨w1.heap.size,0,none⟩ 1 1 [.int .i64 x] rfl rfl ?c1 ?c2 ?c3 ?c4 ?c5 ?_)
    | go_in)
   try (case c1=>exact cell_one_new _ _ _)
   try (case c2=>first | rfl | (intro u hu;simp at hu;subst hu;rfl))
   case c3=>unfold maxLen;omega
   case c4=>omega
   case c5=>simp;omega
   intro v2 w2 hown2 hg2 _
   have hal:Below w1.heap.size w1 (w1.alloc (.cells #[.int .i64 x] 2)):=by go_grown
   have hr2:IntRow w2 w.heap.size v2 (out++[x]):=by unfold IntRow;simpa using hown2
   obtain ⟨A2,c2,hv⟩:=hr2.form
   subst hv
   have hrg2:=(hrg1.alloc (.cells #[.int .i64 x] 2)).kept hg2 (fun e=>(HNB.out b e.symm).1 rfl) (fun e=>(HNB.out _ e.symm).2 rfl)
   have hb2:Below w.heap.size w w2:=(HB1.out.alloc (by omega) _).grown hg2 (by simp;omega) (fun q hq=>(HR1.out.lt hq).1)
   have hsz2:w.heap.size+2≤w2.heap.size:=by have:=hg2.size;simp at this;omega
   have HR2:=hid hr2
   have HB2:=hid hb2
   have HN2:Hid ((out++[x]).Nodup):=by
    show List.Nodup _
    rw [List.nodup_append]
    exact ⟨HN.out,by simp,fun a ha c hc e=>by simp at hc;subst hc;exact HXO.out (e ▸ ha)⟩
   have HI2:Hid (∀ y∈out++[x],y∈S∧(left (.int .i64 y)&&!(Lit.int .i64 y).sameKey (.int .i64 x))=false):=fun y hy=>by
    rcases List.mem_append.1 hy with hy | hy
    ·exact ⟨(HI.out y hy).1,by rw [(HI.out y hy).2];rfl⟩
    ·simp at hy;subst hy
     exact ⟨HXS.out,by rw [WideAt.sameKey_self (by simp [WideAt.IsKeyLit])];simp⟩
   have HC2:Hid (∀ y∈S,(left (.int .i64 y)&&!(Lit.int .i64 y).sameKey (.int .i64 x))=true∨y∈out++[x]):=fun y hy=>by
    by_cases e:y=x
    ·exact .inr (by simp [e])
    ·rcases HC.out y hy with h | h
     ·refine .inl ?_
      rw [h]
      cases hsk:(Lit.int .i64 y).sameKey (.int .i64 x)
      ·rfl
      ·have:=(WideAt.sameKey_iff (by simp [WideAt.IsKeyLit])).1 hsk
       injection this with _ this;exact absurd this e
     ·exact .inr (List.mem_append_left _ h)
   clear hown2 hg2 hr2 hb2 hal
   go_wp2
   go_roundw
   case rel=>exact ⟨_,cnt1,out++[x],c2,A2,rfl,hrg2,HR2,HB2,HN2,HI2,HC2,by simp;omega,hsz2⟩
   case measure=>rw [hrg2.left_eq,hrg.left_eq];exact hlt
end
end Go.Proofs.YtgfkglhelfkpoaaGreat
