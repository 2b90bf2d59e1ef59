/- Texts put together: WOk1, WOk2, WOk3, WOk4, WOk5, WOk6. -/
import Derived.Test.YtgfkglhelfkpoaaGreatRC
import Derived.Test.YtgfkglhelfkpoaaGreatRA
import Derived.Test.YtgfkglhelfkpoaaGreatRB
import Derived.Test.YtgfkglhelfkpoaaGreatRD
import Derived.StillTailTactics
set_option maxRecDepth 100000
set_option maxHeartbeats 1000000
open Go.Lib (hid)
namespace Go.Proofs.YtgfkglhelfkpoaaGreat
section
open Go.RowKit Plain
abbrev ptr (b o:Nat):Value:=.pointer (some ⟨b,o,none⟩)
def LeftC (ks:Es):Prop:=∀ (k n p c:Int) (b o B:Nat) (l:Int) (w:World),ElAt w B k n p c ks b o→B≤w.heap.size→ks.size≤1048576→0≤l→l≤1048576 →
 Calls Tryz.prog 140 #[ptr b o,.int .i64 l] w fun e w'=>e=.returned (.int .i64 (leftL ks (l - 1)))∧Below w.heap.size w w'
theorem left_any:∀ (m:Nat) (ks:Es),ks.size<m→LeftC ks:=by
 intro m
 induction m with
 | zero=>intro es h;omega
 | succ m ih=>
 intro ks hm k n p c b o B l w hE hB hsz0 l0 l1
 have IH:=hid ih;clear ih
 obtain ⟨hbB,h0,h1,h2,h3,K,cap,b',o',h4,hc,hcm,hK,hks⟩:=hE
 have HKS:=hid hks;clear hks
 have hcm':cap≤9223372036854775807:=by unfold maxLen at hcm;omega
 have hbw:b<w.heap.size:=by omega
 have hls:=Es.len_le_size ks
 go_enter Tryz.func140,Tryz.ntmps140
 go_wp2
 go_loopw [1,5] (fun ll i wr=>∃ (j:Nat) (es':Es) (y:Int),i=.int .i64 (j:Int)∧ll=.int .i64 y∧j+es'.len=ks.len∧-1≤y∧y≤l∧Hid (leftL es' y=leftL ks (l - 1))∧Hid (es'.size≤ks.size)∧Hid (ExsAt wr B es' b' (o'+j*5))∧Hid (Below w.heap.size w wr)) (fun _ i _=>ks.len - (intOf i).toNat)
 case atStart=>exact ⟨0,ks,l - 1,by go_num,rfl,by omega,by omega,by omega,rfl,Nat.le_refl _,by show ExsAt _ _ _ _ _;rw [Nat.zero_mul,Nat.add_zero];exact HKS.out,Below.refl _ _⟩
 case round=>
  obtain ⟨j,es',y,rfl,rfl,hj,y0,y1,hy,hsz,HE,HB⟩:=hrel
  have h4':wr.cell? ⟨b,o+4,none⟩=some (.slice K ks.len cap):=(HB.out.cell (p:=⟨b,_,none⟩) hbw).trans h4
  cases es' with
  | nil=>
   simp only [Es.len] at hj
   go_wp2
   go_ret
   exact ⟨ret_int hy.out,HB.out⟩
  | cons kk n' p' c' ks' r=>
   simp only [Es.len] at hj
   by_cases hn:y<0
   ·go_wp2
    go_ret
    have:=hy.out
    rw [leftL_neg _ _ hn] at this
    exact ⟨ret_int this,HB.out⟩
   ·have hK:=hK (by omega)
    subst hK
    obtain ⟨hel,hr⟩:=HE.out
    have HEL:=hid hel
    have HR:=hid hr
    have hrs:Hid (r.size≤ks.size∧ks'.size<ks.size):=by
     have:=hsz.out
     simp only [Es.size] at this
     exact ⟨by omega,by omega⟩
    clear hel hr HE
    go_wp2_with fail
    refine (IH.out ks' (by have:=hrs.out;omega) kk n' p' c' b' (o'+j*5) B y wr HEL.out (by have:=HB.out.size;omega) (by have:=hrs.out;omega) (by omega) (by omega)).mono ?_;rintro e w1 ⟨rfl,hb1⟩
    have HE1:Hid (ExsAt w1 B r b' (o'+(j+1)*5)):=by
     have:=HR.out.below (hb1.mono (by have:=HB.out.size;omega))
     rwa [show o'+j*5+5=o'+(j+1)*5 by omega] at this
    have HB1:=hid (bnext HB.out hb1)
    obtain ⟨z,hz⟩:∃ z,z=leftL ks' (y - 1):=⟨_,rfl⟩
    rw [←hz]
    have hbd:=leftL_bd ks' (y - 1) (by omega)
    rw [←hz] at hbd
    have HZ:Hid (leftL r z=leftL ks (l - 1)):=by
     have:=hy.out
     rw [leftL,if_neg (by omega)] at this
     rw [hz];exact this
    clear hz hb1 HR HEL
    go_wp2
    go_roundw
    case rel=>exact ⟨j+1,r,z,by go_num,rfl,by omega,by omega,by omega,HZ,hrs.out.1,HE1,HB1⟩
    case measure=>simp [intOf];omega
theorem Es.depth_le (es:Es):es.depth≤es.size:=by
 induction es with
 | nil=>exact Nat.le_refl _
 | cons k n p c ks r ih1 ih2=>simp only [Es.depth,Es.size];omega
theorem maxS_any (a b:Int) (w:World):Calls Tryz.prog 212 #[.int .i64 a,.int .i64 b] w fun e w'=>e=.returned (.int .i64 (max a b))∧w=w':=by
 by_cases h:b<a
 ·have hm:max a b=a:=by omega
  rw [hm]
  go_enter Tryz.func212,Tryz.ntmps212
  go_wp2
  go_ret
  exact ⟨rfl,rfl⟩
 ·have hm:max a b=b:=by omega
  rw [hm]
  go_enter Tryz.func212,Tryz.ntmps212
  go_wp2
  go_ret
  exact ⟨rfl,rfl⟩
def DepthC (ks:Es):Prop:=∀ (k n p c:Int) (b o B:Nat) (w:World),ElAt w B k n p c ks b o→B≤w.heap.size→ks.size≤1048576 →
 Calls Tryz.prog 141 #[ptr b o] w fun e w'=>e=.returned (.int .i64 ((ks.depth+1:Nat):Int))∧Below w.heap.size w w'
theorem depth_any:∀ (m:Nat) (ks:Es),ks.size<m→DepthC ks:=by
 intro m
 induction m with
 | zero=>intro es h;omega
 | succ m ih=>
 intro ks hm k n p c b o B w hE hB hsz0
 have IH:=hid ih;clear ih
 obtain ⟨hbB,h0,h1,h2,h3,K,cap,b',o',h4,hc,hcm,hK,hks⟩:=hE
 have HKS:=hid hks;clear hks
 have hcm':cap≤9223372036854775807:=by unfold maxLen at hcm;omega
 have hbw:b<w.heap.size:=by omega
 have hls:=Es.len_le_size ks
 have hdp:=Es.depth_le ks
 go_enter Tryz.func141,Tryz.ntmps141
 go_wp2
 go_loopw [3,4] (fun ll i wr=>∃ (j:Nat) (es':Es) (y:Nat),i=.int .i64 (j:Int)∧ll=.int .i64 (y:Int)∧j+es'.len=ks.len∧y≤ks.depth∧Hid (max y es'.depth=ks.depth)∧Hid (es'.size≤ks.size)∧Hid (ExsAt wr B es' b' (o'+j*5))∧Hid (Below w.heap.size w wr)) (fun _ i _=>ks.len - (intOf i).toNat)
 case atStart=>exact ⟨0,ks,0,by go_num,by go_num,by omega,by omega,by show _=_;omega,Nat.le_refl _,by show ExsAt _ _ _ _ _;rw [Nat.zero_mul,Nat.add_zero];exact HKS.out,Below.refl _ _⟩
 case round=>
  obtain ⟨j,es',y,rfl,rfl,hj,y1,hy,hsz,HE,HB⟩:=hrel
  have h4':wr.cell? ⟨b,o+4,none⟩=some (.slice K ks.len cap):=(HB.out.cell (p:=⟨b,_,none⟩) hbw).trans h4
  cases es' with
  | nil=>
   simp only [Es.len] at hj
   go_wp2
   go_ret
   have:=hy.out
   simp only [Es.depth] at this
   exact ⟨ret_int (by omega),HB.out⟩
  | cons kk n' p' c' ks' r=>
   simp only [Es.len] at hj
   have hK:=hK (by omega)
   subst hK
   obtain ⟨hel,hr⟩:=HE.out
   have HEL:=hid hel
   have HR:=hid hr
   have hrs:Hid (r.size≤ks.size∧ks'.size<ks.size):=by
    have:=hsz.out
    simp only [Es.size] at this
    exact ⟨by omega,by omega⟩
   clear hel hr HE
   go_wp2_with fail
   refine (IH.out ks' (by have:=hrs.out;omega) kk n' p' c' b' (o'+j*5) B wr HEL.out (by have:=HB.out.size;omega) (by have:=hrs.out;omega)).mono ?_;rintro e w1 ⟨rfl,hb1⟩
   have HE1:Hid (ExsAt w1 B r b' (o'+(j+1)*5)):=by
    have:=HR.out.below (hb1.mono (by have:=HB.out.size;omega))
    rwa [show o'+j*5+5=o'+(j+1)*5 by omega] at this
   have HB1:=hid (bnext HB.out hb1)
   obtain ⟨z,hz⟩:∃ z,z=ks'.depth+1:=⟨_,rfl⟩
   rw [←hz]
   have HZ:Hid (max (max y z) r.depth=ks.depth):=by
    have:=hy.out
    simp only [Es.depth] at this
    show _=_;omega
   clear hz hb1 HR HEL
   go_wp2_with fail
   refine (maxS_any _ _ _).mono ?_;rintro e w2 ⟨rfl,rfl⟩
   have hmx:(max (y:Int) (z:Int))=((max y z:Nat):Int):=by omega
   rw [hmx]
   have hq:max y z≤ks.depth:=by have:=HZ.out;omega
   generalize max y z=q at *
   go_wp2
   go_roundw
   case rel=>exact ⟨j+1,r,q,by go_num,rfl,by omega,hq,HZ,hrs.out.1,HE1,HB1⟩
   case measure=>simp [intOf];omega
end
section
open Go.RowKit Plain
theorem quiet_add_same {P:Program} {f:FuncId} {args:Array Value} {w:World} {a n:Nat} {v:Value}
  (h:Calls P f args (w.drewN (a+n)) fun e w'=>e=.returned v∧w'=w.drewN (a+n)) :
  Calls P f args (w.drewN (a+n)) fun e w''=>e=.returned v∧∃ m,w''=w.drewN (a+m):=
 h.mono fun _ _ ⟨he,hm⟩=>⟨he,n,hm⟩
theorem FnSl.get {w:World} {B:Nat} {fs:List Fn} {A:Option Addr} (h:FnSl w B fs A) {i:Nat} {f:Fn} (hf:fs[i]? = some f):∃ b o,A=some ⟨b,o,none⟩∧FlAt w B f b (o+i*3):=by
 obtain ⟨b,o,hA,h⟩:=h
 exact ⟨b,o,hA (by have:=(List.getElem?_eq_some_iff.1 hf).1;omega),h.get hf⟩
def PrAt (w:World) (B:Nat) (P:List Fn) (b o:Nat):Prop:=
 b<B∧∃ A cap,w.cell? ⟨b,o,none⟩=some (.slice A P.length cap)∧P.length≤cap∧cap≤maxLen∧FnSl w B P A
theorem PrAt.below {w w':World} {B:Nat} {P:List Fn} {b o:Nat} (h:PrAt w B P b o) (hb:Below B w w'):PrAt w' B P b o:=by
 obtain ⟨h0,A,cap,h1,h2,h3,h4⟩:=h
 exact ⟨h0,A,cap,(hb.cell (p:=⟨b,_,none⟩) h0).trans h1,h2,h3,h4.below hb⟩
theorem isNumberS_any (x:Int) (w:World):Calls Tryz.prog 255 #[.int .i64 x] w fun e w'=>e=.returned (.bool (inR x 0 1000002))∧w=w':=by
 go_enter Tryz.func255,Tryz.ntmps255
 go_wp2_with fail
 refine (in_any _ _ _ _).mono ?_;rintro e w' ⟨rfl,rfl⟩
 go_wp2
 go_ret
 exact ⟨rfl,rfl⟩
theorem in_bq (b:Bool) (n lo hi:Int) (h:inR n lo hi=b) (w:World):Calls Tryz.prog 106 #[.int .i64 n,.int .i64 lo,.int .i64 hi] w fun e w'=>e=.returned (.bool b)∧w'=w:=
 (in_any n lo hi w).mono fun _ _ ⟨h1,h2⟩=>⟨h ▸ h1,h2.symm⟩
def kidsN (k:Int):Int:=if k=1∨k=2 then 0 else if k=3∨k=4∨k=5∨k=6∨k=9 then 2 else if k=7 then 1 else if k=8 then 3 else -1
theorem kidsN_any (k:Int) (w:World):Calls Tryz.prog 254 #[.int .i64 k] w fun e w'=>e=.returned (.int .i64 (kidsN k))∧w=w':=by
 go_enter Tryz.func254,Tryz.ntmps254
 go_wp2
 all_goals
  go_ret
  exact ⟨ret_int (by simp_all [kidsN]),rfl⟩
theorem kidsN_quiet (k:Int) (w:World):Calls Tryz.prog 254 #[.int .i64 k] w fun e w'=>e=.returned (.int .i64 (kidsN k))∧w'=w:=
 (kidsN_any k w).mono fun _ _ ⟨h1,h2⟩=>⟨h1,h2.symm⟩
theorem nodeOk_call {P:List Fn} {fn vars k n p c:Int} {len:Nat} {f:Fn} (hk:k=10∨k=11) (hf:P[n.toNat]? = some f) (hn:inR n 0 (fn - 1)=true) :
  nodeOk P fn vars k n p c len=(decide ((len:Int)=f.params)&&inR p 0 ((f.outs.len:Int) - 1)&&(if k=10 then c==0 else decide ((f.outs.len:Int)=f.params)&&inR c 0 8)):=by
 unfold nodeOk;rw [if_pos hk,hf,hn];rfl
theorem nodeOk_no {P:List Fn} {fn vars k n p c:Int} {len:Nat} (hk:k=10∨k=11) (hn:inR n 0 (fn - 1)=false):nodeOk P fn vars k n p c len=false:=by
 unfold nodeOk;rw [if_pos hk,hn];rfl
theorem nodeOk_plain {P:List Fn} {fn vars k n p c:Int} {len:Nat} (hk:¬ (k=10∨k=11)):nodeOk P fn vars k n p c len =
  (decide (kidsN k=len)&&p==0&&c==0&&(if k=1 then inR n 0 1000002 else if k=2 then inR n 0 (vars - 1) else n==0)):=by
 unfold nodeOk kidsN
 rw [if_neg hk]
 have e (x:Nat):(len==x)=decide ((len:Int)=x):=by rw [Bool.eq_iff_iff];simp;omega
 have e0:=e 0
 have e1:=e 1
 have e2:=e 2
 have e3:=e 3
 by_cases h1:k=1
 ·subst h1;simp [Bool.and_left_comm,Bool.and_assoc,eq_comm,e0]
 by_cases h2:k=2
 ·subst h2;simp [Bool.and_left_comm,Bool.and_assoc,eq_comm,e0]
 by_cases h3:k=3∨k=4∨k=5∨k=6∨k=9
 ·simp [h1,h2,h3,Bool.and_comm,Bool.and_left_comm,Bool.and_assoc,eq_comm,e2]
 by_cases h7:k=7
 ·subst h7;simp [Bool.and_comm,Bool.and_left_comm,Bool.and_assoc,eq_comm,e1]
 by_cases h8:k=8
 ·subst h8;simp [Bool.and_comm,Bool.and_left_comm,Bool.and_assoc,eq_comm,e3]
 simp [h1,h2,h3,h7,h8]
theorem wrapm1 {n:Nat} (h:(n:Int)≤9223372036854775807):IntKind.i64.wrap ((n:Int) - 1)=(n:Int) - 1:=by rw [IntKind.wrap_i64];omega
def NodePost (r:Bool) (w:World) (e:Ending) (w':World):Prop:=e=.returned (.bool r)∧Below w.heap.size w w'
theorem NodePost.d2 {r r':Bool} {w:World} {n m:Nat} (h:r'=r):NodePost r w (.returned (.bool r')) ((w.drewN n).drewN m):=⟨ret_bool h,(Drawn.trans ⟨_,rfl⟩ ⟨_,rfl⟩).below _⟩
theorem NodePost.d1 {r r':Bool} {w:World} {n:Nat} (h:r'=r):NodePost r w (.returned (.bool r')) (w.drewN n):=⟨ret_bool h,Drawn.below ⟨_,rfl⟩ _⟩
theorem NodePost.d0 {r r':Bool} {w:World} (h:r'=r):NodePost r w (.returned (.bool r')) w:=⟨ret_bool h,Below.refl _ _⟩
theorem node_call (P:List Fn) (ks:Es) (k n p c vars funcs:Int) (b o bp op B:Nat) (w:World) (hE:ElAt w B k n p c ks b o) (hP:PrAt w B P bp op) (hf0:0≤funcs) (hf1:funcs≤P.length) (hk:k=10∨k=11) :
  Calls Tryz.prog 213 #[ptr bp op,ptr b o,.int .i64 vars,.int .i64 funcs] w (NodePost (nodeOk P funcs vars k n p c ks.len) w):=by
 obtain ⟨hbB,h0,h1,h2,h3,K,cap,b',o',h4,hc,hcm,hK,hks⟩:=hE
 obtain ⟨hbp,A,capP,hp0,hPl,hPm,hFS⟩:=hP
 have HFS:=hid hFS;clear hFS hks
 have hcm':cap≤9223372036854775807:=by unfold maxLen at hcm;omega
 have hPm':capP≤9223372036854775807:=by unfold maxLen at hPm;omega
 cases hn:inR n 0 (funcs - 1)
 ·have HN:=hid (nodeOk_no (P:=P) (vars:=vars) (p:=p) (c:=c) (len:=ks.len) hk hn)
  go_enter Tryz.func213,Tryz.ntmps213
  rcases hk with rfl | rfl
  all_goals
   go_wp2_with fail
   refine (in_any _ _ _ _).mono ?_;rintro e w' ⟨rfl,rfl⟩
   rw [hn]
   go_wp2
   go_ret
   exact NodePost.d0 HN.out.symm
 ·obtain ⟨n0,n1⟩:=inR_true.1 hn
  obtain ⟨m,rfl⟩:=Int.eq_ofNat_of_zero_le n0
  obtain ⟨f,hf⟩:∃ f,P[m]? = some f:=⟨P[m]'(by omega),List.getElem?_eq_getElem _⟩
  have HN:=hid (nodeOk_call (vars:=vars) (p:=p) (c:=c) (len:=ks.len) hk (show P[(m:Int).toNat]? = some f from hf) hn)
  obtain ⟨bF,oF,rfl,hbF,g0,g1,_,KF,cF,g2,hcF,hcFm,_⟩:=HFS.out.get hf
  have hcF':cF≤9223372036854775807:=by unfold maxLen at hcFm;omega
  have hl4:((f.outs.len:Nat):Int)≤9223372036854775807:=by omega
  have hl5:((ks.len:Nat):Int)≤9223372036854775807:=by omega
  have hw:=wrapm1 hl4
  have hNN:=hid hn
  cases hp:inR p 0 ((f.outs.len:Int) - 1)
  ·have HP:=hid hp
   clear hp hn
   go_enter Tryz.func213,Tryz.ntmps213
   rcases hk with rfl | rfl
   all_goals
    go_wp2_with fail
    refine (in_any _ _ _ _).mono ?_;rintro e w' ⟨rfl,rfl⟩
    rw [hNN.out]
    go_wp2_with fail
    go_quiet (fail)
    rename Nat=>nq
    go_wp2_with fail
    go_quiet ((go_at_call 106;exact quiet_add_same (in_bq false _ _ _ HP.out _)))
    rename Nat=>nq2
    go_wp2
    go_returns
    exact NodePost.d2 (by rw [HN.out,HP.out];simp)
  ·have HP:=hid hp
   clear hp hn
   cases hl:((ks.len:Int)==f.params)
   ·have hl':(ks.len:Int)≠f.params:=by simpa using hl
    go_enter Tryz.func213,Tryz.ntmps213
    rcases hk with rfl | rfl
    all_goals
     go_wp2_with fail
     refine (in_any _ _ _ _).mono ?_;rintro e w' ⟨rfl,rfl⟩
     rw [hNN.out]
     go_wp2_with fail
     go_quiet (fail)
     rename Nat=>nq
     go_wp2_with fail
     go_quiet ((go_at_call 106;exact quiet_add_same (in_bq true _ _ _ HP.out _)))
     rename Nat=>nq2
     go_wp2
     go_returns
     exact NodePost.d2 (by rw [HN.out,HP.out];simp [hl'])
   ·have HL:Hid ((ks.len:Int)=f.params):=by show _=_;simpa using hl
    have hl2:((ks.len:Int) != f.params)=false:=by simpa using hl
    rcases hk with rfl | rfl
    ·go_enter Tryz.func213,Tryz.ntmps213
     go_wp2_with fail
     refine (in_any _ _ _ _).mono ?_;rintro e w' ⟨rfl,rfl⟩
     rw [hNN.out]
     go_wp2_with fail
     go_quiet (fail)
     rename Nat=>nq
     go_wp2_with fail
     go_quiet ((go_at_call 106;exact quiet_add_same (in_bq true _ _ _ HP.out _)))
     rename Nat=>nq2
     go_wp2
     go_returns
     first
      | refine NodePost.d1 ?_
      | refine NodePost.d2 ?_
     rw [HN.out,HP.out]
     simp [HL.out]
    ·cases hc8:inR c 0 8
     all_goals
      have HC:=hid hc8
      clear hc8
      cases ho:((f.outs.len:Int)==f.params)
     all_goals
      have HO:=hid ho
      go_enter Tryz.func213,Tryz.ntmps213
      go_wp2_with fail
      refine (in_any _ _ _ _).mono ?_;rintro e w' ⟨rfl,rfl⟩
      rw [hNN.out]
      go_wp2_with fail
      go_quiet (fail)
      rename Nat=>nq
      go_wp2_with fail
      go_quiet ((go_at_call 106;exact quiet_add_same (in_bq true _ _ _ HP.out _)))
      rename Nat=>nq2
      go_wp2_with fail
      go_quiet ((go_at_call 106;exact quiet_add_same (in_bq _ _ _ _ HC.out _)))
      rename Nat=>nq3
      go_wp2
      go_returns
      first
       | refine NodePost.d1 ?_
       | refine NodePost.d2 ?_
      have:=HO.out
      rw [HN.out,HP.out,HC.out]
      simp_all [HL.out]
end
section
open Go.RowKit Plain
theorem node_plain (P:List Fn) (ks:Es) (k n p c vars funcs:Int) (b o bp op B:Nat) (w:World) (hE:ElAt w B k n p c ks b o) (v0:0≤vars) (v1:vars≤2000000) (hk:¬ (k=10∨k=11)) :
  Calls Tryz.prog 213 #[ptr bp op,ptr b o,.int .i64 vars,.int .i64 funcs] w (NodePost (nodeOk P funcs vars k n p c ks.len) w):=by
 obtain ⟨hbB,h0,h1,h2,h3,K,cap,b',o',h4,hc,hcm,hK,hks⟩:=hE
 clear hks
 have hcm':cap≤9223372036854775807:=by unfold maxLen at hcm;omega
 have HN:=hid (nodeOk_plain (P:=P) (fn:=funcs) (vars:=vars) (n:=n) (p:=p) (c:=c) (len:=ks.len) hk)
 have hk1:(k==10)=false:=by simp;omega
 have hk2:(k==11)=false:=by simp;omega
 have hv:IntKind.i64.wrap (vars - 1)=vars - 1:=by rw [IntKind.wrap_i64];omega
 have hl5:((ks.len:Nat):Int)≤9223372036854775807:=by omega
 clear hk
 by_cases e1:kidsN k=ks.len
 ·have e1n:(kidsN k==(ks.len:Int))=true:=by simpa using e1
  have e1m:(kidsN k != (ks.len:Int))=false:=by simpa using e1
  have E1:=hid e1;clear e1
  by_cases e2:p=0
  ·by_cases e3:c=0
   ·subst e2 e3
    by_cases ek1:k=1
    ·have k1:(k==1)=true:=by simpa using ek1
     have EK:=hid ek1;clear ek1
     go_enter Tryz.func213,Tryz.ntmps213
     go_wp2_with fail
     go_quiet ((go_at_call 254;exact Calls.quiet_of_same (kidsN_quiet _ _)))
     rename Nat=>nq
     go_wp2_with fail
     refine (isNumberS_any _ _).mono ?_;rintro e w' ⟨rfl,rfl⟩
     go_wp2
     go_returns
     exact NodePost.d1 (by rw [HN.out,decide_eq_true E1.out];simp [EK.out])
    by_cases ek2:k=2
    ·have k1:(k==1)=false:=by simpa using ek1
     have k2:(k==2)=true:=by simpa using ek2
     have EK1:=hid ek1;clear ek1
     have EK:=hid ek2;clear ek2
     go_enter Tryz.func213,Tryz.ntmps213
     go_wp2_with fail
     go_quiet ((go_at_call 254;exact Calls.quiet_of_same (kidsN_quiet _ _)))
     rename Nat=>nq
     go_wp2_with fail
     refine (in_any _ _ _ _).mono ?_;rintro e w' ⟨rfl,rfl⟩
     go_wp2
     go_returns
     exact NodePost.d1 (by rw [HN.out,decide_eq_true E1.out];simp [EK.out])
    have k1:(k==1)=false:=by simpa using ek1
    have k2:(k==2)=false:=by simpa using ek2
    go_enter Tryz.func213,Tryz.ntmps213
    go_wp2_with fail
    go_quiet ((go_at_call 254;exact Calls.quiet_of_same (kidsN_quiet _ _)))
    rename Nat=>nq
    go_wp2
    go_returns
    exact NodePost.d1 (by rw [HN.out];simp [E1.out,ek1,ek2])
   ·have k1:(c==0)=false:=by simpa using e3
    have k1':(c != 0)=true:=by simpa using e3
    subst e2
    go_enter Tryz.func213,Tryz.ntmps213
    go_wp2_with fail
    go_quiet ((go_at_call 254;exact Calls.quiet_of_same (kidsN_quiet _ _)))
    rename Nat=>nq
    go_wp2
    go_returns
    exact NodePost.d1 (by rw [HN.out];simp [e3])
  ·have k1:(p==0)=false:=by simpa using e2
   have k1':(p != 0)=true:=by simpa using e2
   go_enter Tryz.func213,Tryz.ntmps213
   go_wp2_with fail
   go_quiet ((go_at_call 254;exact Calls.quiet_of_same (kidsN_quiet _ _)))
   rename Nat=>nq
   go_wp2
   go_returns
   exact NodePost.d1 (by rw [HN.out];simp [e2])
 ·have k1:(kidsN k==(ks.len:Int))=false:=by simpa using e1
  have k1':(kidsN k != (ks.len:Int))=true:=by simpa using e1
  go_enter Tryz.func213,Tryz.ntmps213
  go_wp2_with fail
  go_quiet ((go_at_call 254;exact Calls.quiet_of_same (kidsN_quiet _ _)))
  rename Nat=>nq
  go_wp2
  go_returns
  exact NodePost.d1 (by rw [HN.out];simp [e1])
theorem node_any (P:List Fn) (ks:Es) (k n p c vars funcs:Int) (b o bp op B:Nat) (w:World) (hE:ElAt w B k n p c ks b o) (hP:PrAt w B P bp op) (hf0:0≤funcs) (hf1:funcs≤P.length) (v0:0≤vars) (v1:vars≤2000000) :
  Calls Tryz.prog 213 #[ptr bp op,ptr b o,.int .i64 vars,.int .i64 funcs] w fun e w'=>e=.returned (.bool (nodeOk P funcs vars k n p c ks.len))∧Below w.heap.size w w':=by
 by_cases hk:k=10∨k=11
 ·exact node_call P ks k n p c vars funcs b o bp op B w hE hP hf0 hf1 hk
 ·exact node_plain P ks k n p c vars funcs b o bp op B w hE v0 v1 hk
end
section
open Go.RowKit Plain
end
section
open Go.RowKit Plain
theorem kidVars_bd (k vars:Int) (j:Nat):vars≤kidVars k vars j∧kidVars k vars j≤vars+1:=by unfold kidVars;split<;>omega
def TreeC (P:List Fn) (ks:Es):Prop:=∀ (k n p c:Int) (b o bp op B:Nat) (vars funcs:Int) (w:World),ElAt w B k n p c ks b o→PrAt w B P bp op→B≤w.heap.size→0≤funcs→funcs≤P.length→0≤vars→vars+ks.depth≤2000000→ks.size≤1048576 →
 Calls Tryz.prog 142 #[ptr bp op,ptr b o,.int .i64 vars,.int .i64 funcs] w fun e w'=>e=.returned (.bool (nodeOk P funcs vars k n p c ks.len&&formedL P funcs ks k 0 vars))∧Below w.heap.size w w'
theorem tree_any (P:List Fn):∀ (m:Nat) (ks:Es),ks.size<m→TreeC P ks:=by
 intro m
 induction m with
 | zero=>intro es h;omega
 | succ m ih=>
 intro ks hm k n p c b o bp op B vars funcs w hE hP hB f0 f1 v0 v1 hsz0
 have IH:=hid ih;clear ih
 have HNODE:=hid (node_any P ks k n p c vars funcs b o bp op B w hE hP f0 f1 v0 (by omega))
 have HP:=hid hP;clear hP
 obtain ⟨hbB,h0,h1,h2,h3,K,cap,b',o',h4,hc,hcm,hK,hks⟩:=hE
 have HKS:=hid hks;clear hks
 have hcm':cap≤9223372036854775807:=by unfold maxLen at hcm;omega
 have hbw:b<w.heap.size:=by omega
 have hls:=Es.len_le_size ks
 cases hn:nodeOk P funcs vars k n p c ks.len
 ·have HN:=hid hn;clear hn
  go_enter Tryz.func142,Tryz.ntmps142
  go_wp2_with fail
  refine HNODE.out.mono ?_;rintro e w1 ⟨rfl,hb1⟩
  rw [HN.out]
  go_wp2
  go_ret
  exact ⟨rfl,hb1⟩
 ·have HN:=hid hn;clear hn
  obtain ⟨F,hF⟩:∃ F,F=formedL P funcs ks k 0 vars:=⟨_,rfl⟩
  have HF:=hid hF;clear hF
  rw [Bool.true_and,←HF.out]
  go_enter Tryz.func142,Tryz.ntmps142
  go_wp2_with fail
  refine HNODE.out.mono ?_;rintro e w1 ⟨rfl,hb1⟩
  rw [HN.out]
  have HB1:=hid hb1;clear hb1
  go_wp2
  go_loopw [9] (fun i wr=>∃ (j:Nat) (es':Es),i=.int .i64 (j:Int)∧j+es'.len=ks.len∧Hid (formedL P funcs es' k j vars=F)∧Hid (es'.size≤ks.size∧es'.depth≤ks.depth)∧Hid (ExsAt wr B es' b' (o'+j*5))∧Hid (Below w.heap.size w wr)) (fun i _=>ks.len - (intOf i).toNat)
  case atStart=>exact ⟨0,ks,by go_num,by omega,HF.out.symm,⟨Nat.le_refl _,Nat.le_refl _⟩,by show ExsAt _ _ _ _ _;rw [Nat.zero_mul,Nat.add_zero];exact HKS.out.below (HB1.out.mono hB),HB1.out⟩
  case round=>
   obtain ⟨j,es',rfl,hj,hy,hsz,HE,HB⟩:=hrel
   have h0':wr.cell? ⟨b,o,none⟩=some (.int .i64 k):=(HB.out.cell (p:=⟨b,_,none⟩) hbw).trans h0
   have h4':wr.cell? ⟨b,o+4,none⟩=some (.slice K ks.len cap):=(HB.out.cell (p:=⟨b,_,none⟩) hbw).trans h4
   cases es' with
   | nil=>
    simp only [Es.len] at hj
    go_wp2
    go_ret
    have:=hy.out
    simp only [formedL] at this
    exact ⟨ret_bool this,HB.out⟩
   | cons kk n' p' c' ks' r=>
    simp only [Es.len] at hj
    have hK:=hK (by omega)
    subst hK
    obtain ⟨hel,hr⟩:=HE.out
    have HEL:=hid hel
    have HR:=hid hr
    have hrs:Hid ((r.size≤ks.size∧r.depth≤ks.depth)∧ks'.size<ks.size∧ks'.depth+1≤ks.depth):=by
     have:=hsz.out
     simp only [Es.size,Es.depth] at this
     exact ⟨⟨by omega,by omega⟩,by omega,by omega⟩
    clear hel hr HE
    have hkv:=kidVars_bd k vars j
    have hy2:=hy.out
    simp only [formedL] at hy2
    have hcall:=IH.out ks' (by have:=hrs.out;omega) kk n' p' c' b' (o'+j*5) bp op B (kidVars k vars j) funcs wr HEL.out (HP.out.below (HB.out.mono hB)) (by have:=HB.out.size;omega) f0 f1 (by omega) (by have:=hrs.out;omega) (by have:=hrs.out;omega)
    generalize (nodeOk P funcs (kidVars k vars j) kk n' p' c' ks'.len&&formedL P funcs ks' kk 0 (kidVars k vars j))=bb at hy2 hcall
    have HY2:=hid hy2;clear hy2
    have HCALL:=hid hcall;clear hcall hkv
    by_cases h9:k=9∧j=1
    ·have e9:(k==9)=true:=by simpa using h9.1
     have e1:((j:Int)==1)=true:=by simp;omega
     have hkv:kidVars k vars j=vars+1:=by unfold kidVars;rw [if_pos h9]
     rw [hkv] at HCALL
     clear h9 hkv
     go_wp2_with fail
     refine HCALL.out.mono ?_;rintro e w2 ⟨rfl,hb2⟩
     have HE1:Hid (ExsAt w2 B r b' (o'+(j+1)*5)):=by
      have:=HR.out.below (hb2.mono (by have:=HB.out.size;omega))
      rwa [show o'+j*5+5=o'+(j+1)*5 by omega] at this
     have HB2:=hid (bnext HB.out hb2)
     clear hb2 HR HEL HCALL
     cases bb
     ·have HN2:Hid (F=false):=by have:=HY2.out;rw [Bool.false_and] at this;exact this.symm
      go_wp2
      go_ret
      exact ⟨ret_bool HN2.out.symm,HB2.out⟩
     ·have HN2:Hid (formedL P funcs r k (j+1) vars=F):=by have:=HY2.out;rw [Bool.true_and] at this;exact this
      go_wp2
      go_roundw
      case rel=>exact ⟨j+1,r,by go_num,by omega,HN2,hrs.out.1,HE1,HB2⟩
      case measure=>simp [intOf];omega
    ·have hkv:kidVars k vars j=vars:=by unfold kidVars;rw [if_neg h9]
     rw [hkv] at HCALL
     clear hkv
     by_cases h8:k=9
     ·have e9:(k==9)=true:=by simpa using h8
      have e1:((j:Int)==1)=false:=by simp;omega
      clear h9 h8
      go_wp2_with fail
      refine HCALL.out.mono ?_;rintro e w2 ⟨rfl,hb2⟩
      have HE1:Hid (ExsAt w2 B r b' (o'+(j+1)*5)):=by
       have:=HR.out.below (hb2.mono (by have:=HB.out.size;omega))
       rwa [show o'+j*5+5=o'+(j+1)*5 by omega] at this
      have HB2:=hid (bnext HB.out hb2)
      clear hb2 HR HEL HCALL
      cases bb
      ·have HN2:Hid (F=false):=by have:=HY2.out;rw [Bool.false_and] at this;exact this.symm
       go_wp2
       go_ret
       exact ⟨ret_bool HN2.out.symm,HB2.out⟩
      ·have HN2:Hid (formedL P funcs r k (j+1) vars=F):=by have:=HY2.out;rw [Bool.true_and] at this;exact this
       go_wp2
       go_roundw
       case rel=>exact ⟨j+1,r,by go_num,by omega,HN2,hrs.out.1,HE1,HB2⟩
       case measure=>simp [intOf];omega
     ·have e9:(k==9)=false:=by simpa using h8
      clear h9 h8
      go_wp2_with fail
      refine HCALL.out.mono ?_;rintro e w2 ⟨rfl,hb2⟩
      have HE1:Hid (ExsAt w2 B r b' (o'+(j+1)*5)):=by
       have:=HR.out.below (hb2.mono (by have:=HB.out.size;omega))
       rwa [show o'+j*5+5=o'+(j+1)*5 by omega] at this
      have HB2:=hid (bnext HB.out hb2)
      clear hb2 HR HEL HCALL
      cases bb
      ·have HN2:Hid (F=false):=by have:=HY2.out;rw [Bool.false_and] at this;exact this.symm
       go_wp2
       go_ret
       exact ⟨ret_bool HN2.out.symm,HB2.out⟩
      ·have HN2:Hid (formedL P funcs r k (j+1) vars=F):=by have:=HY2.out;rw [Bool.true_and] at this;exact this
       go_wp2
       go_roundw
       case rel=>exact ⟨j+1,r,by go_num,by omega,HN2,hrs.out.1,HE1,HB2⟩
       case measure=>simp [intOf];omega
theorem vars_any (x:Int) (w:World):Calls Tryz.prog 139 #[.int .i64 x] w fun e w'=>e=.returned (.bool (inR x 0 412))∧w=w':=by
 go_enter Tryz.func139,Tryz.ntmps139
 go_wp2_with fail
 refine (in_any _ _ _ _).mono ?_;rintro e w' ⟨rfl,rfl⟩
 go_wp2
 go_ret
 exact ⟨rfl,rfl⟩
theorem exprOk_vars {P:List Fn} {x:Nd} {vars funcs:Int} (h:inR vars 0 412=false):exprOk P x vars funcs=false:=by unfold exprOk;rw [h];rfl
theorem exprOk_funcs {P:List Fn} {x:Nd} {vars funcs:Int} (h:inR funcs 0 P.length=false):exprOk P x vars funcs=false:=by unfold exprOk;rw [h];simp
theorem exprOk_size {P:List Fn} {x:Nd} {vars funcs:Int} (h:¬ x.ks.size≤399):exprOk P x vars funcs=false:=by
 have:decide (x.size≤400)=false:=decide_eq_false (by unfold Nd.size;omega)
 unfold exprOk;rw [this];simp
theorem exprOk_depth {P:List Fn} {x:Nd} {vars funcs:Int} (h:¬ x.ks.depth≤59):exprOk P x vars funcs=false:=by
 have:decide (x.depth≤60)=false:=decide_eq_false (by unfold Nd.depth;omega)
 unfold exprOk;rw [this];simp
theorem exprOk_formed {P:List Fn} {x:Nd} {vars funcs:Int} (h0:inR vars 0 412=true) (h1:inR funcs 0 P.length=true) (h2:x.ks.size≤399) (h3:x.ks.depth≤59):exprOk P x vars funcs=formed P funcs vars x:=by
 have e1:decide (x.size≤400)=true:=decide_eq_true (by unfold Nd.size;omega)
 have e2:decide (x.depth≤60)=true:=decide_eq_true (by unfold Nd.depth;omega)
 unfold exprOk;rw [h0,h1,e1,e2];rfl
theorem exprS_any (P:List Fn) (ks:Es) (k n p c vars funcs:Int) (b o bp op B:Nat) (w:World) (hE:ElAt w B k n p c ks b o) (hP:PrAt w B P bp op) (hB:B≤w.heap.size) (hsz:ks.size≤1048576) :
  Calls Tryz.prog 68 #[ptr bp op,ptr b o,.int .i64 vars,.int .i64 funcs] w fun e w'=>e=.returned (.bool (exprOk P ⟨k,n,p,c,ks⟩ vars funcs))∧Below w.heap.size w w':=by
 have HE:=hid hE;clear hE
 have HP:=hid hP
 obtain ⟨hbp,A,capP,hp0,hPl,hPm,_⟩:=hP
 have hPm':capP≤9223372036854775807:=by unfold maxLen at hPm;omega
 cases hv:inR vars 0 412
 ·have HN:=hid (exprOk_vars (P:=P) (x:=⟨k,n,p,c,ks⟩) (funcs:=funcs) hv)
  have HV:=hid hv;clear hv
  go_enter Tryz.func68,Tryz.ntmps68
  go_wp2_with fail
  refine (vars_any _ _).mono ?_;rintro e w' ⟨rfl,rfl⟩
  rw [HV.out]
  go_wp2
  go_ret
  exact ⟨ret_bool HN.out.symm,Below.refl _ _⟩
 have HV:=hid hv;clear hv
 cases hf:inR funcs 0 P.length
 ·have HN:=hid (exprOk_funcs (P:=P) (x:=⟨k,n,p,c,ks⟩) (vars:=vars) hf)
  have HF:=hid hf;clear hf
  go_enter Tryz.func68,Tryz.ntmps68
  go_wp2_with fail
  refine (vars_any _ _).mono ?_;rintro e w' ⟨rfl,rfl⟩
  rw [HV.out]
  go_wp2_with fail
  refine (in_any _ _ _ _).mono ?_;rintro e w' ⟨rfl,rfl⟩
  rw [HF.out]
  go_wp2
  go_ret
  exact ⟨ret_bool HN.out.symm,Below.refl _ _⟩
 have HF:=hid hf;clear hf
 by_cases hs:ks.size≤399
 ·have hl:Hid (0≤leftL ks (400 - 1)):=(leftL_ok ks _ (by omega)).2 ⟨by omega,by omega⟩
  by_cases hd:ks.depth≤59
  ·obtain ⟨v0,v1⟩:=inR_true.1 HV.out
   obtain ⟨f0,f1⟩:=inR_true.1 HF.out
   have HN:Hid (exprOk P ⟨k,n,p,c,ks⟩ vars funcs=(nodeOk P funcs vars k n p c ks.len&&formedL P funcs ks k 0 vars)):=exprOk_formed HV.out HF.out hs hd
   rw [HN.out]
   generalize hbb:(nodeOk P funcs vars k n p c ks.len&&formedL P funcs ks k 0 vars)=bb
   have HBB:=hid hbb;clear hbb HN
   go_enter Tryz.func68,Tryz.ntmps68
   go_wp2_with fail
   refine (vars_any _ _).mono ?_;rintro e w' ⟨rfl,rfl⟩
   rw [HV.out]
   go_wp2_with fail
   refine (in_any _ _ _ _).mono ?_;rintro e w' ⟨rfl,rfl⟩
   rw [HF.out]
   go_wp2_with fail
   refine (left_any (ks.size+1) ks (by omega) k n p c b o B 400 w HE.out hB hsz (by omega) (by omega)).mono ?_;rintro e w1 ⟨rfl,hb1⟩
   have hl:=hl.out
   generalize leftL ks (400 - 1)=q at *
   go_wp2_with fail
   refine (depth_any (ks.size+1) ks (by omega) k n p c b o B w1 (HE.out.below (hb1.mono hB)) (by have:=hb1.size;omega) hsz).mono ?_;rintro e w2 ⟨rfl,hb2⟩
   have hq:((ks.depth+1:Nat):Int)≤60:=by omega
   generalize ((ks.depth+1:Nat):Int)=q2 at *
   have HB2:=hid (bnext hb1 hb2)
   clear hb1 hb2
   go_wp2_with fail
   refine (tree_any P (ks.size+1) ks (by omega) k n p c b o bp op B vars funcs w2 (HE.out.below (HB2.out.mono hB)) (HP.out.below (HB2.out.mono hB)) (by have:=HB2.out.size;omega) f0 f1 v0 (by omega) hsz).mono ?_;rintro e w3 ⟨rfl,hb3⟩
   rw [HBB.out]
   have HB3:=hid (bnext HB2.out hb3)
   clear hb3
   go_wp2
   go_ret
   exact ⟨rfl,HB3.out⟩
  ·have HN:=hid (exprOk_depth (P:=P) (x:=⟨k,n,p,c,ks⟩) (vars:=vars) (funcs:=funcs) hd)
   go_enter Tryz.func68,Tryz.ntmps68
   go_wp2_with fail
   refine (vars_any _ _).mono ?_;rintro e w' ⟨rfl,rfl⟩
   rw [HV.out]
   go_wp2_with fail
   refine (in_any _ _ _ _).mono ?_;rintro e w' ⟨rfl,rfl⟩
   rw [HF.out]
   go_wp2_with fail
   refine (left_any (ks.size+1) ks (by omega) k n p c b o B 400 w HE.out hB hsz (by omega) (by omega)).mono ?_;rintro e w1 ⟨rfl,hb1⟩
   have hl:=hl.out
   generalize leftL ks (400 - 1)=q at *
   go_wp2_with fail
   refine (depth_any (ks.size+1) ks (by omega) k n p c b o B w1 (HE.out.below (hb1.mono hB)) (by have:=hb1.size;omega) hsz).mono ?_;rintro e w2 ⟨rfl,hb2⟩
   have hq:60<((ks.depth+1:Nat):Int):=by omega
   generalize ((ks.depth+1:Nat):Int)=q2 at *
   have HB2:=hid (bnext hb1 hb2)
   clear hb1 hb2
   go_wp2
   go_ret
   exact ⟨ret_bool HN.out.symm,HB2.out⟩
 ·have HN:=hid (exprOk_size (P:=P) (x:=⟨k,n,p,c,ks⟩) (vars:=vars) (funcs:=funcs) hs)
  have hl:leftL ks (400 - 1)<0:=by
   have:=leftL_ok ks (400 - 1) (by omega)
   omega
  go_enter Tryz.func68,Tryz.ntmps68
  go_wp2_with fail
  refine (vars_any _ _).mono ?_;rintro e w' ⟨rfl,rfl⟩
  rw [HV.out]
  go_wp2_with fail
  refine (in_any _ _ _ _).mono ?_;rintro e w' ⟨rfl,rfl⟩
  rw [HF.out]
  go_wp2_with fail
  refine (left_any (ks.size+1) ks (by omega) k n p c b o B 400 w HE.out hB hsz (by omega) (by omega)).mono ?_;rintro e w1 ⟨rfl,hb1⟩
  generalize leftL ks (400 - 1)=q at *
  go_wp2
  go_ret
  exact ⟨ret_bool HN.out.symm,hb1⟩
end
section
open Go.RowKit Plain
end
end Go.Proofs.YtgfkglhelfkpoaaGreat
